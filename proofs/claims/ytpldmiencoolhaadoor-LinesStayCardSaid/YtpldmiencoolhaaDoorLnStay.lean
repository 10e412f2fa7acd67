/- The walk of the law LinesStay: it answers true. (Printed by wip/lnlaw.py.) -/
import Derived.Test.YtpldmiencoolhaaDoorLnLaws
import Derived.Test.YtpldmiencoolhaaDoorLnAwake
import Derived.Test.YtpldmiencoolhaaDoorLnTurnF
import Derived.Test.YtpldmiencoolhaaDoorLnReg2
import Derived.Test.YtpldmiencoolhaaDoorLnSame
import Derived.Test.YtpldmiencoolhaaDoorLnOwn
import Derived.Test.YtpldmiencoolhaaDoorLnKit
import Derived.Test.YtpldmiencoolhaaDoorLnOpen
import Derived.BigQuiet
import Derived.Deep.QuietTactic
namespace Go.Proofs.YtpldmiencoolhaaDoor
open Go.RowKit Go.Lib

/-- The address of a row's number. -/
theorem index_run (a : Act) (w : World) (o : Oper) (x y : Operand) (ho : o.op = .indexAddr 22 x y) {ad : Addr} {n c k : Nat} (h1 : a.eval x = .slice (some ad) n c) (h2 : a.eval y = .int .i64 (k : Int)) (hk : k < n) : (execOp a.eval o).run Tryd.prog w = .ok (.value (.pointer (some (ad.add k)))) w := by
  have hi1 : (k : Int) < (n : Int) := by omega
  have hi0 : (0 : Int) ≤ (k : Int) := by omega
  unfold execOp
  simp only [ho, h1, h2]
  simp [go_sem, hi1, hi0]
theorem loadI_run (a : Act) (w : World) (o : Oper) (x : Operand) (ho : o.op = .load 3 x) {p : Addr} {v : Int} (h1 : a.eval x = .pointer (some p)) (hc : w.cell? p = some (.int .i64 v)) : (execOp a.eval o).run Tryd.prog w = .ok (.value (.int .i64 v)) w := by
  unfold execOp
  simp only [ho, h1]
  simp [hc, go_sem]
theorem stayCell {w : World} {C k : Nat} {ad : Addr} {xs : List Int} {x : Int} (h : SlAt encI 1 w C (some ad) xs) (hx : xs[k]? = some x) : w.cell? (ad.add k) = some (.int .i64 x) := by
  obtain ⟨ad', x', e, -, hx', x0⟩ := h.atI (k := k) (List.getElem?_eq_some_iff.1 hx).1
  injection e with e
  subst e
  rw [hx] at hx'
  injection hx' with hx'
  subst hx'
  exact x0
set_option maxRecDepth 100000 in
set_option maxHeartbeats 32000000 in
theorem linesStay_walk (w : World) {l : Ln} {A : Option Addr} {n c : Nat} {B : Option Addr} {m d : Nat} (hA : LineIn w l A n c B m d) {DA : Option Addr} {Dn dc : Nat} {dos : List Int} (hD : IntsIn w DA Dn dos) {KA : Option Addr} {Kn kc : Nat} {kinds : List Int} (hK : IntsIn w KA Kn kinds) (hT : Tb w) :
    Calls Tryd.prog 8 #[.agg #[.int .i64 l.q, .slice A n c, .int .i64 l.k, .slice B m d], .slice DA Dn dc, .slice KA Kn kc] w fun e w' => e = .returned (.bool true) ∧ Below w.heap.size w w' := by
  obtain ⟨rfl, dle, dat⟩ := hD
  obtain ⟨rfl, kle, kat⟩ := hK
  have DD := hid dat
  have KK := hid kat
  clear dat kat
  have T := hid hT
  obtain ⟨rfl, hc, rfl, hd, hat, b1, b2, wf, hz, wq, wk⟩ := hA
  have HZ := hid hz
  have K := hid (KL.start w [⟨l, A, B⟩] (by simpa using hat))
  clear hT hc hd hat hz wq wk
  cases hb : longL l with
  | true =>
    have HL := hid hb
    clear hb wf
    go_enter Tryd.func8, Tryd.ntmps8
    go_wp2_with (first
      | ((with_reducible show wpList _ _ _ _ _ _); refine Tryd.klBox (by rfl) _ (by rfl) (some 3) (by rfl) (by rfl) K ?_; intro g1 V1 K1; clear K; (have K := K1); clear K1)
      | ((with_reducible show wpList _ _ _ _ _ _); refine Tryd.klLoad (by rfl) _ (by rfl) K (by rfl) (by repeat (first | exact List.mem_cons_self | refine List.mem_cons_of_mem _ ?_)) ?_)
      | (go_at_call 9; (with_reducible refine (lLong_any l A _ c B _ d _ rfl rfl _ (K.out.at_ (r := ⟨l, A, B⟩) (by simp)) b1 b2 HZ.out).mono ?_); rintro e W1 ⟨rfl, hb⟩; rw [HL.out]; (have K2 := hid (K.out.later hb)); clear hb K; (have K := K2); clear K2)
      | (go_at_call 10; (with_reducible refine (lAwake_any _ (Utf8Tabs_below T.out K.out.b)).mono ?_); rintro e W9 ⟨rfl, hb⟩; (have K2 := hid (K.out.later hb)); clear hb K; (have K := K2); clear K2))
    go_ret
    exact ⟨rfl, K.out.b⟩
  | false =>
    have HL := hid hb
    obtain ⟨l1, l2, fi⟩ := notLong hb wf
    have FI := hid fi
    have B9 : Hid (l.ls.length ≤ 1000000000) := hid (by omega)
    have C9 : Hid (l.cs.length ≤ 1000000000) := hid (by omega)
    have L1 := hid l1
    clear hb wf fi l1 l2
    cases hb : mayL l with
    | false =>
      have MB := hid hb
      clear hb
      go_enter Tryd.func8, Tryd.ntmps8
      go_wp2_with (first
        | ((with_reducible show wpList _ _ _ _ _ _); refine Tryd.klBox (by rfl) _ (by rfl) (some 3) (by rfl) (by rfl) K ?_; intro g1 V1 K1; clear K; (have K := K1); clear K1)
        | ((with_reducible show wpList _ _ _ _ _ _); refine Tryd.klLoad (by rfl) _ (by rfl) K (by rfl) (by repeat (first | exact List.mem_cons_self | refine List.mem_cons_of_mem _ ?_)) ?_)
        | (go_at_call 9; (with_reducible refine (lLong_any l A _ c B _ d _ rfl rfl _ (K.out.at_ (r := ⟨l, A, B⟩) (by simp)) b1 b2 HZ.out).mono ?_); rintro e W1 ⟨rfl, hb⟩; rw [HL.out]; (have K2 := hid (K.out.later hb)); clear hb K; (have K := K2); clear K2)
        | (go_at_call 18; (with_reducible refine (lMay_any l A _ c B _ d _ rfl rfl _ (K.out.at_ (r := ⟨l, A, B⟩) (by simp)) B9.out C9.out FI.out (Utf8Tabs_below T.out K.out.b)).mono ?_); rintro e W2 ⟨rfl, hb⟩; rw [MB.out]; (have K2 := hid (K.out.later hb)); clear hb K; (have K := K2); clear K2)
        | (go_at_call 10; (with_reducible refine (lAwake_any _ (Utf8Tabs_below T.out K.out.b)).mono ?_); rintro e W9 ⟨rfl, hb⟩; (have K2 := hid (K.out.later hb)); clear hb K; (have K := K2); clear K2))
      go_ret
      exact ⟨rfl, K.out.b⟩
    | true =>
      have MB := hid hb
      clear hb
      by_cases h100 : 100 < dos.length
      · have h1 : (100 : Int) < (dos.length : Int) := by omega
        go_enter Tryd.func8, Tryd.ntmps8
        go_wp2_with (first
          | ((with_reducible show wpList _ _ _ _ _ _); refine Tryd.klBox (by rfl) _ (by rfl) (some 3) (by rfl) (by rfl) K ?_; intro g1 V1 K1; clear K; (have K := K1); clear K1)
          | ((with_reducible show wpList _ _ _ _ _ _); refine Tryd.klLoad (by rfl) _ (by rfl) K (by rfl) (by repeat (first | exact List.mem_cons_self | refine List.mem_cons_of_mem _ ?_)) ?_)
          | (go_at_call 9; (with_reducible refine (lLong_any l A _ c B _ d _ rfl rfl _ (K.out.at_ (r := ⟨l, A, B⟩) (by simp)) b1 b2 HZ.out).mono ?_); rintro e W1 ⟨rfl, hb⟩; rw [HL.out]; (have K2 := hid (K.out.later hb)); clear hb K; (have K := K2); clear K2)
          | (go_at_call 18; (with_reducible refine (lMay_any l A _ c B _ d _ rfl rfl _ (K.out.at_ (r := ⟨l, A, B⟩) (by simp)) B9.out C9.out FI.out (Utf8Tabs_below T.out K.out.b)).mono ?_); rintro e W2 ⟨rfl, hb⟩; rw [MB.out]; (have K2 := hid (K.out.later hb)); clear hb K; (have K := K2); clear K2)
          | (go_at_call 10; (with_reducible refine (lAwake_any _ (Utf8Tabs_below T.out K.out.b)).mono ?_); rintro e W9 ⟨rfl, hb⟩; (have K2 := hid (K.out.later hb)); clear hb K; (have K := K2); clear K2))
        go_ret
        exact ⟨rfl, K.out.b⟩
      · have h1 : ¬ (100 : Int) < (dos.length : Int) := by omega
        go_enter Tryd.func8, Tryd.ntmps8
        go_wp2_with (first
          | ((with_reducible show wpList _ _ _ _ _ _); refine Tryd.klBox (by rfl) _ (by rfl) (some 3) (by rfl) (by rfl) K ?_; intro g1 V1 K1; clear K; (have K := K1); clear K1)
          | ((with_reducible show wpList _ _ _ _ _ _); refine Tryd.klLoad (by rfl) _ (by rfl) K (by rfl) (by repeat (first | exact List.mem_cons_self | refine List.mem_cons_of_mem _ ?_)) ?_)
          | (go_at_call 9; (with_reducible refine (lLong_any l A _ c B _ d _ rfl rfl _ (K.out.at_ (r := ⟨l, A, B⟩) (by simp)) b1 b2 HZ.out).mono ?_); rintro e W1 ⟨rfl, hb⟩; rw [HL.out]; (have K2 := hid (K.out.later hb)); clear hb K; (have K := K2); clear K2)
          | (go_at_call 18; (with_reducible refine (lMay_any l A _ c B _ d _ rfl rfl _ (K.out.at_ (r := ⟨l, A, B⟩) (by simp)) B9.out C9.out FI.out (Utf8Tabs_below T.out K.out.b)).mono ?_); rintro e W2 ⟨rfl, hb⟩; rw [MB.out]; (have K2 := hid (K.out.later hb)); clear hb K; (have K := K2); clear K2)
          | (go_at_call 21; (with_reducible refine (lOwn_any l A _ c B _ d _ rfl rfl _ (K.out.at_ (r := ⟨l, A, B⟩) (by simp)) B9.out C9.out).mono ?_); rintro e W2 ⟨A1, c1, B1, d1, rfl, ho, hb⟩; simp only [lnV]; (have wr := ho.wr); (have K2 := hid (K.out.add hb wr)); clear hb wr ho K; (have K := K2); clear K2)
          | ((with_reducible show wpList _ _ _ _ _ _); refine Tryd.klAlloc (by rfl) (by rfl) (some 7) (by rfl) K ?_; intro g7 V1 K1; clear K; (have K := K1); clear K1)
          | ((with_reducible show wpList _ _ _ _ _ _); refine Tryd.klStore (by rfl) (.tmp 7) _ (by rfl) [] (by exact K) (by rfl) (by rfl) (by exact ⟨rfl, rfl, rfl, rfl⟩) ?_; intro V2 K1; (dsimp only [List.cons_append, List.nil_append] at K1); clear K; (have K := K1); clear K1))
        go_loopw [8] (fun i wr => ∃ (k : Nat) (M : Ln) (A' : Option Addr) (c' : Nat) (B' : Option Addr) (d' : Nat), k ≤ dos.length ∧ i = .int .i64 k ∧ Hid (mayL M = true) ∧ Hid (M.cs = l.cs) ∧ Hid (KL w wr [⟨g7, .int .i64 M.q, .slice A' M.ls.length c', .int .i64 M.k, .slice B' M.cs.length d'⟩, ⟨g1, .int .i64 l.q, .slice A l.ls.length c, .int .i64 l.k, .slice B l.cs.length d⟩] [⟨M, A', B'⟩, ⟨l, A, B⟩] [])) (fun i _ => dos.length - (intOf i).toNat)
        case atStart => exact ⟨0, l, A1, c1, B1, d1, Nat.zero_le _, rfl, MB, hid rfl, hid (K.out.less (by repeat (first | exact List.Sublist.slnil | refine List.Sublist.cons_cons _ ?_ | refine List.Sublist.cons _ ?_)) (by simp) (List.nil_sublist _))⟩
        case round =>
          clear K
          obtain ⟨k, M, A', c', B', d', hk, rfl, hmm, hcs, K⟩ := hrel
          have FM := hid (show FineC M.cs by rw [hcs.out]; exact FI.out)
          have N9 : Hid (M.ls.length ≤ 1000000000) := hid (by have := (mayL_parts hmm.out).2.2.1; omega)
          have O9 : Hid (M.cs.length ≤ 1000000000) := hid (by rw [hcs.out]; exact C9.out)
          by_cases hlt : k < dos.length
          · have hi : (k : Int) < (dos.length : Int) := by omega
            obtain ⟨ad, x, hDA, -, hx, -⟩ := (DD.out.below K.out.b).atI hlt
            have HX := hid hx
            have HDA := hid hDA
            have HLT := hid hlt
            clear hx
            by_cases hkl : k < kinds.length
            · have hj : (k : Int) < (kinds.length : Int) := by omega
              have hj0 : (0 : Int) ≤ (k : Int) := by omega
              obtain ⟨kad, kd, hKA, -, -, kx0⟩ := (KK.out.below K.out.b).atI hkl
              subst hKA hDA
              have HKL := hid hkl
              clear hlt hkl
              obtain ⟨⟨r, re⟩, hr⟩ : ∃ z, turnK M (bits .and .i64 x 7) kd = z := ⟨_, rfl⟩
              have FR := hid hr
              have ST := hid (hr ▸ stays_turnK M (bits .and .i64 x 7) kd)
              clear hr
              go_upto_region 10 with (fail)
              refine Tryd.turn_reg (m := M) (A := A') (c := c') (B := B') (d := d') (g7 := g7) (A0 := ad) (n0 := dos.length) (c0 := dc) (i := (k : Int)) (p := ad.add k) (x := x) (kind := kd) (r := r) (re := re) ⟨rfl, rfl, rfl⟩ ⟨rfl, rfl, rfl⟩ ⟨rfl, rfl, rfl⟩ ⟨rfl, rfl, rfl⟩ ⟨rfl, rfl, rfl⟩ ⟨rfl, rfl, rfl⟩ ⟨rfl, rfl, rfl⟩ ⟨rfl, rfl, rfl⟩ ⟨rfl, rfl, rfl⟩ ⟨rfl, rfl, rfl⟩ ⟨rfl, rfl, rfl⟩ ⟨rfl, rfl, rfl⟩ ⟨rfl, rfl, rfl⟩ (by decide +kernel) (by decide +kernel) (by decide +kernel) (by decide +kernel) (by decide +kernel) (by decide +kernel) (by decide +kernel) (by decide +kernel) (by decide +kernel) (by simp) rfl rfl rfl rfl (fun a w e1 e2 => index_run a w _ _ _ rfl e1 e2 HLT.out) (fun a w e1 hc => loadI_run a w _ _ rfl e1 hc) (fun w' hb => stayCell (DD.out.below hb) HX.out) K.out (by repeat (first | exact List.mem_cons_self | refine List.mem_cons_of_mem _ ?_)) (by simp) (fun W h hb => FR.out ▸ lTurn_any M A' _ c' B' _ d' _ rfl rfl W h N9.out O9.out FM.out (Utf8Tabs_below T.out hb) x kd) (fun _ _ _ _ => by kernel_rfl) ?_
              intro g10 A3 c3 B3 d3 V K1
              clear K
              have K := hid K1
              clear K1
              simp only [upds, List.foldl_cons, List.foldl_nil, List.setIfInBounds_toArray, List.set_cons_succ, List.set_cons_zero, lnV]
              rcases ST.out with ⟨s1, s2, s3, s4⟩ | s1 | s1
              · obtain rfl : re = 0 := s1
                replace s2 : r ≠ M := s2
                replace s3 : mayL r = true := s3
                have NE := hid s2
                have MR := hid s3
                have CE := hid (show r.cs = l.cs from s4.trans hcs.out)
                have FR2 := hid (show FineC r.cs by rw [CE.out]; exact FI.out)
                have R9 : Hid (r.ls.length ≤ 1000000000) := hid (by have := (mayL_parts s3).2.2.1; omega)
                have S9 : Hid (r.cs.length ≤ 1000000000) := hid (by rw [CE.out]; exact C9.out)
                clear s2 s3 s4
                go_wp2_with (first
                  | ((with_reducible show wpList _ _ _ _ _ _); refine Tryd.klLoad (by rfl) _ (by rfl) K (by rfl) (by repeat (first | exact List.mem_cons_self | refine List.mem_cons_of_mem _ ?_)) ?_)
                  | (go_at_call 20; (with_reducible refine (lSame_any r M A3 _ c3 B3 _ d3 A' _ c' B' _ d' _ _ rfl rfl rfl rfl _ (K.out.at_ (r := ⟨r, A3, B3⟩) (by simp)) (K.out.at_ (r := ⟨M, A', B'⟩) (by simp)) R9.out S9.out).mono ?_); rintro e W4 ⟨rfl, hb⟩; rw [decide_eq_false NE.out]; (have K2 := hid (K.out.later hb)); clear hb K; (have K := K2); clear K2)
                  | ((with_reducible show wpList _ _ _ _ _ _); refine Tryd.klStore (by rfl) (.tmp 7) _ (by rfl) [_] (by exact K) (by rfl) (by rfl) (by exact ⟨rfl, rfl, rfl, rfl⟩) ?_; intro V2 K1; (dsimp only [List.cons_append, List.nil_append] at K1); clear K; (have K := K1); clear K1)
                  | (go_at_call 18; (with_reducible refine (lMay_any r A3 _ c3 B3 _ d3 _ rfl rfl _ (K.out.at_ (r := ⟨r, A3, B3⟩) (by simp)) R9.out S9.out FR2.out (Utf8Tabs_below T.out K.out.b)).mono ?_); rintro e W2 ⟨rfl, hb⟩; rw [MR.out]; (have K2 := hid (K.out.later hb)); clear hb K; (have K := K2); clear K2; obtain ⟨⟨_, _, _, _⟩, _, _, _, _⟩ := K.out.cellsOf (g := g7) (by repeat (first | exact List.mem_cons_self | refine List.mem_cons_of_mem _ ?_)); obtain ⟨⟨_, _, _, _⟩, _, _, _, _⟩ := K.out.cellsOf (g := g1) (by repeat (first | exact List.mem_cons_self | refine List.mem_cons_of_mem _ ?_)))
                  | (go_at_call 34; (with_reducible refine (refSame_any B3 B r.cs l.cs _ _ d3 d _ _ rfl rfl _ (K.out.at_ (r := ⟨r, A3, B3⟩) (by simp)).cs (K.out.at_ (r := ⟨l, A, B⟩) (by simp)).cs S9.out).mono ?_); rintro e w6 ⟨rfl, hq⟩; rw [decide_eq_true (CE.out : r.cs = l.cs)]; (have K2 := hid (K.out.quiet hq)); clear hq K; (have K := K2); clear K2))
                go_roundw
                case rel => exact ⟨k + 1, r, A3, c3, B3, d3, by omega, by go_num, MR, CE, hid (K.out.less (by repeat (first | exact List.Sublist.slnil | refine List.Sublist.cons_cons _ ?_ | refine List.Sublist.cons _ ?_)) (by simp) (List.Sublist.refl _))⟩
                case measure => simp [intOf]; omega
              · obtain ⟨rfl, rfl⟩ : r = zL ∧ re = 1 := ⟨congrArg Prod.fst s1, congrArg Prod.snd s1⟩
                clear s1
                go_wp2_with (first
                  | ((with_reducible show wpList _ _ _ _ _ _); refine Tryd.klLoad (by rfl) _ (by rfl) K (by rfl) (by repeat (first | exact List.mem_cons_self | refine List.mem_cons_of_mem _ ?_)) ?_)
                  | (go_at_call 18; (with_reducible refine (lMay_any M A' _ c' B' _ d' _ rfl rfl _ (K.out.at_ (r := ⟨M, A', B'⟩) (by simp)) N9.out O9.out FM.out (Utf8Tabs_below T.out K.out.b)).mono ?_); rintro e W2 ⟨rfl, hb⟩; rw [hmm.out]; (have K2 := hid (K.out.later hb)); clear hb K; (have K := K2); clear K2; obtain ⟨⟨_, _, _, _⟩, _, _, _, _⟩ := K.out.cellsOf (g := g7) (by repeat (first | exact List.mem_cons_self | refine List.mem_cons_of_mem _ ?_)); obtain ⟨⟨_, _, _, _⟩, _, _, _, _⟩ := K.out.cellsOf (g := g1) (by repeat (first | exact List.mem_cons_self | refine List.mem_cons_of_mem _ ?_)))
                  | (go_at_call 34; (with_reducible refine (refSame_any B' B M.cs l.cs _ _ d' d _ _ rfl rfl _ (K.out.at_ (r := ⟨M, A', B'⟩) (by simp)).cs (K.out.at_ (r := ⟨l, A, B⟩) (by simp)).cs O9.out).mono ?_); rintro e w6 ⟨rfl, hq⟩; rw [decide_eq_true (hcs.out : M.cs = l.cs)]; (have K2 := hid (K.out.quiet hq)); clear hq K; (have K := K2); clear K2))
                go_roundw
                case rel => exact ⟨k + 1, M, A', c', B', d', by omega, by go_num, hmm, hcs, hid (K.out.less (by repeat (first | exact List.Sublist.slnil | refine List.Sublist.cons_cons _ ?_ | refine List.Sublist.cons _ ?_)) (by simp) (List.Sublist.refl _))⟩
                case measure => simp [intOf]; omega
              · obtain ⟨rfl, rfl⟩ : r = zL ∧ re = 7 := ⟨congrArg Prod.fst s1, congrArg Prod.snd s1⟩
                clear s1
                go_wp2_with (first
                  | ((with_reducible show wpList _ _ _ _ _ _); refine Tryd.klLoad (by rfl) _ (by rfl) K (by rfl) (by repeat (first | exact List.mem_cons_self | refine List.mem_cons_of_mem _ ?_)) ?_)
                  | (go_at_call 18; (with_reducible refine (lMay_any M A' _ c' B' _ d' _ rfl rfl _ (K.out.at_ (r := ⟨M, A', B'⟩) (by simp)) N9.out O9.out FM.out (Utf8Tabs_below T.out K.out.b)).mono ?_); rintro e W2 ⟨rfl, hb⟩; rw [hmm.out]; (have K2 := hid (K.out.later hb)); clear hb K; (have K := K2); clear K2; obtain ⟨⟨_, _, _, _⟩, _, _, _, _⟩ := K.out.cellsOf (g := g7) (by repeat (first | exact List.mem_cons_self | refine List.mem_cons_of_mem _ ?_)); obtain ⟨⟨_, _, _, _⟩, _, _, _, _⟩ := K.out.cellsOf (g := g1) (by repeat (first | exact List.mem_cons_self | refine List.mem_cons_of_mem _ ?_)))
                  | (go_at_call 34; (with_reducible refine (refSame_any B' B M.cs l.cs _ _ d' d _ _ rfl rfl _ (K.out.at_ (r := ⟨M, A', B'⟩) (by simp)).cs (K.out.at_ (r := ⟨l, A, B⟩) (by simp)).cs O9.out).mono ?_); rintro e w6 ⟨rfl, hq⟩; rw [decide_eq_true (hcs.out : M.cs = l.cs)]; (have K2 := hid (K.out.quiet hq)); clear hq K; (have K := K2); clear K2))
                go_roundw
                case rel => exact ⟨k + 1, M, A', c', B', d', by omega, by go_num, hmm, hcs, hid (K.out.less (by repeat (first | exact List.Sublist.slnil | refine List.Sublist.cons_cons _ ?_ | refine List.Sublist.cons _ ?_)) (by simp) (List.Sublist.refl _))⟩
                case measure => simp [intOf]; omega
            · have hj : ¬ (k : Int) < (kinds.length : Int) := by omega
              obtain ⟨kd, hkd⟩ : ∃ z : Int, z = 0 := ⟨0, rfl⟩
              have HKD := hid hkd
              subst hDA
              clear hlt hkl hkd
              obtain ⟨⟨r, re⟩, hr⟩ : ∃ z, turnK M (bits .and .i64 x 7) 0 = z := ⟨_, rfl⟩
              have FR := hid hr
              have ST := hid (hr ▸ stays_turnK M (bits .and .i64 x 7) 0)
              clear hr
              go_upto_region 10 with (fail)
              refine Tryd.turn_reg (m := M) (A := A') (c := c') (B := B') (d := d') (g7 := g7) (A0 := ad) (n0 := dos.length) (c0 := dc) (i := (k : Int)) (p := ad.add k) (x := x) (kind := 0) (r := r) (re := re) ⟨rfl, rfl, rfl⟩ ⟨rfl, rfl, rfl⟩ ⟨rfl, rfl, rfl⟩ ⟨rfl, rfl, rfl⟩ ⟨rfl, rfl, rfl⟩ ⟨rfl, rfl, rfl⟩ ⟨rfl, rfl, rfl⟩ ⟨rfl, rfl, rfl⟩ ⟨rfl, rfl, rfl⟩ ⟨rfl, rfl, rfl⟩ ⟨rfl, rfl, rfl⟩ ⟨rfl, rfl, rfl⟩ ⟨rfl, rfl, rfl⟩ (by decide +kernel) (by decide +kernel) (by decide +kernel) (by decide +kernel) (by decide +kernel) (by decide +kernel) (by decide +kernel) (by decide +kernel) (by decide +kernel) (by simp) rfl rfl rfl rfl (fun a w e1 e2 => index_run a w _ _ _ rfl e1 e2 HLT.out) (fun a w e1 hc => loadI_run a w _ _ rfl e1 hc) (fun w' hb => stayCell (DD.out.below hb) HX.out) K.out (by repeat (first | exact List.mem_cons_self | refine List.mem_cons_of_mem _ ?_)) (by simp) (fun W h hb => FR.out ▸ lTurn_any M A' _ c' B' _ d' _ rfl rfl W h N9.out O9.out FM.out (Utf8Tabs_below T.out hb) x 0) (fun _ _ _ _ => by kernel_rfl) ?_
              intro g10 A3 c3 B3 d3 V K1
              clear K
              have K := hid K1
              clear K1
              simp only [upds, List.foldl_cons, List.foldl_nil, List.setIfInBounds_toArray, List.set_cons_succ, List.set_cons_zero, lnV]
              rcases ST.out with ⟨s1, s2, s3, s4⟩ | s1 | s1
              · obtain rfl : re = 0 := s1
                replace s2 : r ≠ M := s2
                replace s3 : mayL r = true := s3
                have NE := hid s2
                have MR := hid s3
                have CE := hid (show r.cs = l.cs from s4.trans hcs.out)
                have FR2 := hid (show FineC r.cs by rw [CE.out]; exact FI.out)
                have R9 : Hid (r.ls.length ≤ 1000000000) := hid (by have := (mayL_parts s3).2.2.1; omega)
                have S9 : Hid (r.cs.length ≤ 1000000000) := hid (by rw [CE.out]; exact C9.out)
                clear s2 s3 s4
                go_wp2_with (first
                  | ((with_reducible show wpList _ _ _ _ _ _); refine Tryd.klLoad (by rfl) _ (by rfl) K (by rfl) (by repeat (first | exact List.mem_cons_self | refine List.mem_cons_of_mem _ ?_)) ?_)
                  | (go_at_call 20; (with_reducible refine (lSame_any r M A3 _ c3 B3 _ d3 A' _ c' B' _ d' _ _ rfl rfl rfl rfl _ (K.out.at_ (r := ⟨r, A3, B3⟩) (by simp)) (K.out.at_ (r := ⟨M, A', B'⟩) (by simp)) R9.out S9.out).mono ?_); rintro e W4 ⟨rfl, hb⟩; rw [decide_eq_false NE.out]; (have K2 := hid (K.out.later hb)); clear hb K; (have K := K2); clear K2)
                  | ((with_reducible show wpList _ _ _ _ _ _); refine Tryd.klStore (by rfl) (.tmp 7) _ (by rfl) [_] (by exact K) (by rfl) (by rfl) (by exact ⟨rfl, rfl, rfl, rfl⟩) ?_; intro V2 K1; (dsimp only [List.cons_append, List.nil_append] at K1); clear K; (have K := K1); clear K1)
                  | (go_at_call 18; (with_reducible refine (lMay_any r A3 _ c3 B3 _ d3 _ rfl rfl _ (K.out.at_ (r := ⟨r, A3, B3⟩) (by simp)) R9.out S9.out FR2.out (Utf8Tabs_below T.out K.out.b)).mono ?_); rintro e W2 ⟨rfl, hb⟩; rw [MR.out]; (have K2 := hid (K.out.later hb)); clear hb K; (have K := K2); clear K2; obtain ⟨⟨_, _, _, _⟩, _, _, _, _⟩ := K.out.cellsOf (g := g7) (by repeat (first | exact List.mem_cons_self | refine List.mem_cons_of_mem _ ?_)); obtain ⟨⟨_, _, _, _⟩, _, _, _, _⟩ := K.out.cellsOf (g := g1) (by repeat (first | exact List.mem_cons_self | refine List.mem_cons_of_mem _ ?_)))
                  | (go_at_call 34; (with_reducible refine (refSame_any B3 B r.cs l.cs _ _ d3 d _ _ rfl rfl _ (K.out.at_ (r := ⟨r, A3, B3⟩) (by simp)).cs (K.out.at_ (r := ⟨l, A, B⟩) (by simp)).cs S9.out).mono ?_); rintro e w6 ⟨rfl, hq⟩; rw [decide_eq_true (CE.out : r.cs = l.cs)]; (have K2 := hid (K.out.quiet hq)); clear hq K; (have K := K2); clear K2))
                go_roundw
                case rel => exact ⟨k + 1, r, A3, c3, B3, d3, by omega, by go_num, MR, CE, hid (K.out.less (by repeat (first | exact List.Sublist.slnil | refine List.Sublist.cons_cons _ ?_ | refine List.Sublist.cons _ ?_)) (by simp) (List.Sublist.refl _))⟩
                case measure => simp [intOf]; omega
              · obtain ⟨rfl, rfl⟩ : r = zL ∧ re = 1 := ⟨congrArg Prod.fst s1, congrArg Prod.snd s1⟩
                clear s1
                go_wp2_with (first
                  | ((with_reducible show wpList _ _ _ _ _ _); refine Tryd.klLoad (by rfl) _ (by rfl) K (by rfl) (by repeat (first | exact List.mem_cons_self | refine List.mem_cons_of_mem _ ?_)) ?_)
                  | (go_at_call 18; (with_reducible refine (lMay_any M A' _ c' B' _ d' _ rfl rfl _ (K.out.at_ (r := ⟨M, A', B'⟩) (by simp)) N9.out O9.out FM.out (Utf8Tabs_below T.out K.out.b)).mono ?_); rintro e W2 ⟨rfl, hb⟩; rw [hmm.out]; (have K2 := hid (K.out.later hb)); clear hb K; (have K := K2); clear K2; obtain ⟨⟨_, _, _, _⟩, _, _, _, _⟩ := K.out.cellsOf (g := g7) (by repeat (first | exact List.mem_cons_self | refine List.mem_cons_of_mem _ ?_)); obtain ⟨⟨_, _, _, _⟩, _, _, _, _⟩ := K.out.cellsOf (g := g1) (by repeat (first | exact List.mem_cons_self | refine List.mem_cons_of_mem _ ?_)))
                  | (go_at_call 34; (with_reducible refine (refSame_any B' B M.cs l.cs _ _ d' d _ _ rfl rfl _ (K.out.at_ (r := ⟨M, A', B'⟩) (by simp)).cs (K.out.at_ (r := ⟨l, A, B⟩) (by simp)).cs O9.out).mono ?_); rintro e w6 ⟨rfl, hq⟩; rw [decide_eq_true (hcs.out : M.cs = l.cs)]; (have K2 := hid (K.out.quiet hq)); clear hq K; (have K := K2); clear K2))
                go_roundw
                case rel => exact ⟨k + 1, M, A', c', B', d', by omega, by go_num, hmm, hcs, hid (K.out.less (by repeat (first | exact List.Sublist.slnil | refine List.Sublist.cons_cons _ ?_ | refine List.Sublist.cons _ ?_)) (by simp) (List.Sublist.refl _))⟩
                case measure => simp [intOf]; omega
              · obtain ⟨rfl, rfl⟩ : r = zL ∧ re = 7 := ⟨congrArg Prod.fst s1, congrArg Prod.snd s1⟩
                clear s1
                go_wp2_with (first
                  | ((with_reducible show wpList _ _ _ _ _ _); refine Tryd.klLoad (by rfl) _ (by rfl) K (by rfl) (by repeat (first | exact List.mem_cons_self | refine List.mem_cons_of_mem _ ?_)) ?_)
                  | (go_at_call 18; (with_reducible refine (lMay_any M A' _ c' B' _ d' _ rfl rfl _ (K.out.at_ (r := ⟨M, A', B'⟩) (by simp)) N9.out O9.out FM.out (Utf8Tabs_below T.out K.out.b)).mono ?_); rintro e W2 ⟨rfl, hb⟩; rw [hmm.out]; (have K2 := hid (K.out.later hb)); clear hb K; (have K := K2); clear K2; obtain ⟨⟨_, _, _, _⟩, _, _, _, _⟩ := K.out.cellsOf (g := g7) (by repeat (first | exact List.mem_cons_self | refine List.mem_cons_of_mem _ ?_)); obtain ⟨⟨_, _, _, _⟩, _, _, _, _⟩ := K.out.cellsOf (g := g1) (by repeat (first | exact List.mem_cons_self | refine List.mem_cons_of_mem _ ?_)))
                  | (go_at_call 34; (with_reducible refine (refSame_any B' B M.cs l.cs _ _ d' d _ _ rfl rfl _ (K.out.at_ (r := ⟨M, A', B'⟩) (by simp)).cs (K.out.at_ (r := ⟨l, A, B⟩) (by simp)).cs O9.out).mono ?_); rintro e w6 ⟨rfl, hq⟩; rw [decide_eq_true (hcs.out : M.cs = l.cs)]; (have K2 := hid (K.out.quiet hq)); clear hq K; (have K := K2); clear K2))
                go_roundw
                case rel => exact ⟨k + 1, M, A', c', B', d', by omega, by go_num, hmm, hcs, hid (K.out.less (by repeat (first | exact List.Sublist.slnil | refine List.Sublist.cons_cons _ ?_ | refine List.Sublist.cons _ ?_)) (by simp) (List.Sublist.refl _))⟩
                case measure => simp [intOf]; omega
          · have hi : ¬ (k : Int) < (dos.length : Int) := by omega
            go_wp2_with (first
              | (go_at_call 10; (with_reducible refine (lAwake_any _ (Utf8Tabs_below T.out K.out.b)).mono ?_); rintro e W9 ⟨rfl, hb⟩; (have K2 := hid (K.out.later hb)); clear hb K; (have K := K2); clear K2))
            go_ret
            exact ⟨rfl, K.out.b⟩
end Go.Proofs.YtpldmiencoolhaaDoor
