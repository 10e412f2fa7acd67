/- The walk of the law BlocksStay: it answers true. (Printed by wip/bldoc.py.) -/
import Derived.Test.YtblbfoniimnkcaaDoorBgPl
import Derived.Test.YtblbfoniimnkcaaDoorBlAwake
import Derived.Test.YtblbfoniimnkcaaDoorBlTurn
import Derived.Test.YtblbfoniimnkcaaDoorDocLong
import Derived.Test.YtblbfoniimnkcaaDoorTSame
import Derived.Test.YtblbfoniimnkcaaDoorTSpan
import Derived.Test.YtblbfoniimnkcaaDoorBgOpen
import Derived.Test.YtblbfoniimnkcaaDoorLnOpen
import Derived.Test.YtblbfoniimnkcaaDoorDrawn2
import Derived.Deep.DeepCutAuto
import Derived.BigQuiet
import Derived.Deep.QuietTactic
namespace Go.Proofs.YtblbfoniimnkcaaDoor
open Go.RowKit Go.Lib

structure DocG where
  A : Option Addr
  c : Nat
  hs : List Hd
  g : Nat
theorem stayCell {w : World} {C k : Nat} {ad : Addr} {xs : List Int} {x : Int} (h : SlAt encI 1 w C (some ad) xs) (hx : xs[k]? = some x) : w.cell? (ad.add k) = some (.int .i64 x) := by
  obtain ⟨ad', x', e, -, hx', x0⟩ := h.atI (k := k) (List.getElem?_eq_some_iff.1 hx).1
  injection e with e
  subst e
  rw [hx] at hx'
  injection hx' with hx'
  subst hx'
  exact x0
theorem stay_cases {M : Stt} (hm : mayS M = true) (do_ kind : Int) : turnS M do_ kind = (zS, 1) ∨ turnS M do_ kind = (zS, 7) ∨ ∃ U on2 off2, turnS M do_ kind = (⟨U, M.a, M.f, on2, off2⟩, 0) ∧ mayS ⟨U, M.a, M.f, on2, off2⟩ = true ∧ csD U = csD M.d ∧ U ≠ M.d ∧ ∀ k : Nat, ((k : Int) < (fromS M).l ∨ (toS M).l < k) → U[k]? = M.d[k]? := by
  rcases turnS_stay hm do_ kind with h | h | ⟨h1, h2, h3, h4, h5, h6, h7⟩
  · exact .inl h
  · exact .inr (.inl h)
  · right; right
    obtain ⟨⟨⟨U, a, f, on2, off2⟩, e⟩, hr⟩ : ∃ r, turnS M do_ kind = r := ⟨_, rfl⟩
    rw [hr] at h1 h2 h3 h4 h5 h6 h7 ⊢
    dsimp only at h1 h2 h3 h4 h5 h6 h7
    subst h1 h3 h4
    exact ⟨U, on2, off2, rfl, h2, h5, h6, h7⟩
set_option maxRecDepth 100000 in
set_option maxHeartbeats 32000000 in
theorem blocksStay_walk (w : World) {s : Stt} {hs : List Hd} {A : Option Addr} {n c : Nat} (hS : StateIn w s hs A n c) {DA : Option Addr} {Dn dc : Nat} {dos : List Int} (hD : IntsIn w DA Dn dos) {KA : Option Addr} {Kn kc : Nat} {kinds : List Int} (hK : IntsIn w KA Kn kinds) (hT : Tb w) :
    Calls Tryd.prog 5 #[stV s A n c, .slice DA Dn dc, .slice KA Kn kc] w fun e w' => e = .returned (.bool true) ∧ Below w.heap.size w w' := by
  obtain ⟨d, ⟨al, aa⟩, ⟨fl, fa⟩, on, off⟩ := s
  obtain rfl : d = lnsOf hs := hS.d
  have BG := hid hS.big
  obtain rfl : n = hs.length := hS.doc.len
  have K := hid (KG.start w [⟨hs, A, false⟩] (by simpa using hS.doc.at_))
  have T := hid hT
  clear hT
  unfold stV
  dsimp only
  obtain ⟨rfl, dle, dat⟩ := hD
  obtain ⟨rfl, kle, kat⟩ := hK
  have DD := hid dat
  have KK := hid kat
  clear dat kat
  cases hb : longD (lnsOf hs) with
  | true =>
    have HL := hid hb
    clear hb hS
    go_enter Tryd.func5, Tryd.ntmps5
    go_wp2_with (first
      | go_big_skip
      | ((with_reducible show wpList _ _ _ _ _ _); refine kgBox (by rfl) 26 _ (by rfl) (some 3) (by rfl) (by rfl) [_, _, _, _, _, _, _] (by rfl) K ?_; intro g3 V1 K1; clear K; (have K := K1); clear K1)
      | ((with_reducible show wpList _ _ _ _ _ _); refine kgLoadA (by rfl) 26 _ (by rfl) 7 _ Tryd.underlying26 rfl (by kernel_rfl) K (by rfl) (by repeat (first | exact List.mem_cons_self | refine List.mem_cons_of_mem _ ?_)) (part := [_, _, _, _, _, _, _]) (by rfl) (by rfl) ?_)
      | (go_at_call 6; (with_reducible refine (long25_any hs A _ c _ al aa fl fa on off rfl _ (K.out.at_ (d := ⟨hs, A, false⟩) (by simp)) BG.out.1 BG.out.2).mono ?_); rintro e W1 ⟨rfl, hb⟩; rw [HL.out]; (have K2 := hid (K.out.later hb)); clear hb K; (have K := K2); clear K2)
      | (go_at_call 9; (with_reducible refine (awake25_any _ (Utf8Tabs_below T.out K.out.b)).mono ?_); rintro e W9 ⟨rfl, hb⟩; (have K2 := hid (K.out.later hb)); clear hb K; (have K := K2); clear K2))
    go_ret
    exact ⟨rfl, K.out.b⟩
  | false =>
    have HL := hid hb
    obtain ⟨okd, hz⟩ := hS.ok hb
    obtain ⟨l0, h2, hf⟩ := OkD.hs rfl okd
    have L0 := hid l0
    have H2 := hid h2
    have FI := hid hf
    have OKD := hid okd
    clear hb l0 h2 hf okd hS
    by_cases h50 : (50 : Int) < ((dos.length : Nat) : Int)
    · go_enter Tryd.func5, Tryd.ntmps5
      go_wp2_with (first
        | go_big_skip
        | ((with_reducible show wpList _ _ _ _ _ _); refine kgBox (by rfl) 26 _ (by rfl) (some 3) (by rfl) (by rfl) [_, _, _, _, _, _, _] (by rfl) K ?_; intro g3 V1 K1; clear K; (have K := K1); clear K1)
        | ((with_reducible show wpList _ _ _ _ _ _); refine kgLoadA (by rfl) 26 _ (by rfl) 7 _ Tryd.underlying26 rfl (by kernel_rfl) K (by rfl) (by repeat (first | exact List.mem_cons_self | refine List.mem_cons_of_mem _ ?_)) (part := [_, _, _, _, _, _, _]) (by rfl) (by rfl) ?_)
        | (go_at_call 6; (with_reducible refine (long25_any hs A _ c _ al aa fl fa on off rfl _ (K.out.at_ (d := ⟨hs, A, false⟩) (by simp)) BG.out.1 BG.out.2).mono ?_); rintro e W1 ⟨rfl, hb⟩; rw [HL.out]; (have K2 := hid (K.out.later hb)); clear hb K; (have K := K2); clear K2)
        | (go_at_call 8; (with_reducible refine (tMay_any hs A _ c _ rfl _ (K.out.at_ (d := ⟨hs, A, false⟩) (by simp)) L0.out H2.out FI.out (Utf8Tabs_below T.out K.out.b) al aa fl fa on off).mono ?_); rintro e W2 ⟨rfl, hb⟩; rw [MB.out]; (have K2 := hid (K.out.later hb)); clear hb K; (have K := K2); clear K2)
        | (go_at_call 9; (with_reducible refine (awake25_any _ (Utf8Tabs_below T.out K.out.b)).mono ?_); rintro e W9 ⟨rfl, hb⟩; (have K2 := hid (K.out.later hb)); clear hb K; (have K := K2); clear K2))
      go_ret
      exact ⟨rfl, K.out.b⟩
    have d50 : decide ((50 : Int) < ((dos.length : Nat) : Int)) = false := decide_eq_false h50
    cases hb : mayS ⟨lnsOf hs, ⟨al, aa⟩, ⟨fl, fa⟩, on, off⟩ with
    | false =>
      have MB := hid hb
      clear hb
      go_enter Tryd.func5, Tryd.ntmps5
      go_wp2_with (first
        | go_big_skip
        | ((with_reducible show wpList _ _ _ _ _ _); refine kgBox (by rfl) 26 _ (by rfl) (some 3) (by rfl) (by rfl) [_, _, _, _, _, _, _] (by rfl) K ?_; intro g3 V1 K1; clear K; (have K := K1); clear K1)
        | ((with_reducible show wpList _ _ _ _ _ _); refine kgLoadA (by rfl) 26 _ (by rfl) 7 _ Tryd.underlying26 rfl (by kernel_rfl) K (by rfl) (by repeat (first | exact List.mem_cons_self | refine List.mem_cons_of_mem _ ?_)) (part := [_, _, _, _, _, _, _]) (by rfl) (by rfl) ?_)
        | (go_at_call 6; (with_reducible refine (long25_any hs A _ c _ al aa fl fa on off rfl _ (K.out.at_ (d := ⟨hs, A, false⟩) (by simp)) BG.out.1 BG.out.2).mono ?_); rintro e W1 ⟨rfl, hb⟩; rw [HL.out]; (have K2 := hid (K.out.later hb)); clear hb K; (have K := K2); clear K2)
        | (go_at_call 8; (with_reducible refine (tMay_any hs A _ c _ rfl _ (K.out.at_ (d := ⟨hs, A, false⟩) (by simp)) L0.out H2.out FI.out (Utf8Tabs_below T.out K.out.b) al aa fl fa on off).mono ?_); rintro e W2 ⟨rfl, hb⟩; rw [MB.out]; (have K2 := hid (K.out.later hb)); clear hb K; (have K := K2); clear K2)
        | (go_at_call 9; (with_reducible refine (awake25_any _ (Utf8Tabs_below T.out K.out.b)).mono ?_); rintro e W9 ⟨rfl, hb⟩; (have K2 := hid (K.out.later hb)); clear hb K; (have K := K2); clear K2))
      go_ret
      exact ⟨rfl, K.out.b⟩
    | true =>
      have MB := hid hb
      obtain ⟨f, t, pa, qa, hp, hq, hft, htl, hln, hfn, hsn⟩ := span_nat hb
      have HP := hid hp
      have HQ := hid hq
      have hB := hid hb
      have FN := hid hfn
      have SN := hid hsn
      dsimp only at htl hln
      rw [lnsOf_len] at htl hln
      have hf0 : (0 : Int) ≤ (f : Int) := by omega
      have ht3 : (t : Int) ≤ 300 := by omega
      clear hp hq hfn hsn
      clear hb
      go_enter Tryd.func5, Tryd.ntmps5
      go_wp2_with (first
        | go_big_skip
        | ((with_reducible show wpList _ _ _ _ _ _); refine kgBox (by rfl) 26 _ (by rfl) (some 3) (by rfl) (by rfl) [_, _, _, _, _, _, _] (by rfl) K ?_; intro g3 V1 K1; clear K; (have K := K1); clear K1)
        | ((with_reducible show wpList _ _ _ _ _ _); refine kgLoadA (by rfl) 26 _ (by rfl) 7 _ Tryd.underlying26 rfl (by kernel_rfl) K (by rfl) (by repeat (first | exact List.mem_cons_self | refine List.mem_cons_of_mem _ ?_)) (part := [_, _, _, _, _, _, _]) (by rfl) (by rfl) ?_)
        | ((with_reducible show wpList _ _ _ _ _ _); refine kgLoad1 (by rfl) 22 _ (by rfl) _ Tryd.underlying22 rfl K (by rfl) (by repeat (first | exact List.mem_cons_self | refine List.mem_cons_of_mem _ ?_)) (by rfl) ?_)
        | (go_at_call 6; (with_reducible refine (long25_any hs A _ c _ al aa fl fa on off rfl _ (K.out.at_ (d := ⟨hs, A, false⟩) (by simp)) BG.out.1 BG.out.2).mono ?_); rintro e W1 ⟨rfl, hb⟩; rw [HL.out]; (have K2 := hid (K.out.later hb)); clear hb K; (have K := K2); clear K2)
        | (go_at_call 8; (with_reducible refine (tMay_any hs A _ c _ rfl _ (K.out.at_ (d := ⟨hs, A, false⟩) (by simp)) L0.out H2.out FI.out (Utf8Tabs_below T.out K.out.b) al aa fl fa on off).mono ?_); rintro e W2 ⟨rfl, hb⟩; rw [MB.out]; (have K2 := hid (K.out.later hb)); clear hb K; (have K := K2); clear K2)
        | (go_at_call 10; (with_reducible refine (tSpan_any (lnsOf hs) A _ c al aa fl fa on off _).mono ?_); rintro e W3 ⟨rfl, hb⟩; rw [HP.out, HQ.out]; unfold psV; dsimp only; (have K2 := hid (K.out.later hb)); clear hb K; (have K := K2); clear K2)
        | ((with_reducible show wpList _ _ _ _ _ _); refine kgAlloc (by rfl) 24 (by rfl) (some 7) (by rfl) [.int .i64 0, .int .i64 0] (fun _ => by kernel_rfl) K ?_; intro g7 V1 K1; clear K; (have K := K1); clear K1)
        | ((with_reducible show wpList _ _ _ _ _ _); refine kgAlloc (by rfl) 24 (by rfl) (some 8) (by rfl) [.int .i64 0, .int .i64 0] (fun _ => by kernel_rfl) K ?_; intro g8 V1 K1; clear K; (have K := K1); clear K1)
        | ((with_reducible show wpList _ _ _ _ _ _); refine kgStore (by rfl) 24 (.tmp 7) _ (by rfl) 2 (by kernel_rfl) [_] (by exact K) (by rfl) (by rfl) [_, _] (by rfl) (by rfl) (by simp) (by simp [Value.oneCell']) (cs := [_, _]) (by rfl) ?_; intro V2 K1; (dsimp only [List.cons_append, List.nil_append] at K1); clear K; (have K := K1); clear K1)
        | ((with_reducible show wpList _ _ _ _ _ _); refine kgStore (by rfl) 24 (.tmp 8) _ (by rfl) 2 (by kernel_rfl) [] (by exact K) (by rfl) (by rfl) [_, _] (by rfl) (by rfl) (by simp) (by simp [Value.oneCell']) (cs := [_, _]) (by rfl) ?_; intro V2 K1; (dsimp only [List.cons_append, List.nil_append] at K1); clear K; (have K := K1); clear K1)
        | (go_at_call 11; (with_reducible refine (tOwn_any hs A _ c _ rfl _ (K.out.at_ (d := ⟨hs, A, false⟩) (by simp)) L0.out H2.out al aa fl fa on off).mono ?_); rintro e W4 ⟨A3, n3, c3, hs3, rfl, q1, q2, q3, ho, hb3⟩; dsimp only at q3; unfold stV; dsimp only; (obtain rfl : n3 = hs3.length := q1); (have Q3 := hid q3); (have K2 := hid (K.out.addW hb3 ho)); clear q2 q3 ho hb3 K; (have K := K2); clear K2)
        | ((with_reducible show wpList _ _ _ _ _ _); refine kgAlloc (by rfl) 26 (by rfl) (some 9) (by rfl) [.slice none 0 0, .int .i64 0, .int .i64 0, .int .i64 0, .int .i64 0, .int .i64 0, .int .i64 0] (fun _ => by kernel_rfl) K ?_; intro g9 V1 K1; clear K; (have K := K1); clear K1)
        | ((with_reducible show wpList _ _ _ _ _ _); refine kgStore (by rfl) 26 (.tmp 9) _ (by rfl) 7 (by kernel_rfl) [] (by exact K) (by rfl) (by rfl) [_, _, _, _, _, _, _] (by rfl) (by rfl) (by simp) (by simp [Value.oneCell']) (cs := [_, _, _, _, _, _, _]) (by rfl) ?_; intro V2 K1; (dsimp only [List.cons_append, List.nil_append] at K1); clear K; (have K := K1); clear K1))
      go_loopw [10] (fun i wr => ∃ (k : Nat) (D : List Ln) (on1 off1 : Int) (hs' : List Hd) (A' : Option Addr) (c' : Nat), k ≤ dos.length ∧ i = .int .i64 (k : Int) ∧ Hid (lnsOf hs' = D) ∧ Hid (mayS ⟨D, ⟨al, aa⟩, ⟨fl, fa⟩, on1, off1⟩ = true) ∧ Hid (csD D = csD (lnsOf hs)) ∧ Hid (∀ j : Nat, (j < f ∨ t < j) → D[j]? = (lnsOf hs)[j]?) ∧ Hid (KG w wr [⟨g9, 26, [.slice A' hs'.length c', .int .i64 al, .int .i64 aa, .int .i64 fl, .int .i64 fa, .int .i64 on1, .int .i64 off1]⟩, ⟨g8, 24, [.int .i64 (t : Int), .int .i64 qa]⟩, ⟨g7, 24, [.int .i64 (f : Int), .int .i64 pa]⟩, ⟨g3, 26, [.slice A hs.length c, .int .i64 al, .int .i64 aa, .int .i64 fl, .int .i64 fa, .int .i64 on, .int .i64 off]⟩] [⟨hs', A', true⟩, ⟨hs, A, false⟩])) (fun i _ => dos.length - (intOf i).toNat)
      case atStart => exact ⟨0, lnsOf hs, on, off, hs3, A3, c3, Nat.zero_le _, rfl, Q3, MB, hid rfl, hid (fun _ _ => rfl), hid (K.out.less (by repeat (first | exact List.Sublist.slnil | refine List.Sublist.cons_cons _ ?_ | refine List.Sublist.cons _ ?_)) (by simp))⟩
      case round =>
        clear K
        obtain ⟨k, D, on1, off1, hs', A', c', hk, rfl, HT', HM, HC, HO, K⟩ := hrel
        have hk3 : (k : Int) ≤ 1000000000000000 := by omega
        by_cases hlt : k < dos.length
        · have hi : (k : Int) < (dos.length : Int) := by omega
          obtain ⟨ad0, x0, hDA, -, hx0, -⟩ := (DD.out.below K.out.b).atI hlt
          have HX0 := hid hx0
          have HLT := hid hlt
          have OKM := hid (OkD.turnedS (s := ⟨lnsOf hs, ⟨al, aa⟩, ⟨fl, fa⟩, on, off⟩) (t := ⟨D, ⟨al, aa⟩, ⟨fl, fa⟩, on1, off1⟩) OKD.out HM.out HC.out)
          clear hx0 hlt
          subst hDA
          have hk15 := kle
          go_upto_if 44 with (fail)
          go_cut [11] from 35 to 151 (fun s11 wx => (∃ kd : Int, s11 = .int .i64 kd) ∧ wr = wx)
          case first =>
            by_cases hkl : k < kinds.length
            · have hj : (k : Int) < (kinds.length : Int) := by omega
              have hj0 : (0 : Int) ≤ (k : Int) := by omega
              obtain ⟨kad, kd, hKA, -, -, kx0⟩ := (KK.out.below K.out.b).atI hkl
              subst hKA
              clear hkl
              go_wp2_with fail
              go_meet
              exact ⟨⟨kd, rfl⟩, rfl⟩
            · have hj : ¬ (k : Int) < (kinds.length : Int) := by omega
              have hj' : decide ((k : Int) < (kinds.length : Int)) = false := decide_eq_false hj
              clear hkl
              go_wp2_with fail
              go_meet
              exact ⟨⟨0, rfl⟩, rfl⟩
          case rest =>
            obtain ⟨⟨kd, rfl⟩, rfl⟩ := hcut
            go_upto_region 11 with (fail)
            rcases stay_cases HM.out (bits .and .i64 x0 3) kd with hT1 | hT1 | ⟨U, on2, off2, hT1, hT2, hT3, hT4, hT5⟩
            · have TS := hid hT1
              clear hT1
              obtain ⟨vs, hvs⟩ : ∃ vs : DocG → List Value, vs = fun ⟨A5, c5, hs5, g12⟩ => [.agg #[.slice A' hs'.length c', .int .i64 al, .int .i64 aa, .int .i64 fl, .int .i64 fa, .int .i64 on1, .int .i64 off1], .slice (some ad0) dos.length dc, .int .i64 (k : Int), .pointer (some (ad0.add k)), .int .i64 x0, .int .i64 kd, .tuple #[.agg #[.slice A5 hs5.length c5, .int .i64 0, .int .i64 0, .int .i64 0, .int .i64 0, .int .i64 0, .int .i64 0], .int .i64 1], .tuple #[.agg #[.slice A5 hs5.length c5, .int .i64 0, .int .i64 0, .int .i64 0, .int .i64 0, .int .i64 0, .int .i64 0], .int .i64 1], .agg #[.slice A5 hs5.length c5, .int .i64 0, .int .i64 0, .int .i64 0, .int .i64 0, .int .i64 0, .int .i64 0], .int .i64 1, .pointer (some ⟨g12, 0, none⟩), undef, .int .i64 1] := ⟨_, rfl⟩
              replace hvs := hid hvs
              obtain ⟨J, hJ⟩ : ∃ J : DocG → (Nat → Bool) → World → Prop, J = fun ⟨A5, c5, hs5, g12⟩ b W => Hid (KG w W ((if b 10 then [(⟨g12, 26, if b 11 then [.slice A5 hs5.length c5, .int .i64 0, .int .i64 0, .int .i64 0, .int .i64 0, .int .i64 0, .int .i64 0] else [.slice none 0 0, .int .i64 0, .int .i64 0, .int .i64 0, .int .i64 0, .int .i64 0, .int .i64 0]⟩ : BoxG)] else []) ++ [⟨g9, 26, [.slice A' hs'.length c', .int .i64 al, .int .i64 aa, .int .i64 fl, .int .i64 fa, .int .i64 on1, .int .i64 off1]⟩, ⟨g8, 24, [.int .i64 (t : Int), .int .i64 qa]⟩, ⟨g7, 24, [.int .i64 (f : Int), .int .i64 pa]⟩, ⟨g3, 26, [.slice A hs.length c, .int .i64 al, .int .i64 aa, .int .i64 fl, .int .i64 fa, .int .i64 on, .int .i64 off]⟩]) (if b 6 then [⟨hs5, A5, true⟩, ⟨hs', A', true⟩, ⟨hs, A, false⟩] else [⟨hs', A', true⟩, ⟨hs, A, false⟩])) ∧ (b 6 = true → Hid (lnsOf hs5 = ([] : List Ln))) := ⟨_, rfl⟩
              replace hJ := hid hJ
              refine wp_drawn_dep vs (by kernel_rfl) (by kernel_rfl) (by rw [hvs.out]; exact fun _ => rfl) J ⟨none, 0, [], 0⟩ (by rw [hJ.out]; exact ⟨hid (K.out.quiet ⟨1, rfl⟩), fun h => by cases h⟩) ?step ?fin
              case step =>
                clear K
                intro i o x b W ho hb hw hc K
                obtain ⟨A5, c5, hs5, g12⟩ := x
                rw [hJ.out] at K
                dsimp only at K
                have ev : vs ⟨A5, c5, hs5, g12⟩ = [.agg #[.slice A' hs'.length c', .int .i64 al, .int .i64 aa, .int .i64 fl, .int .i64 fa, .int .i64 on1, .int .i64 off1], .slice (some ad0) dos.length dc, .int .i64 (k : Int), .pointer (some (ad0.add k)), .int .i64 x0, .int .i64 kd, .tuple #[.agg #[.slice A5 hs5.length c5, .int .i64 0, .int .i64 0, .int .i64 0, .int .i64 0, .int .i64 0, .int .i64 0], .int .i64 1], .tuple #[.agg #[.slice A5 hs5.length c5, .int .i64 0, .int .i64 0, .int .i64 0, .int .i64 0, .int .i64 0, .int .i64 0], .int .i64 1], .agg #[.slice A5 hs5.length c5, .int .i64 0, .int .i64 0, .int .i64 0, .int .i64 0, .int .i64 0, .int .i64 0], .int .i64 1, .pointer (some ⟨g12, 0, none⟩), undef, .int .i64 1] := by rw [hvs.out]
                rw [ev]
                replace ev := hid ev
                simp only [drFrame, List.setIfInBounds_toArray, List.set_cons_succ, List.set_cons_zero]
                obtain ⟨K, HQ⟩ := K
                replace HQ := hid HQ
                rcases i with _ | i
                · obtain rfl := Option.some.inj ho
                  replace hb := hid hb
                  replace hc := hid hc
                  clear ho hw
                  go_wp2_with (first
                    | go_big_skip
                    | ((with_reducible show wpList _ _ _ _ _ _); refine kgLoadA (by rfl) 26 _ (by rfl) 7 _ Tryd.underlying26 rfl (by kernel_rfl) K (by rfl) (by repeat (first | exact List.mem_cons_self | refine List.mem_cons_of_mem _ ?_ | refine List.mem_append_right _ ?_)) (part := [_, _, _, _, _, _, _]) (by rfl) (by rfl) ?_))
                  refine ⟨rfl, ⟨A5, c5, hs5, g12⟩, by rw [ev.out]; rfl, (by intro j _; rw [ev.out]), ?_⟩
                  rw [hJ.out]
                  exact ⟨K, HQ.out⟩
                rcases i with _ | i
                · obtain rfl := Option.some.inj ho
                  replace hb := hid hb
                  replace hc := hid hc
                  clear ho hw
                  go_wp2_with (first
                    | fail)
                  refine ⟨rfl, ⟨A5, c5, hs5, g12⟩, by rw [ev.out]; rfl, (by intro j _; rw [ev.out]), ?_⟩
                  rw [hJ.out]
                  exact ⟨K, HQ.out⟩
                rcases i with _ | i
                · obtain rfl := Option.some.inj ho
                  replace hb := hid hb
                  replace hc := hid hc
                  clear ho hw
                  go_wp2_with (first
                    | fail)
                  refine ⟨rfl, ⟨A5, c5, hs5, g12⟩, by rw [ev.out]; rfl, (by intro j _; rw [ev.out]), ?_⟩
                  rw [hJ.out]
                  exact ⟨K, HQ.out⟩
                rcases i with _ | i
                · obtain rfl := Option.some.inj ho
                  replace hb := hid hb
                  replace hc := hid hc
                  clear ho hw
                  go_wp2_with (first
                    | fail)
                  refine ⟨rfl, ⟨A5, c5, hs5, g12⟩, by rw [ev.out]; rfl, (by intro j _; rw [ev.out]), ?_⟩
                  rw [hJ.out]
                  exact ⟨K, HQ.out⟩
                rcases i with _ | i
                · obtain rfl := Option.some.inj ho
                  have hcell := stayCell (DD.out.below K.out.b) HX0.out
                  replace hb := hid hb
                  replace hc := hid hc
                  clear ho hw
                  go_wp2_with (first
                    | fail)
                  refine ⟨rfl, ⟨A5, c5, hs5, g12⟩, by rw [ev.out]; rfl, (by intro j _; rw [ev.out]), ?_⟩
                  rw [hJ.out]
                  exact ⟨K, HQ.out⟩
                rcases i with _ | i
                · obtain rfl := Option.some.inj ho
                  replace hb := hid hb
                  replace hc := hid hc
                  clear ho hw
                  go_wp2_with (first
                    | fail)
                  refine ⟨rfl, ⟨A5, c5, hs5, g12⟩, by rw [ev.out]; rfl, (by intro j _; rw [ev.out]), ?_⟩
                  rw [hJ.out]
                  exact ⟨K, HQ.out⟩
                rcases i with _ | i
                · obtain rfl := Option.some.inj ho
                  replace hb : b 6 = false := hb
                  simp only [hb, Bool.false_eq_true, if_false] at K
                  replace hb := hid hb
                  replace hc := hid hc
                  clear ho hw
                  go_wp2_with (first
                    | go_big_skip
                    | (go_at_call 13; (with_reducible refine (turn25_any hs' A' _ c' _ rfl _ (K.out.at_ (d := ⟨hs', A', true⟩) (by simp)) (OkD.hs HT'.out OKM.out).1 (OkD.hs HT'.out OKM.out).2.1 (OkD.hs HT'.out OKM.out).2.2 (Utf8Tabs_below T.out K.out.b) al aa fl fa on1 off1 x0 kd).mono ?_); rintro e W5 hc2; unfold RetStE at hc2; rw [HT'.out, TS.out] at hc2; obtain ⟨A6, n6, c6, hs6, rfl, q1, q2, q3, ho, hb3⟩ := hc2; dsimp only at q3; unfold stV; dsimp only; (obtain rfl : n6 = hs6.length := q1); (have Q6 := hid q3); (have K2 := hid (K.out.addW hb3 ho)); clear q2 q3 ho hb3 K; (have K := K2); clear K2))
                  refine ⟨rfl, ⟨A6, c6, hs6, g12⟩, ?_, ?_, ?_⟩
                  · rw [hvs.out]; rfl
                  · intro j hj
                    rw [hvs.out]
                    rcases j with _ | _ | _ | _ | _ | _ | _ | _ | _ | _ | _ | _ | _ | j <;> first | rfl | (rw [hb.out] at hj; cases hj) | exact absurd (hc.out _ 6 (by decide +kernel) hj) (by rw [hb.out]; simp) | exact absurd (hc.out _ 6 (by decide +kernel) (hc.out _ 7 (by decide +kernel) hj)) (by rw [hb.out]; simp) | exact absurd (hc.out _ 6 (by decide +kernel) (hc.out _ 7 (by decide +kernel) (hc.out _ 8 (by decide +kernel) hj))) (by rw [hb.out]; simp)
                  · rw [hJ.out]
                    have e11 : b 11 = false := by
                      cases h : b 11 with
                      | false => rfl
                      | true => exact absurd (hc.out 7 6 (by kernel_rfl) (hc.out 8 7 (by kernel_rfl) (hc.out 11 8 (by kernel_rfl) h))) (by rw [hb.out]; simp)
                    refine ⟨?_, fun _ => Q6⟩
                    have u10 : bitUp b (0 + 1 + 1 + 1 + 1 + 1 + 1) 10 = b 10 := rfl
                    have u11 : bitUp b (0 + 1 + 1 + 1 + 1 + 1 + 1) 11 = false := e11
                    have u6 : bitUp b (0 + 1 + 1 + 1 + 1 + 1 + 1) 6 = true := rfl
                    dsimp only
                    rw [e11] at K
                    rw [u10, u11, u6]
                    exact K
                rcases i with _ | i
                · obtain rfl := Option.some.inj ho
                  replace hb := hid hb
                  replace hc := hid hc
                  clear ho hw
                  go_wp2_with (first
                    | fail)
                  refine ⟨rfl, ⟨A5, c5, hs5, g12⟩, by rw [ev.out]; rfl, (by intro j _; rw [ev.out]), ?_⟩
                  rw [hJ.out]
                  exact ⟨K, HQ.out⟩
                rcases i with _ | i
                · obtain rfl := Option.some.inj ho
                  replace hb := hid hb
                  replace hc := hid hc
                  clear ho hw
                  go_wp2_with (first
                    | fail)
                  refine ⟨rfl, ⟨A5, c5, hs5, g12⟩, by rw [ev.out]; rfl, (by intro j _; rw [ev.out]), ?_⟩
                  rw [hJ.out]
                  exact ⟨K, HQ.out⟩
                rcases i with _ | i
                · obtain rfl := Option.some.inj ho
                  replace hb := hid hb
                  replace hc := hid hc
                  clear ho hw
                  go_wp2_with (first
                    | fail)
                  refine ⟨rfl, ⟨A5, c5, hs5, g12⟩, by rw [ev.out]; rfl, (by intro j _; rw [ev.out]), ?_⟩
                  rw [hJ.out]
                  exact ⟨K, HQ.out⟩
                rcases i with _ | i
                · obtain rfl := Option.some.inj ho
                  replace hb : b 10 = false := hb
                  simp only [hb, Bool.false_eq_true, if_false, List.nil_append] at K
                  replace hb := hid hb
                  replace hc := hid hc
                  clear ho hw
                  go_wp2_with (first
                    | go_big_skip
                    | ((with_reducible show wpList _ _ _ _ _ _); refine kgAlloc (by rfl) 26 (by rfl) (some 12) (by rfl) [.slice none 0 0, .int .i64 0, .int .i64 0, .int .i64 0, .int .i64 0, .int .i64 0, .int .i64 0] (fun _ => by kernel_rfl) K ?_; intro g6 V1 K1; clear K; (have K := K1); clear K1))
                  refine ⟨rfl, ⟨A5, c5, hs5, g6⟩, ?_, ?_, ?_⟩
                  · rw [hvs.out]; rfl
                  · intro j hj
                    rw [hvs.out]
                    rcases j with _ | _ | _ | _ | _ | _ | _ | _ | _ | _ | _ | _ | _ | j <;> first | rfl | (rw [hb.out] at hj; cases hj) | exact absurd (hc.out _ 10 (by decide +kernel) hj) (by rw [hb.out]; simp) | exact absurd (hc.out _ 10 (by decide +kernel) (hc.out _ 7 (by decide +kernel) hj)) (by rw [hb.out]; simp) | exact absurd (hc.out _ 10 (by decide +kernel) (hc.out _ 7 (by decide +kernel) (hc.out _ 8 (by decide +kernel) hj))) (by rw [hb.out]; simp)
                  · rw [hJ.out]
                    have e11 : b 11 = false := by
                      cases h : b 11 with
                      | false => rfl
                      | true => exact absurd (hc.out 11 10 (by kernel_rfl) h) (by rw [hb.out]; simp)
                    refine ⟨?_, HQ.out⟩
                    have u10 : bitUp b (0 + 1 + 1 + 1 + 1 + 1 + 1 + 1 + 1 + 1 + 1) 10 = true := rfl
                    have u11 : bitUp b (0 + 1 + 1 + 1 + 1 + 1 + 1 + 1 + 1 + 1 + 1) 11 = false := e11
                    have u6 : bitUp b (0 + 1 + 1 + 1 + 1 + 1 + 1 + 1 + 1 + 1 + 1) 6 = b 6 := rfl
                    dsimp only
                    rw [u10, u11, u6]
                    exact K
                rcases i with _ | i
                · obtain rfl := Option.some.inj ho
                  replace hb : b 11 = false := hb
                  have b10 : b 10 = true := hw 10 (by kernel_rfl)
                  simp only [hb, b10, Bool.false_eq_true, if_false, if_true, List.cons_append, List.nil_append] at K
                  replace hb := hid hb
                  replace hc := hid hc
                  replace b10 := hid b10
                  clear ho hw
                  go_wp2_with (first
                    | go_big_skip
                    | ((with_reducible show wpList _ _ _ _ _ _); refine kgStore (by rfl) 26 (.tmp 12) _ (by rfl) 7 (by kernel_rfl) [] (by exact K) (by rfl) (by rfl) [_, _, _, _, _, _, _] (by rfl) (by rfl) (by simp) (by simp [Value.oneCell']) (cs := [_, _, _, _, _, _, _]) (by rfl) ?_; intro V2 K1; (dsimp only [List.cons_append, List.nil_append] at K1); clear K; (have K := K1); clear K1))
                  refine ⟨rfl, ⟨A5, c5, hs5, g12⟩, trivial, (by intro j _; rw [ev.out]), ?_⟩
                  rw [hJ.out]
                  refine ⟨?_, HQ.out⟩
                  have u10 : bitUp b (0 + 1 + 1 + 1 + 1 + 1 + 1 + 1 + 1 + 1 + 1 + 1) 10 = true := b10.out
                  have u11 : bitUp b (0 + 1 + 1 + 1 + 1 + 1 + 1 + 1 + 1 + 1 + 1 + 1) 11 = true := rfl
                  have u6 : bitUp b (0 + 1 + 1 + 1 + 1 + 1 + 1 + 1 + 1 + 1 + 1 + 1) 6 = b 6 := rfl
                  dsimp only
                  rw [u10, u11, u6]
                  exact K
                rcases i with _ | i
                · obtain rfl := Option.some.inj ho
                  replace hb := hid hb
                  replace hc := hid hc
                  clear ho hw
                  go_wp2_with (first
                    | fail)
                  refine ⟨rfl, ⟨A5, c5, hs5, g12⟩, by rw [ev.out]; rfl, (by intro j _; rw [ev.out]), ?_⟩
                  rw [hJ.out]
                  exact ⟨K, HQ.out⟩
                · cases ho
              case fin =>
                clear K
                intro x b W hb K
                obtain ⟨A5, c5, hs5, g12⟩ := x
                rw [hJ.out] at K
                dsimp only at K
                have ev : vs ⟨A5, c5, hs5, g12⟩ = [.agg #[.slice A' hs'.length c', .int .i64 al, .int .i64 aa, .int .i64 fl, .int .i64 fa, .int .i64 on1, .int .i64 off1], .slice (some ad0) dos.length dc, .int .i64 (k : Int), .pointer (some (ad0.add k)), .int .i64 x0, .int .i64 kd, .tuple #[.agg #[.slice A5 hs5.length c5, .int .i64 0, .int .i64 0, .int .i64 0, .int .i64 0, .int .i64 0, .int .i64 0], .int .i64 1], .tuple #[.agg #[.slice A5 hs5.length c5, .int .i64 0, .int .i64 0, .int .i64 0, .int .i64 0, .int .i64 0, .int .i64 0], .int .i64 1], .agg #[.slice A5 hs5.length c5, .int .i64 0, .int .i64 0, .int .i64 0, .int .i64 0, .int .i64 0, .int .i64 0], .int .i64 1, .pointer (some ⟨g12, 0, none⟩), undef, .int .i64 1] := by rw [hvs.out]
                rw [ev]
                clear ev
                simp only [drFrame, List.setIfInBounds_toArray, List.set_cons_succ, List.set_cons_zero]
                have b6 := hb 6 (by decide)
                have b10 := hb 10 (by decide)
                have b11 := hb 11 (by decide)
                simp only [b6, b10, b11, if_true, List.cons_append, List.nil_append] at K
                clear b6 b10 b11 hb hJ hvs
                obtain ⟨K, HQ⟩ := K
                replace HQ := HQ trivial
                obtain rfl : hs5 = [] := List.eq_nil_of_length_eq_zero (by have h1 := congrArg List.length HQ.out; rw [lnsOf_len] at h1; exact h1)
                go_wp2_with (first
                  | go_big_skip
                  | ((with_reducible show wpList _ _ _ _ _ _); refine kgLoad1 (by rfl) 22 _ (by rfl) _ Tryd.underlying22 rfl K (by rfl) (by repeat (first | exact List.mem_cons_self | refine List.mem_cons_of_mem _ ?_)) (by rfl) ?_))
                go_roundw
                case rel => exact ⟨k + 1, D, on1, off1, hs', A', c', by have := HLT.out; omega, by go_num, HT', HM, HC, HO, hid (K.out.less (by repeat (first | exact List.Sublist.slnil | refine List.Sublist.cons_cons _ ?_ | refine List.Sublist.cons _ ?_)) (by simp))⟩
                case measure => simp [intOf]; have := HLT.out; omega
            · have TS := hid hT1
              clear hT1
              obtain ⟨vs, hvs⟩ : ∃ vs : DocG → List Value, vs = fun ⟨A5, c5, hs5, g12⟩ => [.agg #[.slice A' hs'.length c', .int .i64 al, .int .i64 aa, .int .i64 fl, .int .i64 fa, .int .i64 on1, .int .i64 off1], .slice (some ad0) dos.length dc, .int .i64 (k : Int), .pointer (some (ad0.add k)), .int .i64 x0, .int .i64 kd, .tuple #[.agg #[.slice A5 hs5.length c5, .int .i64 0, .int .i64 0, .int .i64 0, .int .i64 0, .int .i64 0, .int .i64 0], .int .i64 7], .tuple #[.agg #[.slice A5 hs5.length c5, .int .i64 0, .int .i64 0, .int .i64 0, .int .i64 0, .int .i64 0, .int .i64 0], .int .i64 7], .agg #[.slice A5 hs5.length c5, .int .i64 0, .int .i64 0, .int .i64 0, .int .i64 0, .int .i64 0, .int .i64 0], .int .i64 7, .pointer (some ⟨g12, 0, none⟩), undef, .int .i64 7] := ⟨_, rfl⟩
              replace hvs := hid hvs
              obtain ⟨J, hJ⟩ : ∃ J : DocG → (Nat → Bool) → World → Prop, J = fun ⟨A5, c5, hs5, g12⟩ b W => Hid (KG w W ((if b 10 then [(⟨g12, 26, if b 11 then [.slice A5 hs5.length c5, .int .i64 0, .int .i64 0, .int .i64 0, .int .i64 0, .int .i64 0, .int .i64 0] else [.slice none 0 0, .int .i64 0, .int .i64 0, .int .i64 0, .int .i64 0, .int .i64 0, .int .i64 0]⟩ : BoxG)] else []) ++ [⟨g9, 26, [.slice A' hs'.length c', .int .i64 al, .int .i64 aa, .int .i64 fl, .int .i64 fa, .int .i64 on1, .int .i64 off1]⟩, ⟨g8, 24, [.int .i64 (t : Int), .int .i64 qa]⟩, ⟨g7, 24, [.int .i64 (f : Int), .int .i64 pa]⟩, ⟨g3, 26, [.slice A hs.length c, .int .i64 al, .int .i64 aa, .int .i64 fl, .int .i64 fa, .int .i64 on, .int .i64 off]⟩]) (if b 6 then [⟨hs5, A5, true⟩, ⟨hs', A', true⟩, ⟨hs, A, false⟩] else [⟨hs', A', true⟩, ⟨hs, A, false⟩])) ∧ (b 6 = true → Hid (lnsOf hs5 = ([] : List Ln))) := ⟨_, rfl⟩
              replace hJ := hid hJ
              refine wp_drawn_dep vs (by kernel_rfl) (by kernel_rfl) (by rw [hvs.out]; exact fun _ => rfl) J ⟨none, 0, [], 0⟩ (by rw [hJ.out]; exact ⟨hid (K.out.quiet ⟨1, rfl⟩), fun h => by cases h⟩) ?step ?fin
              case step =>
                clear K
                intro i o x b W ho hb hw hc K
                obtain ⟨A5, c5, hs5, g12⟩ := x
                rw [hJ.out] at K
                dsimp only at K
                have ev : vs ⟨A5, c5, hs5, g12⟩ = [.agg #[.slice A' hs'.length c', .int .i64 al, .int .i64 aa, .int .i64 fl, .int .i64 fa, .int .i64 on1, .int .i64 off1], .slice (some ad0) dos.length dc, .int .i64 (k : Int), .pointer (some (ad0.add k)), .int .i64 x0, .int .i64 kd, .tuple #[.agg #[.slice A5 hs5.length c5, .int .i64 0, .int .i64 0, .int .i64 0, .int .i64 0, .int .i64 0, .int .i64 0], .int .i64 7], .tuple #[.agg #[.slice A5 hs5.length c5, .int .i64 0, .int .i64 0, .int .i64 0, .int .i64 0, .int .i64 0, .int .i64 0], .int .i64 7], .agg #[.slice A5 hs5.length c5, .int .i64 0, .int .i64 0, .int .i64 0, .int .i64 0, .int .i64 0, .int .i64 0], .int .i64 7, .pointer (some ⟨g12, 0, none⟩), undef, .int .i64 7] := by rw [hvs.out]
                rw [ev]
                replace ev := hid ev
                simp only [drFrame, List.setIfInBounds_toArray, List.set_cons_succ, List.set_cons_zero]
                obtain ⟨K, HQ⟩ := K
                replace HQ := hid HQ
                rcases i with _ | i
                · obtain rfl := Option.some.inj ho
                  replace hb := hid hb
                  replace hc := hid hc
                  clear ho hw
                  go_wp2_with (first
                    | go_big_skip
                    | ((with_reducible show wpList _ _ _ _ _ _); refine kgLoadA (by rfl) 26 _ (by rfl) 7 _ Tryd.underlying26 rfl (by kernel_rfl) K (by rfl) (by repeat (first | exact List.mem_cons_self | refine List.mem_cons_of_mem _ ?_ | refine List.mem_append_right _ ?_)) (part := [_, _, _, _, _, _, _]) (by rfl) (by rfl) ?_))
                  refine ⟨rfl, ⟨A5, c5, hs5, g12⟩, by rw [ev.out]; rfl, (by intro j _; rw [ev.out]), ?_⟩
                  rw [hJ.out]
                  exact ⟨K, HQ.out⟩
                rcases i with _ | i
                · obtain rfl := Option.some.inj ho
                  replace hb := hid hb
                  replace hc := hid hc
                  clear ho hw
                  go_wp2_with (first
                    | fail)
                  refine ⟨rfl, ⟨A5, c5, hs5, g12⟩, by rw [ev.out]; rfl, (by intro j _; rw [ev.out]), ?_⟩
                  rw [hJ.out]
                  exact ⟨K, HQ.out⟩
                rcases i with _ | i
                · obtain rfl := Option.some.inj ho
                  replace hb := hid hb
                  replace hc := hid hc
                  clear ho hw
                  go_wp2_with (first
                    | fail)
                  refine ⟨rfl, ⟨A5, c5, hs5, g12⟩, by rw [ev.out]; rfl, (by intro j _; rw [ev.out]), ?_⟩
                  rw [hJ.out]
                  exact ⟨K, HQ.out⟩
                rcases i with _ | i
                · obtain rfl := Option.some.inj ho
                  replace hb := hid hb
                  replace hc := hid hc
                  clear ho hw
                  go_wp2_with (first
                    | fail)
                  refine ⟨rfl, ⟨A5, c5, hs5, g12⟩, by rw [ev.out]; rfl, (by intro j _; rw [ev.out]), ?_⟩
                  rw [hJ.out]
                  exact ⟨K, HQ.out⟩
                rcases i with _ | i
                · obtain rfl := Option.some.inj ho
                  have hcell := stayCell (DD.out.below K.out.b) HX0.out
                  replace hb := hid hb
                  replace hc := hid hc
                  clear ho hw
                  go_wp2_with (first
                    | fail)
                  refine ⟨rfl, ⟨A5, c5, hs5, g12⟩, by rw [ev.out]; rfl, (by intro j _; rw [ev.out]), ?_⟩
                  rw [hJ.out]
                  exact ⟨K, HQ.out⟩
                rcases i with _ | i
                · obtain rfl := Option.some.inj ho
                  replace hb := hid hb
                  replace hc := hid hc
                  clear ho hw
                  go_wp2_with (first
                    | fail)
                  refine ⟨rfl, ⟨A5, c5, hs5, g12⟩, by rw [ev.out]; rfl, (by intro j _; rw [ev.out]), ?_⟩
                  rw [hJ.out]
                  exact ⟨K, HQ.out⟩
                rcases i with _ | i
                · obtain rfl := Option.some.inj ho
                  replace hb : b 6 = false := hb
                  simp only [hb, Bool.false_eq_true, if_false] at K
                  replace hb := hid hb
                  replace hc := hid hc
                  clear ho hw
                  go_wp2_with (first
                    | go_big_skip
                    | (go_at_call 13; (with_reducible refine (turn25_any hs' A' _ c' _ rfl _ (K.out.at_ (d := ⟨hs', A', true⟩) (by simp)) (OkD.hs HT'.out OKM.out).1 (OkD.hs HT'.out OKM.out).2.1 (OkD.hs HT'.out OKM.out).2.2 (Utf8Tabs_below T.out K.out.b) al aa fl fa on1 off1 x0 kd).mono ?_); rintro e W5 hc2; unfold RetStE at hc2; rw [HT'.out, TS.out] at hc2; obtain ⟨A6, n6, c6, hs6, rfl, q1, q2, q3, ho, hb3⟩ := hc2; dsimp only at q3; unfold stV; dsimp only; (obtain rfl : n6 = hs6.length := q1); (have Q6 := hid q3); (have K2 := hid (K.out.addW hb3 ho)); clear q2 q3 ho hb3 K; (have K := K2); clear K2))
                  refine ⟨rfl, ⟨A6, c6, hs6, g12⟩, ?_, ?_, ?_⟩
                  · rw [hvs.out]; rfl
                  · intro j hj
                    rw [hvs.out]
                    rcases j with _ | _ | _ | _ | _ | _ | _ | _ | _ | _ | _ | _ | _ | j <;> first | rfl | (rw [hb.out] at hj; cases hj) | exact absurd (hc.out _ 6 (by decide +kernel) hj) (by rw [hb.out]; simp) | exact absurd (hc.out _ 6 (by decide +kernel) (hc.out _ 7 (by decide +kernel) hj)) (by rw [hb.out]; simp) | exact absurd (hc.out _ 6 (by decide +kernel) (hc.out _ 7 (by decide +kernel) (hc.out _ 8 (by decide +kernel) hj))) (by rw [hb.out]; simp)
                  · rw [hJ.out]
                    have e11 : b 11 = false := by
                      cases h : b 11 with
                      | false => rfl
                      | true => exact absurd (hc.out 7 6 (by kernel_rfl) (hc.out 8 7 (by kernel_rfl) (hc.out 11 8 (by kernel_rfl) h))) (by rw [hb.out]; simp)
                    refine ⟨?_, fun _ => Q6⟩
                    have u10 : bitUp b (0 + 1 + 1 + 1 + 1 + 1 + 1) 10 = b 10 := rfl
                    have u11 : bitUp b (0 + 1 + 1 + 1 + 1 + 1 + 1) 11 = false := e11
                    have u6 : bitUp b (0 + 1 + 1 + 1 + 1 + 1 + 1) 6 = true := rfl
                    dsimp only
                    rw [e11] at K
                    rw [u10, u11, u6]
                    exact K
                rcases i with _ | i
                · obtain rfl := Option.some.inj ho
                  replace hb := hid hb
                  replace hc := hid hc
                  clear ho hw
                  go_wp2_with (first
                    | fail)
                  refine ⟨rfl, ⟨A5, c5, hs5, g12⟩, by rw [ev.out]; rfl, (by intro j _; rw [ev.out]), ?_⟩
                  rw [hJ.out]
                  exact ⟨K, HQ.out⟩
                rcases i with _ | i
                · obtain rfl := Option.some.inj ho
                  replace hb := hid hb
                  replace hc := hid hc
                  clear ho hw
                  go_wp2_with (first
                    | fail)
                  refine ⟨rfl, ⟨A5, c5, hs5, g12⟩, by rw [ev.out]; rfl, (by intro j _; rw [ev.out]), ?_⟩
                  rw [hJ.out]
                  exact ⟨K, HQ.out⟩
                rcases i with _ | i
                · obtain rfl := Option.some.inj ho
                  replace hb := hid hb
                  replace hc := hid hc
                  clear ho hw
                  go_wp2_with (first
                    | fail)
                  refine ⟨rfl, ⟨A5, c5, hs5, g12⟩, by rw [ev.out]; rfl, (by intro j _; rw [ev.out]), ?_⟩
                  rw [hJ.out]
                  exact ⟨K, HQ.out⟩
                rcases i with _ | i
                · obtain rfl := Option.some.inj ho
                  replace hb : b 10 = false := hb
                  simp only [hb, Bool.false_eq_true, if_false, List.nil_append] at K
                  replace hb := hid hb
                  replace hc := hid hc
                  clear ho hw
                  go_wp2_with (first
                    | go_big_skip
                    | ((with_reducible show wpList _ _ _ _ _ _); refine kgAlloc (by rfl) 26 (by rfl) (some 12) (by rfl) [.slice none 0 0, .int .i64 0, .int .i64 0, .int .i64 0, .int .i64 0, .int .i64 0, .int .i64 0] (fun _ => by kernel_rfl) K ?_; intro g6 V1 K1; clear K; (have K := K1); clear K1))
                  refine ⟨rfl, ⟨A5, c5, hs5, g6⟩, ?_, ?_, ?_⟩
                  · rw [hvs.out]; rfl
                  · intro j hj
                    rw [hvs.out]
                    rcases j with _ | _ | _ | _ | _ | _ | _ | _ | _ | _ | _ | _ | _ | j <;> first | rfl | (rw [hb.out] at hj; cases hj) | exact absurd (hc.out _ 10 (by decide +kernel) hj) (by rw [hb.out]; simp) | exact absurd (hc.out _ 10 (by decide +kernel) (hc.out _ 7 (by decide +kernel) hj)) (by rw [hb.out]; simp) | exact absurd (hc.out _ 10 (by decide +kernel) (hc.out _ 7 (by decide +kernel) (hc.out _ 8 (by decide +kernel) hj))) (by rw [hb.out]; simp)
                  · rw [hJ.out]
                    have e11 : b 11 = false := by
                      cases h : b 11 with
                      | false => rfl
                      | true => exact absurd (hc.out 11 10 (by kernel_rfl) h) (by rw [hb.out]; simp)
                    refine ⟨?_, HQ.out⟩
                    have u10 : bitUp b (0 + 1 + 1 + 1 + 1 + 1 + 1 + 1 + 1 + 1 + 1) 10 = true := rfl
                    have u11 : bitUp b (0 + 1 + 1 + 1 + 1 + 1 + 1 + 1 + 1 + 1 + 1) 11 = false := e11
                    have u6 : bitUp b (0 + 1 + 1 + 1 + 1 + 1 + 1 + 1 + 1 + 1 + 1) 6 = b 6 := rfl
                    dsimp only
                    rw [u10, u11, u6]
                    exact K
                rcases i with _ | i
                · obtain rfl := Option.some.inj ho
                  replace hb : b 11 = false := hb
                  have b10 : b 10 = true := hw 10 (by kernel_rfl)
                  simp only [hb, b10, Bool.false_eq_true, if_false, if_true, List.cons_append, List.nil_append] at K
                  replace hb := hid hb
                  replace hc := hid hc
                  replace b10 := hid b10
                  clear ho hw
                  go_wp2_with (first
                    | go_big_skip
                    | ((with_reducible show wpList _ _ _ _ _ _); refine kgStore (by rfl) 26 (.tmp 12) _ (by rfl) 7 (by kernel_rfl) [] (by exact K) (by rfl) (by rfl) [_, _, _, _, _, _, _] (by rfl) (by rfl) (by simp) (by simp [Value.oneCell']) (cs := [_, _, _, _, _, _, _]) (by rfl) ?_; intro V2 K1; (dsimp only [List.cons_append, List.nil_append] at K1); clear K; (have K := K1); clear K1))
                  refine ⟨rfl, ⟨A5, c5, hs5, g12⟩, trivial, (by intro j _; rw [ev.out]), ?_⟩
                  rw [hJ.out]
                  refine ⟨?_, HQ.out⟩
                  have u10 : bitUp b (0 + 1 + 1 + 1 + 1 + 1 + 1 + 1 + 1 + 1 + 1 + 1) 10 = true := b10.out
                  have u11 : bitUp b (0 + 1 + 1 + 1 + 1 + 1 + 1 + 1 + 1 + 1 + 1 + 1) 11 = true := rfl
                  have u6 : bitUp b (0 + 1 + 1 + 1 + 1 + 1 + 1 + 1 + 1 + 1 + 1 + 1) 6 = b 6 := rfl
                  dsimp only
                  rw [u10, u11, u6]
                  exact K
                rcases i with _ | i
                · obtain rfl := Option.some.inj ho
                  replace hb := hid hb
                  replace hc := hid hc
                  clear ho hw
                  go_wp2_with (first
                    | fail)
                  refine ⟨rfl, ⟨A5, c5, hs5, g12⟩, by rw [ev.out]; rfl, (by intro j _; rw [ev.out]), ?_⟩
                  rw [hJ.out]
                  exact ⟨K, HQ.out⟩
                · cases ho
              case fin =>
                clear K
                intro x b W hb K
                obtain ⟨A5, c5, hs5, g12⟩ := x
                rw [hJ.out] at K
                dsimp only at K
                have ev : vs ⟨A5, c5, hs5, g12⟩ = [.agg #[.slice A' hs'.length c', .int .i64 al, .int .i64 aa, .int .i64 fl, .int .i64 fa, .int .i64 on1, .int .i64 off1], .slice (some ad0) dos.length dc, .int .i64 (k : Int), .pointer (some (ad0.add k)), .int .i64 x0, .int .i64 kd, .tuple #[.agg #[.slice A5 hs5.length c5, .int .i64 0, .int .i64 0, .int .i64 0, .int .i64 0, .int .i64 0, .int .i64 0], .int .i64 7], .tuple #[.agg #[.slice A5 hs5.length c5, .int .i64 0, .int .i64 0, .int .i64 0, .int .i64 0, .int .i64 0, .int .i64 0], .int .i64 7], .agg #[.slice A5 hs5.length c5, .int .i64 0, .int .i64 0, .int .i64 0, .int .i64 0, .int .i64 0, .int .i64 0], .int .i64 7, .pointer (some ⟨g12, 0, none⟩), undef, .int .i64 7] := by rw [hvs.out]
                rw [ev]
                clear ev
                simp only [drFrame, List.setIfInBounds_toArray, List.set_cons_succ, List.set_cons_zero]
                have b6 := hb 6 (by decide)
                have b10 := hb 10 (by decide)
                have b11 := hb 11 (by decide)
                simp only [b6, b10, b11, if_true, List.cons_append, List.nil_append] at K
                clear b6 b10 b11 hb hJ hvs
                obtain ⟨K, HQ⟩ := K
                replace HQ := HQ trivial
                obtain rfl : hs5 = [] := List.eq_nil_of_length_eq_zero (by have h1 := congrArg List.length HQ.out; rw [lnsOf_len] at h1; exact h1)
                go_wp2_with (first
                  | go_big_skip
                  | ((with_reducible show wpList _ _ _ _ _ _); refine kgLoad1 (by rfl) 22 _ (by rfl) _ Tryd.underlying22 rfl K (by rfl) (by repeat (first | exact List.mem_cons_self | refine List.mem_cons_of_mem _ ?_)) (by rfl) ?_))
                go_roundw
                case rel => exact ⟨k + 1, D, on1, off1, hs', A', c', by have := HLT.out; omega, by go_num, HT', HM, HC, HO, hid (K.out.less (by repeat (first | exact List.Sublist.slnil | refine List.Sublist.cons_cons _ ?_ | refine List.Sublist.cons _ ?_)) (by simp))⟩
                case measure => simp [intOf]; have := HLT.out; omega
            · have TS := hid hT1
              have MU := hid hT2
              have CU := hid (hT3.trans HC.out)
              have OKU := hid (OkD.turnedS (s := ⟨D, ⟨al, aa⟩, ⟨fl, fa⟩, on1, off1⟩) (t := ⟨U, ⟨al, aa⟩, ⟨fl, fa⟩, on2, off2⟩) OKM.out hT2 hT3)
              have NE := hid (show U ≠ D from hT4)
              have HU := hid (show ∀ j : Nat, (j < f ∨ t < j) → U[j]? = (lnsOf hs)[j]? from fun j hj => by
                have e1 := span_same (s := ⟨lnsOf hs, ⟨al, aa⟩, ⟨fl, fa⟩, on, off⟩) (t := ⟨D, ⟨al, aa⟩, ⟨fl, fa⟩, on1, off1⟩) rfl rfl
                rw [HP.out, HQ.out] at e1
                rw [hT5 j (by rw [e1.1, e1.2]; dsimp only; omega)]
                exact HO.out j hj)
              clear hT1 hT2 hT3 hT4 hT5
              obtain ⟨vs, hvs⟩ : ∃ vs : DocG → List Value, vs = fun ⟨A5, c5, hs5, g12⟩ => [.agg #[.slice A' hs'.length c', .int .i64 al, .int .i64 aa, .int .i64 fl, .int .i64 fa, .int .i64 on1, .int .i64 off1], .slice (some ad0) dos.length dc, .int .i64 (k : Int), .pointer (some (ad0.add k)), .int .i64 x0, .int .i64 kd, .tuple #[.agg #[.slice A5 hs5.length c5, .int .i64 al, .int .i64 aa, .int .i64 fl, .int .i64 fa, .int .i64 on2, .int .i64 off2], .int .i64 0], .tuple #[.agg #[.slice A5 hs5.length c5, .int .i64 al, .int .i64 aa, .int .i64 fl, .int .i64 fa, .int .i64 on2, .int .i64 off2], .int .i64 0], .agg #[.slice A5 hs5.length c5, .int .i64 al, .int .i64 aa, .int .i64 fl, .int .i64 fa, .int .i64 on2, .int .i64 off2], .int .i64 0, .pointer (some ⟨g12, 0, none⟩), undef, .int .i64 0] := ⟨_, rfl⟩
              replace hvs := hid hvs
              obtain ⟨J, hJ⟩ : ∃ J : DocG → (Nat → Bool) → World → Prop, J = fun ⟨A5, c5, hs5, g12⟩ b W => Hid (KG w W ((if b 10 then [(⟨g12, 26, if b 11 then [.slice A5 hs5.length c5, .int .i64 al, .int .i64 aa, .int .i64 fl, .int .i64 fa, .int .i64 on2, .int .i64 off2] else [.slice none 0 0, .int .i64 0, .int .i64 0, .int .i64 0, .int .i64 0, .int .i64 0, .int .i64 0]⟩ : BoxG)] else []) ++ [⟨g9, 26, [.slice A' hs'.length c', .int .i64 al, .int .i64 aa, .int .i64 fl, .int .i64 fa, .int .i64 on1, .int .i64 off1]⟩, ⟨g8, 24, [.int .i64 (t : Int), .int .i64 qa]⟩, ⟨g7, 24, [.int .i64 (f : Int), .int .i64 pa]⟩, ⟨g3, 26, [.slice A hs.length c, .int .i64 al, .int .i64 aa, .int .i64 fl, .int .i64 fa, .int .i64 on, .int .i64 off]⟩]) (if b 6 then [⟨hs5, A5, true⟩, ⟨hs', A', true⟩, ⟨hs, A, false⟩] else [⟨hs', A', true⟩, ⟨hs, A, false⟩])) ∧ (b 6 = true → Hid (lnsOf hs5 = U)) := ⟨_, rfl⟩
              replace hJ := hid hJ
              refine wp_drawn_dep vs (by kernel_rfl) (by kernel_rfl) (by rw [hvs.out]; exact fun _ => rfl) J ⟨none, 0, [], 0⟩ (by rw [hJ.out]; exact ⟨hid (K.out.quiet ⟨1, rfl⟩), fun h => by cases h⟩) ?step ?fin
              case step =>
                clear K
                intro i o x b W ho hb hw hc K
                obtain ⟨A5, c5, hs5, g12⟩ := x
                rw [hJ.out] at K
                dsimp only at K
                have ev : vs ⟨A5, c5, hs5, g12⟩ = [.agg #[.slice A' hs'.length c', .int .i64 al, .int .i64 aa, .int .i64 fl, .int .i64 fa, .int .i64 on1, .int .i64 off1], .slice (some ad0) dos.length dc, .int .i64 (k : Int), .pointer (some (ad0.add k)), .int .i64 x0, .int .i64 kd, .tuple #[.agg #[.slice A5 hs5.length c5, .int .i64 al, .int .i64 aa, .int .i64 fl, .int .i64 fa, .int .i64 on2, .int .i64 off2], .int .i64 0], .tuple #[.agg #[.slice A5 hs5.length c5, .int .i64 al, .int .i64 aa, .int .i64 fl, .int .i64 fa, .int .i64 on2, .int .i64 off2], .int .i64 0], .agg #[.slice A5 hs5.length c5, .int .i64 al, .int .i64 aa, .int .i64 fl, .int .i64 fa, .int .i64 on2, .int .i64 off2], .int .i64 0, .pointer (some ⟨g12, 0, none⟩), undef, .int .i64 0] := by rw [hvs.out]
                rw [ev]
                replace ev := hid ev
                simp only [drFrame, List.setIfInBounds_toArray, List.set_cons_succ, List.set_cons_zero]
                obtain ⟨K, HQ⟩ := K
                replace HQ := hid HQ
                rcases i with _ | i
                · obtain rfl := Option.some.inj ho
                  replace hb := hid hb
                  replace hc := hid hc
                  clear ho hw
                  go_wp2_with (first
                    | go_big_skip
                    | ((with_reducible show wpList _ _ _ _ _ _); refine kgLoadA (by rfl) 26 _ (by rfl) 7 _ Tryd.underlying26 rfl (by kernel_rfl) K (by rfl) (by repeat (first | exact List.mem_cons_self | refine List.mem_cons_of_mem _ ?_ | refine List.mem_append_right _ ?_)) (part := [_, _, _, _, _, _, _]) (by rfl) (by rfl) ?_))
                  refine ⟨rfl, ⟨A5, c5, hs5, g12⟩, by rw [ev.out]; rfl, (by intro j _; rw [ev.out]), ?_⟩
                  rw [hJ.out]
                  exact ⟨K, HQ.out⟩
                rcases i with _ | i
                · obtain rfl := Option.some.inj ho
                  replace hb := hid hb
                  replace hc := hid hc
                  clear ho hw
                  go_wp2_with (first
                    | fail)
                  refine ⟨rfl, ⟨A5, c5, hs5, g12⟩, by rw [ev.out]; rfl, (by intro j _; rw [ev.out]), ?_⟩
                  rw [hJ.out]
                  exact ⟨K, HQ.out⟩
                rcases i with _ | i
                · obtain rfl := Option.some.inj ho
                  replace hb := hid hb
                  replace hc := hid hc
                  clear ho hw
                  go_wp2_with (first
                    | fail)
                  refine ⟨rfl, ⟨A5, c5, hs5, g12⟩, by rw [ev.out]; rfl, (by intro j _; rw [ev.out]), ?_⟩
                  rw [hJ.out]
                  exact ⟨K, HQ.out⟩
                rcases i with _ | i
                · obtain rfl := Option.some.inj ho
                  replace hb := hid hb
                  replace hc := hid hc
                  clear ho hw
                  go_wp2_with (first
                    | fail)
                  refine ⟨rfl, ⟨A5, c5, hs5, g12⟩, by rw [ev.out]; rfl, (by intro j _; rw [ev.out]), ?_⟩
                  rw [hJ.out]
                  exact ⟨K, HQ.out⟩
                rcases i with _ | i
                · obtain rfl := Option.some.inj ho
                  have hcell := stayCell (DD.out.below K.out.b) HX0.out
                  replace hb := hid hb
                  replace hc := hid hc
                  clear ho hw
                  go_wp2_with (first
                    | fail)
                  refine ⟨rfl, ⟨A5, c5, hs5, g12⟩, by rw [ev.out]; rfl, (by intro j _; rw [ev.out]), ?_⟩
                  rw [hJ.out]
                  exact ⟨K, HQ.out⟩
                rcases i with _ | i
                · obtain rfl := Option.some.inj ho
                  replace hb := hid hb
                  replace hc := hid hc
                  clear ho hw
                  go_wp2_with (first
                    | fail)
                  refine ⟨rfl, ⟨A5, c5, hs5, g12⟩, by rw [ev.out]; rfl, (by intro j _; rw [ev.out]), ?_⟩
                  rw [hJ.out]
                  exact ⟨K, HQ.out⟩
                rcases i with _ | i
                · obtain rfl := Option.some.inj ho
                  replace hb : b 6 = false := hb
                  simp only [hb, Bool.false_eq_true, if_false] at K
                  replace hb := hid hb
                  replace hc := hid hc
                  clear ho hw
                  go_wp2_with (first
                    | go_big_skip
                    | (go_at_call 13; (with_reducible refine (turn25_any hs' A' _ c' _ rfl _ (K.out.at_ (d := ⟨hs', A', true⟩) (by simp)) (OkD.hs HT'.out OKM.out).1 (OkD.hs HT'.out OKM.out).2.1 (OkD.hs HT'.out OKM.out).2.2 (Utf8Tabs_below T.out K.out.b) al aa fl fa on1 off1 x0 kd).mono ?_); rintro e W5 hc2; unfold RetStE at hc2; rw [HT'.out, TS.out] at hc2; obtain ⟨A6, n6, c6, hs6, rfl, q1, q2, q3, ho, hb3⟩ := hc2; dsimp only at q3; unfold stV; dsimp only; (obtain rfl : n6 = hs6.length := q1); (have Q6 := hid q3); (have K2 := hid (K.out.addW hb3 ho)); clear q2 q3 ho hb3 K; (have K := K2); clear K2))
                  refine ⟨rfl, ⟨A6, c6, hs6, g12⟩, ?_, ?_, ?_⟩
                  · rw [hvs.out]; rfl
                  · intro j hj
                    rw [hvs.out]
                    rcases j with _ | _ | _ | _ | _ | _ | _ | _ | _ | _ | _ | _ | _ | j <;> first | rfl | (rw [hb.out] at hj; cases hj) | exact absurd (hc.out _ 6 (by decide +kernel) hj) (by rw [hb.out]; simp) | exact absurd (hc.out _ 6 (by decide +kernel) (hc.out _ 7 (by decide +kernel) hj)) (by rw [hb.out]; simp) | exact absurd (hc.out _ 6 (by decide +kernel) (hc.out _ 7 (by decide +kernel) (hc.out _ 8 (by decide +kernel) hj))) (by rw [hb.out]; simp)
                  · rw [hJ.out]
                    have e11 : b 11 = false := by
                      cases h : b 11 with
                      | false => rfl
                      | true => exact absurd (hc.out 7 6 (by kernel_rfl) (hc.out 8 7 (by kernel_rfl) (hc.out 11 8 (by kernel_rfl) h))) (by rw [hb.out]; simp)
                    refine ⟨?_, fun _ => Q6⟩
                    have u10 : bitUp b (0 + 1 + 1 + 1 + 1 + 1 + 1) 10 = b 10 := rfl
                    have u11 : bitUp b (0 + 1 + 1 + 1 + 1 + 1 + 1) 11 = false := e11
                    have u6 : bitUp b (0 + 1 + 1 + 1 + 1 + 1 + 1) 6 = true := rfl
                    dsimp only
                    rw [e11] at K
                    rw [u10, u11, u6]
                    exact K
                rcases i with _ | i
                · obtain rfl := Option.some.inj ho
                  replace hb := hid hb
                  replace hc := hid hc
                  clear ho hw
                  go_wp2_with (first
                    | fail)
                  refine ⟨rfl, ⟨A5, c5, hs5, g12⟩, by rw [ev.out]; rfl, (by intro j _; rw [ev.out]), ?_⟩
                  rw [hJ.out]
                  exact ⟨K, HQ.out⟩
                rcases i with _ | i
                · obtain rfl := Option.some.inj ho
                  replace hb := hid hb
                  replace hc := hid hc
                  clear ho hw
                  go_wp2_with (first
                    | fail)
                  refine ⟨rfl, ⟨A5, c5, hs5, g12⟩, by rw [ev.out]; rfl, (by intro j _; rw [ev.out]), ?_⟩
                  rw [hJ.out]
                  exact ⟨K, HQ.out⟩
                rcases i with _ | i
                · obtain rfl := Option.some.inj ho
                  replace hb := hid hb
                  replace hc := hid hc
                  clear ho hw
                  go_wp2_with (first
                    | fail)
                  refine ⟨rfl, ⟨A5, c5, hs5, g12⟩, by rw [ev.out]; rfl, (by intro j _; rw [ev.out]), ?_⟩
                  rw [hJ.out]
                  exact ⟨K, HQ.out⟩
                rcases i with _ | i
                · obtain rfl := Option.some.inj ho
                  replace hb : b 10 = false := hb
                  simp only [hb, Bool.false_eq_true, if_false, List.nil_append] at K
                  replace hb := hid hb
                  replace hc := hid hc
                  clear ho hw
                  go_wp2_with (first
                    | go_big_skip
                    | ((with_reducible show wpList _ _ _ _ _ _); refine kgAlloc (by rfl) 26 (by rfl) (some 12) (by rfl) [.slice none 0 0, .int .i64 0, .int .i64 0, .int .i64 0, .int .i64 0, .int .i64 0, .int .i64 0] (fun _ => by kernel_rfl) K ?_; intro g6 V1 K1; clear K; (have K := K1); clear K1))
                  refine ⟨rfl, ⟨A5, c5, hs5, g6⟩, ?_, ?_, ?_⟩
                  · rw [hvs.out]; rfl
                  · intro j hj
                    rw [hvs.out]
                    rcases j with _ | _ | _ | _ | _ | _ | _ | _ | _ | _ | _ | _ | _ | j <;> first | rfl | (rw [hb.out] at hj; cases hj) | exact absurd (hc.out _ 10 (by decide +kernel) hj) (by rw [hb.out]; simp) | exact absurd (hc.out _ 10 (by decide +kernel) (hc.out _ 7 (by decide +kernel) hj)) (by rw [hb.out]; simp) | exact absurd (hc.out _ 10 (by decide +kernel) (hc.out _ 7 (by decide +kernel) (hc.out _ 8 (by decide +kernel) hj))) (by rw [hb.out]; simp)
                  · rw [hJ.out]
                    have e11 : b 11 = false := by
                      cases h : b 11 with
                      | false => rfl
                      | true => exact absurd (hc.out 11 10 (by kernel_rfl) h) (by rw [hb.out]; simp)
                    refine ⟨?_, HQ.out⟩
                    have u10 : bitUp b (0 + 1 + 1 + 1 + 1 + 1 + 1 + 1 + 1 + 1 + 1) 10 = true := rfl
                    have u11 : bitUp b (0 + 1 + 1 + 1 + 1 + 1 + 1 + 1 + 1 + 1 + 1) 11 = false := e11
                    have u6 : bitUp b (0 + 1 + 1 + 1 + 1 + 1 + 1 + 1 + 1 + 1 + 1) 6 = b 6 := rfl
                    dsimp only
                    rw [u10, u11, u6]
                    exact K
                rcases i with _ | i
                · obtain rfl := Option.some.inj ho
                  replace hb : b 11 = false := hb
                  have b10 : b 10 = true := hw 10 (by kernel_rfl)
                  simp only [hb, b10, Bool.false_eq_true, if_false, if_true, List.cons_append, List.nil_append] at K
                  replace hb := hid hb
                  replace hc := hid hc
                  replace b10 := hid b10
                  clear ho hw
                  go_wp2_with (first
                    | go_big_skip
                    | ((with_reducible show wpList _ _ _ _ _ _); refine kgStore (by rfl) 26 (.tmp 12) _ (by rfl) 7 (by kernel_rfl) [] (by exact K) (by rfl) (by rfl) [_, _, _, _, _, _, _] (by rfl) (by rfl) (by simp) (by simp [Value.oneCell']) (cs := [_, _, _, _, _, _, _]) (by rfl) ?_; intro V2 K1; (dsimp only [List.cons_append, List.nil_append] at K1); clear K; (have K := K1); clear K1))
                  refine ⟨rfl, ⟨A5, c5, hs5, g12⟩, trivial, (by intro j _; rw [ev.out]), ?_⟩
                  rw [hJ.out]
                  refine ⟨?_, HQ.out⟩
                  have u10 : bitUp b (0 + 1 + 1 + 1 + 1 + 1 + 1 + 1 + 1 + 1 + 1 + 1) 10 = true := b10.out
                  have u11 : bitUp b (0 + 1 + 1 + 1 + 1 + 1 + 1 + 1 + 1 + 1 + 1 + 1) 11 = true := rfl
                  have u6 : bitUp b (0 + 1 + 1 + 1 + 1 + 1 + 1 + 1 + 1 + 1 + 1 + 1) 6 = b 6 := rfl
                  dsimp only
                  rw [u10, u11, u6]
                  exact K
                rcases i with _ | i
                · obtain rfl := Option.some.inj ho
                  replace hb := hid hb
                  replace hc := hid hc
                  clear ho hw
                  go_wp2_with (first
                    | fail)
                  refine ⟨rfl, ⟨A5, c5, hs5, g12⟩, by rw [ev.out]; rfl, (by intro j _; rw [ev.out]), ?_⟩
                  rw [hJ.out]
                  exact ⟨K, HQ.out⟩
                · cases ho
              case fin =>
                clear K
                intro x b W hb K
                obtain ⟨A5, c5, hs5, g12⟩ := x
                rw [hJ.out] at K
                dsimp only at K
                have ev : vs ⟨A5, c5, hs5, g12⟩ = [.agg #[.slice A' hs'.length c', .int .i64 al, .int .i64 aa, .int .i64 fl, .int .i64 fa, .int .i64 on1, .int .i64 off1], .slice (some ad0) dos.length dc, .int .i64 (k : Int), .pointer (some (ad0.add k)), .int .i64 x0, .int .i64 kd, .tuple #[.agg #[.slice A5 hs5.length c5, .int .i64 al, .int .i64 aa, .int .i64 fl, .int .i64 fa, .int .i64 on2, .int .i64 off2], .int .i64 0], .tuple #[.agg #[.slice A5 hs5.length c5, .int .i64 al, .int .i64 aa, .int .i64 fl, .int .i64 fa, .int .i64 on2, .int .i64 off2], .int .i64 0], .agg #[.slice A5 hs5.length c5, .int .i64 al, .int .i64 aa, .int .i64 fl, .int .i64 fa, .int .i64 on2, .int .i64 off2], .int .i64 0, .pointer (some ⟨g12, 0, none⟩), undef, .int .i64 0] := by rw [hvs.out]
                rw [ev]
                clear ev
                simp only [drFrame, List.setIfInBounds_toArray, List.set_cons_succ, List.set_cons_zero]
                have b6 := hb 6 (by decide)
                have b10 := hb 10 (by decide)
                have b11 := hb 11 (by decide)
                simp only [b6, b10, b11, if_true, List.cons_append, List.nil_append] at K
                clear b6 b10 b11 hb hJ hvs
                obtain ⟨K, HQ⟩ := K
                replace HQ := HQ trivial
                have n5 : hs5.length = hs.length := by have h1 := congrArg List.length HQ.out; have h2 := csD_len CU.out; rw [lnsOf_len] at h1 h2; omega
                have n5b : ((hs5.length : Int) != (hs.length : Int)) = false := bne_eq_false_iff_eq.2 (by omega)
                have N5 := hid n5
                clear n5
                go_wp2_with (first
                  | go_big_skip
                  | ((with_reducible show wpList _ _ _ _ _ _); refine kgLoadA (by rfl) 26 _ (by rfl) 7 _ Tryd.underlying26 rfl (by kernel_rfl) K (by rfl) (by repeat (first | exact List.mem_cons_self | refine List.mem_cons_of_mem _ ?_)) (part := [_, _, _, _, _, _, _]) (by rfl) (by rfl) ?_)
                  | ((with_reducible show wpList _ _ _ _ _ _); refine kgLoad1 (by rfl) 22 _ (by rfl) _ Tryd.underlying22 rfl K (by rfl) (by repeat (first | exact List.mem_cons_self | refine List.mem_cons_of_mem _ ?_)) (by rfl) ?_)
                  | ((with_reducible show wpList _ _ _ _ _ _); refine kgLoadA (by rfl) 24 _ (by rfl) 2 _ Tryd.underlying24 rfl (by kernel_rfl) K (by rfl) (by repeat (first | exact List.mem_cons_self | refine List.mem_cons_of_mem _ ?_)) (part := [_, _]) (by rfl) (by rfl) ?_)
                  | (go_at_call 8; (with_reducible refine (tMay_any hs5 A5 _ c5 _ rfl _ (K.out.at_ (d := ⟨hs5, A5, true⟩) (by simp)) (OkD.hs HQ.out OKU.out).1 (OkD.hs HQ.out OKU.out).2.1 (OkD.hs HQ.out OKU.out).2.2 (Utf8Tabs_below T.out K.out.b) al aa fl fa on2 off2).mono ?_); rintro e W6 ⟨rfl, hb⟩; rw [HQ.out, MU.out]; (have K2 := hid (K.out.later hb)); clear hb K; (have K := K2); clear K2)
                  | (go_at_call 20; (with_reducible refine (tSame_no hs5 hs' A5 A' _ _ c5 c' _ _ rfl rfl _ (K.out.at_ (d := ⟨hs5, A5, true⟩) (by simp)) (K.out.at_ (d := ⟨hs', A', true⟩) (by simp)) (OkD.hs HQ.out OKU.out).1 (OkD.hs HQ.out OKU.out).2.1 al aa fl fa on2 off2 al aa fl fa on1 off1 (by rw [HQ.out, HT'.out]; exact NE.out)).mono ?_); rintro e W7 ⟨rfl, hb⟩; (have K2 := hid (K.out.later hb)); clear hb K; (have K := K2); clear K2))
                go_loopw [14] (fun i wr => ∃ (j : Nat), j ≤ hs.length ∧ i = .int .i64 (j : Int) ∧ Hid (KG w wr [⟨g12, 26, [.slice A5 hs5.length c5, .int .i64 al, .int .i64 aa, .int .i64 fl, .int .i64 fa, .int .i64 on2, .int .i64 off2]⟩, ⟨g9, 26, [.slice A' hs'.length c', .int .i64 al, .int .i64 aa, .int .i64 fl, .int .i64 fa, .int .i64 on1, .int .i64 off1]⟩, ⟨g8, 24, [.int .i64 (t : Int), .int .i64 qa]⟩, ⟨g7, 24, [.int .i64 (f : Int), .int .i64 pa]⟩, ⟨g3, 26, [.slice A hs.length c, .int .i64 al, .int .i64 aa, .int .i64 fl, .int .i64 fa, .int .i64 on, .int .i64 off]⟩] [⟨hs5, A5, true⟩, ⟨hs', A', true⟩, ⟨hs, A, false⟩])) (fun i _ => hs.length - (intOf i).toNat)
                case atStart => exact ⟨0, Nat.zero_le _, rfl, K⟩
                case round =>
                  clear K
                  obtain ⟨j, hj2, rfl, K⟩ := hrel
                  have hj9 : (j : Int) ≤ 1000000000000000 := by have := L0.out; omega
                  by_cases hjl : j < hs.length
                  · have hi1 : (j : Int) < (hs.length : Int) := by omega
                    have hi2 : (j : Int) < (hs5.length : Int) := by rw [N5.out]; omega
                    obtain ⟨ad, x, rfl, -, hx, -⟩ := (K.out.at_ (d := ⟨hs, A, false⟩) (by simp)).row.atH hjl
                    obtain ⟨ad5, y, rfl, -, hy, -⟩ := (K.out.at_ (d := ⟨hs5, A5, true⟩) (by simp)).row.atH (show j < hs5.length by rw [N5.out]; exact hjl)
                    have HX := hid hx
                    have HY := hid hy
                    have UJ := hid (show U[j]? = some y.l by have h1 := lnsOf_get hy; rwa [HQ.out] at h1)
                    have YC := hid (show y.l.cs = x.l.cs by
                      obtain ⟨m, hm1, hm2⟩ := csD_get CU.out (lnsOf_get hx)
                      have h3 : y.l = m := Option.some.inj (UJ.out.symm.trans hm1)
                      rw [h3, hm2])
                    have YX := hid (show (j < f ∨ t < j) → y.l = x.l from fun h => Option.some.inj (UJ.out.symm.trans ((HU.out j h).trans (lnsOf_get hx))))
                    have Y9 := hid ((OkD.hs HQ.out OKU.out).2.1 y (List.mem_of_getElem? hy))
                    have HJL := hid hjl
                    clear hx hy hjl
                    by_cases c1 : j < f
                    · have d1 : decide ((j : Int) < (f : Int)) = true := decide_eq_true (by omega)
                      have YE := hid (YX.out (.inl c1))
                      clear YX
                      have e1 : (j : Int) < (f : Int) := by omega
                      go_upto_region 20 with (first
                        | go_big_skip
                        | ((with_reducible show wpList _ _ _ _ _ _); refine kgLoad1 (by rfl) 22 _ (by rfl) _ Tryd.underlying22 rfl K (by rfl) (by repeat (first | exact List.mem_cons_self | refine List.mem_cons_of_mem _ ?_)) (by rfl) ?_))
                      obtain ⟨J, hJ⟩ : ∃ J : (Nat → Bool) → World → Prop, J = fun _ W => Hid (KG w W [⟨g12, 26, [.slice (some ad5) hs5.length c5, .int .i64 al, .int .i64 aa, .int .i64 fl, .int .i64 fa, .int .i64 on2, .int .i64 off2]⟩, ⟨g9, 26, [.slice A' hs'.length c', .int .i64 al, .int .i64 aa, .int .i64 fl, .int .i64 fa, .int .i64 on1, .int .i64 off1]⟩, ⟨g8, 24, [.int .i64 (t : Int), .int .i64 qa]⟩, ⟨g7, 24, [.int .i64 (f : Int), .int .i64 pa]⟩, ⟨g3, 26, [.slice (some ad) hs.length c, .int .i64 al, .int .i64 aa, .int .i64 fl, .int .i64 fa, .int .i64 on, .int .i64 off]⟩] [⟨hs5, (some ad5), true⟩, ⟨hs', A', true⟩, ⟨hs, some ad, false⟩]) := ⟨_, rfl⟩
                      replace hJ := hid hJ
                      refine wp_drawn2_det [.pointer (some ⟨g12, 0, none⟩), .slice (some ad5) hs5.length c5, .int .i64 (j : Int), .pointer (some (ad5.add (j * 4))), .pointer (some ⟨(ad5.add (j * 4)).block, (ad5.add (j * 4)).off + 3, none⟩), .slice y.B y.l.cs.length y.d, .pointer (some ⟨g3, 0, none⟩), .slice (some ad) hs.length c, .int .i64 (j : Int), .pointer (some (ad.add (j * 4))), .pointer (some ⟨(ad.add (j * 4)).block, (ad.add (j * 4)).off + 3, none⟩), .slice x.B x.l.cs.length x.d, .bool true, .bool false, .bool false, .int .i64 (j : Int), .pointer (some ⟨g7, 0, none⟩), .int .i64 (f : Int), .bool true, .bool true, (undef), (undef), (undef), (undef), .bool true, .bool true, .pointer (some ⟨g12, 0, none⟩), .slice (some ad5) hs5.length c5, .int .i64 (j : Int), .pointer (some (ad5.add (j * 4))), .agg #[.int .i64 y.l.q, .slice y.A y.l.ls.length y.c, .int .i64 y.l.k, .slice y.B y.l.cs.length y.d], .pointer (some ⟨g3, 0, none⟩), .slice (some ad) hs.length c, .int .i64 (j : Int), .pointer (some (ad.add (j * 4))), .agg #[.int .i64 x.l.q, .slice x.A x.l.ls.length x.c, .int .i64 x.l.k, .slice x.B x.l.cs.length x.d], .bool true, .bool false, .bool false, .bool false] (by kernel_rfl) (by kernel_rfl) rfl J (by rw [hJ.out]; exact hid (K.out.quiet ⟨1, rfl⟩)) ?step ?fin
                      case step =>
                        clear K
                        intro i o b W ho hb hw K
                        rw [hJ.out] at K
                        rcases i with _ | i
                        · obtain rfl := Option.some.inj ho
                          simp only [List.take_zero, drFrame]
                          clear ho hb hw
                          go_wp2_with (first
                            | fail)
                          refine ⟨rfl, rfl, ?_⟩
                          rw [hJ.out]
                          exact K
                        rcases i with _ | i
                        · obtain rfl := Option.some.inj ho
                          simp only [List.take_succ_cons, List.take_zero, drFrame, List.setIfInBounds_toArray, List.set_cons_succ, List.set_cons_zero]
                          clear ho hb hw
                          go_wp2_with (first
                            | go_big_skip
                            | ((with_reducible show wpList _ _ _ _ _ _); refine kgLoad1 (by rfl) 22 _ (by rfl) _ Tryd.underlying22 rfl K (by rfl) (by repeat (first | exact List.mem_cons_self | refine List.mem_cons_of_mem _ ?_)) (by rfl) ?_))
                          refine ⟨rfl, rfl, ?_⟩
                          rw [hJ.out]
                          exact K
                        rcases i with _ | i
                        · obtain rfl := Option.some.inj ho
                          simp only [List.take_succ_cons, List.take_zero, drFrame, List.setIfInBounds_toArray, List.set_cons_succ, List.set_cons_zero]
                          clear ho hb hw
                          go_wp2_with (first
                            | fail)
                          refine ⟨rfl, rfl, ?_⟩
                          rw [hJ.out]
                          exact K
                        rcases i with _ | i
                        · obtain rfl := Option.some.inj ho
                          simp only [List.take_succ_cons, List.take_zero, drFrame, List.setIfInBounds_toArray, List.set_cons_succ, List.set_cons_zero]
                          clear ho hb hw
                          go_wp2_with (first
                            | fail)
                          refine ⟨rfl, rfl, ?_⟩
                          rw [hJ.out]
                          exact K
                        rcases i with _ | i
                        · obtain rfl := Option.some.inj ho
                          simp only [List.take_succ_cons, List.take_zero, drFrame, List.setIfInBounds_toArray, List.set_cons_succ, List.set_cons_zero]
                          clear ho hb hw
                          go_wp2_with (first
                            | fail)
                          refine ⟨rfl, rfl, ?_⟩
                          rw [hJ.out]
                          exact K
                        rcases i with _ | i
                        · obtain rfl := Option.some.inj ho
                          simp only [List.take_succ_cons, List.take_zero, drFrame, List.setIfInBounds_toArray, List.set_cons_succ, List.set_cons_zero]
                          clear ho hb hw
                          go_wp2_with (first
                            | go_big_skip
                            | ((with_reducible show wpList _ _ _ _ _ _); refine kgElem1 (by rfl) 42 _ (by rfl) _ Tryd.underlying42 rfl K (by rfl) (by repeat (first | exact List.mem_cons_self | refine List.mem_cons_of_mem _ ?_)) HY.out (by decide) (by rfl) ?_))
                          refine ⟨rfl, rfl, ?_⟩
                          rw [hJ.out]
                          exact K
                        rcases i with _ | i
                        · obtain rfl := Option.some.inj ho
                          simp only [List.take_succ_cons, List.take_zero, drFrame, List.setIfInBounds_toArray, List.set_cons_succ, List.set_cons_zero]
                          clear ho hb hw
                          go_wp2_with (first
                            | fail)
                          refine ⟨rfl, rfl, ?_⟩
                          rw [hJ.out]
                          exact K
                        rcases i with _ | i
                        · obtain rfl := Option.some.inj ho
                          simp only [List.take_succ_cons, List.take_zero, drFrame, List.setIfInBounds_toArray, List.set_cons_succ, List.set_cons_zero]
                          clear ho hb hw
                          go_wp2_with (first
                            | go_big_skip
                            | ((with_reducible show wpList _ _ _ _ _ _); refine kgLoad1 (by rfl) 22 _ (by rfl) _ Tryd.underlying22 rfl K (by rfl) (by repeat (first | exact List.mem_cons_self | refine List.mem_cons_of_mem _ ?_)) (by rfl) ?_))
                          refine ⟨rfl, rfl, ?_⟩
                          rw [hJ.out]
                          exact K
                        rcases i with _ | i
                        · obtain rfl := Option.some.inj ho
                          simp only [List.take_succ_cons, List.take_zero, drFrame, List.setIfInBounds_toArray, List.set_cons_succ, List.set_cons_zero]
                          clear ho hb hw
                          go_wp2_with (first
                            | fail)
                          refine ⟨rfl, rfl, ?_⟩
                          rw [hJ.out]
                          exact K
                        rcases i with _ | i
                        · obtain rfl := Option.some.inj ho
                          simp only [List.take_succ_cons, List.take_zero, drFrame, List.setIfInBounds_toArray, List.set_cons_succ, List.set_cons_zero]
                          clear ho hb hw
                          go_wp2_with (first
                            | fail)
                          refine ⟨rfl, rfl, ?_⟩
                          rw [hJ.out]
                          exact K
                        rcases i with _ | i
                        · obtain rfl := Option.some.inj ho
                          simp only [List.take_succ_cons, List.take_zero, drFrame, List.setIfInBounds_toArray, List.set_cons_succ, List.set_cons_zero]
                          clear ho hb hw
                          go_wp2_with (first
                            | fail)
                          refine ⟨rfl, rfl, ?_⟩
                          rw [hJ.out]
                          exact K
                        rcases i with _ | i
                        · obtain rfl := Option.some.inj ho
                          simp only [List.take_succ_cons, List.take_zero, drFrame, List.setIfInBounds_toArray, List.set_cons_succ, List.set_cons_zero]
                          clear ho hb hw
                          go_wp2_with (first
                            | go_big_skip
                            | ((with_reducible show wpList _ _ _ _ _ _); refine kgElem1 (by rfl) 42 _ (by rfl) _ Tryd.underlying42 rfl K (by rfl) (by repeat (first | exact List.mem_cons_self | refine List.mem_cons_of_mem _ ?_)) HX.out (by decide) (by rfl) ?_))
                          refine ⟨rfl, rfl, ?_⟩
                          rw [hJ.out]
                          exact K
                        rcases i with _ | i
                        · obtain rfl := Option.some.inj ho
                          simp only [List.take_succ_cons, List.take_zero, drFrame, List.setIfInBounds_toArray, List.set_cons_succ, List.set_cons_zero]
                          clear ho hb hw
                          go_wp2_with (first
                            | go_big_skip
                            | (go_at_call 21; (with_reducible refine (refSame_any y.B x.B y.l.cs x.l.cs _ _ y.d x.d _ _ rfl rfl _ ((K.out.at_ (d := ⟨hs5, some ad5, true⟩) (by simp)).ln HY.out).cs ((K.out.at_ (d := ⟨hs, some ad, false⟩) (by simp)).ln HX.out).cs (by have := Y9.out.2; omega)).mono ?_); rintro e w6 ⟨rfl, hq⟩; rw [decide_eq_true YC.out]; (have K2 := hid (K.out.quiet hq)); clear hq K; (have K := K2); clear K2))
                          refine ⟨rfl, rfl, ?_⟩
                          rw [hJ.out]
                          exact K
                        rcases i with _ | i
                        · obtain rfl := Option.some.inj ho
                          simp only [List.take_succ_cons, List.take_zero, drFrame, List.setIfInBounds_toArray, List.set_cons_succ, List.set_cons_zero]
                          clear ho hb hw
                          go_wp2_with (first
                            | fail)
                          refine ⟨rfl, rfl, ?_⟩
                          rw [hJ.out]
                          exact K
                        rcases i with _ | i
                        · obtain rfl := Option.some.inj ho
                          simp only [List.take_succ_cons, List.take_zero, drFrame, List.setIfInBounds_toArray, List.set_cons_succ, List.set_cons_zero]
                          clear ho hb hw
                          go_wp2_with (first
                            | fail)
                          refine ⟨rfl, rfl, ?_⟩
                          rw [hJ.out]
                          exact K
                        rcases i with _ | i
                        · obtain rfl := Option.some.inj ho
                          simp only [List.take_succ_cons, List.take_zero, drFrame, List.setIfInBounds_toArray, List.set_cons_succ, List.set_cons_zero]
                          clear ho hb hw
                          go_wp2_with (first
                            | fail)
                          refine ⟨rfl, rfl, ?_⟩
                          rw [hJ.out]
                          exact K
                        rcases i with _ | i
                        · obtain rfl := Option.some.inj ho
                          simp only [List.take_succ_cons, List.take_zero, drFrame, List.setIfInBounds_toArray, List.set_cons_succ, List.set_cons_zero]
                          clear ho hb hw
                          go_wp2_with (first
                            | fail)
                          refine ⟨rfl, rfl, ?_⟩
                          rw [hJ.out]
                          exact K
                        rcases i with _ | i
                        · obtain rfl := Option.some.inj ho
                          simp only [List.take_succ_cons, List.take_zero, drFrame, List.setIfInBounds_toArray, List.set_cons_succ, List.set_cons_zero]
                          clear ho hb hw
                          go_wp2_with (first
                            | go_big_skip
                            | ((with_reducible show wpList _ _ _ _ _ _); refine kgLoad1 (by rfl) 3 _ (by rfl) _ Tryd.underlying3 rfl K (by rfl) (by repeat (first | exact List.mem_cons_self | refine List.mem_cons_of_mem _ ?_)) (by rfl) ?_))
                          refine ⟨rfl, rfl, ?_⟩
                          rw [hJ.out]
                          exact K
                        rcases i with _ | i
                        · obtain rfl := Option.some.inj ho
                          simp only [List.take_succ_cons, List.take_zero, drFrame, List.setIfInBounds_toArray, List.set_cons_succ, List.set_cons_zero]
                          clear ho hb hw
                          go_wp2_with (first
                            | fail)
                          refine ⟨rfl, rfl, ?_⟩
                          rw [hJ.out]
                          exact K
                        rcases i with _ | i
                        · obtain rfl := Option.some.inj ho
                          simp only [List.take_succ_cons, List.take_zero, drFrame, List.setIfInBounds_toArray, List.set_cons_succ, List.set_cons_zero]
                          clear ho hb hw
                          go_wp2_with (first
                            | fail)
                          refine ⟨rfl, rfl, ?_⟩
                          rw [hJ.out]
                          exact K
                        rcases i with _ | i
                        · obtain rfl := Option.some.inj ho
                          simp only [List.take_succ_cons, List.take_zero, drFrame, List.setIfInBounds_toArray, List.set_cons_succ, List.set_cons_zero]
                          clear ho hb hw
                          go_wp2_with (first
                            | fail)
                          refine ⟨rfl, rfl, ?_⟩
                          rw [hJ.out]
                          exact K
                        rcases i with _ | i
                        · obtain rfl := Option.some.inj ho
                          simp only [List.take_succ_cons, List.take_zero, drFrame, List.setIfInBounds_toArray, List.set_cons_succ, List.set_cons_zero]
                          clear ho hb hw
                          go_wp2_with (first
                            | fail)
                          refine ⟨rfl, rfl, ?_⟩
                          rw [hJ.out]
                          exact K
                        rcases i with _ | i
                        · obtain rfl := Option.some.inj ho
                          simp only [List.take_succ_cons, List.take_zero, drFrame, List.setIfInBounds_toArray, List.set_cons_succ, List.set_cons_zero]
                          clear ho hb hw
                          go_wp2_with (first
                            | go_big_skip
                            | ((with_reducible show wpList _ _ _ _ _ _); refine kgLoad1 (by rfl) 3 _ (by rfl) _ Tryd.underlying3 rfl K (by rfl) (by repeat (first | exact List.mem_cons_self | refine List.mem_cons_of_mem _ ?_)) (by rfl) ?_))
                          refine ⟨rfl, rfl, ?_⟩
                          rw [hJ.out]
                          exact K
                        rcases i with _ | i
                        · obtain rfl := Option.some.inj ho
                          simp only [List.take_succ_cons, List.take_zero, drFrame, List.setIfInBounds_toArray, List.set_cons_succ, List.set_cons_zero]
                          clear ho hb hw
                          go_wp2_with (first
                            | fail)
                          refine ⟨rfl, rfl, ?_⟩
                          rw [hJ.out]
                          exact K
                        rcases i with _ | i
                        · obtain rfl := Option.some.inj ho
                          simp only [List.take_succ_cons, List.take_zero, drFrame, List.setIfInBounds_toArray, List.set_cons_succ, List.set_cons_zero]
                          clear ho hb hw
                          go_wp2_with (first
                            | fail)
                          refine ⟨rfl, rfl, ?_⟩
                          rw [hJ.out]
                          exact K
                        rcases i with _ | i
                        · obtain rfl := Option.some.inj ho
                          simp only [List.take_succ_cons, List.take_zero, drFrame, List.setIfInBounds_toArray, List.set_cons_succ, List.set_cons_zero]
                          clear ho hb hw
                          go_wp2_with (first
                            | fail)
                          refine ⟨rfl, rfl, ?_⟩
                          rw [hJ.out]
                          exact K
                        rcases i with _ | i
                        · obtain rfl := Option.some.inj ho
                          simp only [List.take_succ_cons, List.take_zero, drFrame, List.setIfInBounds_toArray, List.set_cons_succ, List.set_cons_zero]
                          clear ho hb hw
                          go_wp2_with (first
                            | fail)
                          refine ⟨rfl, rfl, ?_⟩
                          rw [hJ.out]
                          exact K
                        rcases i with _ | i
                        · obtain rfl := Option.some.inj ho
                          simp only [List.take_succ_cons, List.take_zero, drFrame, List.setIfInBounds_toArray, List.set_cons_succ, List.set_cons_zero]
                          clear ho hb hw
                          go_wp2_with (first
                            | go_big_skip
                            | ((with_reducible show wpList _ _ _ _ _ _); refine kgLoad1 (by rfl) 22 _ (by rfl) _ Tryd.underlying22 rfl K (by rfl) (by repeat (first | exact List.mem_cons_self | refine List.mem_cons_of_mem _ ?_)) (by rfl) ?_))
                          refine ⟨rfl, rfl, ?_⟩
                          rw [hJ.out]
                          exact K
                        rcases i with _ | i
                        · obtain rfl := Option.some.inj ho
                          simp only [List.take_succ_cons, List.take_zero, drFrame, List.setIfInBounds_toArray, List.set_cons_succ, List.set_cons_zero]
                          clear ho hb hw
                          go_wp2_with (first
                            | fail)
                          refine ⟨rfl, rfl, ?_⟩
                          rw [hJ.out]
                          exact K
                        rcases i with _ | i
                        · obtain rfl := Option.some.inj ho
                          simp only [List.take_succ_cons, List.take_zero, drFrame, List.setIfInBounds_toArray, List.set_cons_succ, List.set_cons_zero]
                          clear ho hb hw
                          go_wp2_with (first
                            | fail)
                          refine ⟨rfl, rfl, ?_⟩
                          rw [hJ.out]
                          exact K
                        rcases i with _ | i
                        · obtain rfl := Option.some.inj ho
                          simp only [List.take_succ_cons, List.take_zero, drFrame, List.setIfInBounds_toArray, List.set_cons_succ, List.set_cons_zero]
                          clear ho hb hw
                          go_wp2_with (first
                            | go_big_skip
                            | ((with_reducible show wpList _ _ _ _ _ _); refine kgElem (by rfl) 44 _ (by rfl) _ Tryd.underlying44 rfl (by kernel_rfl) K (by rfl) (by repeat (first | exact List.mem_cons_self | refine List.mem_cons_of_mem _ ?_)) HY.out ?_))
                          refine ⟨rfl, rfl, ?_⟩
                          rw [hJ.out]
                          exact K
                        rcases i with _ | i
                        · obtain rfl := Option.some.inj ho
                          simp only [List.take_succ_cons, List.take_zero, drFrame, List.setIfInBounds_toArray, List.set_cons_succ, List.set_cons_zero]
                          clear ho hb hw
                          go_wp2_with (first
                            | fail)
                          refine ⟨rfl, rfl, ?_⟩
                          rw [hJ.out]
                          exact K
                        rcases i with _ | i
                        · obtain rfl := Option.some.inj ho
                          simp only [List.take_succ_cons, List.take_zero, drFrame, List.setIfInBounds_toArray, List.set_cons_succ, List.set_cons_zero]
                          clear ho hb hw
                          go_wp2_with (first
                            | go_big_skip
                            | ((with_reducible show wpList _ _ _ _ _ _); refine kgLoad1 (by rfl) 22 _ (by rfl) _ Tryd.underlying22 rfl K (by rfl) (by repeat (first | exact List.mem_cons_self | refine List.mem_cons_of_mem _ ?_)) (by rfl) ?_))
                          refine ⟨rfl, rfl, ?_⟩
                          rw [hJ.out]
                          exact K
                        rcases i with _ | i
                        · obtain rfl := Option.some.inj ho
                          simp only [List.take_succ_cons, List.take_zero, drFrame, List.setIfInBounds_toArray, List.set_cons_succ, List.set_cons_zero]
                          clear ho hb hw
                          go_wp2_with (first
                            | fail)
                          refine ⟨rfl, rfl, ?_⟩
                          rw [hJ.out]
                          exact K
                        rcases i with _ | i
                        · obtain rfl := Option.some.inj ho
                          simp only [List.take_succ_cons, List.take_zero, drFrame, List.setIfInBounds_toArray, List.set_cons_succ, List.set_cons_zero]
                          clear ho hb hw
                          go_wp2_with (first
                            | fail)
                          refine ⟨rfl, rfl, ?_⟩
                          rw [hJ.out]
                          exact K
                        rcases i with _ | i
                        · obtain rfl := Option.some.inj ho
                          simp only [List.take_succ_cons, List.take_zero, drFrame, List.setIfInBounds_toArray, List.set_cons_succ, List.set_cons_zero]
                          clear ho hb hw
                          go_wp2_with (first
                            | go_big_skip
                            | ((with_reducible show wpList _ _ _ _ _ _); refine kgElem (by rfl) 44 _ (by rfl) _ Tryd.underlying44 rfl (by kernel_rfl) K (by rfl) (by repeat (first | exact List.mem_cons_self | refine List.mem_cons_of_mem _ ?_)) HX.out ?_))
                          refine ⟨rfl, rfl, ?_⟩
                          rw [hJ.out]
                          exact K
                        rcases i with _ | i
                        · obtain rfl := Option.some.inj ho
                          simp only [List.take_succ_cons, List.take_zero, drFrame, List.setIfInBounds_toArray, List.set_cons_succ, List.set_cons_zero]
                          clear ho hb hw
                          go_wp2_with (first
                            | go_big_skip
                            | (go_at_call 16; (with_reducible refine (lSame_any y.l x.l y.A _ y.c y.B _ y.d x.A _ x.c x.B _ x.d _ _ rfl rfl rfl rfl _ ((K.out.at_ (d := ⟨hs5, some ad5, true⟩) (by simp)).ln HY.out) ((K.out.at_ (d := ⟨hs, some ad, false⟩) (by simp)).ln HX.out) (by have := Y9.out.1; omega) (by have := Y9.out.2; omega)).mono ?_); rintro e W6 ⟨rfl, hb⟩; rw [decide_eq_true YE.out]; (have K2 := hid (K.out.later hb)); clear hb K; (have K := K2); clear K2))
                          refine ⟨rfl, rfl, ?_⟩
                          rw [hJ.out]
                          exact K
                        rcases i with _ | i
                        · obtain rfl := Option.some.inj ho
                          simp only [List.take_succ_cons, List.take_zero, drFrame, List.setIfInBounds_toArray, List.set_cons_succ, List.set_cons_zero]
                          clear ho hb hw
                          go_wp2_with (first
                            | fail)
                          refine ⟨rfl, rfl, ?_⟩
                          rw [hJ.out]
                          exact K
                        rcases i with _ | i
                        · obtain rfl := Option.some.inj ho
                          simp only [List.take_succ_cons, List.take_zero, drFrame, List.setIfInBounds_toArray, List.set_cons_succ, List.set_cons_zero]
                          clear ho hb hw
                          go_wp2_with (first
                            | fail)
                          refine ⟨rfl, rfl, ?_⟩
                          rw [hJ.out]
                          exact K
                        rcases i with _ | i
                        · obtain rfl := Option.some.inj ho
                          simp only [List.take_succ_cons, List.take_zero, drFrame, List.setIfInBounds_toArray, List.set_cons_succ, List.set_cons_zero]
                          clear ho hb hw
                          go_wp2_with (first
                            | fail)
                          refine ⟨rfl, rfl, ?_⟩
                          rw [hJ.out]
                          exact K
                        · cases ho
                      case fin =>
                        clear K
                        intro b W hb K
                        rw [hJ.out] at K
                        simp only [drFrame, List.setIfInBounds_toArray, List.set_cons_succ, List.set_cons_zero]
                        clear hb hJ
                        go_wp2_with (first
                          | fail)
                        go_roundw
                        case rel => exact ⟨j + 1, by have := HJL.out; omega, by go_num, K⟩
                        case measure => simp [intOf]; have := HJL.out; omega
                    · by_cases c2 : t < j
                      · have d1 : decide ((j : Int) < (f : Int)) = false := decide_eq_false (by omega)
                        have d2 : decide ((t : Int) < (j : Int)) = true := decide_eq_true (by omega)
                        have YE := hid (YX.out (.inr c2))
                        clear YX
                        have e1 : ¬ (j : Int) < (f : Int) := by omega
                        have e2 : (t : Int) < (j : Int) := by omega
                        go_upto_region 20 with (first
                          | go_big_skip
                          | ((with_reducible show wpList _ _ _ _ _ _); refine kgLoad1 (by rfl) 22 _ (by rfl) _ Tryd.underlying22 rfl K (by rfl) (by repeat (first | exact List.mem_cons_self | refine List.mem_cons_of_mem _ ?_)) (by rfl) ?_))
                        obtain ⟨J, hJ⟩ : ∃ J : (Nat → Bool) → World → Prop, J = fun _ W => Hid (KG w W [⟨g12, 26, [.slice (some ad5) hs5.length c5, .int .i64 al, .int .i64 aa, .int .i64 fl, .int .i64 fa, .int .i64 on2, .int .i64 off2]⟩, ⟨g9, 26, [.slice A' hs'.length c', .int .i64 al, .int .i64 aa, .int .i64 fl, .int .i64 fa, .int .i64 on1, .int .i64 off1]⟩, ⟨g8, 24, [.int .i64 (t : Int), .int .i64 qa]⟩, ⟨g7, 24, [.int .i64 (f : Int), .int .i64 pa]⟩, ⟨g3, 26, [.slice (some ad) hs.length c, .int .i64 al, .int .i64 aa, .int .i64 fl, .int .i64 fa, .int .i64 on, .int .i64 off]⟩] [⟨hs5, (some ad5), true⟩, ⟨hs', A', true⟩, ⟨hs, some ad, false⟩]) := ⟨_, rfl⟩
                        replace hJ := hid hJ
                        refine wp_drawn2_det [.pointer (some ⟨g12, 0, none⟩), .slice (some ad5) hs5.length c5, .int .i64 (j : Int), .pointer (some (ad5.add (j * 4))), .pointer (some ⟨(ad5.add (j * 4)).block, (ad5.add (j * 4)).off + 3, none⟩), .slice y.B y.l.cs.length y.d, .pointer (some ⟨g3, 0, none⟩), .slice (some ad) hs.length c, .int .i64 (j : Int), .pointer (some (ad.add (j * 4))), .pointer (some ⟨(ad.add (j * 4)).block, (ad.add (j * 4)).off + 3, none⟩), .slice x.B x.l.cs.length x.d, .bool true, .bool false, .bool false, .int .i64 (j : Int), .pointer (some ⟨g7, 0, none⟩), .int .i64 (f : Int), .bool false, .bool false, .int .i64 (j : Int), .pointer (some ⟨g8, 0, none⟩), .int .i64 (t : Int), .bool true, .bool true, .bool true, .pointer (some ⟨g12, 0, none⟩), .slice (some ad5) hs5.length c5, .int .i64 (j : Int), .pointer (some (ad5.add (j * 4))), .agg #[.int .i64 y.l.q, .slice y.A y.l.ls.length y.c, .int .i64 y.l.k, .slice y.B y.l.cs.length y.d], .pointer (some ⟨g3, 0, none⟩), .slice (some ad) hs.length c, .int .i64 (j : Int), .pointer (some (ad.add (j * 4))), .agg #[.int .i64 x.l.q, .slice x.A x.l.ls.length x.c, .int .i64 x.l.k, .slice x.B x.l.cs.length x.d], .bool true, .bool false, .bool false, .bool false] (by kernel_rfl) (by kernel_rfl) rfl J (by rw [hJ.out]; exact hid (K.out.quiet ⟨1, rfl⟩)) ?step ?fin
                        case step =>
                          clear K
                          intro i o b W ho hb hw K
                          rw [hJ.out] at K
                          rcases i with _ | i
                          · obtain rfl := Option.some.inj ho
                            simp only [List.take_zero, drFrame]
                            clear ho hb hw
                            go_wp2_with (first
                              | fail)
                            refine ⟨rfl, rfl, ?_⟩
                            rw [hJ.out]
                            exact K
                          rcases i with _ | i
                          · obtain rfl := Option.some.inj ho
                            simp only [List.take_succ_cons, List.take_zero, drFrame, List.setIfInBounds_toArray, List.set_cons_succ, List.set_cons_zero]
                            clear ho hb hw
                            go_wp2_with (first
                              | go_big_skip
                              | ((with_reducible show wpList _ _ _ _ _ _); refine kgLoad1 (by rfl) 22 _ (by rfl) _ Tryd.underlying22 rfl K (by rfl) (by repeat (first | exact List.mem_cons_self | refine List.mem_cons_of_mem _ ?_)) (by rfl) ?_))
                            refine ⟨rfl, rfl, ?_⟩
                            rw [hJ.out]
                            exact K
                          rcases i with _ | i
                          · obtain rfl := Option.some.inj ho
                            simp only [List.take_succ_cons, List.take_zero, drFrame, List.setIfInBounds_toArray, List.set_cons_succ, List.set_cons_zero]
                            clear ho hb hw
                            go_wp2_with (first
                              | fail)
                            refine ⟨rfl, rfl, ?_⟩
                            rw [hJ.out]
                            exact K
                          rcases i with _ | i
                          · obtain rfl := Option.some.inj ho
                            simp only [List.take_succ_cons, List.take_zero, drFrame, List.setIfInBounds_toArray, List.set_cons_succ, List.set_cons_zero]
                            clear ho hb hw
                            go_wp2_with (first
                              | fail)
                            refine ⟨rfl, rfl, ?_⟩
                            rw [hJ.out]
                            exact K
                          rcases i with _ | i
                          · obtain rfl := Option.some.inj ho
                            simp only [List.take_succ_cons, List.take_zero, drFrame, List.setIfInBounds_toArray, List.set_cons_succ, List.set_cons_zero]
                            clear ho hb hw
                            go_wp2_with (first
                              | fail)
                            refine ⟨rfl, rfl, ?_⟩
                            rw [hJ.out]
                            exact K
                          rcases i with _ | i
                          · obtain rfl := Option.some.inj ho
                            simp only [List.take_succ_cons, List.take_zero, drFrame, List.setIfInBounds_toArray, List.set_cons_succ, List.set_cons_zero]
                            clear ho hb hw
                            go_wp2_with (first
                              | go_big_skip
                              | ((with_reducible show wpList _ _ _ _ _ _); refine kgElem1 (by rfl) 42 _ (by rfl) _ Tryd.underlying42 rfl K (by rfl) (by repeat (first | exact List.mem_cons_self | refine List.mem_cons_of_mem _ ?_)) HY.out (by decide) (by rfl) ?_))
                            refine ⟨rfl, rfl, ?_⟩
                            rw [hJ.out]
                            exact K
                          rcases i with _ | i
                          · obtain rfl := Option.some.inj ho
                            simp only [List.take_succ_cons, List.take_zero, drFrame, List.setIfInBounds_toArray, List.set_cons_succ, List.set_cons_zero]
                            clear ho hb hw
                            go_wp2_with (first
                              | fail)
                            refine ⟨rfl, rfl, ?_⟩
                            rw [hJ.out]
                            exact K
                          rcases i with _ | i
                          · obtain rfl := Option.some.inj ho
                            simp only [List.take_succ_cons, List.take_zero, drFrame, List.setIfInBounds_toArray, List.set_cons_succ, List.set_cons_zero]
                            clear ho hb hw
                            go_wp2_with (first
                              | go_big_skip
                              | ((with_reducible show wpList _ _ _ _ _ _); refine kgLoad1 (by rfl) 22 _ (by rfl) _ Tryd.underlying22 rfl K (by rfl) (by repeat (first | exact List.mem_cons_self | refine List.mem_cons_of_mem _ ?_)) (by rfl) ?_))
                            refine ⟨rfl, rfl, ?_⟩
                            rw [hJ.out]
                            exact K
                          rcases i with _ | i
                          · obtain rfl := Option.some.inj ho
                            simp only [List.take_succ_cons, List.take_zero, drFrame, List.setIfInBounds_toArray, List.set_cons_succ, List.set_cons_zero]
                            clear ho hb hw
                            go_wp2_with (first
                              | fail)
                            refine ⟨rfl, rfl, ?_⟩
                            rw [hJ.out]
                            exact K
                          rcases i with _ | i
                          · obtain rfl := Option.some.inj ho
                            simp only [List.take_succ_cons, List.take_zero, drFrame, List.setIfInBounds_toArray, List.set_cons_succ, List.set_cons_zero]
                            clear ho hb hw
                            go_wp2_with (first
                              | fail)
                            refine ⟨rfl, rfl, ?_⟩
                            rw [hJ.out]
                            exact K
                          rcases i with _ | i
                          · obtain rfl := Option.some.inj ho
                            simp only [List.take_succ_cons, List.take_zero, drFrame, List.setIfInBounds_toArray, List.set_cons_succ, List.set_cons_zero]
                            clear ho hb hw
                            go_wp2_with (first
                              | fail)
                            refine ⟨rfl, rfl, ?_⟩
                            rw [hJ.out]
                            exact K
                          rcases i with _ | i
                          · obtain rfl := Option.some.inj ho
                            simp only [List.take_succ_cons, List.take_zero, drFrame, List.setIfInBounds_toArray, List.set_cons_succ, List.set_cons_zero]
                            clear ho hb hw
                            go_wp2_with (first
                              | go_big_skip
                              | ((with_reducible show wpList _ _ _ _ _ _); refine kgElem1 (by rfl) 42 _ (by rfl) _ Tryd.underlying42 rfl K (by rfl) (by repeat (first | exact List.mem_cons_self | refine List.mem_cons_of_mem _ ?_)) HX.out (by decide) (by rfl) ?_))
                            refine ⟨rfl, rfl, ?_⟩
                            rw [hJ.out]
                            exact K
                          rcases i with _ | i
                          · obtain rfl := Option.some.inj ho
                            simp only [List.take_succ_cons, List.take_zero, drFrame, List.setIfInBounds_toArray, List.set_cons_succ, List.set_cons_zero]
                            clear ho hb hw
                            go_wp2_with (first
                              | go_big_skip
                              | (go_at_call 21; (with_reducible refine (refSame_any y.B x.B y.l.cs x.l.cs _ _ y.d x.d _ _ rfl rfl _ ((K.out.at_ (d := ⟨hs5, some ad5, true⟩) (by simp)).ln HY.out).cs ((K.out.at_ (d := ⟨hs, some ad, false⟩) (by simp)).ln HX.out).cs (by have := Y9.out.2; omega)).mono ?_); rintro e w6 ⟨rfl, hq⟩; rw [decide_eq_true YC.out]; (have K2 := hid (K.out.quiet hq)); clear hq K; (have K := K2); clear K2))
                            refine ⟨rfl, rfl, ?_⟩
                            rw [hJ.out]
                            exact K
                          rcases i with _ | i
                          · obtain rfl := Option.some.inj ho
                            simp only [List.take_succ_cons, List.take_zero, drFrame, List.setIfInBounds_toArray, List.set_cons_succ, List.set_cons_zero]
                            clear ho hb hw
                            go_wp2_with (first
                              | fail)
                            refine ⟨rfl, rfl, ?_⟩
                            rw [hJ.out]
                            exact K
                          rcases i with _ | i
                          · obtain rfl := Option.some.inj ho
                            simp only [List.take_succ_cons, List.take_zero, drFrame, List.setIfInBounds_toArray, List.set_cons_succ, List.set_cons_zero]
                            clear ho hb hw
                            go_wp2_with (first
                              | fail)
                            refine ⟨rfl, rfl, ?_⟩
                            rw [hJ.out]
                            exact K
                          rcases i with _ | i
                          · obtain rfl := Option.some.inj ho
                            simp only [List.take_succ_cons, List.take_zero, drFrame, List.setIfInBounds_toArray, List.set_cons_succ, List.set_cons_zero]
                            clear ho hb hw
                            go_wp2_with (first
                              | fail)
                            refine ⟨rfl, rfl, ?_⟩
                            rw [hJ.out]
                            exact K
                          rcases i with _ | i
                          · obtain rfl := Option.some.inj ho
                            simp only [List.take_succ_cons, List.take_zero, drFrame, List.setIfInBounds_toArray, List.set_cons_succ, List.set_cons_zero]
                            clear ho hb hw
                            go_wp2_with (first
                              | fail)
                            refine ⟨rfl, rfl, ?_⟩
                            rw [hJ.out]
                            exact K
                          rcases i with _ | i
                          · obtain rfl := Option.some.inj ho
                            simp only [List.take_succ_cons, List.take_zero, drFrame, List.setIfInBounds_toArray, List.set_cons_succ, List.set_cons_zero]
                            clear ho hb hw
                            go_wp2_with (first
                              | go_big_skip
                              | ((with_reducible show wpList _ _ _ _ _ _); refine kgLoad1 (by rfl) 3 _ (by rfl) _ Tryd.underlying3 rfl K (by rfl) (by repeat (first | exact List.mem_cons_self | refine List.mem_cons_of_mem _ ?_)) (by rfl) ?_))
                            refine ⟨rfl, rfl, ?_⟩
                            rw [hJ.out]
                            exact K
                          rcases i with _ | i
                          · obtain rfl := Option.some.inj ho
                            simp only [List.take_succ_cons, List.take_zero, drFrame, List.setIfInBounds_toArray, List.set_cons_succ, List.set_cons_zero]
                            clear ho hb hw
                            go_wp2_with (first
                              | fail)
                            refine ⟨rfl, (by first | rfl | (show Value.bool _ = Value.bool _; congr 1; first | exact d1 | exact d2 | exact decide_eq_false (by omega) | exact decide_eq_true (by omega) | simp)), ?_⟩
                            rw [hJ.out]
                            exact K
                          rcases i with _ | i
                          · obtain rfl := Option.some.inj ho
                            simp only [List.take_succ_cons, List.take_zero, drFrame, List.setIfInBounds_toArray, List.set_cons_succ, List.set_cons_zero]
                            clear ho hb hw
                            go_wp2_with (first
                              | fail)
                            refine ⟨rfl, (by first | rfl | (show Value.bool _ = Value.bool _; congr 1; first | exact d1 | exact d2 | exact decide_eq_false (by omega) | exact decide_eq_true (by omega) | simp)), ?_⟩
                            rw [hJ.out]
                            exact K
                          rcases i with _ | i
                          · obtain rfl := Option.some.inj ho
                            simp only [List.take_succ_cons, List.take_zero, drFrame, List.setIfInBounds_toArray, List.set_cons_succ, List.set_cons_zero]
                            clear ho hb hw
                            go_wp2_with (first
                              | fail)
                            refine ⟨rfl, rfl, ?_⟩
                            rw [hJ.out]
                            exact K
                          rcases i with _ | i
                          · obtain rfl := Option.some.inj ho
                            simp only [List.take_succ_cons, List.take_zero, drFrame, List.setIfInBounds_toArray, List.set_cons_succ, List.set_cons_zero]
                            clear ho hb hw
                            go_wp2_with (first
                              | fail)
                            refine ⟨rfl, rfl, ?_⟩
                            rw [hJ.out]
                            exact K
                          rcases i with _ | i
                          · obtain rfl := Option.some.inj ho
                            simp only [List.take_succ_cons, List.take_zero, drFrame, List.setIfInBounds_toArray, List.set_cons_succ, List.set_cons_zero]
                            clear ho hb hw
                            go_wp2_with (first
                              | go_big_skip
                              | ((with_reducible show wpList _ _ _ _ _ _); refine kgLoad1 (by rfl) 3 _ (by rfl) _ Tryd.underlying3 rfl K (by rfl) (by repeat (first | exact List.mem_cons_self | refine List.mem_cons_of_mem _ ?_)) (by rfl) ?_))
                            refine ⟨rfl, rfl, ?_⟩
                            rw [hJ.out]
                            exact K
                          rcases i with _ | i
                          · obtain rfl := Option.some.inj ho
                            simp only [List.take_succ_cons, List.take_zero, drFrame, List.setIfInBounds_toArray, List.set_cons_succ, List.set_cons_zero]
                            clear ho hb hw
                            go_wp2_with (first
                              | fail)
                            refine ⟨rfl, (by first | rfl | (show Value.bool _ = Value.bool _; congr 1; first | exact d1 | exact d2 | exact decide_eq_false (by omega) | exact decide_eq_true (by omega) | simp)), ?_⟩
                            rw [hJ.out]
                            exact K
                          rcases i with _ | i
                          · obtain rfl := Option.some.inj ho
                            simp only [List.take_succ_cons, List.take_zero, drFrame, List.setIfInBounds_toArray, List.set_cons_succ, List.set_cons_zero]
                            clear ho hb hw
                            go_wp2_with (first
                              | fail)
                            refine ⟨rfl, (by first | rfl | (show Value.bool _ = Value.bool _; congr 1; first | exact d1 | exact d2 | exact decide_eq_false (by omega) | exact decide_eq_true (by omega) | simp)), ?_⟩
                            rw [hJ.out]
                            exact K
                          rcases i with _ | i
                          · obtain rfl := Option.some.inj ho
                            simp only [List.take_succ_cons, List.take_zero, drFrame, List.setIfInBounds_toArray, List.set_cons_succ, List.set_cons_zero]
                            clear ho hb hw
                            go_wp2_with (first
                              | fail)
                            refine ⟨rfl, (by first | rfl | (show Value.bool _ = Value.bool _; congr 1; first | exact d1 | exact d2 | exact decide_eq_false (by omega) | exact decide_eq_true (by omega) | simp)), ?_⟩
                            rw [hJ.out]
                            exact K
                          rcases i with _ | i
                          · obtain rfl := Option.some.inj ho
                            simp only [List.take_succ_cons, List.take_zero, drFrame, List.setIfInBounds_toArray, List.set_cons_succ, List.set_cons_zero]
                            clear ho hb hw
                            go_wp2_with (first
                              | fail)
                            refine ⟨rfl, rfl, ?_⟩
                            rw [hJ.out]
                            exact K
                          rcases i with _ | i
                          · obtain rfl := Option.some.inj ho
                            simp only [List.take_succ_cons, List.take_zero, drFrame, List.setIfInBounds_toArray, List.set_cons_succ, List.set_cons_zero]
                            clear ho hb hw
                            go_wp2_with (first
                              | go_big_skip
                              | ((with_reducible show wpList _ _ _ _ _ _); refine kgLoad1 (by rfl) 22 _ (by rfl) _ Tryd.underlying22 rfl K (by rfl) (by repeat (first | exact List.mem_cons_self | refine List.mem_cons_of_mem _ ?_)) (by rfl) ?_))
                            refine ⟨rfl, rfl, ?_⟩
                            rw [hJ.out]
                            exact K
                          rcases i with _ | i
                          · obtain rfl := Option.some.inj ho
                            simp only [List.take_succ_cons, List.take_zero, drFrame, List.setIfInBounds_toArray, List.set_cons_succ, List.set_cons_zero]
                            clear ho hb hw
                            go_wp2_with (first
                              | fail)
                            refine ⟨rfl, rfl, ?_⟩
                            rw [hJ.out]
                            exact K
                          rcases i with _ | i
                          · obtain rfl := Option.some.inj ho
                            simp only [List.take_succ_cons, List.take_zero, drFrame, List.setIfInBounds_toArray, List.set_cons_succ, List.set_cons_zero]
                            clear ho hb hw
                            go_wp2_with (first
                              | fail)
                            refine ⟨rfl, rfl, ?_⟩
                            rw [hJ.out]
                            exact K
                          rcases i with _ | i
                          · obtain rfl := Option.some.inj ho
                            simp only [List.take_succ_cons, List.take_zero, drFrame, List.setIfInBounds_toArray, List.set_cons_succ, List.set_cons_zero]
                            clear ho hb hw
                            go_wp2_with (first
                              | go_big_skip
                              | ((with_reducible show wpList _ _ _ _ _ _); refine kgElem (by rfl) 44 _ (by rfl) _ Tryd.underlying44 rfl (by kernel_rfl) K (by rfl) (by repeat (first | exact List.mem_cons_self | refine List.mem_cons_of_mem _ ?_)) HY.out ?_))
                            refine ⟨rfl, rfl, ?_⟩
                            rw [hJ.out]
                            exact K
                          rcases i with _ | i
                          · obtain rfl := Option.some.inj ho
                            simp only [List.take_succ_cons, List.take_zero, drFrame, List.setIfInBounds_toArray, List.set_cons_succ, List.set_cons_zero]
                            clear ho hb hw
                            go_wp2_with (first
                              | fail)
                            refine ⟨rfl, rfl, ?_⟩
                            rw [hJ.out]
                            exact K
                          rcases i with _ | i
                          · obtain rfl := Option.some.inj ho
                            simp only [List.take_succ_cons, List.take_zero, drFrame, List.setIfInBounds_toArray, List.set_cons_succ, List.set_cons_zero]
                            clear ho hb hw
                            go_wp2_with (first
                              | go_big_skip
                              | ((with_reducible show wpList _ _ _ _ _ _); refine kgLoad1 (by rfl) 22 _ (by rfl) _ Tryd.underlying22 rfl K (by rfl) (by repeat (first | exact List.mem_cons_self | refine List.mem_cons_of_mem _ ?_)) (by rfl) ?_))
                            refine ⟨rfl, rfl, ?_⟩
                            rw [hJ.out]
                            exact K
                          rcases i with _ | i
                          · obtain rfl := Option.some.inj ho
                            simp only [List.take_succ_cons, List.take_zero, drFrame, List.setIfInBounds_toArray, List.set_cons_succ, List.set_cons_zero]
                            clear ho hb hw
                            go_wp2_with (first
                              | fail)
                            refine ⟨rfl, rfl, ?_⟩
                            rw [hJ.out]
                            exact K
                          rcases i with _ | i
                          · obtain rfl := Option.some.inj ho
                            simp only [List.take_succ_cons, List.take_zero, drFrame, List.setIfInBounds_toArray, List.set_cons_succ, List.set_cons_zero]
                            clear ho hb hw
                            go_wp2_with (first
                              | fail)
                            refine ⟨rfl, rfl, ?_⟩
                            rw [hJ.out]
                            exact K
                          rcases i with _ | i
                          · obtain rfl := Option.some.inj ho
                            simp only [List.take_succ_cons, List.take_zero, drFrame, List.setIfInBounds_toArray, List.set_cons_succ, List.set_cons_zero]
                            clear ho hb hw
                            go_wp2_with (first
                              | go_big_skip
                              | ((with_reducible show wpList _ _ _ _ _ _); refine kgElem (by rfl) 44 _ (by rfl) _ Tryd.underlying44 rfl (by kernel_rfl) K (by rfl) (by repeat (first | exact List.mem_cons_self | refine List.mem_cons_of_mem _ ?_)) HX.out ?_))
                            refine ⟨rfl, rfl, ?_⟩
                            rw [hJ.out]
                            exact K
                          rcases i with _ | i
                          · obtain rfl := Option.some.inj ho
                            simp only [List.take_succ_cons, List.take_zero, drFrame, List.setIfInBounds_toArray, List.set_cons_succ, List.set_cons_zero]
                            clear ho hb hw
                            go_wp2_with (first
                              | go_big_skip
                              | (go_at_call 16; (with_reducible refine (lSame_any y.l x.l y.A _ y.c y.B _ y.d x.A _ x.c x.B _ x.d _ _ rfl rfl rfl rfl _ ((K.out.at_ (d := ⟨hs5, some ad5, true⟩) (by simp)).ln HY.out) ((K.out.at_ (d := ⟨hs, some ad, false⟩) (by simp)).ln HX.out) (by have := Y9.out.1; omega) (by have := Y9.out.2; omega)).mono ?_); rintro e W6 ⟨rfl, hb⟩; rw [decide_eq_true YE.out]; (have K2 := hid (K.out.later hb)); clear hb K; (have K := K2); clear K2))
                            refine ⟨rfl, rfl, ?_⟩
                            rw [hJ.out]
                            exact K
                          rcases i with _ | i
                          · obtain rfl := Option.some.inj ho
                            simp only [List.take_succ_cons, List.take_zero, drFrame, List.setIfInBounds_toArray, List.set_cons_succ, List.set_cons_zero]
                            clear ho hb hw
                            go_wp2_with (first
                              | fail)
                            refine ⟨rfl, rfl, ?_⟩
                            rw [hJ.out]
                            exact K
                          rcases i with _ | i
                          · obtain rfl := Option.some.inj ho
                            simp only [List.take_succ_cons, List.take_zero, drFrame, List.setIfInBounds_toArray, List.set_cons_succ, List.set_cons_zero]
                            clear ho hb hw
                            go_wp2_with (first
                              | fail)
                            refine ⟨rfl, rfl, ?_⟩
                            rw [hJ.out]
                            exact K
                          rcases i with _ | i
                          · obtain rfl := Option.some.inj ho
                            simp only [List.take_succ_cons, List.take_zero, drFrame, List.setIfInBounds_toArray, List.set_cons_succ, List.set_cons_zero]
                            clear ho hb hw
                            go_wp2_with (first
                              | fail)
                            refine ⟨rfl, rfl, ?_⟩
                            rw [hJ.out]
                            exact K
                          · cases ho
                        case fin =>
                          clear K
                          intro b W hb K
                          rw [hJ.out] at K
                          simp only [drFrame, List.setIfInBounds_toArray, List.set_cons_succ, List.set_cons_zero]
                          clear hb hJ
                          go_wp2_with (first
                            | fail)
                          go_roundw
                          case rel => exact ⟨j + 1, by have := HJL.out; omega, by go_num, K⟩
                          case measure => simp [intOf]; have := HJL.out; omega
                      · have d1 : decide ((j : Int) < (f : Int)) = false := decide_eq_false (by omega)
                        have d2 : decide ((t : Int) < (j : Int)) = false := decide_eq_false (by omega)
                        clear YX
                        have e1 : ¬ (j : Int) < (f : Int) := by omega
                        have e2 : ¬ (t : Int) < (j : Int) := by omega
                        go_upto_region 20 with (first
                          | go_big_skip
                          | ((with_reducible show wpList _ _ _ _ _ _); refine kgLoad1 (by rfl) 22 _ (by rfl) _ Tryd.underlying22 rfl K (by rfl) (by repeat (first | exact List.mem_cons_self | refine List.mem_cons_of_mem _ ?_)) (by rfl) ?_))
                        obtain ⟨J, hJ⟩ : ∃ J : (Nat → Bool) → World → Prop, J = fun _ W => Hid (KG w W [⟨g12, 26, [.slice (some ad5) hs5.length c5, .int .i64 al, .int .i64 aa, .int .i64 fl, .int .i64 fa, .int .i64 on2, .int .i64 off2]⟩, ⟨g9, 26, [.slice A' hs'.length c', .int .i64 al, .int .i64 aa, .int .i64 fl, .int .i64 fa, .int .i64 on1, .int .i64 off1]⟩, ⟨g8, 24, [.int .i64 (t : Int), .int .i64 qa]⟩, ⟨g7, 24, [.int .i64 (f : Int), .int .i64 pa]⟩, ⟨g3, 26, [.slice (some ad) hs.length c, .int .i64 al, .int .i64 aa, .int .i64 fl, .int .i64 fa, .int .i64 on, .int .i64 off]⟩] [⟨hs5, (some ad5), true⟩, ⟨hs', A', true⟩, ⟨hs, some ad, false⟩]) := ⟨_, rfl⟩
                        replace hJ := hid hJ
                        refine wp_drawn2_det [.pointer (some ⟨g12, 0, none⟩), .slice (some ad5) hs5.length c5, .int .i64 (j : Int), .pointer (some (ad5.add (j * 4))), .pointer (some ⟨(ad5.add (j * 4)).block, (ad5.add (j * 4)).off + 3, none⟩), .slice y.B y.l.cs.length y.d, .pointer (some ⟨g3, 0, none⟩), .slice (some ad) hs.length c, .int .i64 (j : Int), .pointer (some (ad.add (j * 4))), .pointer (some ⟨(ad.add (j * 4)).block, (ad.add (j * 4)).off + 3, none⟩), .slice x.B x.l.cs.length x.d, .bool true, .bool false, .bool false, .int .i64 (j : Int), .pointer (some ⟨g7, 0, none⟩), .int .i64 (f : Int), .bool false, .bool false, .int .i64 (j : Int), .pointer (some ⟨g8, 0, none⟩), .int .i64 (t : Int), .bool false, .bool false, .bool false, (undef), (undef), (undef), (undef), (undef), (undef), (undef), (undef), (undef), (undef), (undef), (undef), .bool false, .bool false] (by kernel_rfl) (by kernel_rfl) rfl J (by rw [hJ.out]; exact hid (K.out.quiet ⟨1, rfl⟩)) ?step ?fin
                        case step =>
                          clear K
                          intro i o b W ho hb hw K
                          rw [hJ.out] at K
                          rcases i with _ | i
                          · obtain rfl := Option.some.inj ho
                            simp only [List.take_zero, drFrame]
                            clear ho hb hw
                            go_wp2_with (first
                              | fail)
                            refine ⟨rfl, rfl, ?_⟩
                            rw [hJ.out]
                            exact K
                          rcases i with _ | i
                          · obtain rfl := Option.some.inj ho
                            simp only [List.take_succ_cons, List.take_zero, drFrame, List.setIfInBounds_toArray, List.set_cons_succ, List.set_cons_zero]
                            clear ho hb hw
                            go_wp2_with (first
                              | go_big_skip
                              | ((with_reducible show wpList _ _ _ _ _ _); refine kgLoad1 (by rfl) 22 _ (by rfl) _ Tryd.underlying22 rfl K (by rfl) (by repeat (first | exact List.mem_cons_self | refine List.mem_cons_of_mem _ ?_)) (by rfl) ?_))
                            refine ⟨rfl, rfl, ?_⟩
                            rw [hJ.out]
                            exact K
                          rcases i with _ | i
                          · obtain rfl := Option.some.inj ho
                            simp only [List.take_succ_cons, List.take_zero, drFrame, List.setIfInBounds_toArray, List.set_cons_succ, List.set_cons_zero]
                            clear ho hb hw
                            go_wp2_with (first
                              | fail)
                            refine ⟨rfl, rfl, ?_⟩
                            rw [hJ.out]
                            exact K
                          rcases i with _ | i
                          · obtain rfl := Option.some.inj ho
                            simp only [List.take_succ_cons, List.take_zero, drFrame, List.setIfInBounds_toArray, List.set_cons_succ, List.set_cons_zero]
                            clear ho hb hw
                            go_wp2_with (first
                              | fail)
                            refine ⟨rfl, rfl, ?_⟩
                            rw [hJ.out]
                            exact K
                          rcases i with _ | i
                          · obtain rfl := Option.some.inj ho
                            simp only [List.take_succ_cons, List.take_zero, drFrame, List.setIfInBounds_toArray, List.set_cons_succ, List.set_cons_zero]
                            clear ho hb hw
                            go_wp2_with (first
                              | fail)
                            refine ⟨rfl, rfl, ?_⟩
                            rw [hJ.out]
                            exact K
                          rcases i with _ | i
                          · obtain rfl := Option.some.inj ho
                            simp only [List.take_succ_cons, List.take_zero, drFrame, List.setIfInBounds_toArray, List.set_cons_succ, List.set_cons_zero]
                            clear ho hb hw
                            go_wp2_with (first
                              | go_big_skip
                              | ((with_reducible show wpList _ _ _ _ _ _); refine kgElem1 (by rfl) 42 _ (by rfl) _ Tryd.underlying42 rfl K (by rfl) (by repeat (first | exact List.mem_cons_self | refine List.mem_cons_of_mem _ ?_)) HY.out (by decide) (by rfl) ?_))
                            refine ⟨rfl, rfl, ?_⟩
                            rw [hJ.out]
                            exact K
                          rcases i with _ | i
                          · obtain rfl := Option.some.inj ho
                            simp only [List.take_succ_cons, List.take_zero, drFrame, List.setIfInBounds_toArray, List.set_cons_succ, List.set_cons_zero]
                            clear ho hb hw
                            go_wp2_with (first
                              | fail)
                            refine ⟨rfl, rfl, ?_⟩
                            rw [hJ.out]
                            exact K
                          rcases i with _ | i
                          · obtain rfl := Option.some.inj ho
                            simp only [List.take_succ_cons, List.take_zero, drFrame, List.setIfInBounds_toArray, List.set_cons_succ, List.set_cons_zero]
                            clear ho hb hw
                            go_wp2_with (first
                              | go_big_skip
                              | ((with_reducible show wpList _ _ _ _ _ _); refine kgLoad1 (by rfl) 22 _ (by rfl) _ Tryd.underlying22 rfl K (by rfl) (by repeat (first | exact List.mem_cons_self | refine List.mem_cons_of_mem _ ?_)) (by rfl) ?_))
                            refine ⟨rfl, rfl, ?_⟩
                            rw [hJ.out]
                            exact K
                          rcases i with _ | i
                          · obtain rfl := Option.some.inj ho
                            simp only [List.take_succ_cons, List.take_zero, drFrame, List.setIfInBounds_toArray, List.set_cons_succ, List.set_cons_zero]
                            clear ho hb hw
                            go_wp2_with (first
                              | fail)
                            refine ⟨rfl, rfl, ?_⟩
                            rw [hJ.out]
                            exact K
                          rcases i with _ | i
                          · obtain rfl := Option.some.inj ho
                            simp only [List.take_succ_cons, List.take_zero, drFrame, List.setIfInBounds_toArray, List.set_cons_succ, List.set_cons_zero]
                            clear ho hb hw
                            go_wp2_with (first
                              | fail)
                            refine ⟨rfl, rfl, ?_⟩
                            rw [hJ.out]
                            exact K
                          rcases i with _ | i
                          · obtain rfl := Option.some.inj ho
                            simp only [List.take_succ_cons, List.take_zero, drFrame, List.setIfInBounds_toArray, List.set_cons_succ, List.set_cons_zero]
                            clear ho hb hw
                            go_wp2_with (first
                              | fail)
                            refine ⟨rfl, rfl, ?_⟩
                            rw [hJ.out]
                            exact K
                          rcases i with _ | i
                          · obtain rfl := Option.some.inj ho
                            simp only [List.take_succ_cons, List.take_zero, drFrame, List.setIfInBounds_toArray, List.set_cons_succ, List.set_cons_zero]
                            clear ho hb hw
                            go_wp2_with (first
                              | go_big_skip
                              | ((with_reducible show wpList _ _ _ _ _ _); refine kgElem1 (by rfl) 42 _ (by rfl) _ Tryd.underlying42 rfl K (by rfl) (by repeat (first | exact List.mem_cons_self | refine List.mem_cons_of_mem _ ?_)) HX.out (by decide) (by rfl) ?_))
                            refine ⟨rfl, rfl, ?_⟩
                            rw [hJ.out]
                            exact K
                          rcases i with _ | i
                          · obtain rfl := Option.some.inj ho
                            simp only [List.take_succ_cons, List.take_zero, drFrame, List.setIfInBounds_toArray, List.set_cons_succ, List.set_cons_zero]
                            clear ho hb hw
                            go_wp2_with (first
                              | go_big_skip
                              | (go_at_call 21; (with_reducible refine (refSame_any y.B x.B y.l.cs x.l.cs _ _ y.d x.d _ _ rfl rfl _ ((K.out.at_ (d := ⟨hs5, some ad5, true⟩) (by simp)).ln HY.out).cs ((K.out.at_ (d := ⟨hs, some ad, false⟩) (by simp)).ln HX.out).cs (by have := Y9.out.2; omega)).mono ?_); rintro e w6 ⟨rfl, hq⟩; rw [decide_eq_true YC.out]; (have K2 := hid (K.out.quiet hq)); clear hq K; (have K := K2); clear K2))
                            refine ⟨rfl, rfl, ?_⟩
                            rw [hJ.out]
                            exact K
                          rcases i with _ | i
                          · obtain rfl := Option.some.inj ho
                            simp only [List.take_succ_cons, List.take_zero, drFrame, List.setIfInBounds_toArray, List.set_cons_succ, List.set_cons_zero]
                            clear ho hb hw
                            go_wp2_with (first
                              | fail)
                            refine ⟨rfl, rfl, ?_⟩
                            rw [hJ.out]
                            exact K
                          rcases i with _ | i
                          · obtain rfl := Option.some.inj ho
                            simp only [List.take_succ_cons, List.take_zero, drFrame, List.setIfInBounds_toArray, List.set_cons_succ, List.set_cons_zero]
                            clear ho hb hw
                            go_wp2_with (first
                              | fail)
                            refine ⟨rfl, rfl, ?_⟩
                            rw [hJ.out]
                            exact K
                          rcases i with _ | i
                          · obtain rfl := Option.some.inj ho
                            simp only [List.take_succ_cons, List.take_zero, drFrame, List.setIfInBounds_toArray, List.set_cons_succ, List.set_cons_zero]
                            clear ho hb hw
                            go_wp2_with (first
                              | fail)
                            refine ⟨rfl, rfl, ?_⟩
                            rw [hJ.out]
                            exact K
                          rcases i with _ | i
                          · obtain rfl := Option.some.inj ho
                            simp only [List.take_succ_cons, List.take_zero, drFrame, List.setIfInBounds_toArray, List.set_cons_succ, List.set_cons_zero]
                            clear ho hb hw
                            go_wp2_with (first
                              | fail)
                            refine ⟨rfl, rfl, ?_⟩
                            rw [hJ.out]
                            exact K
                          rcases i with _ | i
                          · obtain rfl := Option.some.inj ho
                            simp only [List.take_succ_cons, List.take_zero, drFrame, List.setIfInBounds_toArray, List.set_cons_succ, List.set_cons_zero]
                            clear ho hb hw
                            go_wp2_with (first
                              | go_big_skip
                              | ((with_reducible show wpList _ _ _ _ _ _); refine kgLoad1 (by rfl) 3 _ (by rfl) _ Tryd.underlying3 rfl K (by rfl) (by repeat (first | exact List.mem_cons_self | refine List.mem_cons_of_mem _ ?_)) (by rfl) ?_))
                            refine ⟨rfl, rfl, ?_⟩
                            rw [hJ.out]
                            exact K
                          rcases i with _ | i
                          · obtain rfl := Option.some.inj ho
                            simp only [List.take_succ_cons, List.take_zero, drFrame, List.setIfInBounds_toArray, List.set_cons_succ, List.set_cons_zero]
                            clear ho hb hw
                            go_wp2_with (first
                              | fail)
                            refine ⟨rfl, (by first | rfl | (show Value.bool _ = Value.bool _; congr 1; first | exact d1 | exact d2 | exact decide_eq_false (by omega) | exact decide_eq_true (by omega) | simp)), ?_⟩
                            rw [hJ.out]
                            exact K
                          rcases i with _ | i
                          · obtain rfl := Option.some.inj ho
                            simp only [List.take_succ_cons, List.take_zero, drFrame, List.setIfInBounds_toArray, List.set_cons_succ, List.set_cons_zero]
                            clear ho hb hw
                            go_wp2_with (first
                              | fail)
                            refine ⟨rfl, (by first | rfl | (show Value.bool _ = Value.bool _; congr 1; first | exact d1 | exact d2 | exact decide_eq_false (by omega) | exact decide_eq_true (by omega) | simp)), ?_⟩
                            rw [hJ.out]
                            exact K
                          rcases i with _ | i
                          · obtain rfl := Option.some.inj ho
                            simp only [List.take_succ_cons, List.take_zero, drFrame, List.setIfInBounds_toArray, List.set_cons_succ, List.set_cons_zero]
                            clear ho hb hw
                            go_wp2_with (first
                              | fail)
                            refine ⟨rfl, rfl, ?_⟩
                            rw [hJ.out]
                            exact K
                          rcases i with _ | i
                          · obtain rfl := Option.some.inj ho
                            simp only [List.take_succ_cons, List.take_zero, drFrame, List.setIfInBounds_toArray, List.set_cons_succ, List.set_cons_zero]
                            clear ho hb hw
                            go_wp2_with (first
                              | fail)
                            refine ⟨rfl, rfl, ?_⟩
                            rw [hJ.out]
                            exact K
                          rcases i with _ | i
                          · obtain rfl := Option.some.inj ho
                            simp only [List.take_succ_cons, List.take_zero, drFrame, List.setIfInBounds_toArray, List.set_cons_succ, List.set_cons_zero]
                            clear ho hb hw
                            go_wp2_with (first
                              | go_big_skip
                              | ((with_reducible show wpList _ _ _ _ _ _); refine kgLoad1 (by rfl) 3 _ (by rfl) _ Tryd.underlying3 rfl K (by rfl) (by repeat (first | exact List.mem_cons_self | refine List.mem_cons_of_mem _ ?_)) (by rfl) ?_))
                            refine ⟨rfl, rfl, ?_⟩
                            rw [hJ.out]
                            exact K
                          rcases i with _ | i
                          · obtain rfl := Option.some.inj ho
                            simp only [List.take_succ_cons, List.take_zero, drFrame, List.setIfInBounds_toArray, List.set_cons_succ, List.set_cons_zero]
                            clear ho hb hw
                            go_wp2_with (first
                              | fail)
                            refine ⟨rfl, (by first | rfl | (show Value.bool _ = Value.bool _; congr 1; first | exact d1 | exact d2 | exact decide_eq_false (by omega) | exact decide_eq_true (by omega) | simp)), ?_⟩
                            rw [hJ.out]
                            exact K
                          rcases i with _ | i
                          · obtain rfl := Option.some.inj ho
                            simp only [List.take_succ_cons, List.take_zero, drFrame, List.setIfInBounds_toArray, List.set_cons_succ, List.set_cons_zero]
                            clear ho hb hw
                            go_wp2_with (first
                              | fail)
                            refine ⟨rfl, (by first | rfl | (show Value.bool _ = Value.bool _; congr 1; first | exact d1 | exact d2 | exact decide_eq_false (by omega) | exact decide_eq_true (by omega) | simp)), ?_⟩
                            rw [hJ.out]
                            exact K
                          rcases i with _ | i
                          · obtain rfl := Option.some.inj ho
                            simp only [List.take_succ_cons, List.take_zero, drFrame, List.setIfInBounds_toArray, List.set_cons_succ, List.set_cons_zero]
                            clear ho hb hw
                            go_wp2_with (first
                              | fail)
                            refine ⟨rfl, (by first | rfl | (show Value.bool _ = Value.bool _; congr 1; first | exact d1 | exact d2 | exact decide_eq_false (by omega) | exact decide_eq_true (by omega) | simp)), ?_⟩
                            rw [hJ.out]
                            exact K
                          rcases i with _ | i
                          · obtain rfl := Option.some.inj ho
                            simp only [List.take_succ_cons, List.take_zero, drFrame, List.setIfInBounds_toArray, List.set_cons_succ, List.set_cons_zero]
                            clear ho hb hw
                            go_wp2_with (first
                              | fail)
                            refine ⟨rfl, rfl, ?_⟩
                            rw [hJ.out]
                            exact K
                          rcases i with _ | i
                          · obtain rfl := Option.some.inj ho
                            simp only [List.take_succ_cons, List.take_zero, drFrame, List.setIfInBounds_toArray, List.set_cons_succ, List.set_cons_zero]
                            clear ho hb hw
                            go_wp2_with (first
                              | go_big_skip
                              | ((with_reducible show wpList _ _ _ _ _ _); refine kgLoad1 (by rfl) 22 _ (by rfl) _ Tryd.underlying22 rfl K (by rfl) (by repeat (first | exact List.mem_cons_self | refine List.mem_cons_of_mem _ ?_)) (by rfl) ?_))
                            refine ⟨rfl, rfl, ?_⟩
                            rw [hJ.out]
                            exact K
                          rcases i with _ | i
                          · obtain rfl := Option.some.inj ho
                            simp only [List.take_succ_cons, List.take_zero, drFrame, List.setIfInBounds_toArray, List.set_cons_succ, List.set_cons_zero]
                            clear ho hb hw
                            go_wp2_with (first
                              | fail)
                            refine ⟨rfl, rfl, ?_⟩
                            rw [hJ.out]
                            exact K
                          rcases i with _ | i
                          · obtain rfl := Option.some.inj ho
                            simp only [List.take_succ_cons, List.take_zero, drFrame, List.setIfInBounds_toArray, List.set_cons_succ, List.set_cons_zero]
                            clear ho hb hw
                            go_wp2_with (first
                              | fail)
                            refine ⟨rfl, rfl, ?_⟩
                            rw [hJ.out]
                            exact K
                          rcases i with _ | i
                          · obtain rfl := Option.some.inj ho
                            simp only [List.take_succ_cons, List.take_zero, drFrame, List.setIfInBounds_toArray, List.set_cons_succ, List.set_cons_zero]
                            clear ho hb hw
                            go_wp2_with (first
                              | go_big_skip
                              | ((with_reducible show wpList _ _ _ _ _ _); refine kgElem (by rfl) 44 _ (by rfl) _ Tryd.underlying44 rfl (by kernel_rfl) K (by rfl) (by repeat (first | exact List.mem_cons_self | refine List.mem_cons_of_mem _ ?_)) HY.out ?_))
                            refine ⟨rfl, rfl, ?_⟩
                            rw [hJ.out]
                            exact K
                          rcases i with _ | i
                          · obtain rfl := Option.some.inj ho
                            simp only [List.take_succ_cons, List.take_zero, drFrame, List.setIfInBounds_toArray, List.set_cons_succ, List.set_cons_zero]
                            clear ho hb hw
                            go_wp2_with (first
                              | fail)
                            refine ⟨rfl, rfl, ?_⟩
                            rw [hJ.out]
                            exact K
                          rcases i with _ | i
                          · obtain rfl := Option.some.inj ho
                            simp only [List.take_succ_cons, List.take_zero, drFrame, List.setIfInBounds_toArray, List.set_cons_succ, List.set_cons_zero]
                            clear ho hb hw
                            go_wp2_with (first
                              | go_big_skip
                              | ((with_reducible show wpList _ _ _ _ _ _); refine kgLoad1 (by rfl) 22 _ (by rfl) _ Tryd.underlying22 rfl K (by rfl) (by repeat (first | exact List.mem_cons_self | refine List.mem_cons_of_mem _ ?_)) (by rfl) ?_))
                            refine ⟨rfl, rfl, ?_⟩
                            rw [hJ.out]
                            exact K
                          rcases i with _ | i
                          · obtain rfl := Option.some.inj ho
                            simp only [List.take_succ_cons, List.take_zero, drFrame, List.setIfInBounds_toArray, List.set_cons_succ, List.set_cons_zero]
                            clear ho hb hw
                            go_wp2_with (first
                              | fail)
                            refine ⟨rfl, rfl, ?_⟩
                            rw [hJ.out]
                            exact K
                          rcases i with _ | i
                          · obtain rfl := Option.some.inj ho
                            simp only [List.take_succ_cons, List.take_zero, drFrame, List.setIfInBounds_toArray, List.set_cons_succ, List.set_cons_zero]
                            clear ho hb hw
                            go_wp2_with (first
                              | fail)
                            refine ⟨rfl, rfl, ?_⟩
                            rw [hJ.out]
                            exact K
                          rcases i with _ | i
                          · obtain rfl := Option.some.inj ho
                            simp only [List.take_succ_cons, List.take_zero, drFrame, List.setIfInBounds_toArray, List.set_cons_succ, List.set_cons_zero]
                            clear ho hb hw
                            go_wp2_with (first
                              | go_big_skip
                              | ((with_reducible show wpList _ _ _ _ _ _); refine kgElem (by rfl) 44 _ (by rfl) _ Tryd.underlying44 rfl (by kernel_rfl) K (by rfl) (by repeat (first | exact List.mem_cons_self | refine List.mem_cons_of_mem _ ?_)) HX.out ?_))
                            refine ⟨rfl, rfl, ?_⟩
                            rw [hJ.out]
                            exact K
                          rcases i with _ | i
                          · obtain rfl := Option.some.inj ho
                            simp only [List.take_succ_cons, List.take_zero, drFrame, List.setIfInBounds_toArray, List.set_cons_succ, List.set_cons_zero]
                            clear ho hb hw
                            go_wp2_with (first
                              | go_big_skip
                              | (go_at_call 16; (with_reducible refine (lSame_any y.l x.l y.A _ y.c y.B _ y.d x.A _ x.c x.B _ x.d _ _ rfl rfl rfl rfl _ ((K.out.at_ (d := ⟨hs5, some ad5, true⟩) (by simp)).ln HY.out) ((K.out.at_ (d := ⟨hs, some ad, false⟩) (by simp)).ln HX.out) (by have := Y9.out.1; omega) (by have := Y9.out.2; omega)).mono ?_); rintro e W6 ⟨rfl, hb⟩; rw [decide_eq_true YE.out]; (have K2 := hid (K.out.later hb)); clear hb K; (have K := K2); clear K2))
                            refine ⟨rfl, rfl, ?_⟩
                            rw [hJ.out]
                            exact K
                          rcases i with _ | i
                          · obtain rfl := Option.some.inj ho
                            simp only [List.take_succ_cons, List.take_zero, drFrame, List.setIfInBounds_toArray, List.set_cons_succ, List.set_cons_zero]
                            clear ho hb hw
                            go_wp2_with (first
                              | fail)
                            refine ⟨rfl, rfl, ?_⟩
                            rw [hJ.out]
                            exact K
                          rcases i with _ | i
                          · obtain rfl := Option.some.inj ho
                            simp only [List.take_succ_cons, List.take_zero, drFrame, List.setIfInBounds_toArray, List.set_cons_succ, List.set_cons_zero]
                            clear ho hb hw
                            go_wp2_with (first
                              | fail)
                            refine ⟨rfl, rfl, ?_⟩
                            rw [hJ.out]
                            exact K
                          rcases i with _ | i
                          · obtain rfl := Option.some.inj ho
                            simp only [List.take_succ_cons, List.take_zero, drFrame, List.setIfInBounds_toArray, List.set_cons_succ, List.set_cons_zero]
                            clear ho hb hw
                            go_wp2_with (first
                              | fail)
                            refine ⟨rfl, rfl, ?_⟩
                            rw [hJ.out]
                            exact K
                          · cases ho
                        case fin =>
                          clear K
                          intro b W hb K
                          rw [hJ.out] at K
                          simp only [drFrame, List.setIfInBounds_toArray, List.set_cons_succ, List.set_cons_zero]
                          clear hb hJ
                          go_wp2_with (first
                            | fail)
                          go_roundw
                          case rel => exact ⟨j + 1, by have := HJL.out; omega, by go_num, K⟩
                          case measure => simp [intOf]; have := HJL.out; omega
                  · have hi1 : ¬ (j : Int) < (hs.length : Int) := by omega
                    have hi2 : decide ((j : Int) < (hs.length : Int)) = false := decide_eq_false hi1
                    go_wp2_with (first
                      | go_big_skip
                      | ((with_reducible show wpList _ _ _ _ _ _); refine kgLoad1 (by rfl) 22 _ (by rfl) _ Tryd.underlying22 rfl K (by rfl) (by repeat (first | exact List.mem_cons_self | refine List.mem_cons_of_mem _ ?_)) (by rfl) ?_)
                      | ((with_reducible show wpList _ _ _ _ _ _); refine kgLoadA (by rfl) 26 _ (by rfl) 7 _ Tryd.underlying26 rfl (by kernel_rfl) K (by rfl) (by repeat (first | exact List.mem_cons_self | refine List.mem_cons_of_mem _ ?_)) (part := [_, _, _, _, _, _, _]) (by rfl) (by rfl) ?_)
                      | ((with_reducible show wpList _ _ _ _ _ _); refine kgStore (by rfl) 26 (.tmp 9) _ (by rfl) 7 (by kernel_rfl) [_] (by exact K) (by rfl) (by rfl) [_, _, _, _, _, _, _] (by rfl) (by rfl) (by simp) (by simp [Value.oneCell']) (cs := [_, _, _, _, _, _, _]) (by rfl) ?_; intro V2 K1; (dsimp only [List.cons_append, List.nil_append] at K1); clear K; (have K := K1); clear K1))
                    go_roundw
                    case rel => exact ⟨k + 1, U, on2, off2, hs5, A5, c5, by have := HLT.out; omega, by go_num, HQ, MU, CU, HU, hid (K.out.less (by repeat (first | exact List.Sublist.slnil | refine List.Sublist.cons_cons _ ?_ | refine List.Sublist.cons _ ?_)) (by simp))⟩
                    case measure => simp [intOf]; have := HLT.out; omega
        · have hi : ¬ (k : Int) < (dos.length : Int) := by omega
          have hi' : decide ((k : Int) < (dos.length : Int)) = false := decide_eq_false hi
          go_wp2_with (first
            | go_big_skip
            | (go_at_call 9; (with_reducible refine (awake25_any _ (Utf8Tabs_below T.out K.out.b)).mono ?_); rintro e W9 ⟨rfl, hb⟩; (have K2 := hid (K.out.later hb)); clear hb K; (have K := K2); clear K2))
          go_ret
          exact ⟨rfl, K.out.b⟩
end Go.Proofs.YtblbfoniimnkcaaDoor
