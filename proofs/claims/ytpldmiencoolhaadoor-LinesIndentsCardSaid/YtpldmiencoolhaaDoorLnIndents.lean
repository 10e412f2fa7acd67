/- The walk of the law LinesIndents: it answers true. (Printed by wip/lnlaw.py.) -/
import Derived.Test.YtpldmiencoolhaaDoorLnLaws
import Derived.Test.YtpldmiencoolhaaDoorLnAwake
import Derived.Test.YtpldmiencoolhaaDoorLnTIndent
import Derived.Test.YtpldmiencoolhaaDoorLnTOutdent
import Derived.Test.YtpldmiencoolhaaDoorLnSame
import Derived.Test.YtpldmiencoolhaaDoorLnOpen
import Derived.BigQuiet
import Derived.Deep.QuietTactic
namespace Go.Proofs.YtpldmiencoolhaaDoor
open Go.RowKit Go.Lib

set_option maxRecDepth 100000 in
set_option maxHeartbeats 8000000 in
theorem linesIndents_walk (w : World) {l : Ln} {A : Option Addr} {n c : Nat} {B : Option Addr} {m d : Nat} (hA : LineIn w l A n c B m d) (hT : Tb w) :
    Calls Tryd.prog 5 #[.agg #[.int .i64 l.q, .slice A n c, .int .i64 l.k, .slice B m d]] w fun e w' => e = .returned (.bool true) ∧ Below w.heap.size w w' := by
  have T := hid hT
  obtain ⟨rfl, hc, rfl, hd, hat, b1, b2, wf, hz, wq, wk⟩ := hA
  have HZ := hid hz
  have K := hid (KL.start w [⟨l, A, B⟩] (by simpa using hat))
  clear hT hc hd hat hz wq wk
  cases hb : longL l with
  | true =>
    have HL := hid hb
    clear hb wf
    go_enter Tryd.func5, Tryd.ntmps5
    go_wp2_with (first
      | ((with_reducible show wpList _ _ _ _ _ _); refine Tryd.klBox (by rfl) _ (by rfl) (some 1) (by rfl) (by rfl) K ?_; intro g1 V1 K1; clear K; (have K := K1); clear K1)
      | ((with_reducible show wpList _ _ _ _ _ _); refine Tryd.klLoad (by rfl) _ (by rfl) K (by rfl) (by repeat (first | exact List.mem_cons_self | refine List.mem_cons_of_mem _ ?_)) ?_)
      | (go_at_call 9; (with_reducible refine (lLong_any l A _ c B _ d _ rfl rfl _ (K.out.at_ (r := ⟨l, A, B⟩) (by simp)) b1 b2 HZ.out).mono ?_); rintro e W1 ⟨rfl, hb⟩; rw [HL.out]; (have K2 := hid (K.out.later hb)); clear hb K; (have K := K2); clear K2)
      | (go_at_call 10; (with_reducible refine (lAwake_any _ (Utf8Tabs_below T.out K.out.b)).mono ?_); rintro e W9 ⟨rfl, hb⟩; (have K2 := hid (K.out.later hb)); clear hb K; (have K := K2); clear K2))
    go_ret
    exact ⟨rfl, K.out.b⟩
  | false =>
    have HL := hid hb
    obtain ⟨l1, l2, fi⟩ := notLong hb wf
    have FI := hid fi
    have B9 : Hid (l.ls.length ≤ 1000000000) := hid (by omega)
    have C9 : Hid (l.cs.length ≤ 1000000000) := hid (by omega)
    have L1 := hid l1
    clear hb wf fi l1 l2
    cases hb : mayL l with
    | false =>
      have MB := hid hb
      clear hb
      go_enter Tryd.func5, Tryd.ntmps5
      go_wp2_with (first
        | ((with_reducible show wpList _ _ _ _ _ _); refine Tryd.klBox (by rfl) _ (by rfl) (some 1) (by rfl) (by rfl) K ?_; intro g1 V1 K1; clear K; (have K := K1); clear K1)
        | ((with_reducible show wpList _ _ _ _ _ _); refine Tryd.klLoad (by rfl) _ (by rfl) K (by rfl) (by repeat (first | exact List.mem_cons_self | refine List.mem_cons_of_mem _ ?_)) ?_)
        | (go_at_call 9; (with_reducible refine (lLong_any l A _ c B _ d _ rfl rfl _ (K.out.at_ (r := ⟨l, A, B⟩) (by simp)) b1 b2 HZ.out).mono ?_); rintro e W1 ⟨rfl, hb⟩; rw [HL.out]; (have K2 := hid (K.out.later hb)); clear hb K; (have K := K2); clear K2)
        | (go_at_call 18; (with_reducible refine (lMay_any l A _ c B _ d _ rfl rfl _ (K.out.at_ (r := ⟨l, A, B⟩) (by simp)) B9.out C9.out FI.out (Utf8Tabs_below T.out K.out.b)).mono ?_); rintro e W2 ⟨rfl, hb⟩; rw [MB.out]; (have K2 := hid (K.out.later hb)); clear hb K; (have K := K2); clear K2)
        | (go_at_call 10; (with_reducible refine (lAwake_any _ (Utf8Tabs_below T.out K.out.b)).mono ?_); rintro e W9 ⟨rfl, hb⟩; (have K2 := hid (K.out.later hb)); clear hb K; (have K := K2); clear K2))
      go_ret
      exact ⟨rfl, K.out.b⟩
    | true =>
      have MB := hid hb
      have hm := hid hb
      obtain ⟨p1, p2, p3, p4, p5, p6, p7, p8⟩ := mayL_parts hb
      clear hb
      obtain ⟨N, hN⟩ : ∃ N : Nat, (N : Int) = nInd l := ⟨(nInd l).toNat, by have := nInd_nonneg hm.out; omega⟩
      by_cases hl : l.ls.length = 0
      · have hq : (6 - l.q) = (N : Int) := by rw [hN]; unfold nInd; rw [if_pos (List.eq_nil_of_length_eq_zero hl)]
        have k1 : IntKind.i64.wrap (6 - l.q) = (N : Int) := by rw [hq]; exact IntWalk.i64_in _ (by omega)
        have h0 : ¬ (0 : Int) < (l.ls.length : Int) := by omega
        have hN6 : N ≤ 6 := by have := (nInd_nonneg hm.out).2; omega
        have hN' := hid hN
        clear hN hl hq p1 p2 p3 p4 p5 p6 p7 p8
        have hN := hN'
        clear hN'
        go_enter Tryd.func5, Tryd.ntmps5
        go_wp2_with (first
          | ((with_reducible show wpList _ _ _ _ _ _); refine Tryd.klBox (by rfl) _ (by rfl) (some 1) (by rfl) (by rfl) K ?_; intro g1 V1 K1; clear K; (have K := K1); clear K1)
          | ((with_reducible show wpList _ _ _ _ _ _); refine Tryd.klLoad (by rfl) _ (by rfl) K (by rfl) (by repeat (first | exact List.mem_cons_self | refine List.mem_cons_of_mem _ ?_)) ?_)
          | (go_at_call 9; (with_reducible refine (lLong_any l A _ c B _ d _ rfl rfl _ (K.out.at_ (r := ⟨l, A, B⟩) (by simp)) b1 b2 HZ.out).mono ?_); rintro e W1 ⟨rfl, hb⟩; rw [HL.out]; (have K2 := hid (K.out.later hb)); clear hb K; (have K := K2); clear K2)
          | (go_at_call 18; (with_reducible refine (lMay_any l A _ c B _ d _ rfl rfl _ (K.out.at_ (r := ⟨l, A, B⟩) (by simp)) B9.out C9.out FI.out (Utf8Tabs_below T.out K.out.b)).mono ?_); rintro e W2 ⟨rfl, hb⟩; rw [MB.out]; (have K2 := hid (K.out.later hb)); clear hb K; (have K := K2); clear K2; obtain ⟨⟨_, _, _, _⟩, _, _, _, _⟩ := (K.out.bx ⟨g1, .int .i64 l.q, .slice A l.ls.length c, .int .i64 l.k, .slice B l.cs.length d⟩ (by simp)).2.cells)
          | ((with_reducible show wpList _ _ _ _ _ _); refine Tryd.klAlloc (by rfl) (by rfl) (some 4) (by rfl) K ?_; intro g4 V1 K1; clear K; (have K := K1); clear K1)
          | ((with_reducible show wpList _ _ _ _ _ _); refine Tryd.klStore (by rfl) (.tmp 4) _ (by rfl) [] (by exact K) (by rfl) (by rfl) (by exact ⟨rfl, rfl, rfl, rfl⟩) ?_; intro V2 K1; (dsimp only [List.cons_append, List.nil_append] at K1); clear K; (have K := K1); clear K1))
        go_loopw [5] (fun i wr => ∃ (k : Nat) (M : Ln) (A' : Option Addr) (c' : Nat) (B' : Option Addr) (d' : Nat), k ≤ N ∧ i = .int .i64 k ∧ Hid (indN l k = M) ∧ Hid (KL w wr [⟨g4, .int .i64 M.q, .slice A' M.ls.length c', .int .i64 M.k, .slice B' M.cs.length d'⟩, ⟨g1, .int .i64 l.q, .slice A l.ls.length c, .int .i64 l.k, .slice B l.cs.length d⟩] [⟨M, A', B'⟩, ⟨l, A, B⟩] [])) (fun i _ => N - (intOf i).toNat)
        case atStart => exact ⟨0, l, A, c, B, d, Nat.zero_le _, rfl, hid (indN_zero l), hid (K.out.less (List.Sublist.refl _) (by simp) (List.Sublist.refl _))⟩
        case round =>
          clear K
          obtain ⟨k, M, A', c', B', d', hk, rfl, hM, K⟩ := hrel
          have FM : Hid (FineC M.cs) := hid (by rw [← hM.out, indN_cs]; exact FI.out)
          have MC9 : Hid (M.cs.length ≤ 1000000000) := hid (by rw [← hM.out, indN_cs]; exact C9.out)
          have MB9 : Hid (M.ls.length ≤ 1000000000) := hid (by rw [← hM.out]; exact indN_len hm.out (by have := hN.out; omega))
          by_cases hlt : k < N
          · have hi : (k : Int) < (N : Int) := by omega
            obtain ⟨M2, hM2⟩ : ∃ x, indN l (k + 1) = x := ⟨_, rfl⟩
            have EQ : Hid (indentL M = (M2, 0)) := hid (by rw [← hM.out, ← hM2]; exact (indN_step hm.out (i := k) (by have := hN.out; omega)))
            have HM2 := hid hM2
            clear hM2
            go_wp2_with (first
              | ((with_reducible show wpList _ _ _ _ _ _); refine Tryd.klLoad (by rfl) _ (by rfl) K (by rfl) (by repeat (first | exact List.mem_cons_self | refine List.mem_cons_of_mem _ ?_)) ?_)
              | (go_at_call 24; (with_reducible refine (lIndent_any M A' _ c' B' _ d' _ rfl rfl _ (K.out.at_ (r := ⟨M, A', B'⟩) (by simp)) MB9.out MC9.out FM.out (Utf8Tabs_below T.out K.out.b)).mono ?_); rintro e W3 hc; unfold RetLnE at hc; rw [EQ.out] at hc; dsimp only at hc; obtain ⟨A3, c3, B3, d3, rfl, le1, le2, wr3, hb3⟩ := hc; simp only [lnV]; clear le1 le2; (have K2 := hid (K.out.add hb3 wr3)); clear hb3 wr3 K; (have K := K2); clear K2)
              | ((with_reducible show wpList _ _ _ _ _ _); refine Tryd.klAlloc (by rfl) (by rfl) (some 6) (by rfl) K ?_; intro g6 V1 K1; clear K; (have K := K1); clear K1)
              | ((with_reducible show wpList _ _ _ _ _ _); refine Tryd.klStore (by rfl) (.tmp 6) _ (by rfl) [] (by exact K) (by rfl) (by rfl) (by exact ⟨rfl, rfl, rfl, rfl⟩) ?_; intro V2 K1; (dsimp only [List.cons_append, List.nil_append] at K1); clear K; (have K := K1); clear K1)
              | ((with_reducible show wpList _ _ _ _ _ _); refine Tryd.klStore (by rfl) (.tmp 4) _ (by rfl) [_] (by exact K) (by rfl) (by rfl) (by exact ⟨rfl, rfl, rfl, rfl⟩) ?_; intro V2 K1; (dsimp only [List.cons_append, List.nil_append] at K1); clear K; (have K := K1); clear K1))
            go_roundw
            case rel => exact ⟨k + 1, M2, A3, c3, B3, d3, by omega, by go_num, HM2, hid (K.out.less (by simp) (by simp) (List.Sublist.refl _))⟩
            case measure => simp [intOf]; omega
          · have hi : ¬ (k : Int) < (N : Int) := by omega
            have HM0 : Hid (indN l N = M) := hid (by have := hM.out; rwa [show k = N from by omega] at this)
            clear hM
            have EQ : Hid (indentL M = (zL, 7)) := hid (by rw [← HM0.out]; exact indN_full hm.out hN.out)
            go_wp2_with (first
              | ((with_reducible show wpList _ _ _ _ _ _); refine Tryd.klLoad (by rfl) _ (by rfl) K (by rfl) (by repeat (first | exact List.mem_cons_self | refine List.mem_cons_of_mem _ ?_)) ?_)
              | (go_at_call 24; (with_reducible refine (lIndent_any M A' _ c' B' _ d' _ rfl rfl _ (K.out.at_ (r := ⟨M, A', B'⟩) (by simp)) MB9.out MC9.out FM.out (Utf8Tabs_below T.out K.out.b)).mono ?_); rintro e W3 hc; unfold RetLnE at hc; rw [EQ.out] at hc; dsimp only at hc; obtain ⟨A5, c5, B5, d5, rfl, le1, le2, wr3, hb3⟩ := hc; simp only [lnV]; clear le1 le2; (have K2 := hid (K.out.add hb3 wr3)); clear hb3 wr3 K; (have K := K2); clear K2)
              | ((with_reducible show wpList _ _ _ _ _ _); refine Tryd.klAlloc (by rfl) (by rfl) (some 8) (by rfl) K ?_; intro g8 V1 K1; clear K; (have K := K1); clear K1)
              | ((with_reducible show wpList _ _ _ _ _ _); refine Tryd.klStore (by rfl) (.tmp 8) _ (by rfl) [] (by exact K) (by rfl) (by rfl) (by exact ⟨rfl, rfl, rfl, rfl⟩) ?_; intro V2 K1; (dsimp only [List.cons_append, List.nil_append] at K1); clear K; (have K := K1); clear K1))
            go_loopw [10] (fun i wr => ∃ (k : Nat) (M : Ln) (A' : Option Addr) (c' : Nat) (B' : Option Addr) (d' : Nat), k ≤ N ∧ i = .int .i64 k ∧ Hid (indN l (N - k) = M) ∧ Hid (KL w wr [⟨g4, .int .i64 M.q, .slice A' M.ls.length c', .int .i64 M.k, .slice B' M.cs.length d'⟩, ⟨g1, .int .i64 l.q, .slice A l.ls.length c, .int .i64 l.k, .slice B l.cs.length d⟩] [⟨M, A', B'⟩, ⟨l, A, B⟩] [])) (fun i _ => N - (intOf i).toNat)
            case atStart => exact ⟨0, M, A', c', B', d', Nat.zero_le _, rfl, hid (by rw [Nat.sub_zero]; exact HM0.out), hid (K.out.less (by simp) (by simp) (List.Sublist.refl _))⟩
            case round =>
              clear K HM0 FM MB9 MC9
              obtain ⟨k, M, A', c', B', d', hk, rfl, hM, K⟩ := hrel
              have FM : Hid (FineC M.cs) := hid (by rw [← hM.out, indN_cs]; exact FI.out)
              have MC9 : Hid (M.cs.length ≤ 1000000000) := hid (by rw [← hM.out, indN_cs]; exact C9.out)
              have MB9 : Hid (M.ls.length ≤ 1000000000) := hid (by rw [← hM.out]; exact indN_len hm.out (by have := hN.out; omega))
              by_cases hlt : k < N
              · have hi : (k : Int) < (N : Int) := by omega
                obtain ⟨M2, hM2⟩ : ∃ x, indN l (N - (k + 1)) = x := ⟨_, rfl⟩
                have EQ : Hid (outdentL M = (M2, 0)) := hid (by rw [← hM.out, ← hM2]; exact (by have := indN_back hm.out (i := N - (k + 1)) (by have := hN.out; omega); rwa [show N - (k + 1) + 1 = N - k from by omega] at this))
                have HM2 := hid hM2
                clear hM2
                go_wp2_with (first
                  | ((with_reducible show wpList _ _ _ _ _ _); refine Tryd.klLoad (by rfl) _ (by rfl) K (by rfl) (by repeat (first | exact List.mem_cons_self | refine List.mem_cons_of_mem _ ?_)) ?_)
                  | (go_at_call 25; (with_reducible refine (lOutdent_any M A' _ c' B' _ d' _ rfl rfl _ (K.out.at_ (r := ⟨M, A', B'⟩) (by simp)) MB9.out MC9.out FM.out (Utf8Tabs_below T.out K.out.b)).mono ?_); rintro e W3 hc; unfold RetLnE at hc; rw [EQ.out] at hc; dsimp only at hc; obtain ⟨A3, c3, B3, d3, rfl, le1, le2, wr3, hb3⟩ := hc; simp only [lnV]; clear le1 le2; (have K2 := hid (K.out.add hb3 wr3)); clear hb3 wr3 K; (have K := K2); clear K2)
                  | ((with_reducible show wpList _ _ _ _ _ _); refine Tryd.klAlloc (by rfl) (by rfl) (some 11) (by rfl) K ?_; intro g11 V1 K1; clear K; (have K := K1); clear K1)
                  | ((with_reducible show wpList _ _ _ _ _ _); refine Tryd.klStore (by rfl) (.tmp 11) _ (by rfl) [] (by exact K) (by rfl) (by rfl) (by exact ⟨rfl, rfl, rfl, rfl⟩) ?_; intro V2 K1; (dsimp only [List.cons_append, List.nil_append] at K1); clear K; (have K := K1); clear K1)
                  | ((with_reducible show wpList _ _ _ _ _ _); refine Tryd.klStore (by rfl) (.tmp 4) _ (by rfl) [_] (by exact K) (by rfl) (by rfl) (by exact ⟨rfl, rfl, rfl, rfl⟩) ?_; intro V2 K1; (dsimp only [List.cons_append, List.nil_append] at K1); clear K; (have K := K1); clear K1))
                go_roundw
                case rel => exact ⟨k + 1, M2, A3, c3, B3, d3, by omega, by go_num, HM2, hid (K.out.less (by simp) (by simp) (List.Sublist.refl _))⟩
                case measure => simp [intOf]; omega
              · have hi : ¬ (k : Int) < (N : Int) := by omega
                have HM0 : Hid (indN l (N - N) = M) := hid (by have := hM.out; rwa [show k = N from by omega] at this)
                clear hM
                have SM : Hid (M = l) := hid (by rw [← HM0.out, Nat.sub_self]; exact indN_zero l)
                go_wp2_with (first
                  | ((with_reducible show wpList _ _ _ _ _ _); refine Tryd.klLoad (by rfl) _ (by rfl) K (by rfl) (by repeat (first | exact List.mem_cons_self | refine List.mem_cons_of_mem _ ?_)) ?_)
                  | (go_at_call 20; (with_reducible refine (lSame_any M l A' _ c' B' _ d' A _ c B _ d _ _ rfl rfl rfl rfl _ (K.out.at_ (r := ⟨M, A', B'⟩) (by simp)) (K.out.at_ (r := ⟨l, A, B⟩) (by simp)) MB9.out MC9.out).mono ?_); rintro e W4 ⟨rfl, hb⟩; rw [decide_eq_true SM.out]; (have K2 := hid (K.out.later hb)); clear hb K; (have K := K2); clear K2)
                  | (go_at_call 10; (with_reducible refine (lAwake_any _ (Utf8Tabs_below T.out K.out.b)).mono ?_); rintro e W9 ⟨rfl, hb⟩; (have K2 := hid (K.out.later hb)); clear hb K; (have K := K2); clear K2))
                go_ret
                exact ⟨rfl, K.out.b⟩
      
      · have hq : (6 - (l.ls.length : Int)) = (N : Int) := by rw [hN]; unfold nInd; rw [if_neg (fun e => hl (by rw [e]; rfl))]
        have k0 : IntKind.i64.wrap (6 - l.q) = 6 - l.q := IntWalk.i64_in _ (by omega)
        have k1 : IntKind.i64.wrap (6 - (l.ls.length : Int)) = (N : Int) := by rw [hq]; exact IntWalk.i64_in _ (by omega)
        have h0 : (0 : Int) < (l.ls.length : Int) := by omega
        have hN6 : N ≤ 6 := by have := (nInd_nonneg hm.out).2; omega
        have hN' := hid hN
        clear hN hl hq p1 p2 p3 p4 p5 p6 p7 p8
        have hN := hN'
        clear hN'
        go_enter Tryd.func5, Tryd.ntmps5
        go_wp2_with (first
          | ((with_reducible show wpList _ _ _ _ _ _); refine Tryd.klBox (by rfl) _ (by rfl) (some 1) (by rfl) (by rfl) K ?_; intro g1 V1 K1; clear K; (have K := K1); clear K1)
          | ((with_reducible show wpList _ _ _ _ _ _); refine Tryd.klLoad (by rfl) _ (by rfl) K (by rfl) (by repeat (first | exact List.mem_cons_self | refine List.mem_cons_of_mem _ ?_)) ?_)
          | (go_at_call 9; (with_reducible refine (lLong_any l A _ c B _ d _ rfl rfl _ (K.out.at_ (r := ⟨l, A, B⟩) (by simp)) b1 b2 HZ.out).mono ?_); rintro e W1 ⟨rfl, hb⟩; rw [HL.out]; (have K2 := hid (K.out.later hb)); clear hb K; (have K := K2); clear K2)
          | (go_at_call 18; (with_reducible refine (lMay_any l A _ c B _ d _ rfl rfl _ (K.out.at_ (r := ⟨l, A, B⟩) (by simp)) B9.out C9.out FI.out (Utf8Tabs_below T.out K.out.b)).mono ?_); rintro e W2 ⟨rfl, hb⟩; rw [MB.out]; (have K2 := hid (K.out.later hb)); clear hb K; (have K := K2); clear K2; obtain ⟨⟨_, _, _, _⟩, _, _, _, _⟩ := (K.out.bx ⟨g1, .int .i64 l.q, .slice A l.ls.length c, .int .i64 l.k, .slice B l.cs.length d⟩ (by simp)).2.cells)
          | ((with_reducible show wpList _ _ _ _ _ _); refine Tryd.klAlloc (by rfl) (by rfl) (some 4) (by rfl) K ?_; intro g4 V1 K1; clear K; (have K := K1); clear K1)
          | ((with_reducible show wpList _ _ _ _ _ _); refine Tryd.klStore (by rfl) (.tmp 4) _ (by rfl) [] (by exact K) (by rfl) (by rfl) (by exact ⟨rfl, rfl, rfl, rfl⟩) ?_; intro V2 K1; (dsimp only [List.cons_append, List.nil_append] at K1); clear K; (have K := K1); clear K1))
        go_loopw [5] (fun i wr => ∃ (k : Nat) (M : Ln) (A' : Option Addr) (c' : Nat) (B' : Option Addr) (d' : Nat), k ≤ N ∧ i = .int .i64 k ∧ Hid (indN l k = M) ∧ Hid (KL w wr [⟨g4, .int .i64 M.q, .slice A' M.ls.length c', .int .i64 M.k, .slice B' M.cs.length d'⟩, ⟨g1, .int .i64 l.q, .slice A l.ls.length c, .int .i64 l.k, .slice B l.cs.length d⟩] [⟨M, A', B'⟩, ⟨l, A, B⟩] [])) (fun i _ => N - (intOf i).toNat)
        case atStart => exact ⟨0, l, A, c, B, d, Nat.zero_le _, rfl, hid (indN_zero l), hid (K.out.less (List.Sublist.refl _) (by simp) (List.Sublist.refl _))⟩
        case round =>
          clear K
          obtain ⟨k, M, A', c', B', d', hk, rfl, hM, K⟩ := hrel
          have FM : Hid (FineC M.cs) := hid (by rw [← hM.out, indN_cs]; exact FI.out)
          have MC9 : Hid (M.cs.length ≤ 1000000000) := hid (by rw [← hM.out, indN_cs]; exact C9.out)
          have MB9 : Hid (M.ls.length ≤ 1000000000) := hid (by rw [← hM.out]; exact indN_len hm.out (by have := hN.out; omega))
          by_cases hlt : k < N
          · have hi : (k : Int) < (N : Int) := by omega
            obtain ⟨M2, hM2⟩ : ∃ x, indN l (k + 1) = x := ⟨_, rfl⟩
            have EQ : Hid (indentL M = (M2, 0)) := hid (by rw [← hM.out, ← hM2]; exact (indN_step hm.out (i := k) (by have := hN.out; omega)))
            have HM2 := hid hM2
            clear hM2
            go_wp2_with (first
              | ((with_reducible show wpList _ _ _ _ _ _); refine Tryd.klLoad (by rfl) _ (by rfl) K (by rfl) (by repeat (first | exact List.mem_cons_self | refine List.mem_cons_of_mem _ ?_)) ?_)
              | (go_at_call 24; (with_reducible refine (lIndent_any M A' _ c' B' _ d' _ rfl rfl _ (K.out.at_ (r := ⟨M, A', B'⟩) (by simp)) MB9.out MC9.out FM.out (Utf8Tabs_below T.out K.out.b)).mono ?_); rintro e W3 hc; unfold RetLnE at hc; rw [EQ.out] at hc; dsimp only at hc; obtain ⟨A3, c3, B3, d3, rfl, le1, le2, wr3, hb3⟩ := hc; simp only [lnV]; clear le1 le2; (have K2 := hid (K.out.add hb3 wr3)); clear hb3 wr3 K; (have K := K2); clear K2)
              | ((with_reducible show wpList _ _ _ _ _ _); refine Tryd.klAlloc (by rfl) (by rfl) (some 6) (by rfl) K ?_; intro g6 V1 K1; clear K; (have K := K1); clear K1)
              | ((with_reducible show wpList _ _ _ _ _ _); refine Tryd.klStore (by rfl) (.tmp 6) _ (by rfl) [] (by exact K) (by rfl) (by rfl) (by exact ⟨rfl, rfl, rfl, rfl⟩) ?_; intro V2 K1; (dsimp only [List.cons_append, List.nil_append] at K1); clear K; (have K := K1); clear K1)
              | ((with_reducible show wpList _ _ _ _ _ _); refine Tryd.klStore (by rfl) (.tmp 4) _ (by rfl) [_] (by exact K) (by rfl) (by rfl) (by exact ⟨rfl, rfl, rfl, rfl⟩) ?_; intro V2 K1; (dsimp only [List.cons_append, List.nil_append] at K1); clear K; (have K := K1); clear K1))
            go_roundw
            case rel => exact ⟨k + 1, M2, A3, c3, B3, d3, by omega, by go_num, HM2, hid (K.out.less (by simp) (by simp) (List.Sublist.refl _))⟩
            case measure => simp [intOf]; omega
          · have hi : ¬ (k : Int) < (N : Int) := by omega
            have HM0 : Hid (indN l N = M) := hid (by have := hM.out; rwa [show k = N from by omega] at this)
            clear hM
            have EQ : Hid (indentL M = (zL, 7)) := hid (by rw [← HM0.out]; exact indN_full hm.out hN.out)
            go_wp2_with (first
              | ((with_reducible show wpList _ _ _ _ _ _); refine Tryd.klLoad (by rfl) _ (by rfl) K (by rfl) (by repeat (first | exact List.mem_cons_self | refine List.mem_cons_of_mem _ ?_)) ?_)
              | (go_at_call 24; (with_reducible refine (lIndent_any M A' _ c' B' _ d' _ rfl rfl _ (K.out.at_ (r := ⟨M, A', B'⟩) (by simp)) MB9.out MC9.out FM.out (Utf8Tabs_below T.out K.out.b)).mono ?_); rintro e W3 hc; unfold RetLnE at hc; rw [EQ.out] at hc; dsimp only at hc; obtain ⟨A5, c5, B5, d5, rfl, le1, le2, wr3, hb3⟩ := hc; simp only [lnV]; clear le1 le2; (have K2 := hid (K.out.add hb3 wr3)); clear hb3 wr3 K; (have K := K2); clear K2)
              | ((with_reducible show wpList _ _ _ _ _ _); refine Tryd.klAlloc (by rfl) (by rfl) (some 8) (by rfl) K ?_; intro g8 V1 K1; clear K; (have K := K1); clear K1)
              | ((with_reducible show wpList _ _ _ _ _ _); refine Tryd.klStore (by rfl) (.tmp 8) _ (by rfl) [] (by exact K) (by rfl) (by rfl) (by exact ⟨rfl, rfl, rfl, rfl⟩) ?_; intro V2 K1; (dsimp only [List.cons_append, List.nil_append] at K1); clear K; (have K := K1); clear K1))
            go_loopw [10] (fun i wr => ∃ (k : Nat) (M : Ln) (A' : Option Addr) (c' : Nat) (B' : Option Addr) (d' : Nat), k ≤ N ∧ i = .int .i64 k ∧ Hid (indN l (N - k) = M) ∧ Hid (KL w wr [⟨g4, .int .i64 M.q, .slice A' M.ls.length c', .int .i64 M.k, .slice B' M.cs.length d'⟩, ⟨g1, .int .i64 l.q, .slice A l.ls.length c, .int .i64 l.k, .slice B l.cs.length d⟩] [⟨M, A', B'⟩, ⟨l, A, B⟩] [])) (fun i _ => N - (intOf i).toNat)
            case atStart => exact ⟨0, M, A', c', B', d', Nat.zero_le _, rfl, hid (by rw [Nat.sub_zero]; exact HM0.out), hid (K.out.less (by simp) (by simp) (List.Sublist.refl _))⟩
            case round =>
              clear K HM0 FM MB9 MC9
              obtain ⟨k, M, A', c', B', d', hk, rfl, hM, K⟩ := hrel
              have FM : Hid (FineC M.cs) := hid (by rw [← hM.out, indN_cs]; exact FI.out)
              have MC9 : Hid (M.cs.length ≤ 1000000000) := hid (by rw [← hM.out, indN_cs]; exact C9.out)
              have MB9 : Hid (M.ls.length ≤ 1000000000) := hid (by rw [← hM.out]; exact indN_len hm.out (by have := hN.out; omega))
              by_cases hlt : k < N
              · have hi : (k : Int) < (N : Int) := by omega
                obtain ⟨M2, hM2⟩ : ∃ x, indN l (N - (k + 1)) = x := ⟨_, rfl⟩
                have EQ : Hid (outdentL M = (M2, 0)) := hid (by rw [← hM.out, ← hM2]; exact (by have := indN_back hm.out (i := N - (k + 1)) (by have := hN.out; omega); rwa [show N - (k + 1) + 1 = N - k from by omega] at this))
                have HM2 := hid hM2
                clear hM2
                go_wp2_with (first
                  | ((with_reducible show wpList _ _ _ _ _ _); refine Tryd.klLoad (by rfl) _ (by rfl) K (by rfl) (by repeat (first | exact List.mem_cons_self | refine List.mem_cons_of_mem _ ?_)) ?_)
                  | (go_at_call 25; (with_reducible refine (lOutdent_any M A' _ c' B' _ d' _ rfl rfl _ (K.out.at_ (r := ⟨M, A', B'⟩) (by simp)) MB9.out MC9.out FM.out (Utf8Tabs_below T.out K.out.b)).mono ?_); rintro e W3 hc; unfold RetLnE at hc; rw [EQ.out] at hc; dsimp only at hc; obtain ⟨A3, c3, B3, d3, rfl, le1, le2, wr3, hb3⟩ := hc; simp only [lnV]; clear le1 le2; (have K2 := hid (K.out.add hb3 wr3)); clear hb3 wr3 K; (have K := K2); clear K2)
                  | ((with_reducible show wpList _ _ _ _ _ _); refine Tryd.klAlloc (by rfl) (by rfl) (some 11) (by rfl) K ?_; intro g11 V1 K1; clear K; (have K := K1); clear K1)
                  | ((with_reducible show wpList _ _ _ _ _ _); refine Tryd.klStore (by rfl) (.tmp 11) _ (by rfl) [] (by exact K) (by rfl) (by rfl) (by exact ⟨rfl, rfl, rfl, rfl⟩) ?_; intro V2 K1; (dsimp only [List.cons_append, List.nil_append] at K1); clear K; (have K := K1); clear K1)
                  | ((with_reducible show wpList _ _ _ _ _ _); refine Tryd.klStore (by rfl) (.tmp 4) _ (by rfl) [_] (by exact K) (by rfl) (by rfl) (by exact ⟨rfl, rfl, rfl, rfl⟩) ?_; intro V2 K1; (dsimp only [List.cons_append, List.nil_append] at K1); clear K; (have K := K1); clear K1))
                go_roundw
                case rel => exact ⟨k + 1, M2, A3, c3, B3, d3, by omega, by go_num, HM2, hid (K.out.less (by simp) (by simp) (List.Sublist.refl _))⟩
                case measure => simp [intOf]; omega
              · have hi : ¬ (k : Int) < (N : Int) := by omega
                have HM0 : Hid (indN l (N - N) = M) := hid (by have := hM.out; rwa [show k = N from by omega] at this)
                clear hM
                have SM : Hid (M = l) := hid (by rw [← HM0.out, Nat.sub_self]; exact indN_zero l)
                go_wp2_with (first
                  | ((with_reducible show wpList _ _ _ _ _ _); refine Tryd.klLoad (by rfl) _ (by rfl) K (by rfl) (by repeat (first | exact List.mem_cons_self | refine List.mem_cons_of_mem _ ?_)) ?_)
                  | (go_at_call 20; (with_reducible refine (lSame_any M l A' _ c' B' _ d' A _ c B _ d _ _ rfl rfl rfl rfl _ (K.out.at_ (r := ⟨M, A', B'⟩) (by simp)) (K.out.at_ (r := ⟨l, A, B⟩) (by simp)) MB9.out MC9.out).mono ?_); rintro e W4 ⟨rfl, hb⟩; rw [decide_eq_true SM.out]; (have K2 := hid (K.out.later hb)); clear hb K; (have K := K2); clear K2)
                  | (go_at_call 10; (with_reducible refine (lAwake_any _ (Utf8Tabs_below T.out K.out.b)).mono ?_); rintro e W9 ⟨rfl, hb⟩; (have K2 := hid (K.out.later hb)); clear hb K; (have K := K2); clear K2))
                go_ret
                exact ⟨rfl, K.out.b⟩
end Go.Proofs.YtpldmiencoolhaaDoor
