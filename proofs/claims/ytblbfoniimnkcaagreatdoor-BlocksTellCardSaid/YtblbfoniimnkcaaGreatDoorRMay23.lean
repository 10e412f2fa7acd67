/- The walk of the reference's May of states. (Printed by wip/bldoc.py.) -/
import Derived.Test.YtblbfoniimnkcaaGreatDoorRDoc7
import Derived.Test.YtblbfoniimnkcaaGreatDoorDocBits
import Derived.BigQuiet
import Derived.Deep.QuietTactic
namespace Go.Proofs.YtblbfoniimnkcaaGreatDoor
open Go.RowKit Go.Lib

theorem bitsOk_iff {on off : Int} (w1 : (Lit.int .i64 on).wf = true) (w2 : (Lit.int .i64 off).wf = true) : bitsOk on off = (decide (0 ≤ on ∧ on ≤ 15) && (decide (0 ≤ off ∧ off ≤ 15) && decide (bits .and .i64 on off = 0))) := by
  have h1 := wf_i64 w1
  have h2 := wf_i64 w2
  unfold bitsOk
  rw [decide_eq_decide.2 (andNot15 h1.1 h1.2), decide_eq_decide.2 (andNot15 h2.1 h2.2)]
set_option maxRecDepth 100000 in
set_option maxHeartbeats 8000000 in
theorem rMay23_any (hs : List Hd) (A : Option Addr) (n c C : Nat) (hn : n = hs.length) (w : World) (hd : DocAt w C A hs) (h1 : hs.length ≤ 1000) (h2 : ∀ h ∈ hs, h.l.ls.length ≤ 1000000 ∧ h.l.cs.length ≤ 1000000) (hf : ∀ h ∈ hs, FineC h.l.cs) (al aa fl fa on off : Int) (w1 : (Lit.int .i64 on).wf = true) (w2 : (Lit.int .i64 off).wf = true) :
    Calls Tryz.prog 23 #[.agg #[.slice A n c, .int .i64 al, .int .i64 aa, .int .i64 fl, .int .i64 fa, .int .i64 on, .int .i64 off]] w (IsBool (mayS ⟨lnsOf hs, ⟨al, aa⟩, ⟨fl, fa⟩, on, off⟩) w) := by
  unfold mayS
  dsimp only
  rw [bitsOk_iff w1 w2]
  clear w1 w2
  subst hn
  have D0 := hid h2
  have L0 := hid h1
  have K := hid (KG.start w [⟨hs, A, false⟩] (by simpa using hd.live))
  have FI := hid hf
  clear hd h2 hf
  by_cases c1 : on < 0
  · rw [decide_eq_false (show ¬ (0 ≤ on ∧ on ≤ 15) by omega)]
    simp only [Bool.and_false, Bool.false_and]
    go_enter Tryz.func23, Tryz.ntmps23
    go_wp2_with (first
      | go_big_skip
      | ((with_reducible show wpList _ _ _ _ _ _); refine kgBox (by rfl) 26 _ (by rfl) (some 1) (by rfl) (by rfl) [_, _, _, _, _, _, _] (by rfl) K ?_; intro g1 V1 K1; clear K; (have K := K1); clear K1)
      | ((with_reducible show wpList _ _ _ _ _ _); refine kgLoad1 (by rfl) 3 _ (by rfl) _ Tryz.underlying3 rfl K (by rfl) (by repeat (first | exact List.mem_cons_self | refine List.mem_cons_of_mem _ ?_)) (by rfl) ?_))
    go_ret
    exact ⟨rfl, K.out.b⟩
  have d1 : decide (on < 0) = false := decide_eq_false c1
  by_cases c2 : 15 < on
  · rw [decide_eq_false (show ¬ (0 ≤ on ∧ on ≤ 15) by omega)]
    simp only [Bool.and_false, Bool.false_and]
    go_enter Tryz.func23, Tryz.ntmps23
    go_wp2_with (first
      | go_big_skip
      | ((with_reducible show wpList _ _ _ _ _ _); refine kgBox (by rfl) 26 _ (by rfl) (some 1) (by rfl) (by rfl) [_, _, _, _, _, _, _] (by rfl) K ?_; intro g1 V1 K1; clear K; (have K := K1); clear K1)
      | ((with_reducible show wpList _ _ _ _ _ _); refine kgLoad1 (by rfl) 3 _ (by rfl) _ Tryz.underlying3 rfl K (by rfl) (by repeat (first | exact List.mem_cons_self | refine List.mem_cons_of_mem _ ?_)) (by rfl) ?_))
    go_ret
    exact ⟨rfl, K.out.b⟩
  have d2 : decide (15 < on) = false := decide_eq_false c2
  rw [decide_eq_true (show 0 ≤ on ∧ on ≤ 15 by omega)]
  by_cases c3 : off < 0
  · rw [decide_eq_false (show ¬ (0 ≤ off ∧ off ≤ 15) by omega)]
    simp only [Bool.and_false, Bool.false_and]
    go_enter Tryz.func23, Tryz.ntmps23
    go_wp2_with (first
      | go_big_skip
      | ((with_reducible show wpList _ _ _ _ _ _); refine kgBox (by rfl) 26 _ (by rfl) (some 1) (by rfl) (by rfl) [_, _, _, _, _, _, _] (by rfl) K ?_; intro g1 V1 K1; clear K; (have K := K1); clear K1)
      | ((with_reducible show wpList _ _ _ _ _ _); refine kgLoad1 (by rfl) 3 _ (by rfl) _ Tryz.underlying3 rfl K (by rfl) (by repeat (first | exact List.mem_cons_self | refine List.mem_cons_of_mem _ ?_)) (by rfl) ?_))
    go_ret
    exact ⟨rfl, K.out.b⟩
  have d3 : decide (off < 0) = false := decide_eq_false c3
  by_cases c4 : 15 < off
  · rw [decide_eq_false (show ¬ (0 ≤ off ∧ off ≤ 15) by omega)]
    simp only [Bool.and_false, Bool.false_and]
    go_enter Tryz.func23, Tryz.ntmps23
    go_wp2_with (first
      | go_big_skip
      | ((with_reducible show wpList _ _ _ _ _ _); refine kgBox (by rfl) 26 _ (by rfl) (some 1) (by rfl) (by rfl) [_, _, _, _, _, _, _] (by rfl) K ?_; intro g1 V1 K1; clear K; (have K := K1); clear K1)
      | ((with_reducible show wpList _ _ _ _ _ _); refine kgLoad1 (by rfl) 3 _ (by rfl) _ Tryz.underlying3 rfl K (by rfl) (by repeat (first | exact List.mem_cons_self | refine List.mem_cons_of_mem _ ?_)) (by rfl) ?_))
    go_ret
    exact ⟨rfl, K.out.b⟩
  have d4 : decide (15 < off) = false := decide_eq_false c4
  rw [decide_eq_true (show 0 ≤ off ∧ off ≤ 15 by omega)]
  by_cases c5 : ¬ bits .and .i64 on off = 0
  · have d5 : (bits .and .i64 on off != 0) = true := bne_iff_ne.2 c5
    rw [decide_eq_false c5]
    simp only [Bool.and_false]
    go_enter Tryz.func23, Tryz.ntmps23
    go_wp2_with (first
      | go_big_skip
      | ((with_reducible show wpList _ _ _ _ _ _); refine kgBox (by rfl) 26 _ (by rfl) (some 1) (by rfl) (by rfl) [_, _, _, _, _, _, _] (by rfl) K ?_; intro g1 V1 K1; clear K; (have K := K1); clear K1)
      | ((with_reducible show wpList _ _ _ _ _ _); refine kgLoad1 (by rfl) 3 _ (by rfl) _ Tryz.underlying3 rfl K (by rfl) (by repeat (first | exact List.mem_cons_self | refine List.mem_cons_of_mem _ ?_)) (by rfl) ?_))
    go_ret
    exact ⟨rfl, K.out.b⟩
  have d5 : (bits .and .i64 on off != 0) = false := bne_eq_false_iff_eq.2 (Decidable.not_not.1 c5)
  rw [decide_eq_true (Decidable.not_not.1 c5)]
  clear c5
  simp only [Bool.and_true]
  cases m1 : mayD (lnsOf hs) with
  | false =>
    have M1 := hid m1
    clear m1
    simp only [Bool.false_and]
    go_enter Tryz.func23, Tryz.ntmps23
    go_wp2_with (first
      | go_big_skip
      | ((with_reducible show wpList _ _ _ _ _ _); refine kgBox (by rfl) 26 _ (by rfl) (some 1) (by rfl) (by rfl) [_, _, _, _, _, _, _] (by rfl) K ?_; intro g1 V1 K1; clear K; (have K := K1); clear K1)
      | ((with_reducible show wpList _ _ _ _ _ _); refine kgLoad1 (by rfl) 3 _ (by rfl) _ Tryz.underlying3 rfl K (by rfl) (by repeat (first | exact List.mem_cons_self | refine List.mem_cons_of_mem _ ?_)) (by rfl) ?_)
      | ((with_reducible show wpList _ _ _ _ _ _); refine kgLoad1 (by rfl) 22 _ (by rfl) _ Tryz.underlying22 rfl K (by rfl) (by repeat (first | exact List.mem_cons_self | refine List.mem_cons_of_mem _ ?_)) (by rfl) ?_)
      | ((with_reducible show wpList _ _ _ _ _ _); refine kgLoadA (by rfl) 24 _ (by rfl) 2 _ Tryz.underlying24 rfl (by kernel_rfl) K (by rfl) (by repeat (first | exact List.mem_cons_self | refine List.mem_cons_of_mem _ ?_)) (part := [_, _]) (by rfl) (by rfl) ?_)
      | (go_at_call 40; (with_reducible refine (rMay7_any hs A _ c _ rfl _ (K.out.at_ (d := ⟨hs, A, false⟩) (by simp)) L0.out D0.out FI.out).mono ?_); rintro e W2 ⟨rfl, hb⟩; rw [M1.out]; (have K2 := hid (K.out.later hb)); clear hb K; (have K := K2); clear K2))
    go_ret
    exact ⟨rfl, K.out.b⟩
  | true =>
    have M1 := hid m1
    clear m1
    simp only [Bool.true_and]
    cases m2 : isD (lnsOf hs) ⟨al, aa⟩ with
    | false =>
      have M2 := hid m2
      clear m2
      simp only [Bool.false_and]
      go_enter Tryz.func23, Tryz.ntmps23
      go_wp2_with (first
        | go_big_skip
        | ((with_reducible show wpList _ _ _ _ _ _); refine kgBox (by rfl) 26 _ (by rfl) (some 1) (by rfl) (by rfl) [_, _, _, _, _, _, _] (by rfl) K ?_; intro g1 V1 K1; clear K; (have K := K1); clear K1)
        | ((with_reducible show wpList _ _ _ _ _ _); refine kgLoad1 (by rfl) 3 _ (by rfl) _ Tryz.underlying3 rfl K (by rfl) (by repeat (first | exact List.mem_cons_self | refine List.mem_cons_of_mem _ ?_)) (by rfl) ?_)
        | ((with_reducible show wpList _ _ _ _ _ _); refine kgLoad1 (by rfl) 22 _ (by rfl) _ Tryz.underlying22 rfl K (by rfl) (by repeat (first | exact List.mem_cons_self | refine List.mem_cons_of_mem _ ?_)) (by rfl) ?_)
        | ((with_reducible show wpList _ _ _ _ _ _); refine kgLoadA (by rfl) 24 _ (by rfl) 2 _ Tryz.underlying24 rfl (by kernel_rfl) K (by rfl) (by repeat (first | exact List.mem_cons_self | refine List.mem_cons_of_mem _ ?_)) (part := [_, _]) (by rfl) (by rfl) ?_)
        | (go_at_call 40; (with_reducible refine (rMay7_any hs A _ c _ rfl _ (K.out.at_ (d := ⟨hs, A, false⟩) (by simp)) L0.out D0.out FI.out).mono ?_); rintro e W2 ⟨rfl, hb⟩; rw [M1.out]; (have K2 := hid (K.out.later hb)); clear hb K; (have K := K2); clear K2)
        | (go_at_call 41; (with_reducible refine (rIs7_any hs A _ c _ rfl _ (K.out.at_ (d := ⟨hs, A, false⟩) (by simp)) al aa).mono ?_); rintro e W3 ⟨rfl, hb⟩; rw [M2.out]; (have K2 := hid (K.out.later hb)); clear hb K; (have K := K2); clear K2))
      go_ret
      exact ⟨rfl, K.out.b⟩
    | true =>
      have M2 := hid m2
      clear m2
      simp only [Bool.true_and]
      cases m3 : isD (lnsOf hs) ⟨fl, fa⟩ with
      | false =>
        have M3 := hid m3
        clear m3
        by_cases same : al = fl ∧ aa = fa
        · obtain ⟨rfl, rfl⟩ := same
          exact absurd (M2.out.symm.trans M3.out) (by decide)
        · have NS := hid same
          clear same
          go_enter Tryz.func23, Tryz.ntmps23
          go_wp2_with (first
            | go_big_skip
            | ((with_reducible show wpList _ _ _ _ _ _); refine kgBox (by rfl) 26 _ (by rfl) (some 1) (by rfl) (by rfl) [_, _, _, _, _, _, _] (by rfl) K ?_; intro g1 V1 K1; clear K; (have K := K1); clear K1)
            | ((with_reducible show wpList _ _ _ _ _ _); refine kgLoad1 (by rfl) 3 _ (by rfl) _ Tryz.underlying3 rfl K (by rfl) (by repeat (first | exact List.mem_cons_self | refine List.mem_cons_of_mem _ ?_)) (by rfl) ?_)
            | ((with_reducible show wpList _ _ _ _ _ _); refine kgLoad1 (by rfl) 22 _ (by rfl) _ Tryz.underlying22 rfl K (by rfl) (by repeat (first | exact List.mem_cons_self | refine List.mem_cons_of_mem _ ?_)) (by rfl) ?_)
            | ((with_reducible show wpList _ _ _ _ _ _); refine kgLoadA (by rfl) 24 _ (by rfl) 2 _ Tryz.underlying24 rfl (by kernel_rfl) K (by rfl) (by repeat (first | exact List.mem_cons_self | refine List.mem_cons_of_mem _ ?_)) (part := [_, _]) (by rfl) (by rfl) ?_)
            | (go_at_call 40; (with_reducible refine (rMay7_any hs A _ c _ rfl _ (K.out.at_ (d := ⟨hs, A, false⟩) (by simp)) L0.out D0.out FI.out).mono ?_); rintro e W2 ⟨rfl, hb⟩; rw [M1.out]; (have K2 := hid (K.out.later hb)); clear hb K; (have K := K2); clear K2)
            | (go_at_call 41; (with_reducible refine (rIs7_any hs A _ c _ rfl _ (K.out.at_ (d := ⟨hs, A, false⟩) (by simp)) al aa).mono ?_); rintro e W3 ⟨rfl, hb⟩; rw [M2.out]; (have K2 := hid (K.out.later hb)); clear hb K; (have K := K2); clear K2)
            | (go_at_call 41; (with_reducible refine (rIs7_any hs A _ c _ rfl _ (K.out.at_ (d := ⟨hs, A, false⟩) (by simp)) fl fa).mono ?_); rintro e W3 ⟨rfl, hb⟩; rw [M3.out]; (have K2 := hid (K.out.later hb)); clear hb K; (have K := K2); clear K2))
          go_ret
          exact ⟨rfl, K.out.b⟩
      | true =>
        have M3 := hid m3
        clear m3
        by_cases same : al = fl ∧ aa = fa
        · obtain ⟨rfl, rfl⟩ := same
          go_enter Tryz.func23, Tryz.ntmps23
          go_wp2_with (first
            | go_big_skip
            | ((with_reducible show wpList _ _ _ _ _ _); refine kgBox (by rfl) 26 _ (by rfl) (some 1) (by rfl) (by rfl) [_, _, _, _, _, _, _] (by rfl) K ?_; intro g1 V1 K1; clear K; (have K := K1); clear K1)
            | ((with_reducible show wpList _ _ _ _ _ _); refine kgLoad1 (by rfl) 3 _ (by rfl) _ Tryz.underlying3 rfl K (by rfl) (by repeat (first | exact List.mem_cons_self | refine List.mem_cons_of_mem _ ?_)) (by rfl) ?_)
            | ((with_reducible show wpList _ _ _ _ _ _); refine kgLoad1 (by rfl) 22 _ (by rfl) _ Tryz.underlying22 rfl K (by rfl) (by repeat (first | exact List.mem_cons_self | refine List.mem_cons_of_mem _ ?_)) (by rfl) ?_)
            | ((with_reducible show wpList _ _ _ _ _ _); refine kgLoadA (by rfl) 24 _ (by rfl) 2 _ Tryz.underlying24 rfl (by kernel_rfl) K (by rfl) (by repeat (first | exact List.mem_cons_self | refine List.mem_cons_of_mem _ ?_)) (part := [_, _]) (by rfl) (by rfl) ?_)
            | (go_at_call 40; (with_reducible refine (rMay7_any hs A _ c _ rfl _ (K.out.at_ (d := ⟨hs, A, false⟩) (by simp)) L0.out D0.out FI.out).mono ?_); rintro e W2 ⟨rfl, hb⟩; rw [M1.out]; (have K2 := hid (K.out.later hb)); clear hb K; (have K := K2); clear K2)
            | (go_at_call 41; (with_reducible refine (rIs7_any hs A _ c _ rfl _ (K.out.at_ (d := ⟨hs, A, false⟩) (by simp)) al aa).mono ?_); rintro e W3 ⟨rfl, hb⟩; rw [M2.out]; (have K2 := hid (K.out.later hb)); clear hb K; (have K := K2); clear K2))
          go_ret
          exact ⟨rfl, K.out.b⟩
        · have NS := hid same
          clear same
          go_enter Tryz.func23, Tryz.ntmps23
          go_wp2_with (first
            | go_big_skip
            | ((with_reducible show wpList _ _ _ _ _ _); refine kgBox (by rfl) 26 _ (by rfl) (some 1) (by rfl) (by rfl) [_, _, _, _, _, _, _] (by rfl) K ?_; intro g1 V1 K1; clear K; (have K := K1); clear K1)
            | ((with_reducible show wpList _ _ _ _ _ _); refine kgLoad1 (by rfl) 3 _ (by rfl) _ Tryz.underlying3 rfl K (by rfl) (by repeat (first | exact List.mem_cons_self | refine List.mem_cons_of_mem _ ?_)) (by rfl) ?_)
            | ((with_reducible show wpList _ _ _ _ _ _); refine kgLoad1 (by rfl) 22 _ (by rfl) _ Tryz.underlying22 rfl K (by rfl) (by repeat (first | exact List.mem_cons_self | refine List.mem_cons_of_mem _ ?_)) (by rfl) ?_)
            | ((with_reducible show wpList _ _ _ _ _ _); refine kgLoadA (by rfl) 24 _ (by rfl) 2 _ Tryz.underlying24 rfl (by kernel_rfl) K (by rfl) (by repeat (first | exact List.mem_cons_self | refine List.mem_cons_of_mem _ ?_)) (part := [_, _]) (by rfl) (by rfl) ?_)
            | (go_at_call 40; (with_reducible refine (rMay7_any hs A _ c _ rfl _ (K.out.at_ (d := ⟨hs, A, false⟩) (by simp)) L0.out D0.out FI.out).mono ?_); rintro e W2 ⟨rfl, hb⟩; rw [M1.out]; (have K2 := hid (K.out.later hb)); clear hb K; (have K := K2); clear K2)
            | (go_at_call 41; (with_reducible refine (rIs7_any hs A _ c _ rfl _ (K.out.at_ (d := ⟨hs, A, false⟩) (by simp)) al aa).mono ?_); rintro e W3 ⟨rfl, hb⟩; rw [M2.out]; (have K2 := hid (K.out.later hb)); clear hb K; (have K := K2); clear K2)
            | (go_at_call 41; (with_reducible refine (rIs7_any hs A _ c _ rfl _ (K.out.at_ (d := ⟨hs, A, false⟩) (by simp)) fl fa).mono ?_); rintro e W3 ⟨rfl, hb⟩; rw [M3.out]; (have K2 := hid (K.out.later hb)); clear hb K; (have K := K2); clear K2))
          go_ret
          exact ⟨rfl, K.out.b⟩
end Go.Proofs.YtblbfoniimnkcaaGreatDoor
