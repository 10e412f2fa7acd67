/- The walks of tags.May and the reference's May. -/
import Derived.Test.YtapjlkiffgfbfaaDoorTagOf
namespace Go.Proofs.YtapjlkiffgfbfaaDoor
open Go.RowKit

def mayA (p k cp c : Int) : Bool := decide ((cp = 2 ∧ (((p = 7 ∨ p = 8) ∧ (k = 7 ∨ k = 8 ∨ k = 9)) ∨ (p ≠ 7 ∧ p ≠ 8 ∧ k ≠ 1 ∧ k ≠ 9 ∧ (c = 2 ∨ c = 3)))) ∨ (((cp = 4 ∧ ¬ (p = 10 ∧ k = 10)) ∨ cp = 3) ∧ (c = 4 ∨ c = 5 ∨ c = 1)))
def mayR (p k cp c : Int) : Bool := decide (((p = 7 ∨ p = 8) ∧ (k = 7 ∨ k = 8 ∨ k = 9)) ∨ (p ≠ 7 ∧ p ≠ 8 ∧ ((cp = 2 ∧ (k = 6 ∨ k = 7 ∨ k = 8 ∨ (2 ≤ k ∧ k ≤ 5))) ∨ ((cp = 3 ∨ cp = 4) ∧ (c = 4 ∨ c = 5 ∨ c = 1) ∧ (p ≠ 10 ∨ k ≠ 10)))))
theorem ret_b {a b : Bool} (h : a = true ↔ b = true) : Ending.returned (.bool a) = .returned (.bool b) := by rw [Bool.eq_iff_iff.2 h]

set_option maxHeartbeats 4000000 in
theorem refMay_any (p k : Int) (w : World) : Calls Tryd.prog 18 #[.int .i64 p, .int .i64 k] w fun e w' => e = .returned (.bool (mayR p k (classT p) (classT k))) ∧ w = w' := by
  obtain ⟨cp, hp⟩ : ∃ cp, classT p = cp := ⟨_, rfl⟩
  obtain ⟨c, hk⟩ : ∃ c, classT k = c := ⟨_, rfl⟩
  rw [hp, hk]
  have HP := hid hp
  have HK := hid hk
  clear hp hk
  go_enter Tryd.func18, Tryd.ntmps18
  go_wp2_with (go_at_call 25; refine (refClass_any _ _).mono ?_; rintro e w1 ⟨rfl, rfl⟩; first | rw [HP.out] | rw [HK.out])
  all_goals (go_ret; refine ⟨ret_b ?_, rfl⟩; (try simp only [beq_iff_eq, beq_eq_false_iff_ne, ne_eq] at *); simp [mayR]; omega)

set_option maxHeartbeats 4000000 in
theorem may_any (p k : Int) (w : World) : Calls Tryd.prog 17 #[.int .i64 p, .int .i64 k] w fun e w' => e = .returned (.bool (mayA p k (classT p) (classT k))) ∧ Below w.heap.size w w' := by
  obtain ⟨cp, hp⟩ : ∃ cp, classT p = cp := ⟨_, rfl⟩
  obtain ⟨c, hk⟩ : ∃ c, classT k = c := ⟨_, rfl⟩
  rw [hp, hk]
  have HP := hid hp
  have HK := hid hk
  clear hp hk
  go_enter Tryd.func17, Tryd.ntmps17
  go_wp2_with (go_at_call 20; refine (class_any _ _).mono ?_; first | (rintro e w1 ⟨rfl, hb1⟩; rw [HK.out]; (have B1 := hid hb1); clear hb1) | (rintro e w2 ⟨rfl, hb2⟩; rw [HP.out]; (have B2 := hid hb2); clear hb2))
  all_goals (go_ret; refine ⟨ret_b ?_, B1.out.trans (B2.out.mono B1.out.size)⟩; (try simp only [beq_iff_eq, beq_eq_false_iff_ne, ne_eq] at *); simp [mayA]; omega)
theorem may_eq_ref (p k : Int) : mayA p k (classT p) (classT k) = mayR p k (classT p) (classT k) := by
  rw [Bool.eq_iff_iff]
  simp only [mayA, mayR, decide_eq_true_eq]
  unfold classT
  repeat' split
  all_goals omega
end Go.Proofs.YtapjlkiffgfbfaaDoor
