/- The bits that a state may have. No program in sight. -/
import Derived.Test.YtblbfoniimnkcaaGreatDoorBits5
namespace Go.Proofs.YtblbfoniimnkcaaGreatDoor
open Go.RowKit Go.Lib

theorem tb15 {i : Nat} (h : 4 ≤ i) : Nat.testBit 15 i = false := Nat.testBit_lt_two_pow (Nat.lt_of_lt_of_le (show 15 < 2 ^ 4 by decide) (Nat.pow_le_pow_right (by decide) h))
theorem bv15 (v : BitVec 64) : v &&& ~~~15#64 = 0#64 ↔ v.toNat < 16 := by
  constructor
  · intro h
    refine Nat.lt_pow_two_of_testBit (n := 4) _ fun i hi => ?_
    by_cases h64 : i < 64
    · have h2 := congrArg (fun b => b.getLsbD i) h
      simp only [BitVec.getLsbD_and, BitVec.getLsbD_not, BitVec.getLsbD_ofNat, tb15 hi, Bool.and_false, Bool.not_false, Bool.and_true, decide_eq_true h64, Nat.zero_testBit] at h2
      exact h2
    · exact Nat.testBit_lt_two_pow (Nat.lt_of_lt_of_le v.isLt (Nat.pow_le_pow_right (by decide) (by omega)))
  · intro h
    apply BitVec.eq_of_getLsbD_eq
    intro i hi
    simp only [BitVec.getLsbD_and, BitVec.getLsbD_not, BitVec.getLsbD_ofNat, Nat.zero_testBit, Bool.and_false, decide_eq_true hi, Bool.true_and]
    by_cases h4 : 4 ≤ i
    · have : v.getLsbD i = false := Nat.testBit_lt_two_pow (Nat.lt_of_lt_of_le (show v.toNat < 2 ^ 4 from h) (Nat.pow_le_pow_right (by decide) h4))
      rw [this]; rfl
    · have e : Nat.testBit 15 i = true := by
        have : i = 0 ∨ i = 1 ∨ i = 2 ∨ i = 3 := by omega
        rcases this with rfl | rfl | rfl | rfl <;> decide
      rw [e, Bool.not_true, Bool.and_false]
theorem wd_zero (v : BitVec 64) : wd v = 0 ↔ v = 0#64 := by
  constructor
  · intro h
    have := bv_wd v
    rw [h] at this
    exact this.symm
  · rintro rfl; rfl
/-- What may be cleared of a number to leave nothing: the numbers of four bits. -/
theorem andNot15 {x : Int} (h1 : -9223372036854775808 ≤ x) (h2 : x ≤ 9223372036854775807) : bits .andNot .i64 x 15 = 0 ↔ 0 ≤ x ∧ x ≤ 15 := by
  rw [andNot_wd, wd_zero, show bv 15 = 15#64 from rfl, bv15]
  unfold bv
  rw [BitVec.toNat_ofInt]
  omega
theorem wd_small {v : BitVec 64} {n : Nat} (h : v.toNat ≤ n) (hn : n < 1000) : 0 ≤ wd v ∧ wd v ≤ n := by
  have e : wd v = (v.toNat : Int) := by
    unfold wd
    rw [wrap64_eq]
    omega
  rw [e]
  omega
/-- The last two bits, the last one. -/
theorem and3 (x : Int) : bits .and .i64 x 3 = 0 ∨ bits .and .i64 x 3 = 1 ∨ bits .and .i64 x 3 = 2 ∨ bits .and .i64 x 3 = 3 := by
  rw [and_wd]
  have := wd_small (v := bv x &&& bv 3) (n := 3) (by rw [BitVec.toNat_and]; exact Nat.and_le_right) (by decide)
  omega
theorem and1 (x : Int) : bits .and .i64 x 1 = 0 ∨ bits .and .i64 x 1 = 1 := by
  rw [and_wd]
  have := wd_small (v := bv x &&& bv 1) (n := 1) (by rw [BitVec.toNat_and]; exact Nat.and_le_right) (by decide)
  omega
end Go.Proofs.YtblbfoniimnkcaaGreatDoor
