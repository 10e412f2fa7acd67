/- What Set makes of a cell's bits: bit by bit. No program in sight. -/
import Derived.Test.YtblbfoniimnkcaaGreatDoorCells5
namespace Go.Proofs.YtblbfoniimnkcaaGreatDoor
open Go.RowKit

/-- A word of 64 bits as an int. -/
def wd (z : BitVec 64) : Int := IntKind.i64.wrap (z.toNat : Int)
def bv (x : Int) : BitVec 64 := BitVec.ofInt 64 x
theorem wrap64_eq (n : Int) : IntKind.i64.wrap n = (n + 9223372036854775808) % 18446744073709551616 - 9223372036854775808 := by
  simp [IntKind.wrap, IntKind.signed, IntKind.bits]
  omega
theorem bv_wd (z : BitVec 64) : bv (wd z) = z := by
  unfold bv wd
  rw [wrap64_eq]
  apply BitVec.eq_of_toNat_eq
  rw [BitVec.toNat_ofInt]
  have := z.isLt
  omega
theorem and_wd (x y : Int) : bits .and .i64 x y = wd (bv x &&& bv y) := rfl
theorem or_wd (x y : Int) : bits .or .i64 x y = wd (bv x ||| bv y) := rfl
theorem andNot_wd (x y : Int) : bits .andNot .i64 x y = wd (bv x &&& ~~~ bv y) := rfl
theorem ovr_wd (b s c : Int) : ovr b s c = wd ((bv b &&& ~~~ bv c) ||| bv s) := by unfold ovr; rw [or_wd, andNot_wd, bv_wd]
theorem low_wd (s : Int) : low s = wd (bv s &&& bv 15) := rfl

theorem bv_idem (b s c : BitVec 64) : (((b &&& ~~~ c) ||| s) &&& ~~~ c) ||| s = (b &&& ~~~ c) ||| s := by
  apply BitVec.eq_of_getLsbD_eq
  intro i hi
  simp only [BitVec.getLsbD_or, BitVec.getLsbD_and, BitVec.getLsbD_not]
  cases b.getLsbD i <;> cases c.getLsbD i <;> cases s.getLsbD i <;> simp [hi]
theorem bv_has (b s c : BitVec 64) : ((b &&& ~~~ c) ||| s) &&& s = s := by
  apply BitVec.eq_of_getLsbD_eq
  intro i hi
  simp only [BitVec.getLsbD_or, BitVec.getLsbD_and, BitVec.getLsbD_not]
  cases b.getLsbD i <;> cases c.getLsbD i <;> cases s.getLsbD i <;> simp [hi]
theorem bv_less (b s c m : BitVec 64) : ((b &&& ~~~ c) ||| (s &&& m)) &&& (c &&& ~~~ s) = 0#64 := by
  apply BitVec.eq_of_getLsbD_eq
  intro i hi
  simp only [BitVec.getLsbD_or, BitVec.getLsbD_and, BitVec.getLsbD_not, BitVec.getLsbD_zero]
  cases b.getLsbD i <;> cases c.getLsbD i <;> cases s.getLsbD i <;> cases m.getLsbD i <;> simp [hi]

theorem ovr_idem (b s c : Int) : ovr (ovr b s c) s c = ovr b s c := by
  rw [ovr_wd (ovr b s c), ovr_wd b, bv_wd, bv_idem]
theorem setC_idem (s c : Int) (x : Cl) : setC s c (setC s c x) = setC s c x := by
  unfold setC; simp only [ovr_idem]
theorem ovr_has (b s c : Int) : bits .and .i64 (ovr b (low s) c) (low s) = low s := by
  rw [and_wd, ovr_wd, bv_wd, bv_has, low_wd, bv_wd]
theorem ovr_less (b s c : Int) : bits .and .i64 (ovr b (low s) (low c)) (bits .andNot .i64 (low c) s) = 0 := by
  rw [and_wd, ovr_wd, bv_wd, andNot_wd, bv_wd, low_wd s, bv_wd, bv_less]; rfl
theorem ovr_may (b s c : Int) (h0 : 0 ≤ b) (h1 : b ≤ 15) : 0 ≤ ovr b (low s) c ∧ ovr b (low s) c ≤ 15 := by
  rw [ovr_wd, low_wd, bv_wd]
  have e1 : (bv b).toNat = b.toNat := by unfold bv; rw [BitVec.toNat_ofInt]; omega
  have e2 : (bv 15).toNat = 15 := rfl
  have a1 : (bv b &&& ~~~ bv c).toNat < 2 ^ 4 := by
    rw [BitVec.toNat_and, e1]
    exact Nat.lt_of_le_of_lt Nat.and_le_left (by omega)
  have a2 : (bv s &&& bv 15).toNat < 2 ^ 4 := by
    rw [BitVec.toNat_and, e2]
    exact Nat.lt_of_le_of_lt Nat.and_le_right (by omega)
  have a3 : ((bv b &&& ~~~ bv c) ||| (bv s &&& bv 15)).toNat < 2 ^ 4 := by
    rw [BitVec.toNat_or]
    exact Nat.or_lt_two_pow a1 a2
  unfold wd
  rw [wrap64_eq]
  omega
end Go.Proofs.YtblbfoniimnkcaaGreatDoor
