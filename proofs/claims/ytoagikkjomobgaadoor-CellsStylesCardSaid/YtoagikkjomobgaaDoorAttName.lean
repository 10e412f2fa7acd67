/- The walks of attrs.Name and of the reference's Name. -/
import Derived.Test.YtoagikkjomobgaaDoorLow
import Derived.Test.YtoagikkjomobgaaDoorRunes
import Derived.Test.YtoagikkjomobgaaDoorProg
import Derived.Lib.ValidLaws
import Derived.IntWalk
import Derived.Laws.RangeString
namespace Go.Proofs.YtoagikkjomobgaaDoor
open Go.RowKit Go.Lib

def okName (c : UInt8) : Bool := decide ((97 ≤ c.toNat ∧ c.toNat ≤ 122) ∨ (48 ≤ c.toNat ∧ c.toNat ≤ 57) ∨ c.toNat = 45)
def headName (l : List UInt8) : Bool := match l with | [] => false | c :: _ => decide (97 ≤ c.toNat ∧ c.toNat ≤ 122)
/-- Is a text a name? -/
def nameB (l : List UInt8) : Bool := decide (l.length ≤ 16) && headName l && l.all okName
theorem ret_bo {a b : Bool} (h : a = b) : Ending.returned (.bool a) = .returned (.bool b) := by rw [h]
theorem nameB_len {l : List UInt8} (h : 16 < l.length) : nameB l = false := by unfold nameB; rw [decide_eq_false (by omega)]; rfl
theorem nameB_at {s : ByteArray} {k : Nat} (hk : k < s.size) (h : okName s[k] = false) : nameB s.data.toList = false := by
  have : s.data.toList.all okName = false := by
    rw [List.all_eq_false]
    exact ⟨s[k], by have : s.data.toList[k]'(by rw [← Lib.size_eq]; exact hk) = s[k] := rfl; rw [← this]; exact List.getElem_mem _, by rw [h]; decide⟩
  unfold nameB
  rw [this, Bool.and_false]
theorem headName_at {s : ByteArray} (h0 : 0 < s.size) : headName s.data.toList = decide (97 ≤ s[0].toNat ∧ s[0].toNat ≤ 122) := by
  have e : s.data.toList = s[0] :: s.data.toList.tail := by
    have hl : 0 < s.data.toList.length := by rw [← Lib.size_eq]; exact h0
    cases hq : s.data.toList with
    | nil => rw [hq] at hl; simp at hl
    | cons c r =>
      have : s.data.toList[0]'(by rw [hq]; simp) = s[0] := rfl
      simp only [hq, List.getElem_cons_zero] at this
      rw [this]; rfl
  rw [e]; rfl
theorem nameB_head {s : ByteArray} (h0 : 0 < s.size) (h : ¬ (97 ≤ s[0].toNat ∧ s[0].toNat ≤ 122)) : nameB s.data.toList = false := by
  unfold nameB
  rw [headName_at h0, decide_eq_false h, Bool.and_false, Bool.false_and]
theorem nameB_all {s : ByteArray} (h0 : 0 < s.size) (h1 : s.size ≤ 16) (hh : 97 ≤ s[0].toNat ∧ s[0].toNat ≤ 122) (h : ∀ k (hk : k < s.size), okName s[k] = true) : nameB s.data.toList = true := by
  unfold nameB
  rw [headName_at h0, decide_eq_true hh, decide_eq_true (by rw [← Lib.size_eq]; exact h1), Bool.true_and, Bool.true_and, List.all_eq_true]
  intro c hc
  obtain ⟨k, hk, rfl⟩ := List.getElem_of_mem hc
  exact h k (by rw [Lib.size_eq]; exact hk)
theorem okName_of {c : UInt8} (h : (97 ≤ (c.toNat : Int) ∧ (c.toNat : Int) ≤ 122) ∨ (48 ≤ (c.toNat : Int) ∧ (c.toNat : Int) ≤ 57) ∨ (c.toNat : Int) = 45) : okName c = true := decide_eq_true (by omega)
theorem okName_no {c : UInt8} (h : ¬ ((97 ≤ (c.toNat : Int) ∧ (c.toNat : Int) ≤ 122) ∨ (48 ≤ (c.toNat : Int) ∧ (c.toNat : Int) ≤ 57) ∨ (c.toNat : Int) = 45)) : okName c = false := decide_eq_false (by omega)

theorem decode_byte {s : ByteArray} {p : Nat} (hp : p < s.size) : (s[p].toNat < 128 → Utf8.decode s p = (s[p].toNat, 1)) ∧ (128 ≤ s[p].toNat → 128 ≤ (Utf8.decode s p).1) := by
  have hd : s.data.toList.drop p = s[p] :: s.data.toList.drop (p + 1) := by
    rw [List.drop_eq_getElem_cons (by rw [← Lib.size_eq]; exact hp)]; rfl
  rw [← Lib.decodeL_drop, hd]
  exact ⟨fun h => decodeL_ascii _ _ h, fun h => decodeL_great _ _ h⟩

def IsBool (b : Bool) (w : World) (e : Ending) (w' : World) : Prop := e = .returned (.bool b) ∧ Below w.heap.size w w'
end Go.Proofs.YtoagikkjomobgaaDoor
