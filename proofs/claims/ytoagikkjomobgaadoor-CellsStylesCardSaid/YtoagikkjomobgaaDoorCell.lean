/- A cell as three values, and what the package cells makes of rows of cells, said of lists. No program in sight. -/
import Derived.Test.YtoagikkjomobgaaDoorApp
import Derived.Test.YtoagikkjomobgaaDoorRunes
namespace Go.Proofs.YtoagikkjomobgaaDoor
open Go.RowKit

structure Cl where
  r : Int
  b : Int
  h : ByteArray
theorem Cl.ext' {x y : Cl} (h1 : x.r = y.r) (h2 : x.b = y.b) (h3 : x.h = y.h) : x = y := by
  cases x; cases y; cases h1; cases h2; cases h3; rfl
theorem toList_inj {s t : ByteArray} (h : s.toList = t.toList) : s = t := by
  have h' : s.data.toList = t.data.toList := by rwa [ByteArray.toList_eq, ByteArray.toList_eq] at h
  cases s; cases t
  congr 1
  exact Array.ext' h'
instance : DecidableEq Cl := fun x y =>
  if h : x.r = y.r ∧ x.b = y.b ∧ x.h = y.h then .isTrue (Cl.ext' h.1 h.2.1 h.2.2)
  else .isFalse fun e => h (by subst e; exact ⟨rfl, rfl, rfl⟩)
def encC (c : Cl) : List Value := [.int .i32 c.r, .int .i64 c.b, .string c.h]
theorem encC_len (c : Cl) : (encC c).length = 3 := rfl
theorem encC_one : ∀ c, ∀ u ∈ encC c, u.oneCell' = true := by
  intro c u h
  simp [encC] at h
  rcases h with rfl | rfl | rfl <;> rfl
def mkc (b : Int) (h : ByteArray) (r : Int) : Cl := ⟨r, b, h⟩

theorem SlAt.atC {w : World} {B : Nat} {A : Option Addr} {xs : List Cl} (h : SlAt encC 3 w B A xs) {k : Nat} (hk : k < xs.length) :
    ∃ ad x, A = some ad ∧ ad.block < B ∧ xs[k]? = some x ∧ w.cell? (ad.add (k * 3)) = some (.int .i32 x.r) ∧ w.cell? ⟨(ad.add (k * 3)).block, (ad.add (k * 3)).off + 1, none⟩ = some (.int .i64 x.b) ∧ w.cell? ⟨(ad.add (k * 3)).block, (ad.add (k * 3)).off + 2, none⟩ = some (.string x.h) := by
  obtain ⟨ad, x, e, hb, hx, hc⟩ := h.at_ hk
  refine ⟨ad, x, e, hb, hx, ?_, hc 1 _ rfl, hc 2 _ rfl⟩
  have := hc 0 _ rfl
  rwa [add_zero'] at this
/-- A cell's numbers are numbers of their kinds. -/
def WfC (c : Cl) : Prop := -2147483648 ≤ c.r ∧ c.r ≤ 2147483647 ∧ -9223372036854775808 ≤ c.b ∧ c.b ≤ 9223372036854775807
def WfCs (cs : List Cl) : Prop := ∀ c ∈ cs, WfC c
end Go.Proofs.YtoagikkjomobgaaDoor
