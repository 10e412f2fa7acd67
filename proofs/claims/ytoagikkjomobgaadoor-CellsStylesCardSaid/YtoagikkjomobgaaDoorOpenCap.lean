/- A row of structs that came in is no longer than its capacity. No program in sight. -/
import Derived.Test.YtoagikkjomobgaaDoorOpen
namespace Go.Proofs.YtoagikkjomobgaaDoor
open Go.ChangeShapes Go.WideShapes Go.Deep

theorem open_cells_cap {H : Type} {enc : TypeId × Value → H} {P : Program} {w : World} {base : Nat} {spare : Nat → Bool} {held : Bool} {t e : TypeId} {f0 f1 f2 : Field} {fuel : Nat} {A : Option Addr} {n c : Nat} {x : DataW H × List MemPlace} (ht : P.underlying t = some (.slice e)) (he : P.underlying e = some (.struct #[f0, f1, f2]))
    (hone : oneCellFields P #[f0, f1, f2] = true) (hC : P.cellsOf e = 3) (h : DataW.trod enc P w base spare held fuel t [.slice A n c] = some x) : n ≤ c := by
  rcases open_slice_fields ht he hone hC h with ⟨hcs, _⟩ | ⟨a, len, cap, m, D, Pl, hcs, _, hl, _⟩
  · simp at hcs
    obtain ⟨_, rfl, rfl⟩ := hcs
    exact Nat.le_refl _
  · simp at hcs
    obtain ⟨_, rfl, rfl⟩ := hcs
    exact hl
end Go.Proofs.YtoagikkjomobgaaDoor
