/- A row of cells among a law's arguments, opened. -/
import Derived.Test.YtoagikkjomobgaaDoorOpen
import Derived.Test.YtoagikkjomobgaaDoorOpenCap
import Derived.Test.YtoagikkjomobgaaDoorCells2
namespace Go.Proofs.YtoagikkjomobgaaDoor
open Go.ChangeShapes Go.WideShapes Go.Deep
theorem Tryd.structD : ∃ f0 f1 f2 : Field, Tryd.prog.underlying 29 = some (.struct #[f0, f1, f2]) ∧ Go.Deep.oneCellFields Tryd.prog #[f0, f1, f2] = true ∧ Tryd.prog.cellsOf 29 = 3 ∧ Tryd.prog.underlying f0.type = some (.int .i32) ∧ Tryd.prog.underlying f1.type = some (.int .i64) ∧ Tryd.prog.underlying f2.type = some .string :=
  ⟨_, _, _, Tryd.underlying29, by kernel_rfl, by kernel_rfl, by kernel_rfl, by kernel_rfl, by kernel_rfl⟩
section
variable {H : Type} {enc : TypeId × Value → H} {w : World} {base : Nat} {spare : Nat → Bool} {held : Bool}
theorem Tryd.open_cellsD {fuel : Nat} {A : Option Addr} {n c : Nat} {x : DataW H × List MemPlace} (h : DataW.trod enc Tryd.prog w base spare held fuel 22 [.slice A n c] = some x) : ∃ cs, CellsIn w A n cs := by
  obtain ⟨f0, f1, f2, es, eo, ec, e0, e1, e2⟩ := Tryd.structD
  exact open_cells Tryd.underlying22 es eo ec e0 e1 e2 h
theorem Tryd.open_capD {fuel : Nat} {A : Option Addr} {n c : Nat} {x : DataW H × List MemPlace} (h : DataW.trod enc Tryd.prog w base spare held fuel 22 [.slice A n c] = some x) : n ≤ c := by
  obtain ⟨f0, f1, f2, es, eo, ec, e0, e1, e2⟩ := Tryd.structD
  exact open_cells_cap Tryd.underlying22 es eo ec h
end
end Go.Proofs.YtoagikkjomobgaaDoor
