/- The walk of the law CellsMay: it answers true. -/
import Derived.Test.YtoagikkjomobgaaDoorCellMay
import Derived.Test.YtoagikkjomobgaaDoorSame5
import Derived.Test.YtoagikkjomobgaaDoorAwake5
import Derived.Test.YtoagikkjomobgaaDoorOpen
namespace Go.Proofs.YtoagikkjomobgaaDoor
open Go.RowKit Go.Lib

theorem quiet_below5 {B : Nat} {a w w' : World} (h : Below B a w) (k : ∃ q, w' = w.drewN q) : Below B a w' := by
  obtain ⟨q, rfl⟩ := k
  exact below_drewN h q
theorem heft_mem {cs : List Cl} {x : Cl} (h : x ∈ cs) : x.h.size / 8 ≤ heft cs := by
  have : x.h.size / 8 ≤ (cs.map fun c => c.h.size / 8).sum := by
    induction cs with
    | nil => cases h
    | cons y ys ih =>
      rcases List.mem_cons.1 h with rfl | h
      · simp
      · have := ih h; simp; omega
  unfold heft; omega
theorem heft_len {cs : List Cl} : cs.length ≤ heft cs := by unfold heft; omega
theorem fineC_of {cs : List Cl} (hw : ∀ x ∈ cs, WfC x) (h : ¬ 20000 < heft cs) : FineC cs := fun x hx => by
  have h1 := heft_mem hx
  obtain ⟨a, b, _, _⟩ := hw x hx
  exact ⟨a, b, by omega⟩

end Go.Proofs.YtoagikkjomobgaaDoor
