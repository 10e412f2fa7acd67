/- The walks of cells.Link whatever the span and the href, of the reference's Links. -/
import Derived.Test.YtoagikkjomobgaaDoorCellSet
namespace Go.Proofs.YtoagikkjomobgaaDoor
open Go.RowKit Go.Lib

def setH (h : ByteArray) (x : Cl) : Cl := ⟨x.r, x.b, h⟩
/-! ### the reference's Links -/
end Go.Proofs.YtoagikkjomobgaaDoor
