/-
  DERIVED. GIVEN WITH THE SEED: THE CARDS: each row of YtoagikkjomobgaaDoorRows.lean that lists a variable, with what it lists TIED to the program's text (the seventh form; the later family's looks); each row that meets fmt, with fmt's text TOLD by the authors' own Lean function (tested against real Go, not proved from fmt's source: count such statements apart). THE CARD IS WHAT COUNTS. Prove the row's statement (the work); the ties are given (YtoagikkjomobgaaDoorTie.lean); close each card by the builder's one call (the guide's Derived/Test/ToyasCard.lean, 'card_holds'). Laid BY PROGRAM, IN A SANDBOX (cutbox-door.mjs). By AI agents, Wed Nov 11 2026. No macro, syntax, notation, axiom, sorry.
-/
import Derived.Test.YtoagikkjomobgaaDoorRows
import GoSem.ClaimSeven
namespace Go.Proofs.YtoagikkjomobgaaDoor
namespace Rows

/-- THE TIED CARD OF 'quillworklaw05.CellsStyles'. -/
def cellsStylesCard : Claim7 := { stood := { row := cellsStylesRow, standIns := [], harness := (true, "1c375cf50179dc583a5547e978ec3d262c8afe7a2d631278d06f7e827d584c8d"), looks := false }, kinds := [], alts := [], laidByText := true, laidKinds := [.data, .pinned], laidTests := true, laidLooks := .later }
def CellsStylesCardSaid : Prop := Claim7.holds Tryd.pinned (.plain (OpenSpec.ofChange cellsStylesSpec)) cellsStylesCard

/-- THE SECOND FORM's CARD OF 'quillworklaw05.CellsStyles'. -/
def cellsStylesUptoCard : Claim7 := { stood := { row := cellsStylesUptoRow, standIns := [], harness := (true, "1c375cf50179dc583a5547e978ec3d262c8afe7a2d631278d06f7e827d584c8d"), looks := false }, kinds := [], alts := [], laidByText := true, laidKinds := [.data, .pinned], laidTests := true, laidLooks := .later }
def CellsStylesUptoCardSaid : Prop := Claim7.holds Tryd.pinned (.plain (OpenSpec.upto cellsStylesSpec)) cellsStylesUptoCard
end Rows
end Go.Proofs.YtoagikkjomobgaaDoor
