/-
  DERIVED. GIVEN WITH THE SEED: THE CARDS: each row of YtgpccjmkghpiiaaDoorRows.lean that lists a variable, with what it lists TIED to the program's text (the seventh form; the later family's looks); each row that meets fmt, with fmt's text TOLD by the authors' own Lean function (tested against real Go, not proved from fmt's source: count such statements apart). THE CARD IS WHAT COUNTS. Prove the row's statement (the work); the ties are given (YtgpccjmkghpiiaaDoorTie.lean); close each card by the builder's one call (the guide's Derived/Test/ToyasCard.lean, 'card_holds'). Laid BY PROGRAM, IN A SANDBOX (cutbox-door.mjs). By AI agents, Wed Nov 11 2026. No macro, syntax, notation, axiom, sorry.
-/
import Derived.Test.YtgpccjmkghpiiaaDoorRows
import GoSem.ClaimSeven
namespace Go.Proofs.YtgpccjmkghpiiaaDoor
namespace Rows

/-- THE TIED CARD OF 'quillworklaw05.CellsSets'. -/
def cellsSetsCard : Claim7 := { stood := { row := cellsSetsRow, standIns := [], harness := (true, "62fa68de4d58abec2ea302376136d291462679d5bfacb3ebdc05d2781bd39350"), looks := false }, kinds := [], alts := [], laidByText := true, laidKinds := [.data, .pinned], laidTests := true, laidLooks := .later }
def CellsSetsCardSaid : Prop := Claim7.holds Tryd.pinned (.plain (OpenSpec.ofChange cellsSetsSpec)) cellsSetsCard

/-- THE TIED CARD OF 'quillworklaw05.CellsMay'. -/
def cellsMayCard : Claim7 := { stood := { row := cellsMayRow, standIns := [], harness := (true, "62fa68de4d58abec2ea302376136d291462679d5bfacb3ebdc05d2781bd39350"), looks := false }, kinds := [], alts := [], laidByText := true, laidKinds := [.data, .pinned], laidTests := true, laidLooks := .later }
def CellsMayCardSaid : Prop := Claim7.holds Tryd.pinned (.plain (OpenSpec.ofChange cellsMaySpec)) cellsMayCard

/-- THE TIED CARD OF 'quillworklaw05.CellsStyles'. -/
def cellsStylesCard : Claim7 := { stood := { row := cellsStylesRow, standIns := [], harness := (true, "62fa68de4d58abec2ea302376136d291462679d5bfacb3ebdc05d2781bd39350"), looks := false }, kinds := [], alts := [], laidByText := true, laidKinds := [.data, .pinned], laidTests := true, laidLooks := .later }
def CellsStylesCardSaid : Prop := Claim7.holds Tryd.pinned (.plain (OpenSpec.ofChange cellsStylesSpec)) cellsStylesCard

/-- THE SECOND FORM's CARD OF 'quillworklaw05.CellsSets'. -/
def cellsSetsUptoCard : Claim7 := { stood := { row := cellsSetsUptoRow, standIns := [], harness := (true, "62fa68de4d58abec2ea302376136d291462679d5bfacb3ebdc05d2781bd39350"), looks := false }, kinds := [], alts := [], laidByText := true, laidKinds := [.data, .pinned], laidTests := true, laidLooks := .later }
def CellsSetsUptoCardSaid : Prop := Claim7.holds Tryd.pinned (.plain (OpenSpec.upto cellsSetsSpec)) cellsSetsUptoCard

/-- THE SECOND FORM's CARD OF 'quillworklaw05.CellsMay'. -/
def cellsMayUptoCard : Claim7 := { stood := { row := cellsMayUptoRow, standIns := [], harness := (true, "62fa68de4d58abec2ea302376136d291462679d5bfacb3ebdc05d2781bd39350"), looks := false }, kinds := [], alts := [], laidByText := true, laidKinds := [.data, .pinned], laidTests := true, laidLooks := .later }
def CellsMayUptoCardSaid : Prop := Claim7.holds Tryd.pinned (.plain (OpenSpec.upto cellsMaySpec)) cellsMayUptoCard

/-- THE SECOND FORM's CARD OF 'quillworklaw05.CellsStyles'. -/
def cellsStylesUptoCard : Claim7 := { stood := { row := cellsStylesUptoRow, standIns := [], harness := (true, "62fa68de4d58abec2ea302376136d291462679d5bfacb3ebdc05d2781bd39350"), looks := false }, kinds := [], alts := [], laidByText := true, laidKinds := [.data, .pinned], laidTests := true, laidLooks := .later }
def CellsStylesUptoCardSaid : Prop := Claim7.holds Tryd.pinned (.plain (OpenSpec.upto cellsStylesSpec)) cellsStylesUptoCard
end Rows
end Go.Proofs.YtgpccjmkghpiiaaDoor
