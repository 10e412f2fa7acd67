/-
  DERIVED. GIVEN WITH THE SEED: THE CARDS: each row of YtblbfoniimnkcaaDoorRows.lean that lists a variable, with what it lists TIED to the program's text (the seventh form; the later family's looks); each row that meets fmt, with fmt's text TOLD by the authors' own Lean function (tested against real Go, not proved from fmt's source: count such statements apart). THE CARD IS WHAT COUNTS. Prove the row's statement (the work); the ties are given (YtblbfoniimnkcaaDoorTie.lean); close each card by the builder's one call (the guide's Derived/Test/ToyasCard.lean, 'card_holds'). Laid BY PROGRAM, IN A SANDBOX (cutbox-door.mjs). By AI agents, Wed Nov 11 2026. No macro, syntax, notation, axiom, sorry.
-/
import Derived.Test.YtblbfoniimnkcaaDoorRows
import GoSem.ClaimSeven
namespace Go.Proofs.YtblbfoniimnkcaaDoor
namespace Rows

/-- THE TIED CARD OF 'quillworklaw25.BlocksEach'. -/
def blocksEachCard : Claim7 := { stood := { row := blocksEachRow, standIns := [], harness := (true, "98021f3cfc685f0618dc91dbab0a88ef9d6e366068836e3afcee8c8e3e3cc869"), looks := false }, kinds := [], alts := [], laidByText := true, laidKinds := [.data, .pinned], laidTests := true, laidLooks := .later }
def BlocksEachCardSaid : Prop := Claim7.holds Tryd.pinned (.plain (OpenSpec.ofChange blocksEachSpec)) blocksEachCard

/-- THE TIED CARD OF 'quillworklaw25.BlocksBack'. -/
def blocksBackCard : Claim7 := { stood := { row := blocksBackRow, standIns := [], harness := (true, "98021f3cfc685f0618dc91dbab0a88ef9d6e366068836e3afcee8c8e3e3cc869"), looks := false }, kinds := [], alts := [], laidByText := true, laidKinds := [.data, .pinned], laidTests := true, laidLooks := .later }
def BlocksBackCardSaid : Prop := Claim7.holds Tryd.pinned (.plain (OpenSpec.ofChange blocksBackSpec)) blocksBackCard

/-- THE TIED CARD OF 'quillworklaw25.BlocksStay'. -/
def blocksStayCard : Claim7 := { stood := { row := blocksStayRow, standIns := [], harness := (true, "98021f3cfc685f0618dc91dbab0a88ef9d6e366068836e3afcee8c8e3e3cc869"), looks := false }, kinds := [], alts := [], laidByText := true, laidKinds := [.data, .pinned], laidTests := true, laidLooks := .later }
def BlocksStayCardSaid : Prop := Claim7.holds Tryd.pinned (.plain (OpenSpec.ofChange blocksStaySpec)) blocksStayCard

/-- THE SECOND FORM's CARD OF 'quillworklaw25.BlocksEach'. -/
def blocksEachUptoCard : Claim7 := { stood := { row := blocksEachUptoRow, standIns := [], harness := (true, "98021f3cfc685f0618dc91dbab0a88ef9d6e366068836e3afcee8c8e3e3cc869"), looks := false }, kinds := [], alts := [], laidByText := true, laidKinds := [.data, .pinned], laidTests := true, laidLooks := .later }
def BlocksEachUptoCardSaid : Prop := Claim7.holds Tryd.pinned (.plain (OpenSpec.upto blocksEachSpec)) blocksEachUptoCard

/-- THE SECOND FORM's CARD OF 'quillworklaw25.BlocksBack'. -/
def blocksBackUptoCard : Claim7 := { stood := { row := blocksBackUptoRow, standIns := [], harness := (true, "98021f3cfc685f0618dc91dbab0a88ef9d6e366068836e3afcee8c8e3e3cc869"), looks := false }, kinds := [], alts := [], laidByText := true, laidKinds := [.data, .pinned], laidTests := true, laidLooks := .later }
def BlocksBackUptoCardSaid : Prop := Claim7.holds Tryd.pinned (.plain (OpenSpec.upto blocksBackSpec)) blocksBackUptoCard

/-- THE SECOND FORM's CARD OF 'quillworklaw25.BlocksStay'. -/
def blocksStayUptoCard : Claim7 := { stood := { row := blocksStayUptoRow, standIns := [], harness := (true, "98021f3cfc685f0618dc91dbab0a88ef9d6e366068836e3afcee8c8e3e3cc869"), looks := false }, kinds := [], alts := [], laidByText := true, laidKinds := [.data, .pinned], laidTests := true, laidLooks := .later }
def BlocksStayUptoCardSaid : Prop := Claim7.holds Tryd.pinned (.plain (OpenSpec.upto blocksStaySpec)) blocksStayUptoCard
end Rows
end Go.Proofs.YtblbfoniimnkcaaDoor
