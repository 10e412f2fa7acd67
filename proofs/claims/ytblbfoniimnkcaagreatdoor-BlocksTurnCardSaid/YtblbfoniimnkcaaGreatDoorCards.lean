/-
  DERIVED. GIVEN WITH THE SEED: THE CARDS: each row of YtblbfoniimnkcaaGreatDoorRows.lean that lists a variable, with what it lists TIED to the program's text (the seventh form; the later family's looks); each row that meets fmt, with fmt's text TOLD by the authors' own Lean function (tested against real Go, not proved from fmt's source: count such statements apart). THE CARD IS WHAT COUNTS. Prove the row's statement (the work); the ties are given (YtblbfoniimnkcaaGreatDoorTie.lean); close each card by the builder's one call (the guide's Derived/Test/ToyasCard.lean, 'card_holds'). Laid BY PROGRAM, IN A SANDBOX (cutbox-door.mjs). By AI agents, Wed Nov 11 2026. No macro, syntax, notation, axiom, sorry.
-/
import Derived.Test.YtblbfoniimnkcaaGreatDoorRows
import GoSem.ClaimSeven
namespace Go.Proofs.YtblbfoniimnkcaaGreatDoor
namespace Rows

/-- THE TIED CARD OF 'quillworklaw25.BlocksTell'. -/
def blocksTellCard : Claim7 := { stood := { row := blocksTellRow, standIns := [], harness := (true, "7d7ba73aa1f6cef0af3b844341219aae79a95188039a18cd3a856da2b697b514"), looks := false }, kinds := [], alts := [], laidByText := true, laidKinds := [.data, .pinned], laidTests := true, laidLooks := .later }
def BlocksTellCardSaid : Prop := Claim7.holds Tryz.pinned (.plain (OpenSpec.ofChange blocksTellSpec)) blocksTellCard

/-- THE TIED CARD OF 'quillworklaw25.BlocksTurn'. -/
def blocksTurnCard : Claim7 := { stood := { row := blocksTurnRow, standIns := [], harness := (true, "7d7ba73aa1f6cef0af3b844341219aae79a95188039a18cd3a856da2b697b514"), looks := false }, kinds := [], alts := [], laidByText := true, laidKinds := [.data, .pinned], laidTests := true, laidLooks := .later }
def BlocksTurnCardSaid : Prop := Claim7.holds Tryz.pinned (.plain (OpenSpec.ofChange blocksTurnSpec)) blocksTurnCard

/-- THE SECOND FORM's CARD OF 'quillworklaw25.BlocksTell'. -/
def blocksTellUptoCard : Claim7 := { stood := { row := blocksTellUptoRow, standIns := [], harness := (true, "7d7ba73aa1f6cef0af3b844341219aae79a95188039a18cd3a856da2b697b514"), looks := false }, kinds := [], alts := [], laidByText := true, laidKinds := [.data, .pinned], laidTests := true, laidLooks := .later }
def BlocksTellUptoCardSaid : Prop := Claim7.holds Tryz.pinned (.plain (OpenSpec.upto blocksTellSpec)) blocksTellUptoCard

/-- THE SECOND FORM's CARD OF 'quillworklaw25.BlocksTurn'. -/
def blocksTurnUptoCard : Claim7 := { stood := { row := blocksTurnUptoRow, standIns := [], harness := (true, "7d7ba73aa1f6cef0af3b844341219aae79a95188039a18cd3a856da2b697b514"), looks := false }, kinds := [], alts := [], laidByText := true, laidKinds := [.data, .pinned], laidTests := true, laidLooks := .later }
def BlocksTurnUptoCardSaid : Prop := Claim7.holds Tryz.pinned (.plain (OpenSpec.upto blocksTurnSpec)) blocksTurnUptoCard
end Rows
end Go.Proofs.YtblbfoniimnkcaaGreatDoor
