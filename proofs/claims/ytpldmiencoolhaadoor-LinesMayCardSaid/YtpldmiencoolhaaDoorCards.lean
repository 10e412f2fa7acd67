/-
  DERIVED. GIVEN WITH THE SEED: THE CARDS: each row of YtpldmiencoolhaaDoorRows.lean that lists a variable, with what it lists TIED to the program's text (the seventh form; the later family's looks); each row that meets fmt, with fmt's text TOLD by the authors' own Lean function (tested against real Go, not proved from fmt's source: count such statements apart). THE CARD IS WHAT COUNTS. Prove the row's statement (the work); the ties are given (YtpldmiencoolhaaDoorTie.lean); close each card by the builder's one call (the guide's Derived/Test/ToyasCard.lean, 'card_holds'). Laid BY PROGRAM, IN A SANDBOX (cutbox-door.mjs). By AI agents, Wed Nov 11 2026. No macro, syntax, notation, axiom, sorry.
-/
import Derived.Test.YtpldmiencoolhaaDoorRows
import GoSem.ClaimSeven
namespace Go.Proofs.YtpldmiencoolhaaDoor
namespace Rows

/-- THE TIED CARD OF 'quillworklaw06.LinesCuts'. -/
def linesCutsCard : Claim7 := { stood := { row := linesCutsRow, standIns := [], harness := (true, "727b3d0f9c67e4f9fef62b7ef27b366a2cfb52f65d458ef35b518dedb1043243"), looks := false }, kinds := [], alts := [], laidByText := true, laidKinds := [.data, .pinned], laidTests := true, laidLooks := .later }
def LinesCutsCardSaid : Prop := Claim7.holds Tryd.pinned (.plain (OpenSpec.ofChange linesCutsSpec)) linesCutsCard

/-- THE TIED CARD OF 'quillworklaw06.LinesMay'. -/
def linesMayCard : Claim7 := { stood := { row := linesMayRow, standIns := [], harness := (true, "727b3d0f9c67e4f9fef62b7ef27b366a2cfb52f65d458ef35b518dedb1043243"), looks := false }, kinds := [], alts := [], laidByText := true, laidKinds := [.data, .pinned], laidTests := true, laidLooks := .later }
def LinesMayCardSaid : Prop := Claim7.holds Tryd.pinned (.plain (OpenSpec.ofChange linesMaySpec)) linesMayCard

/-- THE TIED CARD OF 'quillworklaw06.LinesIndents'. -/
def linesIndentsCard : Claim7 := { stood := { row := linesIndentsRow, standIns := [], harness := (true, "727b3d0f9c67e4f9fef62b7ef27b366a2cfb52f65d458ef35b518dedb1043243"), looks := false }, kinds := [], alts := [], laidByText := true, laidKinds := [.data, .pinned], laidTests := true, laidLooks := .later }
def LinesIndentsCardSaid : Prop := Claim7.holds Tryd.pinned (.plain (OpenSpec.ofChange linesIndentsSpec)) linesIndentsCard

/-- THE TIED CARD OF 'quillworklaw06.LinesTurns'. -/
def linesTurnsCard : Claim7 := { stood := { row := linesTurnsRow, standIns := [], harness := (true, "727b3d0f9c67e4f9fef62b7ef27b366a2cfb52f65d458ef35b518dedb1043243"), looks := false }, kinds := [], alts := [], laidByText := true, laidKinds := [.data, .pinned], laidTests := true, laidLooks := .later }
def LinesTurnsCardSaid : Prop := Claim7.holds Tryd.pinned (.plain (OpenSpec.ofChange linesTurnsSpec)) linesTurnsCard

/-- THE TIED CARD OF 'quillworklaw06.LinesBack'. -/
def linesBackCard : Claim7 := { stood := { row := linesBackRow, standIns := [], harness := (true, "727b3d0f9c67e4f9fef62b7ef27b366a2cfb52f65d458ef35b518dedb1043243"), looks := false }, kinds := [], alts := [], laidByText := true, laidKinds := [.data, .pinned], laidTests := true, laidLooks := .later }
def LinesBackCardSaid : Prop := Claim7.holds Tryd.pinned (.plain (OpenSpec.ofChange linesBackSpec)) linesBackCard

/-- THE TIED CARD OF 'quillworklaw06.LinesStay'. -/
def linesStayCard : Claim7 := { stood := { row := linesStayRow, standIns := [], harness := (true, "727b3d0f9c67e4f9fef62b7ef27b366a2cfb52f65d458ef35b518dedb1043243"), looks := false }, kinds := [], alts := [], laidByText := true, laidKinds := [.data, .pinned], laidTests := true, laidLooks := .later }
def LinesStayCardSaid : Prop := Claim7.holds Tryd.pinned (.plain (OpenSpec.ofChange linesStaySpec)) linesStayCard

/-- THE SECOND FORM's CARD OF 'quillworklaw06.LinesCuts'. -/
def linesCutsUptoCard : Claim7 := { stood := { row := linesCutsUptoRow, standIns := [], harness := (true, "727b3d0f9c67e4f9fef62b7ef27b366a2cfb52f65d458ef35b518dedb1043243"), looks := false }, kinds := [], alts := [], laidByText := true, laidKinds := [.data, .pinned], laidTests := true, laidLooks := .later }
def LinesCutsUptoCardSaid : Prop := Claim7.holds Tryd.pinned (.plain (OpenSpec.upto linesCutsSpec)) linesCutsUptoCard

/-- THE SECOND FORM's CARD OF 'quillworklaw06.LinesMay'. -/
def linesMayUptoCard : Claim7 := { stood := { row := linesMayUptoRow, standIns := [], harness := (true, "727b3d0f9c67e4f9fef62b7ef27b366a2cfb52f65d458ef35b518dedb1043243"), looks := false }, kinds := [], alts := [], laidByText := true, laidKinds := [.data, .pinned], laidTests := true, laidLooks := .later }
def LinesMayUptoCardSaid : Prop := Claim7.holds Tryd.pinned (.plain (OpenSpec.upto linesMaySpec)) linesMayUptoCard

/-- THE SECOND FORM's CARD OF 'quillworklaw06.LinesIndents'. -/
def linesIndentsUptoCard : Claim7 := { stood := { row := linesIndentsUptoRow, standIns := [], harness := (true, "727b3d0f9c67e4f9fef62b7ef27b366a2cfb52f65d458ef35b518dedb1043243"), looks := false }, kinds := [], alts := [], laidByText := true, laidKinds := [.data, .pinned], laidTests := true, laidLooks := .later }
def LinesIndentsUptoCardSaid : Prop := Claim7.holds Tryd.pinned (.plain (OpenSpec.upto linesIndentsSpec)) linesIndentsUptoCard

/-- THE SECOND FORM's CARD OF 'quillworklaw06.LinesTurns'. -/
def linesTurnsUptoCard : Claim7 := { stood := { row := linesTurnsUptoRow, standIns := [], harness := (true, "727b3d0f9c67e4f9fef62b7ef27b366a2cfb52f65d458ef35b518dedb1043243"), looks := false }, kinds := [], alts := [], laidByText := true, laidKinds := [.data, .pinned], laidTests := true, laidLooks := .later }
def LinesTurnsUptoCardSaid : Prop := Claim7.holds Tryd.pinned (.plain (OpenSpec.upto linesTurnsSpec)) linesTurnsUptoCard

/-- THE SECOND FORM's CARD OF 'quillworklaw06.LinesBack'. -/
def linesBackUptoCard : Claim7 := { stood := { row := linesBackUptoRow, standIns := [], harness := (true, "727b3d0f9c67e4f9fef62b7ef27b366a2cfb52f65d458ef35b518dedb1043243"), looks := false }, kinds := [], alts := [], laidByText := true, laidKinds := [.data, .pinned], laidTests := true, laidLooks := .later }
def LinesBackUptoCardSaid : Prop := Claim7.holds Tryd.pinned (.plain (OpenSpec.upto linesBackSpec)) linesBackUptoCard

/-- THE SECOND FORM's CARD OF 'quillworklaw06.LinesStay'. -/
def linesStayUptoCard : Claim7 := { stood := { row := linesStayUptoRow, standIns := [], harness := (true, "727b3d0f9c67e4f9fef62b7ef27b366a2cfb52f65d458ef35b518dedb1043243"), looks := false }, kinds := [], alts := [], laidByText := true, laidKinds := [.data, .pinned], laidTests := true, laidLooks := .later }
def LinesStayUptoCardSaid : Prop := Claim7.holds Tryd.pinned (.plain (OpenSpec.upto linesStaySpec)) linesStayUptoCard
end Rows
end Go.Proofs.YtpldmiencoolhaaDoor
