/-
  DERIVED. GIVEN WITH THE SEED: THE CARDS: each row of YtapjlkiffgfbfaaDoorRows.lean that lists a variable, with what it lists TIED to the program's text (the seventh form; the later family's looks); each row that meets fmt, with fmt's text TOLD by the authors' own Lean function (tested against real Go, not proved from fmt's source: count such statements apart). THE CARD IS WHAT COUNTS. Prove the row's statement (the work); the ties are given (YtapjlkiffgfbfaaDoorTie.lean); close each card by the builder's one call (the guide's Derived/Test/ToyasCard.lean, 'card_holds'). Laid BY PROGRAM, IN A SANDBOX (cutbox-door.mjs). By AI agents, Wed Nov 11 2026. No macro, syntax, notation, axiom, sorry.
-/
import Derived.Test.YtapjlkiffgfbfaaDoorRows
import GoSem.ClaimSeven
namespace Go.Proofs.YtapjlkiffgfbfaaDoor
namespace Rows

/-- THE TIED CARD OF 'quillworklaw02.TagsFind'. -/
def tagsFindCard : Claim7 := { stood := { row := tagsFindRow, standIns := [], harness := (true, "cb52a2e80a3ea9426a3d86f341b2d2aa1f29d4bf86da12cd94609319e1cf68fc"), looks := false }, kinds := [], alts := [], laidByText := true, laidKinds := [.data, .pinned], laidTests := true, laidLooks := .later }
def TagsFindCardSaid : Prop := Claim7.holds Tryd.pinned (.plain (OpenSpec.ofChange tagsFindSpec)) tagsFindCard

/-- THE TIED CARD OF 'quillworklaw02.TagsMay'. -/
def tagsMayCard : Claim7 := { stood := { row := tagsMayRow, standIns := [], harness := (true, "cb52a2e80a3ea9426a3d86f341b2d2aa1f29d4bf86da12cd94609319e1cf68fc"), looks := false }, kinds := [], alts := [], laidByText := true, laidKinds := [.data, .pinned], laidTests := true, laidLooks := .later }
def TagsMayCardSaid : Prop := Claim7.holds Tryd.pinned (.plain (OpenSpec.ofChange tagsMaySpec)) tagsMayCard

/-- THE TIED CARD OF 'quillworklaw02.TagsNames'. -/
def tagsNamesCard : Claim7 := { stood := { row := tagsNamesRow, standIns := [], harness := (true, "cb52a2e80a3ea9426a3d86f341b2d2aa1f29d4bf86da12cd94609319e1cf68fc"), looks := false }, kinds := [], alts := [], laidByText := true, laidKinds := [.data, .pinned], laidTests := true, laidLooks := .later }
def TagsNamesCardSaid : Prop := Claim7.holds Tryd.pinned (.plain (OpenSpec.ofChange tagsNamesSpec)) tagsNamesCard

/-- THE TIED CARD OF 'quillworklaw02.TagsContent'. -/
def tagsContentCard : Claim7 := { stood := { row := tagsContentRow, standIns := [], harness := (true, "cb52a2e80a3ea9426a3d86f341b2d2aa1f29d4bf86da12cd94609319e1cf68fc"), looks := false }, kinds := [], alts := [], laidByText := true, laidKinds := [.data, .pinned], laidTests := true, laidLooks := .later }
def TagsContentCardSaid : Prop := Claim7.holds Tryd.pinned (.plain (OpenSpec.ofChange tagsContentSpec)) tagsContentCard

/-- THE TIED CARD OF 'quillworklaw02.TagsTell'. -/
def tagsTellCard : Claim7 := { stood := { row := tagsTellRow, standIns := [], harness := (true, "cb52a2e80a3ea9426a3d86f341b2d2aa1f29d4bf86da12cd94609319e1cf68fc"), looks := false }, kinds := [], alts := [], laidByText := true, laidKinds := [.data, .pinned], laidTests := true, laidLooks := .later }
def TagsTellCardSaid : Prop := Claim7.holds Tryd.pinned (.plain (OpenSpec.ofChange tagsTellSpec)) tagsTellCard

/-- THE TIED CARD OF 'quillworklaw02.TagsOf'. -/
def tagsOfCard : Claim7 := { stood := { row := tagsOfRow, standIns := [], harness := (true, "cb52a2e80a3ea9426a3d86f341b2d2aa1f29d4bf86da12cd94609319e1cf68fc"), looks := false }, kinds := [], alts := [], laidByText := true, laidKinds := [.data, .pinned], laidTests := true, laidLooks := .later }
def TagsOfCardSaid : Prop := Claim7.holds Tryd.pinned (.plain (OpenSpec.ofChange tagsOfSpec)) tagsOfCard

/-- THE TIED CARD OF 'quillworklaw03.AttrsTell'. -/
def attrsTellCard : Claim7 := { stood := { row := attrsTellRow, standIns := [], harness := (true, "cb52a2e80a3ea9426a3d86f341b2d2aa1f29d4bf86da12cd94609319e1cf68fc"), looks := false }, kinds := [], alts := [], laidByText := true, laidKinds := [.data, .pinned], laidTests := true, laidLooks := .later }
def AttrsTellCardSaid : Prop := Claim7.holds Tryd.pinned (.plain (OpenSpec.ofChange attrsTellSpec)) attrsTellCard

/-- THE TIED CARD OF 'quillworklaw03.AttrsSame'. -/
def attrsSameCard : Claim7 := { stood := { row := attrsSameRow, standIns := [], harness := (true, "cb52a2e80a3ea9426a3d86f341b2d2aa1f29d4bf86da12cd94609319e1cf68fc"), looks := false }, kinds := [], alts := [], laidByText := true, laidKinds := [.data, .pinned], laidTests := true, laidLooks := .later }
def AttrsSameCardSaid : Prop := Claim7.holds Tryd.pinned (.plain (OpenSpec.ofChange attrsSameSpec)) attrsSameCard

/-- THE TIED CARD OF 'quillworklaw03.AttrsPut'. -/
def attrsPutCard : Claim7 := { stood := { row := attrsPutRow, standIns := [], harness := (true, "cb52a2e80a3ea9426a3d86f341b2d2aa1f29d4bf86da12cd94609319e1cf68fc"), looks := false }, kinds := [], alts := [], laidByText := true, laidKinds := [.data, .pinned], laidTests := true, laidLooks := .later }
def AttrsPutCardSaid : Prop := Claim7.holds Tryd.pinned (.plain (OpenSpec.ofChange attrsPutSpec)) attrsPutCard

/-- THE TIED CARD OF 'quillworklaw03.AttrsRows'. -/
def attrsRowsCard : Claim7 := { stood := { row := attrsRowsRow, standIns := [], harness := (true, "cb52a2e80a3ea9426a3d86f341b2d2aa1f29d4bf86da12cd94609319e1cf68fc"), looks := false }, kinds := [], alts := [], laidByText := true, laidKinds := [.data, .pinned], laidTests := true, laidLooks := .later }
def AttrsRowsCardSaid : Prop := Claim7.holds Tryd.pinned (.plain (OpenSpec.ofChange attrsRowsSpec)) attrsRowsCard

/-- THE TIED CARD OF 'quillworklaw03.AttrsOnly'. -/
def attrsOnlyCard : Claim7 := { stood := { row := attrsOnlyRow, standIns := [], harness := (true, "cb52a2e80a3ea9426a3d86f341b2d2aa1f29d4bf86da12cd94609319e1cf68fc"), looks := false }, kinds := [], alts := [], laidByText := true, laidKinds := [.data, .pinned], laidTests := true, laidLooks := .later }
def AttrsOnlyCardSaid : Prop := Claim7.holds Tryd.pinned (.plain (OpenSpec.ofChange attrsOnlySpec)) attrsOnlyCard

/-- THE SECOND FORM's CARD OF 'quillworklaw02.TagsFind'. -/
def tagsFindUptoCard : Claim7 := { stood := { row := tagsFindUptoRow, standIns := [], harness := (true, "cb52a2e80a3ea9426a3d86f341b2d2aa1f29d4bf86da12cd94609319e1cf68fc"), looks := false }, kinds := [], alts := [], laidByText := true, laidKinds := [.data, .pinned], laidTests := true, laidLooks := .later }
def TagsFindUptoCardSaid : Prop := Claim7.holds Tryd.pinned (.plain (OpenSpec.upto tagsFindSpec)) tagsFindUptoCard

/-- THE SECOND FORM's CARD OF 'quillworklaw02.TagsMay'. -/
def tagsMayUptoCard : Claim7 := { stood := { row := tagsMayUptoRow, standIns := [], harness := (true, "cb52a2e80a3ea9426a3d86f341b2d2aa1f29d4bf86da12cd94609319e1cf68fc"), looks := false }, kinds := [], alts := [], laidByText := true, laidKinds := [.data, .pinned], laidTests := true, laidLooks := .later }
def TagsMayUptoCardSaid : Prop := Claim7.holds Tryd.pinned (.plain (OpenSpec.upto tagsMaySpec)) tagsMayUptoCard

/-- THE SECOND FORM's CARD OF 'quillworklaw02.TagsNames'. -/
def tagsNamesUptoCard : Claim7 := { stood := { row := tagsNamesUptoRow, standIns := [], harness := (true, "cb52a2e80a3ea9426a3d86f341b2d2aa1f29d4bf86da12cd94609319e1cf68fc"), looks := false }, kinds := [], alts := [], laidByText := true, laidKinds := [.data, .pinned], laidTests := true, laidLooks := .later }
def TagsNamesUptoCardSaid : Prop := Claim7.holds Tryd.pinned (.plain (OpenSpec.upto tagsNamesSpec)) tagsNamesUptoCard

/-- THE SECOND FORM's CARD OF 'quillworklaw02.TagsContent'. -/
def tagsContentUptoCard : Claim7 := { stood := { row := tagsContentUptoRow, standIns := [], harness := (true, "cb52a2e80a3ea9426a3d86f341b2d2aa1f29d4bf86da12cd94609319e1cf68fc"), looks := false }, kinds := [], alts := [], laidByText := true, laidKinds := [.data, .pinned], laidTests := true, laidLooks := .later }
def TagsContentUptoCardSaid : Prop := Claim7.holds Tryd.pinned (.plain (OpenSpec.upto tagsContentSpec)) tagsContentUptoCard

/-- THE SECOND FORM's CARD OF 'quillworklaw02.TagsTell'. -/
def tagsTellUptoCard : Claim7 := { stood := { row := tagsTellUptoRow, standIns := [], harness := (true, "cb52a2e80a3ea9426a3d86f341b2d2aa1f29d4bf86da12cd94609319e1cf68fc"), looks := false }, kinds := [], alts := [], laidByText := true, laidKinds := [.data, .pinned], laidTests := true, laidLooks := .later }
def TagsTellUptoCardSaid : Prop := Claim7.holds Tryd.pinned (.plain (OpenSpec.upto tagsTellSpec)) tagsTellUptoCard

/-- THE SECOND FORM's CARD OF 'quillworklaw02.TagsOf'. -/
def tagsOfUptoCard : Claim7 := { stood := { row := tagsOfUptoRow, standIns := [], harness := (true, "cb52a2e80a3ea9426a3d86f341b2d2aa1f29d4bf86da12cd94609319e1cf68fc"), looks := false }, kinds := [], alts := [], laidByText := true, laidKinds := [.data, .pinned], laidTests := true, laidLooks := .later }
def TagsOfUptoCardSaid : Prop := Claim7.holds Tryd.pinned (.plain (OpenSpec.upto tagsOfSpec)) tagsOfUptoCard

/-- THE SECOND FORM's CARD OF 'quillworklaw03.AttrsTell'. -/
def attrsTellUptoCard : Claim7 := { stood := { row := attrsTellUptoRow, standIns := [], harness := (true, "cb52a2e80a3ea9426a3d86f341b2d2aa1f29d4bf86da12cd94609319e1cf68fc"), looks := false }, kinds := [], alts := [], laidByText := true, laidKinds := [.data, .pinned], laidTests := true, laidLooks := .later }
def AttrsTellUptoCardSaid : Prop := Claim7.holds Tryd.pinned (.plain (OpenSpec.upto attrsTellSpec)) attrsTellUptoCard

/-- THE SECOND FORM's CARD OF 'quillworklaw03.AttrsSame'. -/
def attrsSameUptoCard : Claim7 := { stood := { row := attrsSameUptoRow, standIns := [], harness := (true, "cb52a2e80a3ea9426a3d86f341b2d2aa1f29d4bf86da12cd94609319e1cf68fc"), looks := false }, kinds := [], alts := [], laidByText := true, laidKinds := [.data, .pinned], laidTests := true, laidLooks := .later }
def AttrsSameUptoCardSaid : Prop := Claim7.holds Tryd.pinned (.plain (OpenSpec.upto attrsSameSpec)) attrsSameUptoCard

/-- THE SECOND FORM's CARD OF 'quillworklaw03.AttrsPut'. -/
def attrsPutUptoCard : Claim7 := { stood := { row := attrsPutUptoRow, standIns := [], harness := (true, "cb52a2e80a3ea9426a3d86f341b2d2aa1f29d4bf86da12cd94609319e1cf68fc"), looks := false }, kinds := [], alts := [], laidByText := true, laidKinds := [.data, .pinned], laidTests := true, laidLooks := .later }
def AttrsPutUptoCardSaid : Prop := Claim7.holds Tryd.pinned (.plain (OpenSpec.upto attrsPutSpec)) attrsPutUptoCard

/-- THE SECOND FORM's CARD OF 'quillworklaw03.AttrsRows'. -/
def attrsRowsUptoCard : Claim7 := { stood := { row := attrsRowsUptoRow, standIns := [], harness := (true, "cb52a2e80a3ea9426a3d86f341b2d2aa1f29d4bf86da12cd94609319e1cf68fc"), looks := false }, kinds := [], alts := [], laidByText := true, laidKinds := [.data, .pinned], laidTests := true, laidLooks := .later }
def AttrsRowsUptoCardSaid : Prop := Claim7.holds Tryd.pinned (.plain (OpenSpec.upto attrsRowsSpec)) attrsRowsUptoCard

/-- THE SECOND FORM's CARD OF 'quillworklaw03.AttrsOnly'. -/
def attrsOnlyUptoCard : Claim7 := { stood := { row := attrsOnlyUptoRow, standIns := [], harness := (true, "cb52a2e80a3ea9426a3d86f341b2d2aa1f29d4bf86da12cd94609319e1cf68fc"), looks := false }, kinds := [], alts := [], laidByText := true, laidKinds := [.data, .pinned], laidTests := true, laidLooks := .later }
def AttrsOnlyUptoCardSaid : Prop := Claim7.holds Tryd.pinned (.plain (OpenSpec.upto attrsOnlySpec)) attrsOnlyUptoCard
end Rows
end Go.Proofs.YtapjlkiffgfbfaaDoor
