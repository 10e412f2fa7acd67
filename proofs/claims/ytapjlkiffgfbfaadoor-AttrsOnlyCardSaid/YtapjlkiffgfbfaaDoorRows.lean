/-
  NARROWER THAN 'FOR EVERY INPUT', by the rows' own cells (each row's printed sentence says how): TagsFind: laid · TagsMay: laid · TagsNames: laid · TagsContent: laid · TagsTell: laid · TagsOf: laid · AttrsTell: laid · AttrsSame: laid · AttrsPut: laid · AttrsRows: laid · AttrsOnly: laid.
  DERIVED. THE GIVEN ROWS OF THIS SEAT. 11 by the template 'for every input the law returns true; each argument reads behind the call as it read before'; 0 by the template 'total and deterministic' (their statements: YtapjlkiffgfbfaaDoorTotals.lean).
  GIVEN WITH THE SEED: the statements are not yours to turn. If you find one false, say at which input.
  Laid BY PROGRAM, IN A SANDBOX (cutbox-rows.mjs): the forced cells as the released guide's own fill.sh prints them over the translation 41ae795a24b036d4… (all of the seat's roots in one cut). By AI agents, Wed Nov 11 2026. No macro, syntax, notation, axiom, sorry.
-/
import Derived.Test.YtapjlkiffgfbfaaDoorChecked
import GoSem.PinnedTables
import GoSem.Claim
import GoSem.ClaimJoined
import GoSem.ClaimMapViews
import Derived.JoinedTies
import Derived.KernelRfl
namespace Go.Proofs.YtapjlkiffgfbfaaDoor
/- THE CELL 'sum', in the pinned program and in every row, IS THE sha256 OF THE DUMP (.gsa) THAT YtapjlkiffgfbfaaDoorProg.lean LOADS. Nothing in Lean hashes anything: it is a label: what it is worth is what the hold of that sum in a sandbox is worth. -/
noncomputable def Tryd.pinned : Pinned := { name := "ytapjlkiffgfbfaadoor", sum := "41ae795a24b036d4448382d94949a87be27c7e74f73c2d2ba143a285a6f9d8f1", checked := Tryd.checked }
namespace Rows
def none {H : Type} : Left H := { results := [], args := [] }

/- WHAT THE LISTED PACKAGE-LEVEL VARIABLES READ AS WHEN THE CALL BEGINS. Each datum BY PROGRAM (the guide's laid-datum.mjs) off the statement by which the dump's own 'gosem.cut.vars' lays the variable. In a bare row this is a premise. The card (YtapjlkiffgfbfaaDoorCards.lean) ties it to the program's text. -/
def laid_unicode_utf8_acceptRanges {H : Type} : DataW H := .agg [.agg [.lit (.int .u8 128), .lit (.int .u8 191)], .agg [.lit (.int .u8 160), .lit (.int .u8 191)], .agg [.lit (.int .u8 128), .lit (.int .u8 159)], .agg [.lit (.int .u8 144), .lit (.int .u8 191)], .agg [.lit (.int .u8 128), .lit (.int .u8 143)], .agg [.lit (.int .u8 0), .lit (.int .u8 0)], .agg [.lit (.int .u8 0), .lit (.int .u8 0)], .agg [.lit (.int .u8 0), .lit (.int .u8 0)], .agg [.lit (.int .u8 0), .lit (.int .u8 0)], .agg [.lit (.int .u8 0), .lit (.int .u8 0)], .agg [.lit (.int .u8 0), .lit (.int .u8 0)], .agg [.lit (.int .u8 0), .lit (.int .u8 0)], .agg [.lit (.int .u8 0), .lit (.int .u8 0)], .agg [.lit (.int .u8 0), .lit (.int .u8 0)], .agg [.lit (.int .u8 0), .lit (.int .u8 0)], .agg [.lit (.int .u8 0), .lit (.int .u8 0)]]
/-- One of Go's own tables, pinned by name: the form's constant. -/
def laid_unicode_utf8_first : DataW Unit := Go.Pinned.utf8First

/-- 'quillworklaw02.TagsFind': WHATEVER THE INPUT: true; the input reads as it did. -/
def tagsFindSpec : ChangeSpec := { name := "tagsFind", fn := fun _ => fun
  | [d] => { results := [.lit (.bool true)], args := [d] }
  | _ => none }
def tagsFindRow : OpenClaim := { program := "ytapjlkiffgfbfaadoor", sum := "41ae795a24b036d4448382d94949a87be27c7e74f73c2d2ba143a285a6f9d8f1", func := "quillwork/quillworklaw02.TagsFind", spec := "tagsFind", inPlace := ["internal/abi.NoEscape", "internal/bytealg.MakeNoZero"], unfollowed := true, recurses := true, named := ["unicode/utf8.first", "unicode/utf8.acceptRanges"], apart := false, laid := [("unicode/utf8.acceptRanges", laid_unicode_utf8_acceptRanges), ("unicode/utf8.first", laid_unicode_utf8_first)] }
def TagsFindSaid : Prop := tagsFindRow.holds Tryd.pinned (OpenSpec.ofChange tagsFindSpec)

/-- ITS FALSE NEIGHBOUR: 'it returns false'. Refute it at one input. -/
def tagsFindWrong : ChangeSpec := { name := "tagsFind", fn := fun _ => fun
  | [d] => { results := [.lit (.bool false)], args := [d] }
  | _ => none }
def TagsFindWrongFalsely : Prop := tagsFindRow.holds Tryd.pinned (OpenSpec.ofChange tagsFindWrong)

/-- 'quillworklaw02.TagsMay': WHATEVER THE INPUT: true; the input reads as it did. -/
def tagsMaySpec : ChangeSpec := { name := "tagsMay", fn := fun _ => fun
  | [d1, d2] => { results := [.lit (.bool true)], args := [d1, d2] }
  | _ => none }
def tagsMayRow : OpenClaim := { program := "ytapjlkiffgfbfaadoor", sum := "41ae795a24b036d4448382d94949a87be27c7e74f73c2d2ba143a285a6f9d8f1", func := "quillwork/quillworklaw02.TagsMay", spec := "tagsMay", inPlace := ["internal/abi.NoEscape", "internal/bytealg.MakeNoZero"], unfollowed := true, recurses := true, named := ["unicode/utf8.first", "unicode/utf8.acceptRanges"], apart := false, laid := [("unicode/utf8.acceptRanges", laid_unicode_utf8_acceptRanges), ("unicode/utf8.first", laid_unicode_utf8_first)] }
def TagsMaySaid : Prop := tagsMayRow.holds Tryd.pinned (OpenSpec.ofChange tagsMaySpec)

/-- ITS FALSE NEIGHBOUR: 'it returns false'. Refute it at one input. -/
def tagsMayWrong : ChangeSpec := { name := "tagsMay", fn := fun _ => fun
  | [d1, d2] => { results := [.lit (.bool false)], args := [d1, d2] }
  | _ => none }
def TagsMayWrongFalsely : Prop := tagsMayRow.holds Tryd.pinned (OpenSpec.ofChange tagsMayWrong)

/-- 'quillworklaw02.TagsNames': WHATEVER THE INPUT: true; the input reads as it did. -/
def tagsNamesSpec : ChangeSpec := { name := "tagsNames", fn := fun _ => fun
  | [d1, d2, d3] => { results := [.lit (.bool true)], args := [d1, d2, d3] }
  | _ => none }
def tagsNamesRow : OpenClaim := { program := "ytapjlkiffgfbfaadoor", sum := "41ae795a24b036d4448382d94949a87be27c7e74f73c2d2ba143a285a6f9d8f1", func := "quillwork/quillworklaw02.TagsNames", spec := "tagsNames", inPlace := ["internal/abi.NoEscape", "internal/bytealg.MakeNoZero"], unfollowed := true, recurses := true, named := ["unicode/utf8.first", "unicode/utf8.acceptRanges"], apart := false, laid := [("unicode/utf8.acceptRanges", laid_unicode_utf8_acceptRanges), ("unicode/utf8.first", laid_unicode_utf8_first)] }
def TagsNamesSaid : Prop := tagsNamesRow.holds Tryd.pinned (OpenSpec.ofChange tagsNamesSpec)

/-- ITS FALSE NEIGHBOUR: 'it returns false'. Refute it at one input. -/
def tagsNamesWrong : ChangeSpec := { name := "tagsNames", fn := fun _ => fun
  | [d1, d2, d3] => { results := [.lit (.bool false)], args := [d1, d2, d3] }
  | _ => none }
def TagsNamesWrongFalsely : Prop := tagsNamesRow.holds Tryd.pinned (OpenSpec.ofChange tagsNamesWrong)

/-- 'quillworklaw02.TagsContent': WHATEVER THE INPUT: true; the input reads as it did. -/
def tagsContentSpec : ChangeSpec := { name := "tagsContent", fn := fun _ => fun
  | [d1, d2] => { results := [.lit (.bool true)], args := [d1, d2] }
  | _ => none }
def tagsContentRow : OpenClaim := { program := "ytapjlkiffgfbfaadoor", sum := "41ae795a24b036d4448382d94949a87be27c7e74f73c2d2ba143a285a6f9d8f1", func := "quillwork/quillworklaw02.TagsContent", spec := "tagsContent", inPlace := ["internal/abi.NoEscape", "internal/bytealg.MakeNoZero"], unfollowed := true, recurses := true, named := ["unicode/utf8.first", "unicode/utf8.acceptRanges"], apart := false, laid := [("unicode/utf8.acceptRanges", laid_unicode_utf8_acceptRanges), ("unicode/utf8.first", laid_unicode_utf8_first)] }
def TagsContentSaid : Prop := tagsContentRow.holds Tryd.pinned (OpenSpec.ofChange tagsContentSpec)

/-- ITS FALSE NEIGHBOUR: 'it returns false'. Refute it at one input. -/
def tagsContentWrong : ChangeSpec := { name := "tagsContent", fn := fun _ => fun
  | [d1, d2] => { results := [.lit (.bool false)], args := [d1, d2] }
  | _ => none }
def TagsContentWrongFalsely : Prop := tagsContentRow.holds Tryd.pinned (OpenSpec.ofChange tagsContentWrong)

/-- 'quillworklaw02.TagsTell': WHATEVER THE INPUT: true; the input reads as it did. -/
def tagsTellSpec : ChangeSpec := { name := "tagsTell", fn := fun _ => fun
  | [d1, d2] => { results := [.lit (.bool true)], args := [d1, d2] }
  | _ => none }
def tagsTellRow : OpenClaim := { program := "ytapjlkiffgfbfaadoor", sum := "41ae795a24b036d4448382d94949a87be27c7e74f73c2d2ba143a285a6f9d8f1", func := "quillwork/quillworklaw02.TagsTell", spec := "tagsTell", inPlace := ["internal/abi.NoEscape", "internal/bytealg.MakeNoZero"], unfollowed := true, recurses := true, named := ["unicode/utf8.first", "unicode/utf8.acceptRanges"], apart := false, laid := [("unicode/utf8.acceptRanges", laid_unicode_utf8_acceptRanges), ("unicode/utf8.first", laid_unicode_utf8_first)] }
def TagsTellSaid : Prop := tagsTellRow.holds Tryd.pinned (OpenSpec.ofChange tagsTellSpec)

/-- ITS FALSE NEIGHBOUR: 'it returns false'. Refute it at one input. -/
def tagsTellWrong : ChangeSpec := { name := "tagsTell", fn := fun _ => fun
  | [d1, d2] => { results := [.lit (.bool false)], args := [d1, d2] }
  | _ => none }
def TagsTellWrongFalsely : Prop := tagsTellRow.holds Tryd.pinned (OpenSpec.ofChange tagsTellWrong)

/-- 'quillworklaw02.TagsOf': WHATEVER THE INPUT: true; the input reads as it did. -/
def tagsOfSpec : ChangeSpec := { name := "tagsOf", fn := fun _ => fun
  | [d] => { results := [.lit (.bool true)], args := [d] }
  | _ => none }
def tagsOfRow : OpenClaim := { program := "ytapjlkiffgfbfaadoor", sum := "41ae795a24b036d4448382d94949a87be27c7e74f73c2d2ba143a285a6f9d8f1", func := "quillwork/quillworklaw02.TagsOf", spec := "tagsOf", inPlace := ["internal/abi.NoEscape", "internal/bytealg.MakeNoZero"], unfollowed := true, recurses := true, named := ["unicode/utf8.first", "unicode/utf8.acceptRanges"], apart := false, laid := [("unicode/utf8.acceptRanges", laid_unicode_utf8_acceptRanges), ("unicode/utf8.first", laid_unicode_utf8_first)] }
def TagsOfSaid : Prop := tagsOfRow.holds Tryd.pinned (OpenSpec.ofChange tagsOfSpec)

/-- ITS FALSE NEIGHBOUR: 'it returns false'. Refute it at one input. -/
def tagsOfWrong : ChangeSpec := { name := "tagsOf", fn := fun _ => fun
  | [d] => { results := [.lit (.bool false)], args := [d] }
  | _ => none }
def TagsOfWrongFalsely : Prop := tagsOfRow.holds Tryd.pinned (OpenSpec.ofChange tagsOfWrong)

/-- 'quillworklaw03.AttrsTell': WHATEVER THE INPUT: true; the input reads as it did. -/
def attrsTellSpec : ChangeSpec := { name := "attrsTell", fn := fun _ => fun
  | [d] => { results := [.lit (.bool true)], args := [d] }
  | _ => none }
def attrsTellRow : OpenClaim := { program := "ytapjlkiffgfbfaadoor", sum := "41ae795a24b036d4448382d94949a87be27c7e74f73c2d2ba143a285a6f9d8f1", func := "quillwork/quillworklaw03.AttrsTell", spec := "attrsTell", inPlace := ["internal/bytealg.IndexByteString", "internal/bytealg.IndexString", "internal/abi.NoEscape", "internal/bytealg.MakeNoZero"], unfollowed := true, recurses := true, named := ["unicode/utf8.first", "unicode/utf8.acceptRanges", "internal/bytealg.MaxLen"], apart := false, laid := [("unicode/utf8.acceptRanges", laid_unicode_utf8_acceptRanges), ("unicode/utf8.first", laid_unicode_utf8_first)] }
def AttrsTellSaid : Prop := attrsTellRow.holds Tryd.pinned (OpenSpec.ofChange attrsTellSpec)

/-- ITS FALSE NEIGHBOUR: 'it returns false'. Refute it at one input. -/
def attrsTellWrong : ChangeSpec := { name := "attrsTell", fn := fun _ => fun
  | [d] => { results := [.lit (.bool false)], args := [d] }
  | _ => none }
def AttrsTellWrongFalsely : Prop := attrsTellRow.holds Tryd.pinned (OpenSpec.ofChange attrsTellWrong)

/-- 'quillworklaw03.AttrsSame': WHATEVER THE INPUT: true; the input reads as it did. -/
def attrsSameSpec : ChangeSpec := { name := "attrsSame", fn := fun _ => fun
  | [d1, d2] => { results := [.lit (.bool true)], args := [d1, d2] }
  | _ => none }
def attrsSameRow : OpenClaim := { program := "ytapjlkiffgfbfaadoor", sum := "41ae795a24b036d4448382d94949a87be27c7e74f73c2d2ba143a285a6f9d8f1", func := "quillwork/quillworklaw03.AttrsSame", spec := "attrsSame", inPlace := ["internal/bytealg.IndexByteString", "internal/bytealg.IndexString", "internal/abi.NoEscape", "internal/bytealg.MakeNoZero"], unfollowed := true, recurses := true, named := ["unicode/utf8.first", "unicode/utf8.acceptRanges", "internal/bytealg.MaxLen"], apart := false, laid := [("unicode/utf8.acceptRanges", laid_unicode_utf8_acceptRanges), ("unicode/utf8.first", laid_unicode_utf8_first)] }
def AttrsSameSaid : Prop := attrsSameRow.holds Tryd.pinned (OpenSpec.ofChange attrsSameSpec)

/-- ITS FALSE NEIGHBOUR: 'it returns false'. Refute it at one input. -/
def attrsSameWrong : ChangeSpec := { name := "attrsSame", fn := fun _ => fun
  | [d1, d2] => { results := [.lit (.bool false)], args := [d1, d2] }
  | _ => none }
def AttrsSameWrongFalsely : Prop := attrsSameRow.holds Tryd.pinned (OpenSpec.ofChange attrsSameWrong)

/-- 'quillworklaw03.AttrsPut': WHATEVER THE INPUT: true; the input reads as it did. -/
def attrsPutSpec : ChangeSpec := { name := "attrsPut", fn := fun _ => fun
  | [d1, d2, d3, d4] => { results := [.lit (.bool true)], args := [d1, d2, d3, d4] }
  | _ => none }
def attrsPutRow : OpenClaim := { program := "ytapjlkiffgfbfaadoor", sum := "41ae795a24b036d4448382d94949a87be27c7e74f73c2d2ba143a285a6f9d8f1", func := "quillwork/quillworklaw03.AttrsPut", spec := "attrsPut", inPlace := ["internal/bytealg.IndexByteString", "internal/bytealg.IndexString", "internal/abi.NoEscape", "internal/bytealg.MakeNoZero"], unfollowed := true, recurses := true, named := ["unicode/utf8.first", "unicode/utf8.acceptRanges", "internal/bytealg.MaxLen"], apart := false, laid := [("unicode/utf8.acceptRanges", laid_unicode_utf8_acceptRanges), ("unicode/utf8.first", laid_unicode_utf8_first)] }
def AttrsPutSaid : Prop := attrsPutRow.holds Tryd.pinned (OpenSpec.ofChange attrsPutSpec)

/-- ITS FALSE NEIGHBOUR: 'it returns false'. Refute it at one input. -/
def attrsPutWrong : ChangeSpec := { name := "attrsPut", fn := fun _ => fun
  | [d1, d2, d3, d4] => { results := [.lit (.bool false)], args := [d1, d2, d3, d4] }
  | _ => none }
def AttrsPutWrongFalsely : Prop := attrsPutRow.holds Tryd.pinned (OpenSpec.ofChange attrsPutWrong)

/-- 'quillworklaw03.AttrsRows': WHATEVER THE INPUT: true; the input reads as it did. -/
def attrsRowsSpec : ChangeSpec := { name := "attrsRows", fn := fun _ => fun
  | [d1, d2, d3] => { results := [.lit (.bool true)], args := [d1, d2, d3] }
  | _ => none }
def attrsRowsRow : OpenClaim := { program := "ytapjlkiffgfbfaadoor", sum := "41ae795a24b036d4448382d94949a87be27c7e74f73c2d2ba143a285a6f9d8f1", func := "quillwork/quillworklaw03.AttrsRows", spec := "attrsRows", inPlace := ["internal/bytealg.IndexByteString", "internal/bytealg.IndexString", "internal/abi.NoEscape", "internal/bytealg.MakeNoZero"], unfollowed := true, recurses := true, named := ["unicode/utf8.first", "unicode/utf8.acceptRanges", "internal/bytealg.MaxLen"], apart := false, laid := [("unicode/utf8.acceptRanges", laid_unicode_utf8_acceptRanges), ("unicode/utf8.first", laid_unicode_utf8_first)] }
def AttrsRowsSaid : Prop := attrsRowsRow.holds Tryd.pinned (OpenSpec.ofChange attrsRowsSpec)

/-- ITS FALSE NEIGHBOUR: 'it returns false'. Refute it at one input. -/
def attrsRowsWrong : ChangeSpec := { name := "attrsRows", fn := fun _ => fun
  | [d1, d2, d3] => { results := [.lit (.bool false)], args := [d1, d2, d3] }
  | _ => none }
def AttrsRowsWrongFalsely : Prop := attrsRowsRow.holds Tryd.pinned (OpenSpec.ofChange attrsRowsWrong)

/-- 'quillworklaw03.AttrsOnly': WHATEVER THE INPUT: true; the input reads as it did. -/
def attrsOnlySpec : ChangeSpec := { name := "attrsOnly", fn := fun _ => fun
  | [d1, d2, d3] => { results := [.lit (.bool true)], args := [d1, d2, d3] }
  | _ => none }
def attrsOnlyRow : OpenClaim := { program := "ytapjlkiffgfbfaadoor", sum := "41ae795a24b036d4448382d94949a87be27c7e74f73c2d2ba143a285a6f9d8f1", func := "quillwork/quillworklaw03.AttrsOnly", spec := "attrsOnly", inPlace := ["internal/bytealg.IndexByteString", "internal/bytealg.IndexString", "internal/abi.NoEscape", "internal/bytealg.MakeNoZero"], unfollowed := true, recurses := true, named := ["unicode/utf8.first", "unicode/utf8.acceptRanges", "internal/bytealg.MaxLen"], apart := false, laid := [("unicode/utf8.acceptRanges", laid_unicode_utf8_acceptRanges), ("unicode/utf8.first", laid_unicode_utf8_first)] }
def AttrsOnlySaid : Prop := attrsOnlyRow.holds Tryd.pinned (OpenSpec.ofChange attrsOnlySpec)

/-- ITS FALSE NEIGHBOUR: 'it returns false'. Refute it at one input. -/
def attrsOnlyWrong : ChangeSpec := { name := "attrsOnly", fn := fun _ => fun
  | [d1, d2, d3] => { results := [.lit (.bool false)], args := [d1, d2, d3] }
  | _ => none }
def AttrsOnlyWrongFalsely : Prop := attrsOnlyRow.holds Tryd.pinned (OpenSpec.ofChange attrsOnlyWrong)

/- THE SECOND FORM. 'bulk': how many values and letters a reading holds, each counted each time it is reached (what is shared counts as often as it is met; a slice's spare places count too). A statement '..UptoSaid' is the law's where the arguments, and the package variables that the reading takes, are together of bulk at most 1048576: NARROWER than '..Said'. Prove '..Said' where nothing that the law and all that it calls make is longer than what came in: it says more and counts as full. Else prove '..UptoSaid'. A law counts once. -/
mutual
def uptoBulk {H : Type} : DataW H → Nat
  | .lit (.string bytes) => bytes.length + 1
  | .lit _ => 1
  | .nil => 1
  | .ptr d => uptoBulk d + 1
  | .slice elems spare => uptoBulkAll elems + uptoBulkAll spare + 1
  | .agg parts => uptoBulkAll parts + 1
  | .iface _ d => uptoBulk d + 1
  | .map entries => uptoBulkEntries entries + 1
  | .held _ => 1
def uptoBulkAll {H : Type} : List (DataW H) → Nat
  | [] => 0
  | d :: r => uptoBulk d + uptoBulkAll r
def uptoBulkEntries {H : Type} : List (Lit × DataW H) → Nat
  | [] => 0
  | x :: r => uptoBulkEntry x + uptoBulkEntries r
def uptoBulkEntry {H : Type} : Lit × DataW H → Nat
  | (.string bytes, d) => bytes.length + uptoBulk d + 1
  | (_, d) => uptoBulk d + 1
 end
def uptoSmall : (H : Type) → List (DataW H) → Bool := fun _ ds => decide (uptoBulkAll ds ≤ 1048576)
def OpenSpec.upto (s : _root_.Go.ChangeSpec) : _root_.Go.OpenSpec := { _root_.Go.OpenSpec.ofChange s with cond := some uptoSmall }

/-- 'quillworklaw02.TagsFind', WHERE WHAT IT READS IS OF BULK AT MOST 1048576: true; the input reads as it did. -/
def tagsFindUptoRow : OpenClaim := { program := "ytapjlkiffgfbfaadoor", sum := "41ae795a24b036d4448382d94949a87be27c7e74f73c2d2ba143a285a6f9d8f1", func := "quillwork/quillworklaw02.TagsFind", spec := "tagsFind", inPlace := ["internal/abi.NoEscape", "internal/bytealg.MakeNoZero"], unfollowed := true, recurses := true, named := ["unicode/utf8.first", "unicode/utf8.acceptRanges"], apart := false, laid := [("unicode/utf8.acceptRanges", laid_unicode_utf8_acceptRanges), ("unicode/utf8.first", laid_unicode_utf8_first)], narrowed := true }
def TagsFindUptoSaid : Prop := tagsFindUptoRow.holds Tryd.pinned (OpenSpec.upto tagsFindSpec)

/-- 'quillworklaw02.TagsMay', WHERE WHAT IT READS IS OF BULK AT MOST 1048576: true; the input reads as it did. -/
def tagsMayUptoRow : OpenClaim := { program := "ytapjlkiffgfbfaadoor", sum := "41ae795a24b036d4448382d94949a87be27c7e74f73c2d2ba143a285a6f9d8f1", func := "quillwork/quillworklaw02.TagsMay", spec := "tagsMay", inPlace := ["internal/abi.NoEscape", "internal/bytealg.MakeNoZero"], unfollowed := true, recurses := true, named := ["unicode/utf8.first", "unicode/utf8.acceptRanges"], apart := false, laid := [("unicode/utf8.acceptRanges", laid_unicode_utf8_acceptRanges), ("unicode/utf8.first", laid_unicode_utf8_first)], narrowed := true }
def TagsMayUptoSaid : Prop := tagsMayUptoRow.holds Tryd.pinned (OpenSpec.upto tagsMaySpec)

/-- 'quillworklaw02.TagsNames', WHERE WHAT IT READS IS OF BULK AT MOST 1048576: true; the input reads as it did. -/
def tagsNamesUptoRow : OpenClaim := { program := "ytapjlkiffgfbfaadoor", sum := "41ae795a24b036d4448382d94949a87be27c7e74f73c2d2ba143a285a6f9d8f1", func := "quillwork/quillworklaw02.TagsNames", spec := "tagsNames", inPlace := ["internal/abi.NoEscape", "internal/bytealg.MakeNoZero"], unfollowed := true, recurses := true, named := ["unicode/utf8.first", "unicode/utf8.acceptRanges"], apart := false, laid := [("unicode/utf8.acceptRanges", laid_unicode_utf8_acceptRanges), ("unicode/utf8.first", laid_unicode_utf8_first)], narrowed := true }
def TagsNamesUptoSaid : Prop := tagsNamesUptoRow.holds Tryd.pinned (OpenSpec.upto tagsNamesSpec)

/-- 'quillworklaw02.TagsContent', WHERE WHAT IT READS IS OF BULK AT MOST 1048576: true; the input reads as it did. -/
def tagsContentUptoRow : OpenClaim := { program := "ytapjlkiffgfbfaadoor", sum := "41ae795a24b036d4448382d94949a87be27c7e74f73c2d2ba143a285a6f9d8f1", func := "quillwork/quillworklaw02.TagsContent", spec := "tagsContent", inPlace := ["internal/abi.NoEscape", "internal/bytealg.MakeNoZero"], unfollowed := true, recurses := true, named := ["unicode/utf8.first", "unicode/utf8.acceptRanges"], apart := false, laid := [("unicode/utf8.acceptRanges", laid_unicode_utf8_acceptRanges), ("unicode/utf8.first", laid_unicode_utf8_first)], narrowed := true }
def TagsContentUptoSaid : Prop := tagsContentUptoRow.holds Tryd.pinned (OpenSpec.upto tagsContentSpec)

/-- 'quillworklaw02.TagsTell', WHERE WHAT IT READS IS OF BULK AT MOST 1048576: true; the input reads as it did. -/
def tagsTellUptoRow : OpenClaim := { program := "ytapjlkiffgfbfaadoor", sum := "41ae795a24b036d4448382d94949a87be27c7e74f73c2d2ba143a285a6f9d8f1", func := "quillwork/quillworklaw02.TagsTell", spec := "tagsTell", inPlace := ["internal/abi.NoEscape", "internal/bytealg.MakeNoZero"], unfollowed := true, recurses := true, named := ["unicode/utf8.first", "unicode/utf8.acceptRanges"], apart := false, laid := [("unicode/utf8.acceptRanges", laid_unicode_utf8_acceptRanges), ("unicode/utf8.first", laid_unicode_utf8_first)], narrowed := true }
def TagsTellUptoSaid : Prop := tagsTellUptoRow.holds Tryd.pinned (OpenSpec.upto tagsTellSpec)

/-- 'quillworklaw02.TagsOf', WHERE WHAT IT READS IS OF BULK AT MOST 1048576: true; the input reads as it did. -/
def tagsOfUptoRow : OpenClaim := { program := "ytapjlkiffgfbfaadoor", sum := "41ae795a24b036d4448382d94949a87be27c7e74f73c2d2ba143a285a6f9d8f1", func := "quillwork/quillworklaw02.TagsOf", spec := "tagsOf", inPlace := ["internal/abi.NoEscape", "internal/bytealg.MakeNoZero"], unfollowed := true, recurses := true, named := ["unicode/utf8.first", "unicode/utf8.acceptRanges"], apart := false, laid := [("unicode/utf8.acceptRanges", laid_unicode_utf8_acceptRanges), ("unicode/utf8.first", laid_unicode_utf8_first)], narrowed := true }
def TagsOfUptoSaid : Prop := tagsOfUptoRow.holds Tryd.pinned (OpenSpec.upto tagsOfSpec)

/-- 'quillworklaw03.AttrsTell', WHERE WHAT IT READS IS OF BULK AT MOST 1048576: true; the input reads as it did. -/
def attrsTellUptoRow : OpenClaim := { program := "ytapjlkiffgfbfaadoor", sum := "41ae795a24b036d4448382d94949a87be27c7e74f73c2d2ba143a285a6f9d8f1", func := "quillwork/quillworklaw03.AttrsTell", spec := "attrsTell", inPlace := ["internal/bytealg.IndexByteString", "internal/bytealg.IndexString", "internal/abi.NoEscape", "internal/bytealg.MakeNoZero"], unfollowed := true, recurses := true, named := ["unicode/utf8.first", "unicode/utf8.acceptRanges", "internal/bytealg.MaxLen"], apart := false, laid := [("unicode/utf8.acceptRanges", laid_unicode_utf8_acceptRanges), ("unicode/utf8.first", laid_unicode_utf8_first)], narrowed := true }
def AttrsTellUptoSaid : Prop := attrsTellUptoRow.holds Tryd.pinned (OpenSpec.upto attrsTellSpec)

/-- 'quillworklaw03.AttrsSame', WHERE WHAT IT READS IS OF BULK AT MOST 1048576: true; the input reads as it did. -/
def attrsSameUptoRow : OpenClaim := { program := "ytapjlkiffgfbfaadoor", sum := "41ae795a24b036d4448382d94949a87be27c7e74f73c2d2ba143a285a6f9d8f1", func := "quillwork/quillworklaw03.AttrsSame", spec := "attrsSame", inPlace := ["internal/bytealg.IndexByteString", "internal/bytealg.IndexString", "internal/abi.NoEscape", "internal/bytealg.MakeNoZero"], unfollowed := true, recurses := true, named := ["unicode/utf8.first", "unicode/utf8.acceptRanges", "internal/bytealg.MaxLen"], apart := false, laid := [("unicode/utf8.acceptRanges", laid_unicode_utf8_acceptRanges), ("unicode/utf8.first", laid_unicode_utf8_first)], narrowed := true }
def AttrsSameUptoSaid : Prop := attrsSameUptoRow.holds Tryd.pinned (OpenSpec.upto attrsSameSpec)

/-- 'quillworklaw03.AttrsPut', WHERE WHAT IT READS IS OF BULK AT MOST 1048576: true; the input reads as it did. -/
def attrsPutUptoRow : OpenClaim := { program := "ytapjlkiffgfbfaadoor", sum := "41ae795a24b036d4448382d94949a87be27c7e74f73c2d2ba143a285a6f9d8f1", func := "quillwork/quillworklaw03.AttrsPut", spec := "attrsPut", inPlace := ["internal/bytealg.IndexByteString", "internal/bytealg.IndexString", "internal/abi.NoEscape", "internal/bytealg.MakeNoZero"], unfollowed := true, recurses := true, named := ["unicode/utf8.first", "unicode/utf8.acceptRanges", "internal/bytealg.MaxLen"], apart := false, laid := [("unicode/utf8.acceptRanges", laid_unicode_utf8_acceptRanges), ("unicode/utf8.first", laid_unicode_utf8_first)], narrowed := true }
def AttrsPutUptoSaid : Prop := attrsPutUptoRow.holds Tryd.pinned (OpenSpec.upto attrsPutSpec)

/-- 'quillworklaw03.AttrsRows', WHERE WHAT IT READS IS OF BULK AT MOST 1048576: true; the input reads as it did. -/
def attrsRowsUptoRow : OpenClaim := { program := "ytapjlkiffgfbfaadoor", sum := "41ae795a24b036d4448382d94949a87be27c7e74f73c2d2ba143a285a6f9d8f1", func := "quillwork/quillworklaw03.AttrsRows", spec := "attrsRows", inPlace := ["internal/bytealg.IndexByteString", "internal/bytealg.IndexString", "internal/abi.NoEscape", "internal/bytealg.MakeNoZero"], unfollowed := true, recurses := true, named := ["unicode/utf8.first", "unicode/utf8.acceptRanges", "internal/bytealg.MaxLen"], apart := false, laid := [("unicode/utf8.acceptRanges", laid_unicode_utf8_acceptRanges), ("unicode/utf8.first", laid_unicode_utf8_first)], narrowed := true }
def AttrsRowsUptoSaid : Prop := attrsRowsUptoRow.holds Tryd.pinned (OpenSpec.upto attrsRowsSpec)

/-- 'quillworklaw03.AttrsOnly', WHERE WHAT IT READS IS OF BULK AT MOST 1048576: true; the input reads as it did. -/
def attrsOnlyUptoRow : OpenClaim := { program := "ytapjlkiffgfbfaadoor", sum := "41ae795a24b036d4448382d94949a87be27c7e74f73c2d2ba143a285a6f9d8f1", func := "quillwork/quillworklaw03.AttrsOnly", spec := "attrsOnly", inPlace := ["internal/bytealg.IndexByteString", "internal/bytealg.IndexString", "internal/abi.NoEscape", "internal/bytealg.MakeNoZero"], unfollowed := true, recurses := true, named := ["unicode/utf8.first", "unicode/utf8.acceptRanges", "internal/bytealg.MaxLen"], apart := false, laid := [("unicode/utf8.acceptRanges", laid_unicode_utf8_acceptRanges), ("unicode/utf8.first", laid_unicode_utf8_first)], narrowed := true }
def AttrsOnlyUptoSaid : Prop := attrsOnlyUptoRow.holds Tryd.pinned (OpenSpec.upto attrsOnlySpec)

end Rows
end Go.Proofs.YtapjlkiffgfbfaaDoor
