/-
  No cell of these rows narrows 'for every input' (looked for: loops, veiled, ifaces, maps, wideKeys, modest, calm, conditions, laid).
  DERIVED. THE GIVEN ROWS OF THIS SEAT. 6 by the template 'for every input the law returns true; each argument reads behind the call as it read before'; 0 by the template 'total and deterministic' (their statements: YtgpccjmkghpiiaaTotals.lean).
  GIVEN WITH THE SEED: the statements are not yours to turn. If you find one false, say at which input.
  Laid BY PROGRAM, IN A SANDBOX (cutbox-rows.mjs): the forced cells as the released guide's own fill.sh prints them over the translation 65188835f55a9711… (all of the seat's roots in one cut). By AI agents, Wed Nov 11 2026. No macro, syntax, notation, axiom, sorry.
-/
import Derived.Test.YtgpccjmkghpiiaaChecked
import GoSem.Claim
import GoSem.ClaimJoined
import GoSem.ClaimMapViews
import Derived.JoinedTies
import Derived.KernelRfl
namespace Go.Proofs.Ytgpccjmkghpiiaa
/- THE CELL 'sum', in the pinned program and in every row, IS THE sha256 OF THE DUMP (.gsa) THAT YtgpccjmkghpiiaaProg.lean LOADS. Nothing in Lean hashes anything: it is a label: what it is worth is what the hold of that sum in a sandbox is worth. -/
noncomputable def Try.pinned : Pinned := { name := "ytgpccjmkghpiiaa", sum := "65188835f55a97119e8813d6babcb1793578a54873ccdd7e483a4e7efe04d9b5", checked := Try.checked }
namespace Rows
def none {H : Type} : Left H := { results := [], args := [] }

/-- 'quillworklaw05.CellsOf': WHATEVER THE INPUT: true; the input reads as it did. -/
def cellsOfSpec : ChangeSpec := { name := "cellsOf", fn := fun _ => fun
  | [d1, d2, d3] => { results := [.lit (.bool true)], args := [d1, d2, d3] }
  | _ => none }
def cellsOfRow : OpenClaim := { program := "ytgpccjmkghpiiaa", sum := "65188835f55a97119e8813d6babcb1793578a54873ccdd7e483a4e7efe04d9b5", func := "quillwork/quillworklaw05.CellsOf", spec := "cellsOf", unfollowed := true, recurses := true, apart := false }
def CellsOfSaid : Prop := cellsOfRow.holds Try.pinned (OpenSpec.ofChange cellsOfSpec)

/-- ITS FALSE NEIGHBOUR: 'it returns false'. Refute it at one input. -/
def cellsOfWrong : ChangeSpec := { name := "cellsOf", fn := fun _ => fun
  | [d1, d2, d3] => { results := [.lit (.bool false)], args := [d1, d2, d3] }
  | _ => none }
def CellsOfWrongFalsely : Prop := cellsOfRow.holds Try.pinned (OpenSpec.ofChange cellsOfWrong)

/-- 'quillworklaw05.CellsWhole': WHATEVER THE INPUT: true; the input reads as it did. -/
def cellsWholeSpec : ChangeSpec := { name := "cellsWhole", fn := fun _ => fun
  | [d] => { results := [.lit (.bool true)], args := [d] }
  | _ => none }
def cellsWholeRow : OpenClaim := { program := "ytgpccjmkghpiiaa", sum := "65188835f55a97119e8813d6babcb1793578a54873ccdd7e483a4e7efe04d9b5", func := "quillwork/quillworklaw05.CellsWhole", spec := "cellsWhole", unfollowed := true, recurses := true, apart := false }
def CellsWholeSaid : Prop := cellsWholeRow.holds Try.pinned (OpenSpec.ofChange cellsWholeSpec)

/-- ITS FALSE NEIGHBOUR: 'it returns false'. Refute it at one input. -/
def cellsWholeWrong : ChangeSpec := { name := "cellsWhole", fn := fun _ => fun
  | [d] => { results := [.lit (.bool false)], args := [d] }
  | _ => none }
def CellsWholeWrongFalsely : Prop := cellsWholeRow.holds Try.pinned (OpenSpec.ofChange cellsWholeWrong)

/-- 'quillworklaw05.CellsLinks': WHATEVER THE INPUT: true; the input reads as it did. -/
def cellsLinksSpec : ChangeSpec := { name := "cellsLinks", fn := fun _ => fun
  | [d1, d2] => { results := [.lit (.bool true)], args := [d1, d2] }
  | _ => none }
def cellsLinksRow : OpenClaim := { program := "ytgpccjmkghpiiaa", sum := "65188835f55a97119e8813d6babcb1793578a54873ccdd7e483a4e7efe04d9b5", func := "quillwork/quillworklaw05.CellsLinks", spec := "cellsLinks", unfollowed := true, recurses := true, apart := false }
def CellsLinksSaid : Prop := cellsLinksRow.holds Try.pinned (OpenSpec.ofChange cellsLinksSpec)

/-- ITS FALSE NEIGHBOUR: 'it returns false'. Refute it at one input. -/
def cellsLinksWrong : ChangeSpec := { name := "cellsLinks", fn := fun _ => fun
  | [d1, d2] => { results := [.lit (.bool false)], args := [d1, d2] }
  | _ => none }
def CellsLinksWrongFalsely : Prop := cellsLinksRow.holds Try.pinned (OpenSpec.ofChange cellsLinksWrong)

/-- 'quillworklaw05.CellsCuts': WHATEVER THE INPUT: true; the input reads as it did. -/
def cellsCutsSpec : ChangeSpec := { name := "cellsCuts", fn := fun _ => fun
  | [d1, d2, d3, d4] => { results := [.lit (.bool true)], args := [d1, d2, d3, d4] }
  | _ => none }
def cellsCutsRow : OpenClaim := { program := "ytgpccjmkghpiiaa", sum := "65188835f55a97119e8813d6babcb1793578a54873ccdd7e483a4e7efe04d9b5", func := "quillwork/quillworklaw05.CellsCuts", spec := "cellsCuts", unfollowed := true, recurses := true, apart := false }
def CellsCutsSaid : Prop := cellsCutsRow.holds Try.pinned (OpenSpec.ofChange cellsCutsSpec)

/-- ITS FALSE NEIGHBOUR: 'it returns false'. Refute it at one input. -/
def cellsCutsWrong : ChangeSpec := { name := "cellsCuts", fn := fun _ => fun
  | [d1, d2, d3, d4] => { results := [.lit (.bool false)], args := [d1, d2, d3, d4] }
  | _ => none }
def CellsCutsWrongFalsely : Prop := cellsCutsRow.holds Try.pinned (OpenSpec.ofChange cellsCutsWrong)

/-- 'quillworklaw05.CellsRuns': WHATEVER THE INPUT: true; the input reads as it did. -/
def cellsRunsSpec : ChangeSpec := { name := "cellsRuns", fn := fun _ => fun
  | [d1, d2] => { results := [.lit (.bool true)], args := [d1, d2] }
  | _ => none }
def cellsRunsRow : OpenClaim := { program := "ytgpccjmkghpiiaa", sum := "65188835f55a97119e8813d6babcb1793578a54873ccdd7e483a4e7efe04d9b5", func := "quillwork/quillworklaw05.CellsRuns", spec := "cellsRuns", unfollowed := true, recurses := true, apart := false }
def CellsRunsSaid : Prop := cellsRunsRow.holds Try.pinned (OpenSpec.ofChange cellsRunsSpec)

/-- ITS FALSE NEIGHBOUR: 'it returns false'. Refute it at one input. -/
def cellsRunsWrong : ChangeSpec := { name := "cellsRuns", fn := fun _ => fun
  | [d1, d2] => { results := [.lit (.bool false)], args := [d1, d2] }
  | _ => none }
def CellsRunsWrongFalsely : Prop := cellsRunsRow.holds Try.pinned (OpenSpec.ofChange cellsRunsWrong)

/-- 'quillworklaw05.CellsBack': WHATEVER THE INPUT: true; the input reads as it did. -/
def cellsBackSpec : ChangeSpec := { name := "cellsBack", fn := fun _ => fun
  | [d1, d2, d3] => { results := [.lit (.bool true)], args := [d1, d2, d3] }
  | _ => none }
def cellsBackRow : OpenClaim := { program := "ytgpccjmkghpiiaa", sum := "65188835f55a97119e8813d6babcb1793578a54873ccdd7e483a4e7efe04d9b5", func := "quillwork/quillworklaw05.CellsBack", spec := "cellsBack", unfollowed := true, recurses := true, apart := false }
def CellsBackSaid : Prop := cellsBackRow.holds Try.pinned (OpenSpec.ofChange cellsBackSpec)

/-- ITS FALSE NEIGHBOUR: 'it returns false'. Refute it at one input. -/
def cellsBackWrong : ChangeSpec := { name := "cellsBack", fn := fun _ => fun
  | [d1, d2, d3] => { results := [.lit (.bool false)], args := [d1, d2, d3] }
  | _ => none }
def CellsBackWrongFalsely : Prop := cellsBackRow.holds Try.pinned (OpenSpec.ofChange cellsBackWrong)

/- THE SECOND FORM. 'bulk': how many values and letters a reading holds, each counted each time it is reached (what is shared counts as often as it is met; a slice's spare places count too). A statement '..UptoSaid' is the law's where the arguments, and the package variables that the reading takes, are together of bulk at most 1048576: NARROWER than '..Said'. Prove '..Said' where nothing that the law and all that it calls make is longer than what came in: it says more and counts as full. Else prove '..UptoSaid'. A law counts once. -/
mutual
def uptoBulk {H : Type} : DataW H → Nat
  | .lit (.string bytes) => bytes.length + 1
  | .lit _ => 1
  | .nil => 1
  | .ptr d => uptoBulk d + 1
  | .slice elems spare => uptoBulkAll elems + uptoBulkAll spare + 1
  | .agg parts => uptoBulkAll parts + 1
  | .iface _ d => uptoBulk d + 1
  | .map entries => uptoBulkEntries entries + 1
  | .held _ => 1
def uptoBulkAll {H : Type} : List (DataW H) → Nat
  | [] => 0
  | d :: r => uptoBulk d + uptoBulkAll r
def uptoBulkEntries {H : Type} : List (Lit × DataW H) → Nat
  | [] => 0
  | x :: r => uptoBulkEntry x + uptoBulkEntries r
def uptoBulkEntry {H : Type} : Lit × DataW H → Nat
  | (.string bytes, d) => bytes.length + uptoBulk d + 1
  | (_, d) => uptoBulk d + 1
 end
def uptoSmall : (H : Type) → List (DataW H) → Bool := fun _ ds => decide (uptoBulkAll ds ≤ 1048576)
def OpenSpec.upto (s : _root_.Go.ChangeSpec) : _root_.Go.OpenSpec := { _root_.Go.OpenSpec.ofChange s with cond := some uptoSmall }

/-- 'quillworklaw05.CellsOf', WHERE WHAT IT READS IS OF BULK AT MOST 1048576: true; the input reads as it did. -/
def cellsOfUptoRow : OpenClaim := { program := "ytgpccjmkghpiiaa", sum := "65188835f55a97119e8813d6babcb1793578a54873ccdd7e483a4e7efe04d9b5", func := "quillwork/quillworklaw05.CellsOf", spec := "cellsOf", unfollowed := true, recurses := true, apart := false, narrowed := true }
def CellsOfUptoSaid : Prop := cellsOfUptoRow.holds Try.pinned (OpenSpec.upto cellsOfSpec)

/-- 'quillworklaw05.CellsWhole', WHERE WHAT IT READS IS OF BULK AT MOST 1048576: true; the input reads as it did. -/
def cellsWholeUptoRow : OpenClaim := { program := "ytgpccjmkghpiiaa", sum := "65188835f55a97119e8813d6babcb1793578a54873ccdd7e483a4e7efe04d9b5", func := "quillwork/quillworklaw05.CellsWhole", spec := "cellsWhole", unfollowed := true, recurses := true, apart := false, narrowed := true }
def CellsWholeUptoSaid : Prop := cellsWholeUptoRow.holds Try.pinned (OpenSpec.upto cellsWholeSpec)

/-- 'quillworklaw05.CellsLinks', WHERE WHAT IT READS IS OF BULK AT MOST 1048576: true; the input reads as it did. -/
def cellsLinksUptoRow : OpenClaim := { program := "ytgpccjmkghpiiaa", sum := "65188835f55a97119e8813d6babcb1793578a54873ccdd7e483a4e7efe04d9b5", func := "quillwork/quillworklaw05.CellsLinks", spec := "cellsLinks", unfollowed := true, recurses := true, apart := false, narrowed := true }
def CellsLinksUptoSaid : Prop := cellsLinksUptoRow.holds Try.pinned (OpenSpec.upto cellsLinksSpec)

/-- 'quillworklaw05.CellsCuts', WHERE WHAT IT READS IS OF BULK AT MOST 1048576: true; the input reads as it did. -/
def cellsCutsUptoRow : OpenClaim := { program := "ytgpccjmkghpiiaa", sum := "65188835f55a97119e8813d6babcb1793578a54873ccdd7e483a4e7efe04d9b5", func := "quillwork/quillworklaw05.CellsCuts", spec := "cellsCuts", unfollowed := true, recurses := true, apart := false, narrowed := true }
def CellsCutsUptoSaid : Prop := cellsCutsUptoRow.holds Try.pinned (OpenSpec.upto cellsCutsSpec)

/-- 'quillworklaw05.CellsRuns', WHERE WHAT IT READS IS OF BULK AT MOST 1048576: true; the input reads as it did. -/
def cellsRunsUptoRow : OpenClaim := { program := "ytgpccjmkghpiiaa", sum := "65188835f55a97119e8813d6babcb1793578a54873ccdd7e483a4e7efe04d9b5", func := "quillwork/quillworklaw05.CellsRuns", spec := "cellsRuns", unfollowed := true, recurses := true, apart := false, narrowed := true }
def CellsRunsUptoSaid : Prop := cellsRunsUptoRow.holds Try.pinned (OpenSpec.upto cellsRunsSpec)

/-- 'quillworklaw05.CellsBack', WHERE WHAT IT READS IS OF BULK AT MOST 1048576: true; the input reads as it did. -/
def cellsBackUptoRow : OpenClaim := { program := "ytgpccjmkghpiiaa", sum := "65188835f55a97119e8813d6babcb1793578a54873ccdd7e483a4e7efe04d9b5", func := "quillwork/quillworklaw05.CellsBack", spec := "cellsBack", unfollowed := true, recurses := true, apart := false, narrowed := true }
def CellsBackUptoSaid : Prop := cellsBackUptoRow.holds Try.pinned (OpenSpec.upto cellsBackSpec)

end Rows
end Go.Proofs.Ytgpccjmkghpiiaa
