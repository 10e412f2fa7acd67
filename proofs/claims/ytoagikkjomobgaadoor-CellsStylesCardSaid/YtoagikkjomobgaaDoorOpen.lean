/- A row of structs that came in, opened to its cells. No program in sight. -/
import Derived.Test.YtoagikkjomobgaaDoorCell
import Derived.Test.YtoagikkjomobgaaDoorOpenF
import Derived.Deep.Slices
import Derived.Deep.Fields
import Derived.ChangeSame
import Derived.ProofKit
namespace Go.Proofs.YtoagikkjomobgaaDoor
open Go.ChangeShapes Go.WideShapes Go.Deep

section
variable {H : Type} {enc : TypeId × Value → H} {P : Program} {w : World} {base : Nat} {spare : Nat → Bool} {held : Bool}
theorem wf_i32 {n : Int} (h : (Lit.int .i32 n).wf = true) : -2147483648 ≤ n ∧ n ≤ 2147483647 := by
  have e1 : IntKind.i32.min = -2147483648 := by decide
  have e2 : IntKind.i32.max = 2147483647 := by decide
  simp [Lit.wf] at h
  omega
theorem wf_i64 {n : Int} (h : (Lit.int .i64 n).wf = true) : -9223372036854775808 ≤ n ∧ n ≤ 9223372036854775807 := by
  have e1 : IntKind.i64.min = -9223372036854775808 := by decide
  have e2 : IntKind.i64.max = 9223372036854775807 := by decide
  simp [Lit.wf] at h
  omega

/-- What is told of a row of cells that came in. -/
structure CellsIn (w : World) (A : Option Addr) (n : Nat) (cs : List Cl) : Prop where
  len : n = cs.length
  le : cs.length ≤ maxLen
  at_ : SlAt encC 3 w w.heap.size A cs
  wf : ∀ x ∈ cs, WfC x
  size : ∀ x ∈ cs, x.h.size ≤ maxLen

theorem open_cells {t e : TypeId} {f0 f1 f2 : Field} {fuel : Nat} {A : Option Addr} {n c : Nat} {x : DataW H × List MemPlace} (ht : P.underlying t = some (.slice e)) (he : P.underlying e = some (.struct #[f0, f1, f2]))
    (hone : oneCellFields P #[f0, f1, f2] = true) (hC : P.cellsOf e = 3) (t0 : P.underlying f0.type = some (.int .i32)) (t1 : P.underlying f1.type = some (.int .i64)) (t2 : P.underlying f2.type = some .string)
    (h : DataW.trod enc P w base spare held fuel t [.slice A n c] = some x) : ∃ cs, CellsIn w A n cs := by
  rcases open_slice_fields ht he hone hC h with ⟨hcs, _⟩ | ⟨a, len, cap, m, D, Pl, hcs, _, hl, hm, hmm, _, hf⟩
  · simp at hcs
    obtain ⟨rfl, rfl, rfl⟩ := hcs
    exact ⟨[], rfl, by simp, SlAt.nil, fun _ h => (by cases h), fun _ h => (by cases h)⟩
  · simp at hcs
    obtain ⟨rfl, rfl, rfl⟩ := hcs
    have hnm : n ≤ m := by rw [hmm]; split <;> omega
    obtain ⟨cs, hlen, hq⟩ := choose_row (⟨0, 0, .empty⟩ : Cl) n (fun i y => w.cell? (a.add (i * 3)) = some (.int .i32 y.r) ∧ w.cell? (a.add (i * 3 + 1)) = some (.int .i64 y.b) ∧ w.cell? (a.add (i * 3 + 2)) = some (.string y.h) ∧ WfC y ∧ y.h.size ≤ maxLen) (fun i hi => by
      obtain ⟨ys, k, _, _, _, hfld⟩ := hf i (by omega)
      obtain ⟨v0, y0, c0, _, r0⟩ := hfld 0 f0 rfl
      obtain ⟨v1, y1, c1, _, r1⟩ := hfld 1 f1 rfl
      obtain ⟨v2, y2, c2, _, r2⟩ := hfld 2 f2 rfl
      obtain ⟨n0, e0, _, w0⟩ := DataW.trod_int t0 r0
      obtain ⟨n1, e1, _, w1⟩ := DataW.trod_int t1 r1
      obtain ⟨s2, e2, _, w2⟩ := DataW.trod_string t2 r2
      simp at e0 e1 e2
      subst e0 e1 e2
      have b0 := wf_i32 w0
      have b1 := wf_i64 w1
      exact ⟨⟨n0, n1, s2⟩, c0, c1, c2, ⟨b0.1, b0.2, b1.1, b1.2⟩, w2⟩)
    have hmem : ∀ x ∈ cs, ∃ i, cs[i]? = some x := fun x hx => by
      obtain ⟨i, hi, he⟩ := List.getElem_of_mem hx
      exact ⟨i, by rw [List.getElem?_eq_getElem hi, he]⟩
    have hS : SlAt encC 3 w (a.block + 1) (some a) cs := fun _ => ⟨a, rfl, by omega, fun k y hy j u hu => by
      obtain ⟨q0, q1, q2, _, _⟩ := hq k y hy
      rw [add_add']
      match j, hu with
      | 0, hu => simp [encC] at hu; subst hu; exact q0
      | 1, hu => simp [encC] at hu; subst hu; exact q1
      | 2, hu => simp [encC] at hu; subst hu; exact q2⟩
    exact ⟨cs, hlen.symm, by omega, hS.live (fun _ => by rw [encC_len]; omega), fun x hx => by obtain ⟨i, hi⟩ := hmem x hx; exact (hq i x hi).2.2.2.1, fun x hx => by obtain ⟨i, hi⟩ := hmem x hx; exact (hq i x hi).2.2.2.2⟩
end
end Go.Proofs.YtoagikkjomobgaaDoor
