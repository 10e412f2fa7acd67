/- A row of attributes that came in, opened to its cells. -/
import Derived.Test.YtapjlkiffgfbfaaDoorOpenF
import Derived.Test.YtapjlkiffgfbfaaDoorAttRow
import Derived.SizedLaws
namespace Go.Proofs.YtapjlkiffgfbfaaDoor
open Go.ChangeShapes Go.WideShapes Go.Deep

theorem mem_weightsAll {H : Type} {P : Program} {e : TypeId} {d : DataW H} {k : Nat} : ∀ {l : List (DataW H)}, d ∈ l → k ∈ d.weights P e → k ∈ DataW.weightsAll P e l
  | [], h, _ => by cases h
  | x :: r, h, hk => by
    simp only [DataW.weightsAll, List.mem_append]
    rcases List.mem_cons.1 h with rfl | h
    · exact .inl hk
    · exact .inr (mem_weightsAll h hk)
/-- What is told of a row of attributes that came in. -/
structure AttrsIn (w : World) (A : Option Addr) (n c : Nat) (xs : List At) : Prop where
  len : n = xs.length
  cap : xs.length ≤ c
  le : xs.length ≤ 1000000000000000
  at_ : SlAt encA 2 w w.heap.size A xs
  size : ∀ x ∈ xs, x.n.size ≤ 1000000000000000 ∧ x.v.size ≤ 1000000000000000
section
variable {H : Type} {enc : TypeId × Value → H} {P : Program} {w : World} {base : Nat} {spare : Nat → Bool} {held : Bool}
theorem open_attrsG {t e : TypeId} {f0 f1 : Field} {fuel : Nat} {A : Option Addr} {n c : Nat} {x : DataW H × List MemPlace} (ht : P.underlying t = some (.slice e)) (he : P.underlying e = some (.struct #[f0, f1]))
    (hone : oneCellFields P #[f0, f1] = true) (hC : P.cellsOf e = 2) (hB : P.bytesOf e = 32) (t0 : P.underlying f0.type = some .string) (t1 : P.underlying f1.type = some .string)
    (h : DataW.trod enc P w base spare held fuel t [.slice A n c] = some x) (hw : ∀ k ∈ x.1.weights P t, k ≤ reachBytes) : ∃ xs, AttrsIn w A n c xs := by
  unfold reachBytes at hw
  rcases open_slice_fields ht he hone hC h with ⟨hcs, _⟩ | ⟨a, len, cap, m, D, Pl, hcs, _, hl, hm, hmm, hx, hf⟩
  · simp at hcs
    obtain ⟨rfl, rfl, rfl⟩ := hcs
    exact ⟨[], rfl, by simp, by simp, SlAt.nil, fun _ h => (by cases h)⟩
  · simp at hcs
    obtain ⟨rfl, rfl, rfl⟩ := hcs
    have hnm : n ≤ m := by rw [hmm]; split <;> omega
    subst hx
    have hlen : n * 32 ≤ 0x7ffffffff000 := by
      have := hw (((List.range n).map D).length + ((List.range (m - n)).map fun j => D (n + j)).length |> (· * P.bytesOf e)) (by simp [DataW.weights, ht])
      rw [hB] at this
      simp at this
      omega
    have hmemD : ∀ i, i < n → ∀ k, k ∈ (D i).weights P e → k ≤ 0x7ffffffff000 := fun i hi k hk => hw k (by
      simp only [DataW.weights, ht, List.mem_cons, List.mem_append]
      exact .inr (.inl (mem_weightsAll (List.mem_map.2 ⟨i, List.mem_range.2 hi, rfl⟩) hk)))
    obtain ⟨cs, hlen', hq⟩ := choose_row (⟨.empty, .empty⟩ : At) n (fun i y => w.cell? (a.add (i * 2)) = some (.string y.n) ∧ w.cell? (a.add (i * 2 + 1)) = some (.string y.v) ∧ y.n.size ≤ 1000000000000000 ∧ y.v.size ≤ 1000000000000000) (fun i hi => by
      obtain ⟨ys, k, hD, _, hyl, hfld⟩ := hf i (by omega)
      obtain ⟨v0, y0, c0, g0, r0⟩ := hfld 0 f0 rfl
      obtain ⟨v1, y1, c1, g1, r1⟩ := hfld 1 f1 rfl
      obtain ⟨s0, e0, z0, w0⟩ := DataW.trod_string t0 r0
      obtain ⟨s1, e1, z1, w1⟩ := DataW.trod_string t1 r1
      simp at e0 e1
      subst e0 e1
      have hsz : ∀ k, k ∈ DataW.weightsEach P [f0.type, f1.type] (ys.map (·.1)) → k ≤ 0x7ffffffff000 := fun k hk => hmemD i hi k (by rw [hD]; simpa [DataW.weights, he] using hk)
      have q0 := hsz s0.data.toList.length (DataW.weights_mem_each (j := 0) (t := f0.type) (d := y0.1) rfl (by rw [List.getElem?_map, g0]; rfl) _ (by rw [z0]; simp [DataW.weights]))
      have q1 := hsz s1.data.toList.length (DataW.weights_mem_each (j := 1) (t := f1.type) (d := y1.1) rfl (by rw [List.getElem?_map, g1]; rfl) _ (by rw [z1]; simp [DataW.weights]))
      rw [← Lib.size_eq] at q0 q1
      exact ⟨⟨s0, s1⟩, c0, c1, by show s0.size ≤ _; omega, by show s1.size ≤ _; omega⟩)
    have hmem : ∀ x ∈ cs, ∃ i, cs[i]? = some x := fun x hx => by
      obtain ⟨i, hi, he⟩ := List.getElem_of_mem hx
      exact ⟨i, by rw [List.getElem?_eq_getElem hi, he]⟩
    have hS : SlAt encA 2 w (a.block + 1) (some a) cs := fun _ => ⟨a, rfl, by omega, fun k y hy j u hu => by
      obtain ⟨q0, q1, _, _⟩ := hq k y hy
      rw [add_add']
      match j, hu with
      | 0, hu => simp [encA] at hu; subst hu; exact q0
      | 1, hu => simp [encA] at hu; subst hu; exact q1⟩
    exact ⟨cs, hlen'.symm, by omega, by omega, hS.live (fun _ => by rw [encA_len]; omega), fun x hx => by obtain ⟨i, hi⟩ := hmem x hx; exact (hq i x hi).2.2⟩
theorem Tryd.open_attrs {fuel : Nat} {A : Option Addr} {n c : Nat} {x : DataW H × List MemPlace} (h : DataW.trod enc Tryd.prog w base spare held fuel 39 [.slice A n c] = some x) (hw : ∀ k ∈ x.1.weights Tryd.prog 39, k ≤ reachBytes) : ∃ xs, AttrsIn w A n c xs :=
  open_attrsG Tryd.underlying39 Tryd.underlying52 (by kernel_rfl) (by kernel_rfl) (by kernel_rfl) (by first | exact Tryd.underlying9 | kernel_rfl) (by first | exact Tryd.underlying9 | kernel_rfl) h hw
end
end Go.Proofs.YtapjlkiffgfbfaaDoor
