/- Texts on cells and lines, put together: OpenF, Open, OpenI, OpenL. -/
import Derived.Test.YtblbfoniimnkcaaGreatDoorLnBaseA
import Derived.Deep.Slices
import Derived.Deep.Fields
import Derived.ChangeSame
import Derived.ProofKit
import Derived.Test.YtblbfoniimnkcaaGreatDoorLn
import Derived.SizedLaws
import Derived.Lib.SmallJoins
/- A row of structs that came in, opened to its cells, whatever its fields. No program in sight. -/
namespace Go.Proofs.YtblbfoniimnkcaaGreatDoor
open Go.ChangeShapes Go.WideShapes Go.Deep

section
variable {H : Type} {enc : TypeId × Value → H} {P : Program} {w : World} {base : Nat} {spare : Nat → Bool} {held : Bool}
theorem open_slice_fields {t e : TypeId} {fs : Array Field} {fuel : Nat} {cs : List Value} {x : DataW H × List MemPlace} (ht : P.underlying t = some (.slice e)) (he : P.underlying e = some (.struct fs))
    (hone : oneCellFields P fs = true) (hC : P.cellsOf e = fs.size) (h : DataW.trod enc P w base spare held fuel t cs = some x) :
    (cs = [.slice none 0 0] ∧ x = (.nil, [])) ∨
    ∃ (a : Addr) (len cap m : Nat) (D : Nat → DataW H) (Pl : Nat → List MemPlace), cs = [.slice (some a) len cap] ∧ base ≤ a.block ∧ len ≤ cap ∧ cap ≤ maxLen ∧ m = (if spare a.block then cap else len) ∧
      x = (.slice ((List.range len).map D) ((List.range (m - len)).map fun j => D (len + j)), MemPlace.row a (m * fs.size) ++ (List.range m).flatMap Pl) ∧
      ∀ i, i < m → ∃ (ys : List (DataW H × List MemPlace)) (n : Nat), D i = .agg (ys.map (·.1)) ∧ Pl i = ys.flatMap (·.2) ∧ ys.length = fs.size ∧
        ∀ (j : Nat) (f : Field), fs[j]? = some f → ∃ (v : Value) (y : DataW H × List MemPlace), w.cell? (a.add (i * fs.size + j)) = some v ∧ ys[j]? = some y ∧ DataW.trod enc P w base spare held n f.type [v] = some y := by
  rcases open_slice ht h with h0 | ⟨a, len, cap, m, n, D, Pl, hcs, hb, hl, hm, hmm, hx, hi⟩
  · exact .inl h0
  · refine .inr ⟨a, len, cap, m, D, Pl, hcs, hb, hl, hm, hmm, by rw [hC] at hx; exact hx, fun i him => ?_⟩
    obtain ⟨cs', hc, ht'⟩ := hi i him
    rw [hC] at hc
    obtain ⟨ys, n', hn', hy, hlen, hyl, hf⟩ := DataW.trod_struct he ht'
    obtain ⟨_, hcl, hat⟩ := World.cells?_some hc
    simp only [Prod.mk.injEq] at hy
    refine ⟨ys, n', hy.1, hy.2, hyl, fun j f hj => ?_⟩
    obtain ⟨ho, hk⟩ := hone_of hone j f hj
    have hjl : j < fs.size := (Array.getElem?_eq_some_iff.1 hj).1
    have hcell := hat j hjl
    have hv : cs'[j]? = some (cs'[j]'(by omega)) := List.getElem?_eq_getElem (by omega)
    have h1 := hf j f hj
    rw [ho, hk] at h1
    have hone' : (cs'.drop j).take 1 = [cs'[j]'(by omega)] := by
      rw [List.drop_eq_getElem_cons (by omega)]
      rfl
    rw [hone'] at h1
    have hys : ys[j]? = some (ys[j]'(by omega)) := List.getElem?_eq_getElem (by omega)
    refine ⟨_, _, ?_, hys, h1.trans hys⟩
    rw [← Go.Deep.add_add, hcell, hv]

theorem choose_row {α : Type} (d : α) (n : Nat) (Q : Nat → α → Prop) (h : ∀ i, i < n → ∃ c, Q i c) : ∃ cs : List α, cs.length = n ∧ ∀ i c, cs[i]? = some c → Q i c := by
  have h' : ∀ i, ∃ c, i < n → Q i c := fun i => by
    by_cases hi : i < n
    · obtain ⟨c, hc⟩ := h i hi; exact ⟨c, fun _ => hc⟩
    · exact ⟨d, fun h => absurd h hi⟩
  refine ⟨(List.range n).map fun i => Classical.choose (h' i), by simp, fun i c hc => ?_⟩
  rw [List.getElem?_map] at hc
  by_cases hi : i < n
  · rw [List.getElem?_range hi] at hc
    simp at hc
    subst hc
    exact Classical.choose_spec (h' i) hi
  · rw [List.getElem?_eq_none (by simpa using hi)] at hc
    cases hc
end
end Go.Proofs.YtblbfoniimnkcaaGreatDoor

/- A row of structs that came in, opened to its cells. No program in sight. -/
namespace Go.Proofs.YtblbfoniimnkcaaGreatDoor
open Go.ChangeShapes Go.WideShapes Go.Deep

section
variable {H : Type} {enc : TypeId × Value → H} {P : Program} {w : World} {base : Nat} {spare : Nat → Bool} {held : Bool}
theorem wf_i32 {n : Int} (h : (Lit.int .i32 n).wf = true) : -2147483648 ≤ n ∧ n ≤ 2147483647 := by
  have e1 : IntKind.i32.min = -2147483648 := by decide
  have e2 : IntKind.i32.max = 2147483647 := by decide
  simp [Lit.wf] at h
  omega
theorem wf_i64 {n : Int} (h : (Lit.int .i64 n).wf = true) : -9223372036854775808 ≤ n ∧ n ≤ 9223372036854775807 := by
  have e1 : IntKind.i64.min = -9223372036854775808 := by decide
  have e2 : IntKind.i64.max = 9223372036854775807 := by decide
  simp [Lit.wf] at h
  omega

/-- What is told of a row of cells that came in. -/
structure CellsIn (w : World) (A : Option Addr) (n : Nat) (cs : List Cl) : Prop where
  len : n = cs.length
  le : cs.length ≤ maxLen
  at_ : SlAt encC 3 w w.heap.size A cs
  wf : ∀ x ∈ cs, WfC x
  size : ∀ x ∈ cs, x.h.size ≤ maxLen

theorem open_cells {t e : TypeId} {f0 f1 f2 : Field} {fuel : Nat} {A : Option Addr} {n c : Nat} {x : DataW H × List MemPlace} (ht : P.underlying t = some (.slice e)) (he : P.underlying e = some (.struct #[f0, f1, f2]))
    (hone : oneCellFields P #[f0, f1, f2] = true) (hC : P.cellsOf e = 3) (t0 : P.underlying f0.type = some (.int .i32)) (t1 : P.underlying f1.type = some (.int .i64)) (t2 : P.underlying f2.type = some .string)
    (h : DataW.trod enc P w base spare held fuel t [.slice A n c] = some x) : ∃ cs, CellsIn w A n cs := by
  rcases open_slice_fields ht he hone hC h with ⟨hcs, _⟩ | ⟨a, len, cap, m, D, Pl, hcs, _, hl, hm, hmm, _, hf⟩
  · simp at hcs
    obtain ⟨rfl, rfl, rfl⟩ := hcs
    exact ⟨[], rfl, by simp, SlAt.nil, fun _ h => (by cases h), fun _ h => (by cases h)⟩
  · simp at hcs
    obtain ⟨rfl, rfl, rfl⟩ := hcs
    have hnm : n ≤ m := by rw [hmm]; split <;> omega
    obtain ⟨cs, hlen, hq⟩ := choose_row (⟨0, 0, .empty⟩ : Cl) n (fun i y => w.cell? (a.add (i * 3)) = some (.int .i32 y.r) ∧ w.cell? (a.add (i * 3 + 1)) = some (.int .i64 y.b) ∧ w.cell? (a.add (i * 3 + 2)) = some (.string y.h) ∧ WfC y ∧ y.h.size ≤ maxLen) (fun i hi => by
      obtain ⟨ys, k, _, _, _, hfld⟩ := hf i (by omega)
      obtain ⟨v0, y0, c0, _, r0⟩ := hfld 0 f0 rfl
      obtain ⟨v1, y1, c1, _, r1⟩ := hfld 1 f1 rfl
      obtain ⟨v2, y2, c2, _, r2⟩ := hfld 2 f2 rfl
      obtain ⟨n0, e0, _, w0⟩ := DataW.trod_int t0 r0
      obtain ⟨n1, e1, _, w1⟩ := DataW.trod_int t1 r1
      obtain ⟨s2, e2, _, w2⟩ := DataW.trod_string t2 r2
      simp at e0 e1 e2
      subst e0 e1 e2
      have b0 := wf_i32 w0
      have b1 := wf_i64 w1
      exact ⟨⟨n0, n1, s2⟩, c0, c1, c2, ⟨b0.1, b0.2, b1.1, b1.2⟩, w2⟩)
    have hmem : ∀ x ∈ cs, ∃ i, cs[i]? = some x := fun x hx => by
      obtain ⟨i, hi, he⟩ := List.getElem_of_mem hx
      exact ⟨i, by rw [List.getElem?_eq_getElem hi, he]⟩
    have hS : SlAt encC 3 w (a.block + 1) (some a) cs := fun _ => ⟨a, rfl, by omega, fun k y hy j u hu => by
      obtain ⟨q0, q1, q2, _, _⟩ := hq k y hy
      rw [add_add']
      match j, hu with
      | 0, hu => simp [encC] at hu; subst hu; exact q0
      | 1, hu => simp [encC] at hu; subst hu; exact q1
      | 2, hu => simp [encC] at hu; subst hu; exact q2⟩
    exact ⟨cs, hlen.symm, by omega, hS.live (fun _ => by rw [encC_len]; omega), fun x hx => by obtain ⟨i, hi⟩ := hmem x hx; exact (hq i x hi).2.2.2.1, fun x hx => by obtain ⟨i, hi⟩ := hmem x hx; exact (hq i x hi).2.2.2.2⟩
end
end Go.Proofs.YtblbfoniimnkcaaGreatDoor

/- A row of integers that came in, opened to its cells. No program in sight. -/
namespace Go.Proofs.YtblbfoniimnkcaaGreatDoor
open Go.ChangeShapes Go.WideShapes

/-- What is told of a row of integers that came in. -/
structure IntsIn (w : World) (A : Option Addr) (n : Nat) (xs : List Int) : Prop where
  len : n = xs.length
  le : xs.length ≤ maxLen
  at_ : SlAt encI 1 w w.heap.size A xs
theorem open_intsI {H : Type} {enc : TypeId × Value → H} {P : Program} {w : World} {base : Nat} {spare : Nat → Bool} {held : Bool} {t e : TypeId} {fuel : Nat} {A : Option Addr} {n c : Nat} {x : DataW H × List MemPlace} (ht : P.underlying t = some (.slice e)) (he : P.underlying e = some (.int .i64)) (hc : P.cellsOf e = 1)
    (h : DataW.trod enc P w base spare held fuel t [.slice A n c] = some x) : ∃ xs, IntsIn w A n xs := by
  rcases open_ints ht he hc h with ⟨hcs, _⟩ | ⟨a, len, cap, zs, hcs, _, hl, hm, hz, _, hcell, _⟩
  · simp at hcs
    obtain ⟨rfl, rfl, rfl⟩ := hcs
    exact ⟨[], rfl, by simp, SlAt.nil⟩
  · simp at hcs
    obtain ⟨rfl, rfl, rfl⟩ := hcs
    have hnz : n ≤ zs.length := by rw [hz]; split <;> omega
    refine ⟨zs.take n, by rw [List.length_take]; omega, by rw [List.length_take]; omega, SlAt.live (B := a.block + 1) (fun _ => ⟨a, rfl, by omega, fun k y hy j u hu => ?_⟩) (fun _ => by rw [encI_len]; omega)⟩
    cases j with
    | succ j => simp [encI] at hu
    | zero =>
      simp [encI] at hu
      subst hu
      rw [List.getElem?_take] at hy
      split at hy
      · have hk : k < zs.length := (List.getElem?_eq_some_iff.1 hy).1
        rw [add_add', Nat.mul_one, Nat.add_zero, hcell k hk, List.getD, hy]
        rfl
      · cases hy
end Go.Proofs.YtblbfoniimnkcaaGreatDoor

/- A line among a law's arguments, opened. -/
namespace Go.Proofs.YtblbfoniimnkcaaGreatDoor
open Go.ChangeShapes Go.WideShapes Go.Deep

theorem mem_weightsAllL {H : Type} {P : Program} {e : TypeId} {d : DataW H} {k : Nat} : ∀ {l : List (DataW H)}, d ∈ l → k ∈ d.weights P e → k ∈ DataW.weightsAll P e l
  | [], h, _ => by cases h
  | x :: r, h, hk => by
    simp only [DataW.weightsAll, List.mem_append]
    rcases List.mem_cons.1 h with rfl | h
    · exact .inl hk
    · exact .inr (mem_weightsAllL h hk)
/-- What is told of a row of cells that came in. -/
structure CellsInW (w : World) (A : Option Addr) (n c : Nat) (cs : List Cl) : Prop where
  len : n = cs.length
  cap : n ≤ c
  le : cs.length ≤ 1000000000000000
  at_ : SlAt encC 3 w w.heap.size A cs
  wf : ∀ x ∈ cs, WfC x
  size : ∀ x ∈ cs, x.h.size ≤ 1000000000000000
section
variable {H : Type} {enc : TypeId × Value → H} {P : Program} {w : World} {base : Nat} {spare : Nat → Bool} {held : Bool}
theorem open_cellsW {t e : TypeId} {f0 f1 f2 : Field} {fuel : Nat} {A : Option Addr} {n c : Nat} {x : DataW H × List MemPlace} (ht : P.underlying t = some (.slice e)) (he : P.underlying e = some (.struct #[f0, f1, f2]))
    (hone : oneCellFields P #[f0, f1, f2] = true) (hC : P.cellsOf e = 3) (hB : P.bytesOf e = 32) (t0 : P.underlying f0.type = some (.int .i32)) (t1 : P.underlying f1.type = some (.int .i64)) (t2 : P.underlying f2.type = some .string)
    (h : DataW.trod enc P w base spare held fuel t [.slice A n c] = some x) (hw : ∀ k ∈ x.1.weights P t, k ≤ reachBytes) : ∃ cs, CellsInW w A n c cs := by
  unfold reachBytes at hw
  rcases open_slice_fields ht he hone hC h with ⟨hcs, _⟩ | ⟨a, len, cap, m, D, Pl, hcs, _, hl, hm, hmm, hx, hf⟩
  · simp at hcs
    obtain ⟨rfl, rfl, rfl⟩ := hcs
    exact ⟨[], rfl, by simp, by simp, SlAt.nil, fun _ h => (by cases h), fun _ h => (by cases h)⟩
  · simp at hcs
    obtain ⟨rfl, rfl, rfl⟩ := hcs
    have hnm : n ≤ m := by rw [hmm]; split <;> omega
    subst hx
    have hlen : n * 32 ≤ 0x7ffffffff000 := by
      have := hw (((List.range n).map D).length + ((List.range (m - n)).map fun j => D (n + j)).length |> (· * P.bytesOf e)) (by simp [DataW.weights, ht])
      rw [hB] at this
      simp at this
      omega
    have hmemD : ∀ i, i < n → ∀ k, k ∈ (D i).weights P e → k ≤ 0x7ffffffff000 := fun i hi k hk => hw k (by
      simp only [DataW.weights, ht, List.mem_cons, List.mem_append]
      exact .inr (.inl (mem_weightsAllL (List.mem_map.2 ⟨i, List.mem_range.2 hi, rfl⟩) hk)))
    obtain ⟨cs, hlen', hq⟩ := choose_row (⟨0, 0, .empty⟩ : Cl) n (fun i y => w.cell? (a.add (i * 3)) = some (.int .i32 y.r) ∧ w.cell? (a.add (i * 3 + 1)) = some (.int .i64 y.b) ∧ w.cell? (a.add (i * 3 + 2)) = some (.string y.h) ∧ WfC y ∧ y.h.size ≤ 1000000000000000) (fun i hi => by
      obtain ⟨ys, k, hD, _, hyl, hfld⟩ := hf i (by omega)
      obtain ⟨v0, y0, c0, g0, r0⟩ := hfld 0 f0 rfl
      obtain ⟨v1, y1, c1, g1, r1⟩ := hfld 1 f1 rfl
      obtain ⟨v2, y2, c2, g2, r2⟩ := hfld 2 f2 rfl
      obtain ⟨n0, e0, _, w0⟩ := DataW.trod_int t0 r0
      obtain ⟨n1, e1, _, w1⟩ := DataW.trod_int t1 r1
      obtain ⟨s2, e2, z2, w2⟩ := DataW.trod_string t2 r2
      simp at e0 e1 e2
      subst e0 e1 e2
      have b0 := wf_i32 w0
      have b1 := wf_i64 w1
      have hsz : ∀ k, k ∈ DataW.weightsEach P [f0.type, f1.type, f2.type] (ys.map (·.1)) → k ≤ 0x7ffffffff000 := fun k hk => hmemD i hi k (by rw [hD]; simpa [DataW.weights, he] using hk)
      have q2 := hsz s2.data.toList.length (DataW.weights_mem_each (j := 2) (t := f2.type) (d := y2.1) rfl (by rw [List.getElem?_map, g2]; rfl) _ (by rw [z2]; simp [DataW.weights]))
      rw [← Lib.size_eq] at q2
      exact ⟨⟨n0, n1, s2⟩, c0, c1, c2, ⟨b0.1, b0.2, b1.1, b1.2⟩, by show s2.size ≤ _; omega⟩)
    have hmem : ∀ x ∈ cs, ∃ i, cs[i]? = some x := fun x hx => by
      obtain ⟨i, hi, he⟩ := List.getElem_of_mem hx
      exact ⟨i, by rw [List.getElem?_eq_getElem hi, he]⟩
    have hS : SlAt encC 3 w (a.block + 1) (some a) cs := fun _ => ⟨a, rfl, by omega, fun k y hy j u hu => by
      obtain ⟨q0, q1, q2, _, _⟩ := hq k y hy
      rw [add_add']
      match j, hu with
      | 0, hu => simp [encC] at hu; subst hu; exact q0
      | 1, hu => simp [encC] at hu; subst hu; exact q1
      | 2, hu => simp [encC] at hu; subst hu; exact q2⟩
    exact ⟨cs, hlen'.symm, hl, by omega, hS.live (fun _ => by rw [encC_len]; omega), fun x hx => by obtain ⟨i, hi⟩ := hmem x hx; exact (hq i x hi).2.2.2.1, fun x hx => by obtain ⟨i, hi⟩ := hmem x hx; exact (hq i x hi).2.2.2.2⟩
/-- What is told of a row of integers that came in. -/
structure IntsInW (w : World) (A : Option Addr) (n c : Nat) (xs : List Int) : Prop where
  len : n = xs.length
  cap : n ≤ c
  le : xs.length ≤ 1000000000000000
  at_ : SlAt encI 1 w w.heap.size A xs
theorem open_intsW {t e : TypeId} {fuel : Nat} {A : Option Addr} {n c : Nat} {x : DataW H × List MemPlace} (ht : P.underlying t = some (.slice e)) (he : P.underlying e = some (.int .i64)) (hc : P.cellsOf e = 1) (hB : P.bytesOf e = 8)
    (h : DataW.trod enc P w base spare held fuel t [.slice A n c] = some x) (hw : ∀ k ∈ x.1.weights P t, k ≤ reachBytes) : ∃ xs, IntsInW w A n c xs := by
  unfold reachBytes at hw
  rcases open_ints ht he hc h with ⟨hcs, _⟩ | ⟨a, len, cap, zs, hcs, _, hl, hm, hz, hx, hcell, _⟩
  · simp at hcs
    obtain ⟨rfl, rfl, rfl⟩ := hcs
    exact ⟨[], rfl, by simp, by simp, SlAt.nil⟩
  · simp at hcs
    obtain ⟨rfl, rfl, rfl⟩ := hcs
    have hnz : n ≤ zs.length := by rw [hz]; split <;> omega
    have hlen : n * 8 ≤ 0x7ffffffff000 := by
      subst hx
      have := hw _ (by simp only [DataW.weights, ht, List.mem_cons]; exact .inl rfl)
      rw [hB] at this
      simp only [lits, List.length_map, List.length_take, List.length_drop] at this
      omega
    refine ⟨zs.take n, by rw [List.length_take]; omega, hl, by rw [List.length_take]; omega, SlAt.live (B := a.block + 1) (fun _ => ⟨a, rfl, by omega, fun k y hy j u hu => ?_⟩) (fun _ => by rw [encI_len]; omega)⟩
    cases j with
    | succ j => simp [encI] at hu
    | zero =>
      simp [encI] at hu
      subst hu
      rw [List.getElem?_take] at hy
      split at hy
      · have hk : k < zs.length := (List.getElem?_eq_some_iff.1 hy).1
        rw [add_add', Nat.mul_one, Nat.add_zero, hcell k hk, List.getD, hy]
        rfl
      · cases hy
/-- What is told of a line that came in. -/
structure LineIn (w : World) (l : Ln) (A : Option Addr) (n c : Nat) (B : Option Addr) (m d : Nat) : Prop where
  nl : n = l.ls.length
  nc : n ≤ c
  ml : m = l.cs.length
  md : m ≤ d
  at_ : LnAt w w.heap.size l A B
  lsle : l.ls.length ≤ 1000000000000000
  csle : l.cs.length ≤ 1000000000000000
  wf : ∀ x ∈ l.cs, WfC x
  size : ∀ x ∈ l.cs, x.h.size ≤ 1000000000000000
  wq : (Lit.int .i64 l.q).wf = true
  wk : (Lit.int .i64 l.k).wf = true
theorem slice_shape {t e : TypeId} {fuel : Nat} {v : Value} {x : DataW H × List MemPlace} (ht : P.underlying t = some (.slice e)) (h : DataW.trod enc P w base spare held fuel t [v] = some x) : ∃ A n c, v = .slice A n c := by
  rcases open_slice ht h with ⟨h0, _⟩ | ⟨a, len, cap, m, n, D, Pl, hcs, _⟩
  · simp at h0; exact ⟨_, _, _, h0⟩
  · simp at hcs; exact ⟨_, _, _, hcs⟩
theorem open_line_fields {t0 t1 t2 t3 ti tc : TypeId} {f0 f1 f2 : Field} {k0 k1 k2 k3 : Nat} {v0 v1 v2 v3 : Value} {y0 y1 y2 y3 : DataW H × List MemPlace}
    (h0 : P.underlying t0 = some (.int .i64)) (h1 : P.underlying t1 = some (.slice ti)) (hi : P.underlying ti = some (.int .i64)) (hic : P.cellsOf ti = 1) (hib : P.bytesOf ti = 8) (h2 : P.underlying t2 = some (.int .i64))
    (h3 : P.underlying t3 = some (.slice tc)) (he : P.underlying tc = some (.struct #[f0, f1, f2])) (hone : oneCellFields P #[f0, f1, f2] = true) (hC : P.cellsOf tc = 3) (hB : P.bytesOf tc = 32)
    (u0 : P.underlying f0.type = some (.int .i32)) (u1 : P.underlying f1.type = some (.int .i64)) (u2 : P.underlying f2.type = some .string)
    (r0 : DataW.trod enc P w base spare held k0 t0 [v0] = some y0) (r1 : DataW.trod enc P w base spare held k1 t1 [v1] = some y1) (r2 : DataW.trod enc P w base spare held k2 t2 [v2] = some y2) (r3 : DataW.trod enc P w base spare held k3 t3 [v3] = some y3)
    (w1 : ∀ k ∈ y1.1.weights P t1, k ≤ reachBytes) (w3 : ∀ k ∈ y3.1.weights P t3, k ≤ reachBytes) :
    ∃ l A n c B m d, v0 = .int .i64 l.q ∧ v1 = .slice A n c ∧ v2 = .int .i64 l.k ∧ v3 = .slice B m d ∧ LineIn w l A n c B m d := by
  obtain ⟨q, e0, _, g0⟩ := DataW.trod_int h0 r0
  obtain ⟨k, e2, _, g2⟩ := DataW.trod_int h2 r2
  simp at e0 e2
  subst e0 e2
  obtain ⟨A, n, c, rfl⟩ := slice_shape h1 r1
  obtain ⟨B, m, d, rfl⟩ := slice_shape h3 r3
  obtain ⟨xs, hx⟩ := open_intsW h1 hi hic hib r1 w1
  obtain ⟨cs, hc⟩ := open_cellsW h3 he hone hC hB u0 u1 u2 r3 w3
  exact ⟨⟨q, xs, k, cs⟩, A, n, c, B, m, d, rfl, rfl, rfl, rfl, hx.len, hx.cap, hc.len, hc.cap, ⟨hx.at_, hc.at_⟩, hx.le, hc.le, hc.wf, hc.size, g0, g2⟩
theorem open_lineG {tl ti tc : TypeId} {f0 f1 f2 f3 g0 g1 g2 : Field} (hs : P.underlying tl = some (.struct #[f0, f1, f2, f3])) (hone : oneCellFields P #[f0, f1, f2, f3] = true) (hC : P.cellsOf tl = 4) (t0 : P.underlying f0.type = some (.int .i64)) (t2 : P.underlying f2.type = some (.int .i64))
    (t1 : P.underlying f1.type = some (.slice ti)) (hi : P.underlying ti = some (.int .i64)) (hic : P.cellsOf ti = 1) (hib : P.bytesOf ti = 8) (t3 : P.underlying f3.type = some (.slice tc))
    (es : P.underlying tc = some (.struct #[g0, g1, g2])) (eo : oneCellFields P #[g0, g1, g2] = true) (ec : P.cellsOf tc = 3) (eb : P.bytesOf tc = 32) (u0 : P.underlying g0.type = some (.int .i32)) (u1 : P.underlying g1.type = some (.int .i64)) (u2 : P.underlying g2.type = some .string)
    {r : Reach} {b0 : Nat} {v : Value} {d : DataW H} {p : List MemPlace} (hv : Value.okWide P w r b0 tl v) (h : DataW.Trod enc P w base spare held tl v d p) (hw : ∀ k ∈ d.weights P tl, k ≤ reachBytes) :
    ∃ l A n c B m e, v = .agg #[.int .i64 l.q, .slice A n c, .int .i64 l.k, .slice B m e] ∧ LineIn w l A n c B m e := by
  obtain ⟨cs, rfl, hsz⟩ := okWide_struct hs hv
  obtain ⟨c0, c1, c2, c3, rfl⟩ := Go.Joins.array4 (hsz.trans hC)
  obtain ⟨fuel, hf⟩ := h
  obtain ⟨y0, y1, y2, y3, n, hx, _, h0, h1, h2, h3⟩ := Go.Joins.trod_struct4 hs hf
  obtain ⟨o0, k0⟩ := hone_of hone 0 f0 rfl
  obtain ⟨o1, k1⟩ := hone_of hone 1 f1 rfl
  obtain ⟨o2, k2⟩ := hone_of hone 2 f2 rfl
  obtain ⟨o3, k3⟩ := hone_of hone 3 f3 rfl
  simp only [Prod.mk.injEq] at hx
  obtain ⟨rfl, _⟩ := hx
  have r0 : DataW.trod enc P w base spare held n f0.type [c0] = some y0 := by simpa [Value.cells, o0, k0] using h0
  have r1 : DataW.trod enc P w base spare held n f1.type [c1] = some y1 := by simpa [Value.cells, o1, k1] using h1
  have r2 : DataW.trod enc P w base spare held n f2.type [c2] = some y2 := by simpa [Value.cells, o2, k2] using h2
  have r3 : DataW.trod enc P w base spare held n f3.type [c3] = some y3 := by simpa [Value.cells, o3, k3] using h3
  have hwe : ∀ k ∈ DataW.weightsEach P [f0.type, f1.type, f2.type, f3.type] [y0.1, y1.1, y2.1, y3.1], k ≤ reachBytes := fun k hk => hw k (by simpa [DataW.weights, hs] using hk)
  obtain ⟨l, A, n, c, B, m, e, rfl, rfl, rfl, rfl, hl⟩ := open_line_fields t0 t1 hi hic hib t2 t3 es eo ec eb u0 u1 u2 r0 r1 r2 r3
    (fun k hk => hwe k (DataW.weights_mem_each (j := 1) (t := f1.type) (d := y1.1) rfl rfl _ hk))
    (fun k hk => hwe k (DataW.weights_mem_each (j := 3) (t := f3.type) (d := y3.1) rfl rfl _ hk))
  exact ⟨l, A, n, c, B, m, e, rfl, hl⟩
theorem Tryz.structL : ∃ f0 f1 f2 f3 : Field, Tryz.prog.underlying 46 = some (.struct #[f0, f1, f2, f3]) ∧ oneCellFields Tryz.prog #[f0, f1, f2, f3] = true ∧ Tryz.prog.cellsOf 46 = 4 ∧ Tryz.prog.underlying f0.type = some (.int .i64) ∧ f1.type = 43 ∧ Tryz.prog.underlying f2.type = some (.int .i64) ∧ f3.type = 44 :=
  ⟨_, _, _, _, Tryz.underlying46, by kernel_rfl, by kernel_rfl, by kernel_rfl, by kernel_rfl, by kernel_rfl, by kernel_rfl⟩
theorem Tryz.structC : ∃ f0 f1 f2 : Field, Tryz.prog.underlying 60 = some (.struct #[f0, f1, f2]) ∧ oneCellFields Tryz.prog #[f0, f1, f2] = true ∧ Tryz.prog.cellsOf 60 = 3 ∧ Tryz.prog.bytesOf 60 = 32 ∧ Tryz.prog.underlying f0.type = some (.int .i32) ∧ Tryz.prog.underlying f1.type = some (.int .i64) ∧ Tryz.prog.underlying f2.type = some .string :=
  ⟨_, _, _, Tryz.underlying60, by kernel_rfl, by kernel_rfl, by kernel_rfl, by kernel_rfl, by kernel_rfl, by kernel_rfl⟩
set_option maxRecDepth 100000 in
/-- A line that came in as an argument. -/
theorem Tryz.open_line {r : Reach} {b0 : Nat} {v : Value} {d : DataW H} {p : List MemPlace} (hv : Value.okWide Tryz.prog w r b0 46 v) (h : DataW.Trod enc Tryz.prog w base spare held 46 v d p) (hw : ∀ k ∈ d.weights Tryz.prog 46, k ≤ reachBytes) :
    ∃ l A n c B m e, v = .agg #[.int .i64 l.q, .slice A n c, .int .i64 l.k, .slice B m e] ∧ LineIn w l A n c B m e := by
  obtain ⟨f0, f1, f2, f3, hs, hone, hC, t0, t1, t2, t3⟩ := Tryz.structL
  obtain ⟨g0, g1, g2, es, eo, ec, eb, u0, u1, u2⟩ := Tryz.structC
  exact open_lineG hs hone hC t0 t2 (by rw [t1]; exact Tryz.underlying43) Tryz.underlying3 (by kernel_rfl) (by kernel_rfl) (by rw [t3]; exact Tryz.underlying44) es eo ec eb u0 u1 u2 hv h hw
end
end Go.Proofs.YtblbfoniimnkcaaGreatDoor
