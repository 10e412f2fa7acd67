/- Texts on cells and lines, put together: OpenS0, OpenS. -/
import Derived.Test.YtblbfoniimnkcaaGreatDoorLnOpen
import Derived.Test.YtblbfoniimnkcaaGreatDoorBgKg
/- A row of lines, a state, among a law's arguments, opened: the part that knows no program. -/
namespace Go.Proofs.YtblbfoniimnkcaaGreatDoor
open Go.ChangeShapes Go.WideShapes Go.Deep

/-- What is told of a row of lines that came in. -/
structure DocIn (w : World) (A : Option Addr) (n c : Nat) (hs : List Hd) : Prop where
  len : n = hs.length
  cap : n ≤ c
  le : hs.length ≤ 1000000000000000
  at_ : DocAt w w.heap.size A hs
  lines : ∀ h ∈ hs, LineIn w h.l h.A h.l.ls.length h.c h.B h.l.cs.length h.d
section
variable {H : Type} {enc : TypeId × Value → H} {P : Program} {w : World} {base : Nat} {spare : Nat → Bool} {held : Bool}
theorem open_docW {t tl ti tc : TypeId} {f0 f1 f2 f3 g0 g1 g2 : Field} {fuel : Nat} {A : Option Addr} {n c : Nat} {x : DataW H × List MemPlace} (ht : P.underlying t = some (.slice tl))
    (hs : P.underlying tl = some (.struct #[f0, f1, f2, f3])) (hone : oneCellFields P #[f0, f1, f2, f3] = true) (hC : P.cellsOf tl = 4) (hB : P.bytesOf tl = 64) (t0 : P.underlying f0.type = some (.int .i64)) (t2 : P.underlying f2.type = some (.int .i64))
    (t1 : P.underlying f1.type = some (.slice ti)) (hi : P.underlying ti = some (.int .i64)) (hic : P.cellsOf ti = 1) (hib : P.bytesOf ti = 8) (t3 : P.underlying f3.type = some (.slice tc))
    (es : P.underlying tc = some (.struct #[g0, g1, g2])) (eo : oneCellFields P #[g0, g1, g2] = true) (ec : P.cellsOf tc = 3) (eb : P.bytesOf tc = 32) (u0 : P.underlying g0.type = some (.int .i32)) (u1 : P.underlying g1.type = some (.int .i64)) (u2 : P.underlying g2.type = some .string)
    (h : DataW.trod enc P w base spare held fuel t [.slice A n c] = some x) (hw : ∀ k ∈ x.1.weights P t, k ≤ reachBytes) : ∃ hs, DocIn w A n c hs := by
  rcases open_slice_fields ht hs hone hC h with ⟨hcs, _⟩ | ⟨a, len, cap, m, D, Pl, hcs, _, hl, hm, hmm, hx, hf⟩
  · simp at hcs
    obtain ⟨rfl, rfl, rfl⟩ := hcs
    exact ⟨[], rfl, by simp, by simp, ⟨SlAt.nil, fun _ h => (by cases h)⟩, fun _ h => (by cases h)⟩
  · simp at hcs
    obtain ⟨rfl, rfl, rfl⟩ := hcs
    have hnm : n ≤ m := by rw [hmm]; split <;> omega
    subst hx
    have hlen : n * 64 ≤ reachBytes := by
      have := hw (((List.range n).map D).length + ((List.range (m - n)).map fun j => D (n + j)).length |> (· * P.bytesOf tl)) (by simp [DataW.weights, ht])
      rw [hB] at this
      simp at this
      omega
    have hmemD : ∀ i, i < n → ∀ k, k ∈ (D i).weights P tl → k ≤ reachBytes := fun i hi k hk => hw k (by
      simp only [DataW.weights, ht, List.mem_cons, List.mem_append]
      exact .inr (.inl (mem_weightsAllL (List.mem_map.2 ⟨i, List.mem_range.2 hi, rfl⟩) hk)))
    obtain ⟨hs', hlen', hq⟩ := choose_row (⟨zL, none, 0, none, 0⟩ : Hd) n (fun i y => w.cell? (a.add (i * 4)) = some (.int .i64 y.l.q) ∧ w.cell? (a.add (i * 4 + 1)) = some (.slice y.A y.l.ls.length y.c) ∧ w.cell? (a.add (i * 4 + 2)) = some (.int .i64 y.l.k) ∧ w.cell? (a.add (i * 4 + 3)) = some (.slice y.B y.l.cs.length y.d) ∧
        LineIn w y.l y.A y.l.ls.length y.c y.B y.l.cs.length y.d) (fun i hin => by
      obtain ⟨ys, k, hD, _, hyl, hfld⟩ := hf i (by omega)
      obtain ⟨v0, y0, c0, e0, r0⟩ := hfld 0 f0 rfl
      obtain ⟨v1, y1, c1, e1, r1⟩ := hfld 1 f1 rfl
      obtain ⟨v2, y2, c2, e2, r2⟩ := hfld 2 f2 rfl
      obtain ⟨v3, y3, c3, e3, r3⟩ := hfld 3 f3 rfl
      have hsz : ∀ k, k ∈ DataW.weightsEach P [f0.type, f1.type, f2.type, f3.type] (ys.map (·.1)) → k ≤ reachBytes := fun k hk => hmemD i hin k (by rw [hD]; simpa [DataW.weights, hs] using hk)
      obtain ⟨l, A, n, c, B, m, d, rfl, rfl, rfl, rfl, hl⟩ := open_line_fields t0 t1 hi hic hib t2 t3 es eo ec eb u0 u1 u2 r0 r1 r2 r3
        (fun k hk => hsz k (DataW.weights_mem_each (j := 1) (t := f1.type) (d := y1.1) rfl (by rw [List.getElem?_map, e1]; rfl) _ hk))
        (fun k hk => hsz k (DataW.weights_mem_each (j := 3) (t := f3.type) (d := y3.1) rfl (by rw [List.getElem?_map, e3]; rfl) _ hk))
      have n1 := hl.nl
      have n2 := hl.ml
      subst n1 n2
      exact ⟨⟨l, A, c, B, d⟩, c0, c1, c2, c3, hl⟩)
    have hmem : ∀ x ∈ hs', ∃ i, hs'[i]? = some x := fun x hx => by
      obtain ⟨i, hi, he⟩ := List.getElem_of_mem hx
      exact ⟨i, by rw [List.getElem?_eq_getElem hi, he]⟩
    have hS : SlAt encH 4 w (a.block + 1) (some a) hs' := fun _ => ⟨a, rfl, by omega, fun k y hy j u hu => by
      obtain ⟨q0, q1, q2, q3, _⟩ := hq k y hy
      rw [add_add']
      match j, hu with
      | 0, hu => simp [encH] at hu; subst hu; exact q0
      | 1, hu => simp [encH] at hu; subst hu; exact q1
      | 2, hu => simp [encH] at hu; subst hu; exact q2
      | 3, hu => simp [encH] at hu; subst hu; exact q3⟩
    have hln : ∀ x ∈ hs', LineIn w x.l x.A x.l.ls.length x.c x.B x.l.cs.length x.d := fun x hx => by obtain ⟨i, hi⟩ := hmem x hx; exact (hq i x hi).2.2.2.2
    unfold reachBytes at hlen
    exact ⟨hs', hlen'.symm, hl, by omega, ⟨hS.live (fun _ => by rw [encH_len]; omega), fun x hx => (hln x hx).at_⟩, hln⟩
/-- A state's value. -/
def stV (s : Stt) (A : Option Addr) (n c : Nat) : Value := .agg #[.slice A n c, .int .i64 s.a.l, .int .i64 s.a.a, .int .i64 s.f.l, .int .i64 s.f.a, .int .i64 s.on, .int .i64 s.off]
/-- What is told of a state that came in. -/
structure StateIn (w : World) (s : Stt) (hs : List Hd) (A : Option Addr) (n c : Nat) : Prop where
  d : s.d = lnsOf hs
  doc : DocIn w A n c hs
  w1 : (Lit.int .i64 s.a.l).wf = true
  w2 : (Lit.int .i64 s.a.a).wf = true
  w3 : (Lit.int .i64 s.f.l).wf = true
  w4 : (Lit.int .i64 s.f.a).wf = true
  w5 : (Lit.int .i64 s.on).wf = true
  w6 : (Lit.int .i64 s.off).wf = true
theorem array7 {cs : Array Value} (h : cs.size = 7) : ∃ a b c d e f g, cs = #[a, b, c, d, e, f, g] := by
  obtain ⟨l⟩ := cs
  match l, h with
  | [a, b, c, d, e, f, g], _ => exact ⟨a, b, c, d, e, f, g, rfl⟩
theorem open_place {tp : TypeId} {p0 p1 : Field} {k : Nat} {u v : Value} {y : DataW H × List MemPlace} (hp : P.underlying tp = some (.struct #[p0, p1])) (a0 : P.underlying p0.type = some (.int .i64)) (a1 : P.underlying p1.type = some (.int .i64)) (o0 : p0.offset = 0) (o1 : p1.offset = 1) (c0 : P.cellsOf p0.type = 1) (c1 : P.cellsOf p1.type = 1)
    (h : DataW.trod enc P w base spare held k tp [u, v] = some y) : ∃ p : Ps, u = .int .i64 p.l ∧ v = .int .i64 p.a ∧ (Lit.int .i64 p.l).wf = true ∧ (Lit.int .i64 p.a).wf = true := by
  obtain ⟨xs, n, _, _, _, hl, hf⟩ := DataW.trod_struct hp h
  have h0 := hf 0 p0 rfl
  have h1 := hf 1 p1 rfl
  rw [o0, c0] at h0
  rw [o1, c1] at h1
  rw [List.getElem?_eq_getElem (by rw [hl]; simp)] at h0
  rw [List.getElem?_eq_getElem (by rw [hl]; simp)] at h1
  obtain ⟨n0, e0, _, w0⟩ := DataW.trod_int a0 h0
  obtain ⟨n1, e1, _, w1⟩ := DataW.trod_int a1 h1
  simp at e0 e1
  subst e0 e1
  exact ⟨⟨n0, n1⟩, rfl, rfl, w0, w1⟩
theorem open_stateG {ts tp td tl ti tc : TypeId} {s0 s1 s2 s3 s4 p0 p1 f0 f1 f2 f3 g0 g1 g2 : Field} (hS : P.underlying ts = some (.struct #[s0, s1, s2, s3, s4])) (hSC : P.cellsOf ts = 7)
    (hs0 : s0.type = td ∧ s0.offset = 0 ∧ P.cellsOf td = 1) (hs1 : s1.type = tp ∧ s1.offset = 1) (hs2 : s2.type = tp ∧ s2.offset = 3) (hpc : P.cellsOf tp = 2) (hs3 : P.underlying s3.type = some (.int .i64) ∧ s3.offset = 5 ∧ P.cellsOf s3.type = 1) (hs4 : P.underlying s4.type = some (.int .i64) ∧ s4.offset = 6 ∧ P.cellsOf s4.type = 1)
    (hp : P.underlying tp = some (.struct #[p0, p1])) (a0 : P.underlying p0.type = some (.int .i64) ∧ p0.offset = 0 ∧ P.cellsOf p0.type = 1) (a1 : P.underlying p1.type = some (.int .i64) ∧ p1.offset = 1 ∧ P.cellsOf p1.type = 1)
    (ht : P.underlying td = some (.slice tl)) (hs : P.underlying tl = some (.struct #[f0, f1, f2, f3])) (hone : oneCellFields P #[f0, f1, f2, f3] = true) (hC : P.cellsOf tl = 4) (hB : P.bytesOf tl = 64) (t0 : P.underlying f0.type = some (.int .i64)) (t2 : P.underlying f2.type = some (.int .i64))
    (t1 : P.underlying f1.type = some (.slice ti)) (hi : P.underlying ti = some (.int .i64)) (hic : P.cellsOf ti = 1) (hib : P.bytesOf ti = 8) (t3 : P.underlying f3.type = some (.slice tc))
    (es : P.underlying tc = some (.struct #[g0, g1, g2])) (eo : oneCellFields P #[g0, g1, g2] = true) (ec : P.cellsOf tc = 3) (eb : P.bytesOf tc = 32) (u0 : P.underlying g0.type = some (.int .i32)) (u1 : P.underlying g1.type = some (.int .i64)) (u2 : P.underlying g2.type = some .string)
    {r : Reach} {b0 : Nat} {v : Value} {d : DataW H} {p : List MemPlace} (hv : Value.okWide P w r b0 ts v) (h : DataW.Trod enc P w base spare held ts v d p) (hw : ∀ k ∈ d.weights P ts, k ≤ reachBytes) :
    ∃ s hs A n c, v = stV s A n c ∧ StateIn w s hs A n c := by
  obtain ⟨cs, rfl, hsz⟩ := okWide_struct hS hv
  obtain ⟨v0, v1, v2, v3, v4, v5, v6, rfl⟩ := array7 (hsz.trans hSC)
  obtain ⟨fuel, hf⟩ := h
  obtain ⟨xs, n, _, hx, _, hl, hfl⟩ := DataW.trod_struct hS hf
  obtain ⟨rfl, b1, b2⟩ := hs0
  obtain ⟨q1, q2⟩ := hs1
  obtain ⟨q3, q4⟩ := hs2
  have r0 := hfl 0 s0 rfl
  have r1 := hfl 1 s1 rfl
  have r2 := hfl 2 s2 rfl
  have r3 := hfl 3 s3 rfl
  have r4 := hfl 4 s4 rfl
  rw [b1, b2] at r0
  rw [q1, q2, hpc] at r1
  rw [q3, q4, hpc] at r2
  rw [hs3.2.1, hs3.2.2] at r3
  rw [hs4.2.1, hs4.2.2] at r4
  rw [List.getElem?_eq_getElem (by rw [hl]; simp)] at r0 r1 r2 r3 r4
  simp [Value.cells] at r0 r1 r2 r3 r4
  simp only [Prod.mk.injEq] at hx
  obtain ⟨rfl, _⟩ := hx
  obtain ⟨A, n', c, rfl⟩ := slice_shape ht r0
  obtain ⟨a, rfl, rfl, y1, y2⟩ := open_place hp a0.1 a1.1 a0.2.1 a1.2.1 a0.2.2 a1.2.2 r1
  obtain ⟨f, rfl, rfl, y3, y4⟩ := open_place hp a0.1 a1.1 a0.2.1 a1.2.1 a0.2.2 a1.2.2 r2
  obtain ⟨on, e3, _, w3⟩ := DataW.trod_int hs3.1 r3
  obtain ⟨off, e4, _, w4⟩ := DataW.trod_int hs4.1 r4
  simp at e3 e4
  subst e3 e4
  have hwe : ∀ k ∈ DataW.weightsEach P [s0.type, s1.type, s2.type, s3.type, s4.type] (xs.map (·.1)), k ≤ reachBytes := fun k hk => hw k (by simpa [DataW.weights, hS] using hk)
  obtain ⟨hs', hd⟩ := open_docW ht hs hone hC hB t0 t2 t1 hi hic hib t3 es eo ec eb u0 u1 u2 r0 (fun k hk => hwe k (DataW.weights_mem_each (j := 0) (t := s0.type) rfl (by rw [List.getElem?_map, List.getElem?_eq_getElem (by rw [hl]; simp)]; rfl) _ hk))
  exact ⟨⟨lnsOf hs', a, f, on, off⟩, hs', A, n', c, rfl, rfl, hd, y1, y2, y3, y4, w3, w4⟩
end
end Go.Proofs.YtblbfoniimnkcaaGreatDoor

/- A state among a law's arguments, opened. -/
namespace Go.Proofs.YtblbfoniimnkcaaGreatDoor
open Go.ChangeShapes Go.WideShapes Go.Deep

theorem Tryz.structS : ∃ s0 s1 s2 s3 s4 : Field, Tryz.prog.underlying 26 = some (.struct #[s0, s1, s2, s3, s4]) ∧ Tryz.prog.cellsOf 26 = 7 ∧ (s0.type = 22 ∧ s0.offset = 0 ∧ Tryz.prog.cellsOf 22 = 1) ∧ (s1.type = 24 ∧ s1.offset = 1) ∧ (s2.type = 24 ∧ s2.offset = 3) ∧
    (Tryz.prog.underlying s3.type = some (.int .i64) ∧ s3.offset = 5 ∧ Tryz.prog.cellsOf s3.type = 1) ∧ (Tryz.prog.underlying s4.type = some (.int .i64) ∧ s4.offset = 6 ∧ Tryz.prog.cellsOf s4.type = 1) :=
  ⟨_, _, _, _, _, Tryz.underlying26, by kernel_rfl, ⟨by kernel_rfl, by kernel_rfl, by kernel_rfl⟩, ⟨by kernel_rfl, by kernel_rfl⟩, ⟨by kernel_rfl, by kernel_rfl⟩, ⟨by kernel_rfl, by kernel_rfl, by kernel_rfl⟩, ⟨by kernel_rfl, by kernel_rfl, by kernel_rfl⟩⟩
theorem Tryz.structP : ∃ p0 p1 : Field, Tryz.prog.underlying 24 = some (.struct #[p0, p1]) ∧ Tryz.prog.cellsOf 24 = 2 ∧ (Tryz.prog.underlying p0.type = some (.int .i64) ∧ p0.offset = 0 ∧ Tryz.prog.cellsOf p0.type = 1) ∧ (Tryz.prog.underlying p1.type = some (.int .i64) ∧ p1.offset = 1 ∧ Tryz.prog.cellsOf p1.type = 1) :=
  ⟨_, _, Tryz.underlying24, by kernel_rfl, ⟨by kernel_rfl, by kernel_rfl, by kernel_rfl⟩, ⟨by kernel_rfl, by kernel_rfl, by kernel_rfl⟩⟩
section
variable {H : Type} {enc : TypeId × Value → H} {w : World} {base : Nat} {spare : Nat → Bool} {held : Bool}
set_option maxRecDepth 100000 in
/-- A state that came in as an argument. -/
theorem Tryz.open_state {r : Reach} {b0 : Nat} {v : Value} {d : DataW H} {p : List MemPlace} (hv : Value.okWide Tryz.prog w r b0 26 v) (h : DataW.Trod enc Tryz.prog w base spare held 26 v d p) (hw : ∀ k ∈ d.weights Tryz.prog 26, k ≤ reachBytes) :
    ∃ s hs A n c, v = stV s A n c ∧ StateIn w s hs A n c := by
  obtain ⟨s0, s1, s2, s3, s4, hS, hSC, hs0, hs1, hs2, hs3, hs4⟩ := Tryz.structS
  obtain ⟨p0, p1, hp, hpc, a0, a1⟩ := Tryz.structP
  obtain ⟨f0, f1, f2, f3, hs, hone, hC, t0, t1, t2, t3⟩ := Tryz.structL
  obtain ⟨g0, g1, g2, es, eo, ec, eb, u0, u1, u2⟩ := Tryz.structC
  exact open_stateG hS hSC hs0 hs1 hs2 hpc hs3 hs4 hp a0 a1 Tryz.underlying22 hs hone hC (by kernel_rfl) t0 t2 (by rw [t1]; exact Tryz.underlying43) Tryz.underlying3 (by kernel_rfl) (by kernel_rfl) (by rw [t3]; exact Tryz.underlying44) es eo ec eb u0 u1 u2 hv h hw
end
end Go.Proofs.YtblbfoniimnkcaaGreatDoor
