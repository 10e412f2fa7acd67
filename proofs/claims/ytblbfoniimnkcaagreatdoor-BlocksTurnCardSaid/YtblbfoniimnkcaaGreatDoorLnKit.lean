/- Texts on cells and lines, put together: LnTy, LnApart, LnOps, LnKl, LnKl2, LnKl3, LnSplitP. -/
import Derived.Test.YtblbfoniimnkcaaGreatDoorLnTurnP
import Derived.Test.YtblbfoniimnkcaaGreatDoorLnBaseA
import Derived.Test.YtblbfoniimnkcaaGreatDoorProg
import Derived.Laws.Rows
import Derived.Deep.MidRow
import Derived.Great.Ranges
import Derived.Great.Walk
/- Blocks that hold lines keep their kind; rows are not in them. No program in sight. -/
namespace Go.Proofs.YtblbfoniimnkcaaGreatDoor
open Go.RowKit Go.Lib

/-- Block g is a line's block. -/
def Ty (w : World) (g : Nat) : Prop := ∃ cur, w.heap[g]? = some (.cells cur 46 (0, 0))
section
variable {w w' : World} {g : Nat}
theorem Bx.ty {a b c d : Value} (h : Bx w g a b c d) : Ty w g := ⟨_, h⟩
theorem Ty.lt (h : Ty w g) : g < w.heap.size := by obtain ⟨cur, h⟩ := h; exact (Array.getElem?_eq_some_iff.1 h).1
theorem Ty.setN {b o : Nat} (u : Value) (h : Ty w g) : Ty (w.setCell ⟨b, o, none⟩ u) g := by
  obtain ⟨cur, h⟩ := h
  by_cases e : g = b
  · subst e
    exact ⟨_, heap_setCell_same w g o cur _ u h⟩
  · exact ⟨cur, (Below.heap_setCell w ⟨b, o, none⟩ u g e).trans h⟩
theorem Ty.alloc (h : Ty w g) (o : Obj) : Ty (w.alloc o) g := by
  have hl := h.lt
  obtain ⟨cur, h⟩ := h
  exact ⟨cur, (Below.heap_alloc w o g hl).trans h⟩
theorem Ty.new (w : World) (cs : Array Value) : Ty (w.alloc (.cells cs 46)) w.heap.size := ⟨cs, heap_alloc_new w _⟩
theorem Ty.drewN (h : Ty w g) (q : Nat) : Ty (w.drewN q) g := h
theorem Ty.drew (h : Ty w g) : Ty w.drew g := h
theorem Ty.later (h : Ty w g) (hb : Below w.heap.size w w') : Ty w' g := by
  have hl := h.lt
  obtain ⟨cur, h⟩ := h
  exact ⟨cur, (hb.block g hl).trans h⟩
theorem Wr.setTy {α : Type} {enc : α → List Value} {sz : Nat} {e : TypeId} {base : Nat} {A : Option Addr} {xs : List α} {o : Nat} (he : e ≠ 46) (hg : Ty w g) (u : Value) (h : Wr enc sz e w base A xs) : Wr enc sz e (w.setCell ⟨g, o, none⟩ u) base A xs := fun hn => by
  obtain ⟨g', o', cur', h1, h2, h3, h4⟩ := h hn
  obtain ⟨cur, hg⟩ := hg
  refine ⟨g', o', cur', h1, h2, (Below.heap_setCell _ _ _ _ (fun e1 => ?_)).trans h3, h4⟩
  have e1' : g' = g := e1
  subst e1'
  rw [h3] at hg
  injection hg with hg
  injection hg with _ hg _
  exact he hg
theorem LnWr.setTy {base : Nat} {l : Ln} {A B : Option Addr} {o : Nat} (hg : Ty w g) (u : Value) (h : LnWr w base l A B) : LnWr (w.setCell ⟨g, o, none⟩ u) base l A B := ⟨h.ls.setTy (by decide) hg u, h.cs.setTy (by decide) hg u⟩
theorem Own.setTy {α : Type} {enc : α → List Value} {sz : Nat} {e : TypeId} {base : Nat} {v : Value} {xs : List α} {o : Nat} (he : e ≠ 46) (hg : Ty w g) (u : Value) (h : Own enc sz e w base v xs) : Own enc sz e (w.setCell ⟨g, o, none⟩ u) base v xs := by
  obtain ⟨cur, hg⟩ := hg
  unfold Own World.ownsRow at h ⊢
  refine ⟨h.1, ?_⟩
  rcases h.2 with h | ⟨g', cap, cur', h1, h2, h3, h4⟩
  · exact .inl h
  · refine .inr ⟨g', cap, cur', h1, h2, (Below.heap_setCell _ _ _ _ (fun e1 => ?_)).trans h3, h4⟩
    have e1' : g' = g := e1
    subst e1'
    rw [h3] at hg
    injection hg with hg
    injection hg with _ hg _
    exact he hg
theorem LnOw.setTy {base : Nat} {l : Ln} {A B : Option Addr} {c d o : Nat} (hg : Ty w g) (u : Value) (h : LnOw w base l A c B d) : LnOw (w.setCell ⟨g, o, none⟩ u) base l A c B d := ⟨h.ls.setTy (by decide) hg u, h.cs.setTy (by decide) hg u⟩
/-- A line's rows lie ahead of block D, or in rows that are written by nobody else. -/
def LnK (D : Nat) (w : World) (l : Ln) (A B : Option Addr) : Prop := LnAt w D l A B ∨ LnWr w 0 l A B
theorem LnK.at_ {D : Nat} {l : Ln} {A B : Option Addr} (h : LnK D w l A B) : LnAt w w.heap.size l A B := by
  rcases h with h | h
  · exact h.live
  · exact h.at_
theorem LnK.later {D : Nat} {l : Ln} {A B : Option Addr} (h : LnK D w l A B) (hb : Below w.heap.size w w') (hD : D ≤ w.heap.size) : LnK D w' l A B := by
  rcases h with h | h
  · exact .inl (h.belowM hb hD)
  · exact .inr (h.later hb)
theorem LnK.setTy {D : Nat} {l : Ln} {A B : Option Addr} {o : Nat} (hD : D ≤ g) (hg : Ty w g) (u : Value) (h : LnK D w l A B) : LnK D (w.setCell ⟨g, o, none⟩ u) l A B := by
  rcases h with h | h
  · exact .inl ⟨h.ls.setCell (by exact hD) u, h.cs.setCell (by exact hD) u⟩
  · exact .inr (h.setTy hg u)
theorem LnK.alloc {D : Nat} {l : Ln} {A B : Option Addr} (hD : D ≤ w.heap.size) (o : Obj) (h : LnK D w l A B) : LnK D (w.alloc o) l A B := h.later ((Below.refl _ w).alloc (Nat.le_refl _) o) hD
end
end Go.Proofs.YtblbfoniimnkcaaGreatDoor

/- Which cells a line lies in; a line written over leaves another as it was. No program in sight. -/
namespace Go.Proofs.YtblbfoniimnkcaaGreatDoor
open Go.RowKit Go.Lib

/-- The cells that a line's rows lie in. -/
def RL (l : Ln) (A B : Option Addr) (g j : Nat) : Prop := (∃ o, A = some ⟨g, o, none⟩ ∧ o ≤ j ∧ j < o + l.ls.length) ∨ (∃ o, B = some ⟨g, o, none⟩ ∧ o ≤ j ∧ j < o + l.cs.length * 3)
theorem LnWr.wrote {w w' : World} {base : Nat} {l m : Ln} {A B A' B' : Option Addr} (h : LnWr w base m A' B') (hw : Wrote (RL l A B) w w') (hd : ∀ g j, RL m A' B' g j → ¬ RL l A B g j) : LnWr w' base m A' B' :=
  ⟨h.ls.apart hw fun g o hA j h1 h2 hr => hd g j (.inl ⟨o, hA, h1, by omega⟩) hr, h.cs.apart hw fun g o hB j h1 h2 hr => hd g j (.inr ⟨o, hB, h1, h2⟩) hr⟩
theorem LnWr.rl_low {w : World} {base : Nat} {l : Ln} {A B : Option Addr} (h : LnWr w base l A B) {g j : Nat} (hr : RL l A B g j) : base ≤ g ∧ g < w.heap.size := by
  rcases hr with ⟨o, rfl, h1, h2⟩ | ⟨o, rfl, h1, h2⟩
  · obtain ⟨g', o', cur, e, k1, k2, _⟩ := h.ls (fun e => by rw [e] at h2; simp at h2; omega)
    injection e with e
    injection e with e _ _
    subst e
    exact ⟨k1, (Array.getElem?_eq_some_iff.1 k2).1⟩
  · obtain ⟨g', o', cur, e, k1, k2, _⟩ := h.cs (fun e => by rw [e] at h2; simp at h2; omega)
    injection e with e
    injection e with e _ _
    subst e
    exact ⟨k1, (Array.getElem?_eq_some_iff.1 k2).1⟩
/-- Lines one of which lies above all of the other. -/
theorem LnWr.far {w w' : World} {base base' : Nat} {l m : Ln} {A B A' B' : Option Addr} (h : LnWr w base l A B) (h' : LnWr w' base' m A' B') (hb : w.heap.size ≤ base') : (∀ g j, RL m A' B' g j → ¬ RL l A B g j) ∧ (∀ g j, RL l A B g j → ¬ RL m A' B' g j) :=
  ⟨fun g j h1 h2 => by have := (h'.rl_low h1).1; have := (h.rl_low h2).2; omega, fun g j h1 h2 => by have := (h'.rl_low h2).1; have := (h.rl_low h1).2; omega⟩
theorem Wrote.keepLow {l : Ln} {A B : Option Addr} {w w' w0 : World} {base D : Nat} (h : LnWr w base l A B) (hw : Wrote (RL l A B) w w') (hb : Below D w0 w) (hD : D ≤ base) (hs : D ≤ w.heap.size) : Below D w0 w' :=
  ⟨hw.os.trans hb.os, hw.tape.trans hb.tape, hw.output.trans hb.output, Nat.le_trans hb.size hw.size, fun k hk => (hw.block k (by omega) fun j hr => by have := (h.rl_low hr).1; omega).trans (hb.block k hk)⟩
end Go.Proofs.YtblbfoniimnkcaaGreatDoor

/- The operations on a box that holds a line: load, store, new, box: each in one step. -/
namespace Go.Proofs.YtblbfoniimnkcaaGreatDoor
open Go.RowKit Go.Lib Go.Great

section
variable {ops : Array Oper} {rest : List Oper} {o : Oper} {a : Act} {w : World} {Q : Exit → Act → World → Prop}
theorem Tryz.wpList_loadR (hw : Region.wanted o (yielded ops a.tmps) = true) (x : Operand) (ho : o.op = .load 46 x) {g : Nat} (hx : a.eval x = .pointer (some ⟨g, 0, none⟩)) {p q r s : Value} (hb : w.heap[g]? = some (.cells #[p, q, r, s] 46 (0, 0)))
    (h : wpList Tryz.prog ops Q rest (a.put o.dst (.agg #[p, q, r, s])) w) : wpList Tryz.prog ops Q (o :: rest) a w :=
  wpList_step fun K hK => by
    rw [if_pos hw]
    unfold Oper.wp execOp
    simp only [ho, hx, Instr.loadAt, Instr.sureAddr, Sem.run_bind, Sem.run_pure, Result.andThen_ok, run_loadVar_row w g 46 46 #[p, q, r, s] (0, 0) _ hb Tryz.underlying46 rfl (by kernel_rfl)]
    exact hK _ _ h
theorem Tryz.wpList_storeR (hw : Region.wanted o (yielded ops a.tmps) = true) (x y : Operand) (ho : o.op = .store 46 x y) {g : Nat} (hx : a.eval x = .pointer (some ⟨g, 0, none⟩)) {p' q' r' s' : Value} (hy : a.eval y = .agg #[p', q', r', s']) (h1 : #[p', q', r', s'].all (·.oneCell') = true) (ht : w.there g 0 4)
    (h : wpList Tryz.prog ops Q rest (a.put o.dst undef) (w.setCells g 0 [p', q', r', s'])) : wpList Tryz.prog ops Q (o :: rest) a w :=
  wpList_step fun K hK => by
    rw [if_pos hw]
    exact wp_store_mid 46 x y ho g 0 #[p', q', r', s'] hx hy ht (by kernel_rfl) h1 (hK _ _ h)
theorem Tryz.wpList_allocR (hw : Region.wanted o (yielded ops a.tmps) = true) (ho : o.op = .alloc 46) (d : Option Tmp) (hd : o.dst = d)
    (h : wpList Tryz.prog ops Q rest (a.put d (.pointer (some ⟨w.heap.size, 0, none⟩))) (w.alloc (.cells #[.int .i64 0, .slice none 0 0, .int .i64 0, .slice none 0 0] 46))) : wpList Tryz.prog ops Q (o :: rest) a w :=
  wpList_step fun K hK => by
    subst hd
    rw [if_pos hw]
    unfold Oper.wp execOp
    have hz : (Instr.alloc 46 true (.tuple #[])).run Tryz.prog w = .ok (.pointer (some ⟨w.heap.size, 0, none⟩)) (w.alloc (.cells #[.int .i64 0, .slice none 0 0, .int .i64 0, .slice none 0 0] 46)) := by kernel_rfl
    simp only [ho, hz, Sem.run_bind, Sem.run_pure, Result.andThen_ok]
    exact hK _ _ h
theorem Tryz.wpList_boxR (hw : Region.wanted o (yielded ops a.tmps) = true) (x : Operand) (ho : o.op = .box 46 x) (d : Option Tmp) (hd : o.dst = d) {p q r s : Value} (hx : a.eval x = .agg #[p, q, r, s])
    (h : wpList Tryz.prog ops Q rest (a.put d (.pointer (some ⟨w.heap.size, 0, none⟩))) (w.alloc (.cells #[p, q, r, s] 46))) : wpList Tryz.prog ops Q (o :: rest) a w :=
  wpList_step fun K hK => by
    subst hd
    rw [if_pos hw]
    unfold Oper.wp execOp
    simp only [ho, hx, Sem.run_bind, Instr.box, newVar, newRow, run_newObj_alloc, Sem.run_pure, Result.andThen_ok, Value.cells]
    exact hK _ _ h
end
end Go.Proofs.YtblbfoniimnkcaaGreatDoor

/- The boxes and the rows of lines that a law's walk holds, kept over its calls and its stores. No program in sight. -/
namespace Go.Proofs.YtblbfoniimnkcaaGreatDoor
open Go.RowKit Go.Lib

/-- Only block g may have changed. -/
theorem Og.ty {w w' : World} {g k : Nat} {a b c d : Value} (h : Og g w w') (hb : Bx w' g a b c d) (hk : Ty w k) : Ty w' k := by
  by_cases e : k = g
  · subst e; exact hb.ty
  · obtain ⟨cur, hc⟩ := hk
    exact ⟨cur, (h.block k e).trans hc⟩
structure BoxR where
  g : Nat
  a : Value
  b : Value
  c : Value
  d : Value
def boxL (g : Nat) (l : Ln) (A : Option Addr) (n c : Nat) (B : Option Addr) (m d : Nat) : BoxR := ⟨g, .int .i64 l.q, .slice A n c, .int .i64 l.k, .slice B m d⟩
structure RowL where
  l : Ln
  A : Option Addr
  B : Option Addr
/-- What is held: the boxes bs; the rows rs, which read as lines; the rows ws, which may besides be written over, one without the other. -/
structure KL (w0 w : World) (bs : List BoxR) (rs ws : List RowL) : Prop where
  b : Below w0.heap.size w0 w
  bx : ∀ t ∈ bs, w0.heap.size ≤ t.g ∧ Bx w t.g t.a t.b t.c t.d
  nd : bs.Pairwise fun s t => s.g ≠ t.g
  row : ∀ r ∈ rs, LnK w0.heap.size w r.l r.A r.B
  wr : ∀ r ∈ ws, LnWr w w0.heap.size r.l r.A r.B
  sep : ws.Pairwise fun r s => ∀ g j, RL r.l r.A r.B g j → ¬ RL s.l s.A s.B g j
section
variable {w0 w w' : World} {bs : List BoxR} {rs ws : List RowL}
theorem KL.start (w : World) (rs : List RowL) (h : ∀ r ∈ rs, LnAt w w.heap.size r.l r.A r.B) : KL w w [] rs [] :=
  ⟨Below.refl _ _, (fun _ h => by cases h), .nil, fun r hr => .inl (h r hr), (fun _ h => by cases h), .nil⟩
theorem KL.later (h : KL w0 w bs rs ws) (hb : Below w.heap.size w w') : KL w0 w' bs rs ws :=
  ⟨h.b.trans (hb.mono h.b.size), fun t ht => ⟨(h.bx t ht).1, (h.bx t ht).2.later hb⟩, h.nd, fun r hr => (h.row r hr).later hb h.b.size, fun r hr => (h.wr r hr).later hb, h.sep⟩
theorem KL.quiet (h : KL w0 w bs rs ws) (hq : ∃ q, w' = w.drewN q) : KL w0 w' bs rs ws := by
  obtain ⟨q, rfl⟩ := hq
  exact h.later (below_drewN (Below.refl _ w) q)
/-- A new box. -/
theorem KL.new (h : KL w0 w bs rs ws) (a b c d : Value) {g : Nat} (hg : g = w.heap.size) (hw : w' = w.alloc (.cells #[a, b, c, d] 46)) : KL w0 w' (⟨g, a, b, c, d⟩ :: bs) rs ws := by
  subst hg hw
  have hb : Below w.heap.size w (w.alloc (.cells #[a, b, c, d] 46)) := (Below.refl _ w).alloc (Nat.le_refl _) _
  have k := h.later hb
  refine ⟨k.b, fun t ht => ?_, List.pairwise_cons.2 ⟨fun t ht e => ?_, h.nd⟩, k.row, k.wr, k.sep⟩
  · rcases List.mem_cons.1 ht with rfl | ht
    · exact ⟨h.b.size, Bx.new w a b c d⟩
    · exact k.bx t ht
  · have e' : w.heap.size = t.g := e
    have := (h.bx t ht).2.lt
    omega
/-- A box is stored to. -/
theorem KL.set {O1 O2 : List BoxR} {t : BoxR} (h : KL w0 w (O1 ++ t :: O2) rs ws) {a b c d : Value} (ho : Og t.g w w') (hx : Bx w' t.g a b c d) : KL w0 w' (O1 ++ ⟨t.g, a, b, c, d⟩ :: O2) rs ws := by
  have ht := h.bx t (by simp)
  have hnd := h.nd
  rw [List.pairwise_append, List.pairwise_cons] at hnd
  obtain ⟨n1, ⟨n2, n3⟩, n4⟩ := hnd
  have key : ∀ u, u ∈ O1 ∨ u ∈ O2 → u.g ≠ t.g := fun u hu => by
    rcases hu with hu | hu
    · exact n4 u hu t (by simp)
    · exact fun e => n2 u hu e.symm
  refine ⟨h.b.trans (ho.below ht.1), fun u hu => ?_, ?_, fun r hr => ?_, fun r hr => ho.ln ht.2 (h.wr r hr), h.sep⟩
  · rcases List.mem_append.1 hu with hu | hu
    · exact ⟨(h.bx u (by simp [hu])).1, ho.bx (key u (.inl hu)) (h.bx u (by simp [hu])).2⟩
    · rcases List.mem_cons.1 hu with rfl | hu
      · exact ⟨ht.1, hx⟩
      · exact ⟨(h.bx u (by simp [hu])).1, ho.bx (key u (.inr hu)) (h.bx u (by simp [hu])).2⟩
  · rw [List.pairwise_append, List.pairwise_cons]
    refine ⟨n1, ⟨fun u hu => n2 u hu, n3⟩, fun u hu v hv => ?_⟩
    rcases List.mem_cons.1 hv with rfl | hv
    · exact n4 u hu t (by simp)
    · exact n4 u hu v (by simp [hv])
  · rcases h.row r hr with k | k
    · exact .inl (k.belowM (ho.below ht.1) (Nat.le_refl _))
    · exact .inr (ho.ln ht.2 k)
/-- Some boxes and rows let go. -/
theorem KL.less (h : KL w0 w bs rs ws) {bs' : List BoxR} {rs' ws' : List RowL} (h1 : bs'.Sublist bs) (h2 : ∀ r ∈ rs', r ∈ rs) (h3 : ws'.Sublist ws) : KL w0 w bs' rs' ws' :=
  ⟨h.b, fun t ht => h.bx t (h1.subset ht), h.nd.sublist h1, fun r hr => h.row r (h2 r hr), fun r hr => h.wr r (h3.subset hr), h.sep.sublist h3⟩
/-- A line that a call handed back. -/
theorem KL.add (h : KL w0 w bs rs ws) (hb : Below w.heap.size w w') {l : Ln} {A B : Option Addr} (hl : LnWr w' w.heap.size l A B) : KL w0 w' bs (⟨l, A, B⟩ :: rs) ws := by
  have k := h.later hb
  refine ⟨k.b, k.bx, k.nd, fun r hr => ?_, k.wr, k.sep⟩
  rcases List.mem_cons.1 hr with rfl | hr
  · exact .inr (hl.based (Nat.zero_le _))
  · exact k.row r hr
theorem KL.addW (h : KL w0 w bs rs ws) (hb : Below w.heap.size w w') {l : Ln} {A B : Option Addr} (hl : LnWr w' w.heap.size l A B) : KL w0 w' bs rs (⟨l, A, B⟩ :: ws) := by
  have k := h.later hb
  refine ⟨k.b, k.bx, k.nd, k.row, fun r hr => ?_, List.pairwise_cons.2 ⟨fun r hr g j h1 h2 => ?_, k.sep⟩⟩
  · rcases List.mem_cons.1 hr with rfl | hr
    · exact hl.based h.b.size
    · exact k.wr r hr
  · have e1 := (hl.rl_low h1).1
    have e2 := ((h.wr r hr).rl_low h2).2
    omega
/-- Two that one call handed back, in rows that lie apart. -/
theorem KL.addW2 (h : KL w0 w bs rs ws) (hb : Below w.heap.size w w') {l m : Ln} {A B A' B' : Option Addr} (hl : LnWr w' w.heap.size l A B) (hm : LnWr w' w.heap.size m A' B') (hs : ∀ g j, RL l A B g j → ¬ RL m A' B' g j) : KL w0 w' bs rs (⟨l, A, B⟩ :: ⟨m, A', B'⟩ :: ws) := by
  have k := h.addW hb hm
  have k' := h.addW hb hl
  have hk := List.pairwise_cons.1 k'.sep
  refine ⟨k.b, k.bx, k.nd, k.row, fun r hr => ?_, List.pairwise_cons.2 ⟨fun r hr => ?_, k.sep⟩⟩
  · rcases List.mem_cons.1 hr with rfl | hr
    · exact hl.based h.b.size
    · exact k.wr r hr
  · rcases List.mem_cons.1 hr with rfl | hr
    · exact hs
    · exact hk.1 r hr
/-- A row was written over: it is let go, the others stand. -/
theorem KL.spoil {O1 O2 : List RowL} {t : RowL} (h : KL w0 w bs rs (O1 ++ t :: O2)) (hr : ∀ r ∈ rs, LnAt w w0.heap.size r.l r.A r.B) (hw : Wrote (RL t.l t.A t.B) w w') : KL w0 w' bs rs (O1 ++ O2) := by
  have ht := h.wr t (by simp)
  have hs := h.sep
  rw [List.pairwise_append, List.pairwise_cons] at hs
  obtain ⟨n1, ⟨n2, n3⟩, n4⟩ := hs
  have hb : Below w0.heap.size w0 w' := Wrote.keepLow ht hw h.b (Nat.le_refl _) h.b.size
  have hb1 : Below w0.heap.size w w' := hw.below (fun g j h1 => (ht.rl_low h1).1) h.b.size
  refine ⟨hb, fun u hu => ⟨(h.bx u hu).1, (h.bx u hu).2.wrote hw fun j hj => ?_⟩, h.nd, fun r hr' => .inl ((hr r hr').below hb1), fun r hr' => ?_, ?_⟩
  · have hu2 := (h.bx u hu).2
    unfold Bx at hu2
    rcases hj with ⟨o, hA, h1, h2⟩ | ⟨o, hB, h1, h2⟩
    · obtain ⟨g', o', cur, e, _, k2, _⟩ := ht.ls (fun e => by rw [e] at h2; simp at h2; omega)
      rw [hA] at e
      injection e with e
      injection e with e _ _
      subst e
      rw [k2] at hu2
      injection hu2 with hu2
      injection hu2 with _ hu2 _
      exact absurd hu2 (by decide)
    · obtain ⟨g', o', cur, e, _, k2, _⟩ := ht.cs (fun e => by rw [e] at h2; simp at h2; omega)
      rw [hB] at e
      injection e with e
      injection e with e _ _
      subst e
      rw [k2] at hu2
      injection hu2 with hu2
      injection hu2 with _ hu2 _
      exact absurd hu2 (by decide)
  · rcases List.mem_append.1 hr' with hr' | hr'
    · exact (h.wr r (by simp [hr'])).wrote hw fun g j h1 h2 => n4 r hr' t (by simp) g j h1 h2
    · exact (h.wr r (by simp [hr'])).wrote hw fun g j h1 h2 => n2 r hr' g j h2 h1
  · rw [List.pairwise_append]
    exact ⟨n1, n3, fun u hu v hv => n4 u hu v (by simp [hv])⟩
theorem KL.at_ (h : KL w0 w bs rs ws) {r : RowL} (hr : r ∈ rs) : LnAt w w.heap.size r.l r.A r.B := (h.row r hr).at_
theorem KL.atW (h : KL w0 w bs rs ws) {r : RowL} (hr : r ∈ ws) : LnAt w w.heap.size r.l r.A r.B := (h.wr r hr).at_
end

/-! ### the operations on a box of a line, with what is held -/
section
variable {ops : Array Oper} {rest : List Oper} {o : Oper} {a : Act} {w0 w : World} {Q : Exit → Act → World → Prop} {bs : List BoxR} {rs ws : List RowL}
theorem Tryz.klLoad (hw : Region.wanted o (yielded ops a.tmps) = true) (x : Operand) (ho : o.op = .load 46 x) (K : Hid (KL w0 w bs rs ws)) {g : Nat} {p q r s : Value} (hx : a.eval x = .pointer (some ⟨g, 0, none⟩)) (hb : (⟨g, p, q, r, s⟩ : BoxR) ∈ bs)
    (h : wpList Tryz.prog ops Q rest (a.put o.dst (.agg #[p, q, r, s])) w) : wpList Tryz.prog ops Q (o :: rest) a w :=
  Tryz.wpList_loadR hw x ho hx (K.out.bx _ hb).2 h
theorem Tryz.klStore (hw : Region.wanted o (yielded ops a.tmps) = true) (x y : Operand) (ho : o.op = .store 46 x y) (O1 : List BoxR) {t : BoxR} {O2 : List BoxR} (K : Hid (KL w0 w (O1 ++ t :: O2) rs ws)) (hx : a.eval x = .pointer (some ⟨t.g, 0, none⟩)) {p q r s : Value} (hy : a.eval y = .agg #[p, q, r, s]) (h1 : p.oneCell' = true ∧ q.oneCell' = true ∧ r.oneCell' = true ∧ s.oneCell' = true)
    (h : ∀ w', Hid (KL w0 w' (O1 ++ ⟨t.g, p, q, r, s⟩ :: O2) rs ws) → wpList Tryz.prog ops Q rest (a.put o.dst undef) w') : wpList Tryz.prog ops Q (o :: rest) a w := by
  have hb := (K.out.bx t (by simp)).2
  have hc := hb.cells
  refine Tryz.wpList_storeR hw x y ho hx hy (by simp [h1.1, h1.2.1, h1.2.2.1, h1.2.2.2]) (fun j hj => ?_) (h _ (hid (K.out.set ?_ ?_)))
  · obtain ⟨⟨c0, c1, c2, c3⟩, f0, f1, f2, f3⟩ := hc
    match j, hj with
    | 0, _ => exact ⟨by rw [c0]; rfl, f0⟩
    | 1, _ => exact ⟨by rw [c1]; rfl, f1⟩
    | 2, _ => exact ⟨by rw [c2]; rfl, f2⟩
    | 3, _ => exact ⟨by rw [c3]; rfl, f3⟩
  · exact Og.set _ _ (Og.set _ _ (Og.set _ _ (Og.set _ _ Og.refl)))
  · exact (((hb.set0 p).set1 q).set2 r).set3 s
theorem Tryz.klAlloc (hw : Region.wanted o (yielded ops a.tmps) = true) (ho : o.op = .alloc 46) (d : Option Tmp) (hd : o.dst = d) (K : Hid (KL w0 w bs rs ws))
    (h : ∀ g w', Hid (KL w0 w' (⟨g, .int .i64 0, .slice none 0 0, .int .i64 0, .slice none 0 0⟩ :: bs) rs ws) → wpList Tryz.prog ops Q rest (a.put d (.pointer (some ⟨g, 0, none⟩))) w') : wpList Tryz.prog ops Q (o :: rest) a w :=
  Tryz.wpList_allocR hw ho d hd (h _ _ (hid (K.out.new _ _ _ _ rfl rfl)))
theorem Tryz.klBox (hw : Region.wanted o (yielded ops a.tmps) = true) (x : Operand) (ho : o.op = .box 46 x) (d : Option Tmp) (hd : o.dst = d) {p q r s : Value} (hx : a.eval x = .agg #[p, q, r, s]) (K : Hid (KL w0 w bs rs ws))
    (h : ∀ g w', Hid (KL w0 w' (⟨g, p, q, r, s⟩ :: bs) rs ws) → wpList Tryz.prog ops Q rest (a.put d (.pointer (some ⟨g, 0, none⟩))) w') : wpList Tryz.prog ops Q (o :: rest) a w :=
  Tryz.wpList_boxR hw x ho d hd hx (h _ _ (hid (K.out.new _ _ _ _ rfl rfl)))
end
end Go.Proofs.YtblbfoniimnkcaaGreatDoor

/- More of what a walk on lines holds: a store that tells what it left, a change of a box by a call, a box of a number. -/
namespace Go.Proofs.YtblbfoniimnkcaaGreatDoor
open Go.RowKit Go.Lib Go.Great

section
variable {w0 w w' : World} {bs : List BoxR} {rs ws : List RowL}
/-- A call changed one box alone, and made rows. -/
theorem KL.chg {O1 O2 : List BoxR} {t : BoxR} (h : KL w0 w (O1 ++ t :: O2) rs ws) {a b c d : Value} {m : Ln} {A B : Option Addr} (hx : Bx w' t.g a b c d) (wr : LnWr w' w0.heap.size m A B) (hb : Below w0.heap.size w w') (keep : ∀ r a b c d, r ≠ t.g → Bx w r a b c d → Bx w' r a b c d) :
    KL w0 w' (O1 ++ ⟨t.g, a, b, c, d⟩ :: O2) [] [⟨m, A, B⟩] := by
  have hnd := h.nd
  rw [List.pairwise_append, List.pairwise_cons] at hnd
  obtain ⟨n1, ⟨n2, n3⟩, n4⟩ := hnd
  refine ⟨h.b.trans hb, fun u hu => ?_, ?_, (fun _ h => by cases h), fun r hr => ?_, List.pairwise_singleton _ _⟩
  · rcases List.mem_append.1 hu with hu | hu
    · exact ⟨(h.bx u (by simp [hu])).1, keep _ _ _ _ _ (n4 u hu t (by simp)) (h.bx u (by simp [hu])).2⟩
    · rcases List.mem_cons.1 hu with rfl | hu
      · exact ⟨(h.bx t (by simp)).1, hx⟩
      · exact ⟨(h.bx u (by simp [hu])).1, keep _ _ _ _ _ (fun e => n2 u hu e.symm) (h.bx u (by simp [hu])).2⟩
  · rw [List.pairwise_append, List.pairwise_cons]
    refine ⟨n1, ⟨fun u hu => n2 u hu, n3⟩, fun u hu v hv => ?_⟩
    rcases List.mem_cons.1 hv with rfl | hv
    · exact n4 u hu t (by simp)
    · exact n4 u hu v (by simp [hv])
  · rw [List.mem_singleton.1 hr]
    exact wr
end
theorem LnOw.og {w w' : World} {base g c d : Nat} {l : Ln} {A B : Option Addr} {x y z u : Value} (h : LnOw w base l A c B d) (ho : Og g w w') (hb : Bx w g x y z u) : LnOw w' base l A c B d := ⟨ho.own hb (by decide) h.ls, ho.own hb (by decide) h.cs⟩
theorem cell_below {b : Nat} {w w' : World} (hb : Below b w w') {k o : Nat} {v : Value} (hk : k < b) (h : w.cell? ⟨k, o, none⟩ = some v) : w'.cell? ⟨k, o, none⟩ = some v := (Below.cell hb hk).trans h
section
variable {ops : Array Oper} {rest : List Oper} {o : Oper} {a : Act} {w0 w : World} {Q : Exit → Act → World → Prop} {bs : List BoxR} {rs ws : List RowL}
theorem Tryz.klStoreO (hw : Region.wanted o (yielded ops a.tmps) = true) (x y : Operand) (ho : o.op = .store 46 x y) (O1 : List BoxR) {t : BoxR} {O2 : List BoxR} (K : Hid (KL w0 w (O1 ++ t :: O2) rs ws)) (hx : a.eval x = .pointer (some ⟨t.g, 0, none⟩)) {p q r s : Value} (hy : a.eval y = .agg #[p, q, r, s]) (h1 : p.oneCell' = true ∧ q.oneCell' = true ∧ r.oneCell' = true ∧ s.oneCell' = true)
    (h : ∀ w', Hid (Bx w t.g t.a t.b t.c t.d) → Hid (Og t.g w w') → Hid (KL w0 w' (O1 ++ ⟨t.g, p, q, r, s⟩ :: O2) rs ws) → wpList Tryz.prog ops Q rest (a.put o.dst undef) w') : wpList Tryz.prog ops Q (o :: rest) a w := by
  have hb := (K.out.bx t (by simp)).2
  have hc := hb.cells
  have og : Og t.g w (w.setCells t.g 0 [p, q, r, s]) := Og.set _ _ (Og.set _ _ (Og.set _ _ (Og.set _ _ Og.refl)))
  refine Tryz.wpList_storeR hw x y ho hx hy (by simp [h1.1, h1.2.1, h1.2.2.1, h1.2.2.2]) (fun j hj => ?_) (h _ (hid hb) (hid og) (hid (K.out.set og ?_)))
  · obtain ⟨⟨c0, c1, c2, c3⟩, f0, f1, f2, f3⟩ := hc
    match j, hj with
    | 0, _ => exact ⟨by rw [c0]; rfl, f0⟩
    | 1, _ => exact ⟨by rw [c1]; rfl, f1⟩
    | 2, _ => exact ⟨by rw [c2]; rfl, f2⟩
    | 3, _ => exact ⟨by rw [c3]; rfl, f3⟩
  · exact (((hb.set0 p).set1 q).set2 r).set3 s
theorem Tryz.klAllocB (hw : Region.wanted o (yielded ops a.tmps) = true) (ho : o.op = .alloc 46) (d : Option Tmp) (hd : o.dst = d) (K : Hid (KL w0 w bs rs ws))
    (h : ∀ g w', Hid (Below w.heap.size w w') → Hid (KL w0 w' (⟨g, .int .i64 0, .slice none 0 0, .int .i64 0, .slice none 0 0⟩ :: bs) rs ws) → wpList Tryz.prog ops Q rest (a.put d (.pointer (some ⟨g, 0, none⟩))) w') : wpList Tryz.prog ops Q (o :: rest) a w :=
  Tryz.wpList_allocR hw ho d hd (h _ _ (hid ((Below.refl _ w).alloc (Nat.le_refl _) _)) (hid (K.out.new _ _ _ _ rfl rfl)))
theorem Tryz.klBoxI (hw : Region.wanted o (yielded ops a.tmps) = true) (x : Operand) (ho : o.op = .box 3 x) (d : Option Tmp) (hd : o.dst = d) {k : Int} (hx : a.eval x = .int .i64 k) (K : Hid (KL w0 w bs rs ws))
    (h : ∀ g w', Hid (g < w'.heap.size) → Hid (w'.cell? ⟨g, 0, none⟩ = some (.int .i64 k)) → Hid (KL w0 w' bs rs ws) → wpList Tryz.prog ops Q rest (a.put d (.pointer (some ⟨g, 0, none⟩))) w') : wpList Tryz.prog ops Q (o :: rest) a w :=
  wpList_step fun K' hK => by
    subst hd
    rw [if_pos hw]
    unfold Oper.wp execOp
    simp only [ho, hx, Sem.run_bind, Instr.box, newVar, newRow, run_newObj_alloc, Sem.run_pure, Result.andThen_ok, Value.cells]
    exact hK _ _ (h _ _ (hid (by simp)) (hid (World.cell?_alloc_new _ _ _ 0)) (hid (K.out.later ((Below.refl _ w).alloc (Nat.le_refl _) _))))
end
end Go.Proofs.YtblbfoniimnkcaaGreatDoor

/- A field of a box of a line is stored to. -/
namespace Go.Proofs.YtblbfoniimnkcaaGreatDoor
open Go.RowKit Go.Lib Go.Great

theorem run_storeVar_cell {P : Program} (w : World) (g o : Nat) (ty : TypeId) (v : Value) (ht : w.there g o 1) (hi : (P.info? ty).map (·.size) = some 1) (h1 : v.oneCell' = true) : (storeVar ty ⟨g, o, none⟩ v).run P w = .ok () (w.setCells g o [v]) := by
  have := run_storeCells_cells (P := P) g o [v] 0 w (fun j hj => by simpa using (ht j (by simpa using hj)).1) (fun j hj => by simpa using (ht j (by simpa using hj)).2) (fun u hu => by simp at hu; subst hu; exact h1)
  have hc : v.cells = #[v] := by cases v <;> first | rfl | cases h1
  cases hq : P.info? ty with
  | none => simp [hq] at hi
  | some i =>
    have hs : i.size = 1 := by simpa [hq] using hi
    simp only [Nat.add_zero] at this
    simp [storeVar, sizeOf, typeInfo, hq, hc, hs, this]
def BoxR.setF (t : BoxR) (j : Nat) (v : Value) : BoxR := match j with | 0 => ⟨t.g, v, t.b, t.c, t.d⟩ | 1 => ⟨t.g, t.a, v, t.c, t.d⟩ | 2 => ⟨t.g, t.a, t.b, v, t.d⟩ | _ => ⟨t.g, t.a, t.b, t.c, v⟩
theorem KL.setF {w0 w : World} {O1 O2 : List BoxR} {t : BoxR} {rs ws : List RowL} (h : KL w0 w (O1 ++ t :: O2) rs ws) {j : Nat} (hj : j < 4) (v : Value) : KL w0 (w.setCells t.g j [v]) (O1 ++ t.setF j v :: O2) rs ws := by
  have hb := (h.bx t (by simp)).2
  have og : Og t.g w (w.setCells t.g j [v]) := Og.set _ _ Og.refl
  match j, hj with
  | 0, _ => exact h.set og (hb.set0 v)
  | 1, _ => exact h.set og (hb.set1 v)
  | 2, _ => exact h.set og (hb.set2 v)
  | 3, _ => exact h.set og (hb.set3 v)
theorem KL.cellsOf {w0 w : World} {bs : List BoxR} {rs ws : List RowL} (h : KL w0 w bs rs ws) {g : Nat} {p q r s : Value} (hm : (⟨g, p, q, r, s⟩ : BoxR) ∈ bs) : (w.cell? ⟨g, 0, none⟩ = some p ∧ w.cell? ⟨g, 1, none⟩ = some q ∧ w.cell? ⟨g, 2, none⟩ = some r ∧ w.cell? ⟨g, 3, none⟩ = some s) ∧ w.frozen? ⟨g, 0, none⟩ = false ∧ w.frozen? ⟨g, 1, none⟩ = false ∧ w.frozen? ⟨g, 2, none⟩ = false ∧ w.frozen? ⟨g, 3, none⟩ = false := (h.bx _ hm).2.cells
section
variable {ops : Array Oper} {rest : List Oper} {o : Oper} {a : Act} {w0 w : World} {Q : Exit → Act → World → Prop} {bs : List BoxR} {rs ws : List RowL}
theorem Tryz.klStoreF (hw : Region.wanted o (yielded ops a.tmps) = true) (ty : TypeId) (hi : (Tryz.prog.info? ty).map (·.size) = some 1) (x y : Operand) (ho : o.op = .store ty x y) (O1 : List BoxR) {t : BoxR} {O2 : List BoxR} (K : Hid (KL w0 w (O1 ++ t :: O2) rs ws)) (j : Nat) (hx : a.eval x = .pointer (some ⟨t.g, j, none⟩)) (hj : j < 4) {v : Value} (hy : a.eval y = v) (h1 : v.oneCell' = true) (t' : BoxR) (ht' : t.setF j v = t')
    (h : ∀ w', Hid (Bx w t.g t.a t.b t.c t.d) → Hid (Og t.g w w') → Hid (KL w0 w' (O1 ++ t' :: O2) rs ws) → wpList Tryz.prog ops Q rest (a.put o.dst undef) w') : wpList Tryz.prog ops Q (o :: rest) a w :=
  wpList_step fun K' hK => by
    subst ht'
    rw [if_pos hw]
    have hb := (K.out.bx t (by simp)).2
    have hc := hb.cells
    have ht : w.there t.g j 1 := fun i hi' => by
      obtain rfl : i = 0 := by omega
      obtain ⟨⟨c0, c1, c2, c3⟩, f0, f1, f2, f3⟩ := hc
      match j, hj with
      | 0, _ => exact ⟨by rw [c0]; rfl, f0⟩
      | 1, _ => exact ⟨by rw [c1]; rfl, f1⟩
      | 2, _ => exact ⟨by rw [c2]; rfl, f2⟩
      | 3, _ => exact ⟨by rw [c3]; rfl, f3⟩
    unfold Oper.wp execOp
    simp only [ho, hx, hy, Instr.storeAt, Instr.sureAddr, Sem.run_bind, Sem.run_pure, Result.andThen_ok, run_storeVar_cell w t.g j ty v ht hi h1]
    exact hK _ _ (h _ (hid hb) (hid (Og.set _ _ Og.refl)) (hid (K.out.setF hj v)))
end
end Go.Proofs.YtblbfoniimnkcaaGreatDoor

/- What lines.Split hands back lies apart. No program in sight. -/
namespace Go.Proofs.YtblbfoniimnkcaaGreatDoor
open Go.RowKit Go.Lib

theorem KL.perm {w0 w : World} {bs bs' : List BoxR} {rs ws : List RowL} (h : KL w0 w bs rs ws) (hp : bs.Perm bs') : KL w0 w bs' rs ws :=
  ⟨h.b, fun t ht => h.bx t (hp.mem_iff.2 ht), (hp.pairwise_iff (fun h => h.symm)).1 h.nd, h.row, h.wr, h.sep⟩
theorem KL.rows2 {w0 w : World} {bs : List BoxR} {rs ws : List RowL} (h : KL w0 w bs rs ws) {r s : RowL} (hr : LnWr w w0.heap.size r.l r.A r.B) (hs : LnWr w w0.heap.size s.l s.A s.B) (ha : ∀ g j, RL r.l r.A r.B g j → ¬ RL s.l s.A s.B g j) : KL w0 w bs rs [r, s] :=
  ⟨h.b, h.bx, h.nd, h.row, fun t ht => by
    rcases List.mem_cons.1 ht with rfl | ht
    · exact hr
    · rw [List.mem_singleton.1 ht]; exact hs, List.pairwise_cons.2 ⟨fun t ht => by rw [List.mem_singleton.1 ht]; exact ha, List.pairwise_singleton _ _⟩⟩
theorem KL.rows1 {w0 w : World} {bs : List BoxR} {rs ws : List RowL} (h : KL w0 w bs rs ws) {r : RowL} (hr : LnWr w w0.heap.size r.l r.A r.B) : KL w0 w bs rs [r] :=
  ⟨h.b, h.bx, h.nd, h.row, fun t ht => by rw [List.mem_singleton.1 ht]; exact hr, List.pairwise_singleton _ _⟩
def dropAt (B1 : Option Addr) (d1 N : Nat) : Option Addr := if d1 = N then B1 else B1.map fun x => x.add (N * 3)
theorem split_apart {w : World} {base : Nat} {l : Ln} {A1 : Option Addr} {c1 : Nat} {B1 : Option Addr} {d1 : Nat} {A2 B2 Bd : Option Addr} {N : Nat} {k' : Int} (o1 : LnOw w base l A1 c1 B1 d1) (ap : ∀ g j, RL l A1 B1 g j → ¬ RL ⟨l.q, l.ls, l.k, []⟩ A2 B2 g j) (hd : Bd = dropAt B1 d1 N ∨ Bd = none) :
    ∀ g j, RL ⟨l.q, l.ls, l.k, l.cs.take N⟩ A1 B1 g j → ¬ RL ⟨l.q, l.ls, k', l.cs.drop N⟩ A2 Bd g j := by
  have cap := o1.caps.2
  -- cells that are dropped lie behind
  have behind : ∀ g j, (∃ o, Bd = some ⟨g, o, none⟩ ∧ o ≤ j ∧ j < o + (l.cs.drop N).length * 3) → ∃ o, B1 = some ⟨g, o, none⟩ ∧ o + N * 3 ≤ j ∧ l.cs ≠ [] := by
    rintro g j ⟨o, hB, h1, h2⟩
    rcases hd with rfl | rfl
    · have hlt : N < l.cs.length := by
        rw [List.length_drop] at h2
        omega
      have hcs : l.cs ≠ [] := fun e => by rw [e] at hlt; simp at hlt
      obtain ⟨g', o', cur, e, _, _⟩ := o1.cs.wr hcs
      unfold dropAt at hB
      rw [if_neg (by omega), e] at hB
      have e1 : (⟨g', o', none⟩ : Addr).add (N * 3) = ⟨g', o' + N * 3, none⟩ := by unfold Addr.add; split <;> simp_all
      simp only [Option.map_some, e1, Option.some.injEq, Addr.mk.injEq] at hB
      obtain ⟨rfl, rfl, _⟩ := hB
      exact ⟨o', e, h1, hcs⟩
    · cases hB
  intro g j h1 h2
  rcases h1 with ⟨o, hA, a1, a2⟩ | ⟨o, hB, a1, a2⟩
  · rcases h2 with h2 | h2
    · exact ap g j (.inl ⟨o, hA, a1, a2⟩) (.inl h2)
    · obtain ⟨o2, e2, _, hcs⟩ := behind g j h2
      obtain ⟨g1, p1, cur1, e1, _, k1, _⟩ := o1.ls.wr (fun e => by have a2' : j < o + l.ls.length := a2; rw [e] at a2'; simp at a2'; omega)
      obtain ⟨g2, p2, cur2, e3, _, k2, _⟩ := o1.cs.wr hcs
      rw [hA] at e1
      rw [e2] at e3
      injection e1 with e1
      injection e1 with e1 _ _
      injection e3 with e3
      injection e3 with e3 _ _
      subst e1 e3
      rw [k1] at k2
      injection k2 with k2
      injection k2 with _ k2 _
      exact absurd k2 (by decide)
  · have a2' : j < o + (l.cs.take N).length * 3 := a2
    have hle : (l.cs.take N).length * 3 ≤ l.cs.length * 3 := Nat.mul_le_mul_right _ (by rw [List.length_take]; omega)
    rcases h2 with h2 | h2
    · exact ap g j (.inr ⟨o, hB, a1, by omega⟩) (.inl h2)
    · obtain ⟨o2, e2, b1, _⟩ := behind g j h2
      rw [hB] at e2
      injection e2 with e2
      injection e2 with _ e2 _
      rw [List.length_take] at a2'
      have : min N l.cs.length * 3 ≤ N * 3 := Nat.mul_le_mul_right _ (by omega)
      omega
end Go.Proofs.YtblbfoniimnkcaaGreatDoor
