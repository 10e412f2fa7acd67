/- Lines in blocks of their own: what a block of four cells holds; what a function hands back out of such a block. -/
import Derived.Test.YtblbfoniimnkcaaGreatDoorLnIW
import Derived.Test.YtblbfoniimnkcaaGreatDoorCells5
import Derived.Test.YtblbfoniimnkcaaGreatDoorSame5
import Derived.Laws.ResultCell
import Derived.Laws.Rows
import Derived.RegionTactic
import Derived.BigRegion
import Derived.Deep.RegionWith
import Derived.Deep.RegionHeld3
import Derived.Deep.Cut
import Derived.Handy
namespace Go.Proofs.YtblbfoniimnkcaaGreatDoor
open Go.RowKit Go.Lib

/-- Block g holds a line. -/
def Bx (W : World) (g : Nat) (a b c d : Value) : Prop := W.heap[g]? = some (.cells #[a, b, c, d] 46 (0, 0))
section
variable {W W' : World} {g : Nat} {a b c d : Value}
theorem Bx.cells (h : Bx W g a b c d) : (W.cell? ⟨g, 0, none⟩ = some a ∧ W.cell? ⟨g, 1, none⟩ = some b ∧ W.cell? ⟨g, 2, none⟩ = some c ∧ W.cell? ⟨g, 3, none⟩ = some d) ∧
    W.frozen? ⟨g, 0, none⟩ = false ∧ W.frozen? ⟨g, 1, none⟩ = false ∧ W.frozen? ⟨g, 2, none⟩ = false ∧ W.frozen? ⟨g, 3, none⟩ = false := by
  refine ⟨⟨?_, ?_, ?_, ?_⟩, frozen_of_row W g _ _ _ h, frozen_of_row W g _ _ _ h, frozen_of_row W g _ _ _ h, frozen_of_row W g _ _ _ h⟩ <;> rw [cell_of_row W g _ _ _ (0, 0) h] <;> rfl
theorem Bx.lt (h : Bx W g a b c d) : g < W.heap.size := (Array.getElem?_eq_some_iff.1 h).1
theorem Bx.later (h : Bx W g a b c d) (hb : Below W.heap.size W W') : Bx W' g a b c d := (hb.block g h.lt).trans h
theorem Bx.wrote {R : Nat → Nat → Prop} (h : Bx W g a b c d) (hw : Wrote R W W') (hr : ∀ j, ¬ R g j) : Bx W' g a b c d := (hw.block g h.lt hr).trans h
theorem Bx.new (W : World) (a b c d : Value) : Bx (W.alloc (.cells #[a, b, c, d] 46)) W.heap.size a b c d := heap_alloc_new W _
theorem Bx.alloc (h : Bx W g a b c d) (o : Obj) : Bx (W.alloc o) g a b c d := (Below.heap_alloc W o g h.lt).trans h
theorem Bx.drew (h : Bx W g a b c d) : Bx W.drew g a b c d := h
theorem Bx.drewN (h : Bx W g a b c d) (q : Nat) : Bx (W.drewN q) g a b c d := h
theorem Bx.other {g' o : Nat} (hp : g ≠ g') (u : Value) (h : Bx W g a b c d) : Bx (W.setCell ⟨g', o, none⟩ u) g a b c d := (Below.heap_setCell W ⟨g', o, none⟩ u g hp).trans h
theorem Bx.set0 (u : Value) (h : Bx W g a b c d) : Bx (W.setCell ⟨g, 0, none⟩ u) g u b c d := heap_setCell_same W g 0 _ _ u h
theorem Bx.set1 (u : Value) (h : Bx W g a b c d) : Bx (W.setCell ⟨g, 1, none⟩ u) g a u c d := heap_setCell_same W g 1 _ _ u h
theorem Bx.set2 (u : Value) (h : Bx W g a b c d) : Bx (W.setCell ⟨g, 2, none⟩ u) g a b u d := heap_setCell_same W g 2 _ _ u h
theorem Bx.set3 (u : Value) (h : Bx W g a b c d) : Bx (W.setCell ⟨g, 3, none⟩ u) g a b c u := heap_setCell_same W g 3 _ _ u h
/-- The same, of some cells alone. -/
def Bo (W : World) (g : Nat) (oa ob oc od : Option Value) : Prop := ∃ a b c d, Bx W g a b c d ∧ (oa = none ∨ oa = some a) ∧ (ob = none ∨ ob = some b) ∧ (oc = none ∨ oc = some c) ∧ (od = none ∨ od = some d)
section
variable {oa ob oc od : Option Value}
theorem Bo.bx (h : Bo W g (some a) (some b) (some c) (some d)) : Bx W g a b c d := by
  obtain ⟨a', b', c', d', h, h0, h1, h2, h3⟩ := h
  simp only [Option.some.injEq, reduceCtorEq, false_or] at h0 h1 h2 h3
  subst h0 h1 h2 h3
  exact h
theorem Bo.of (h : Bx W g a b c d) (h0 : oa = none ∨ oa = some a) (h1 : ob = none ∨ ob = some b) (h2 : oc = none ∨ oc = some c) (h3 : od = none ∨ od = some d) : Bo W g oa ob oc od := ⟨a, b, c, d, h, h0, h1, h2, h3⟩
theorem Bo.other {g' o : Nat} (hp : g ≠ g') (u : Value) (h : Bo W g oa ob oc od) : Bo (W.setCell ⟨g', o, none⟩ u) g oa ob oc od := by
  obtain ⟨a', b', c', d', h, r⟩ := h
  exact ⟨_, _, _, _, h.other hp u, r⟩
theorem Bo.drew (h : Bo W g oa ob oc od) : Bo W.drew g oa ob oc od := h
theorem Bo.drewN (h : Bo W g oa ob oc od) (q : Nat) : Bo (W.drewN q) g oa ob oc od := h
theorem Bo.alloc (o : Obj) (h : Bo W g oa ob oc od) : Bo (W.alloc o) g oa ob oc od := by
  obtain ⟨a', b', c', d', h, r⟩ := h
  exact ⟨_, _, _, _, h.alloc o, r⟩
theorem Bo.set0 {u : Value} (h : Bo W g none ob oc od) : Bo (W.setCell ⟨g, 0, none⟩ u) g (some u) ob oc od := by
  obtain ⟨a', b', c', d', h, h0, h1, h2, h3⟩ := h
  exact ⟨_, _, _, _, h.set0 u, .inr rfl, h1, h2, h3⟩
theorem Bo.set1 {u : Value} (h : Bo W g oa none oc od) : Bo (W.setCell ⟨g, 1, none⟩ u) g oa (some u) oc od := by
  obtain ⟨a', b', c', d', h, h0, h1, h2, h3⟩ := h
  exact ⟨_, _, _, _, h.set1 u, h0, .inr rfl, h2, h3⟩
theorem Bo.set2 {u : Value} (h : Bo W g oa ob none od) : Bo (W.setCell ⟨g, 2, none⟩ u) g oa ob (some u) od := by
  obtain ⟨a', b', c', d', h, h0, h1, h2, h3⟩ := h
  exact ⟨_, _, _, _, h.set2 u, h0, h1, .inr rfl, h3⟩
theorem Bo.set3 {u : Value} (h : Bo W g oa ob oc none) : Bo (W.setCell ⟨g, 3, none⟩ u) g oa ob oc (some u) := by
  obtain ⟨a', b', c', d', h, h0, h1, h2, h3⟩ := h
  exact ⟨_, _, _, _, h.set3 u, h0, h1, h2, .inr rfl⟩
theorem Bo.set0n {u : Value} (h : Bo W g none ob oc od) : Bo (W.setCell ⟨g, 0, none⟩ u) g none ob oc od := by
  obtain ⟨a', b', c', d', h, h0, h1, h2, h3⟩ := h
  exact ⟨_, _, _, _, h.set0 u, .inl rfl, h1, h2, h3⟩
theorem Bo.set1n {u : Value} (h : Bo W g oa none oc od) : Bo (W.setCell ⟨g, 1, none⟩ u) g oa none oc od := by
  obtain ⟨a', b', c', d', h, h0, h1, h2, h3⟩ := h
  exact ⟨_, _, _, _, h.set1 u, h0, .inl rfl, h2, h3⟩
theorem Bo.set2n {u : Value} (h : Bo W g oa ob none od) : Bo (W.setCell ⟨g, 2, none⟩ u) g oa ob none od := by
  obtain ⟨a', b', c', d', h, h0, h1, h2, h3⟩ := h
  exact ⟨_, _, _, _, h.set2 u, h0, h1, .inl rfl, h3⟩
theorem Bo.set3n {u : Value} (h : Bo W g oa ob oc none) : Bo (W.setCell ⟨g, 3, none⟩ u) g oa ob oc none := by
  obtain ⟨a', b', c', d', h, h0, h1, h2, h3⟩ := h
  exact ⟨_, _, _, _, h.set3 u, h0, h1, h2, .inl rfl⟩
end
theorem Wr.setLow {α : Type} {enc : α → List Value} {sz : Nat} {e : TypeId} {w : World} {base : Nat} {A : Option Addr} {xs : List α} {g o : Nat} (hp : g < base) (u : Value) (h : Wr enc sz e w base A xs) : Wr enc sz e (w.setCell ⟨g, o, none⟩ u) base A xs :=
  h.keep fun g' _ hg => Below.heap_setCell _ _ _ _ (by show g' ≠ g; omega)
theorem Wr.drewN {α : Type} {enc : α → List Value} {sz : Nat} {e : TypeId} {w : World} {base : Nat} {A : Option Addr} {xs : List α} (h : Wr enc sz e w base A xs) (q : Nat) : Wr enc sz e (w.drewN q) base A xs := h
theorem LnWr.setLow {w : World} {base : Nat} {l : Ln} {A B : Option Addr} {g o : Nat} (hp : g < base) (u : Value) (h : LnWr w base l A B) : LnWr (w.setCell ⟨g, o, none⟩ u) base l A B := ⟨h.ls.setLow hp u, h.cs.setLow hp u⟩
theorem Below.setHi {B : Nat} {a w : World} {g o : Nat} (hp : B ≤ g) (u : Value) (h : Below B a w) : Below B a (w.setCell ⟨g, o, none⟩ u) := h.setCell (p := ⟨g, o, none⟩) hp u
theorem LnWr.drew {w : World} {base : Nat} {l : Ln} {A B : Option Addr} (h : LnWr w base l A B) : LnWr w.drew base l A B := ⟨h.ls, h.cs⟩
theorem LnWr.drewN {w : World} {base : Nat} {l : Ln} {A B : Option Addr} (h : LnWr w base l A B) (q : Nat) : LnWr (w.drewN q) base l A B := ⟨h.ls, h.cs⟩
theorem LnWr.alloc {w : World} {base : Nat} {l : Ln} {A B : Option Addr} (h : LnWr w base l A B) (o : Obj) : LnWr (w.alloc o) base l A B := h.later ((Below.refl _ w).alloc (Nat.le_refl _) o)
theorem LnAt.drew {w : World} {C : Nat} {l : Ln} {A B : Option Addr} (h : LnAt w C l A B) : LnAt w.drew C l A B := ⟨h.ls, h.cs⟩
theorem LnAt.drewN {w : World} {C : Nat} {l : Ln} {A B : Option Addr} (h : LnAt w C l A B) (q : Nat) : LnAt (w.drewN q) C l A B := ⟨h.ls, h.cs⟩
end

section
variable {P : Program}
theorem results_row {fn : Func} {p : Tmp} {ty : TypeId} (h : fn.results = #[.cell p ty]) (tmps : Array Value) (w : World) (g : Nat) (cs : Array Value) (t : TypeId) (fr : Nat × Nat) (d : TypeDesc)
    (hp : tmps.getD p undef = .pointer (some ⟨g, 0, none⟩)) (hg : w.heap[g]? = some (.cells cs t fr)) (hu : P.underlying ty = some d) (hd : (match d with | .struct _ | .array _ _ => true | _ => false) = true) (hi : (P.info? ty).map (·.size) = some cs.size) :
    (results fn tmps).run P w = .ok (.agg cs) w := results_cell_row h tmps w g t cs fr d hp hg hu hd hi
theorem results_row_tmp {fn : Func} {p u : Tmp} {ty : TypeId} (h : fn.results = #[.cell p ty, .tmp u]) (tmps : Array Value) (w : World) (g : Nat) (cs : Array Value) (t : TypeId) (fr : Nat × Nat) (d : TypeDesc)
    (hp : tmps.getD p undef = .pointer (some ⟨g, 0, none⟩)) (hg : w.heap[g]? = some (.cells cs t fr)) (hu : P.underlying ty = some d) (hd : (match d with | .struct _ | .array _ _ => true | _ => false) = true) (hi : (P.info? ty).map (·.size) = some cs.size) :
    (results fn tmps).run P w = .ok (.tuple #[.agg cs, tmps.getD u undef]) w := by
  have hp' : tmps[p]?.getD undef = .pointer (some ⟨g, 0, none⟩) := by simpa using hp
  simp [results, h, hp', asAddr, Result.andThen, run_loadVar_row w g t ty cs fr d hg hu hd hi]
theorem results_row2_tmp {fn : Func} {p p2 u : Tmp} {ty : TypeId} (h : fn.results = #[.cell p ty, .cell p2 ty, .tmp u]) (tmps : Array Value) (w : World) (g g2 : Nat) (cs cs2 : Array Value) (t : TypeId) (fr : Nat × Nat) (d : TypeDesc)
    (hp : tmps.getD p undef = .pointer (some ⟨g, 0, none⟩)) (hp2 : tmps.getD p2 undef = .pointer (some ⟨g2, 0, none⟩)) (hg : w.heap[g]? = some (.cells cs t fr)) (hg2 : w.heap[g2]? = some (.cells cs2 t fr)) (hu : P.underlying ty = some d) (hd : (match d with | .struct _ | .array _ _ => true | _ => false) = true)
    (hi : (P.info? ty).map (·.size) = some cs.size) (hi2 : (P.info? ty).map (·.size) = some cs2.size) :
    (results fn tmps).run P w = .ok (.tuple #[.agg cs, .agg cs2, tmps.getD u undef]) w := by
  have hp' : tmps[p]?.getD undef = .pointer (some ⟨g, 0, none⟩) := by simpa using hp
  have hp2' : tmps[p2]?.getD undef = .pointer (some ⟨g2, 0, none⟩) := by simpa using hp2
  simp [results, h, hp', hp2', asAddr, Result.andThen, run_loadVar_row w g t ty cs fr d hg hu hd hi, run_loadVar_row w g2 t ty cs2 fr d hg2 hu hd hi2]
end
/-! ### returns -/
theorem Tryz.ret_line {fn : Func} {R : Ending → World → Prop} {a : Act} {w : World} {p : Tmp} (h : fn.results = #[.cell p 46]) (hd : a.defers = []) (g : Nat) (x b c d : Value) (hp : a.tmps.getD p undef = .pointer (some ⟨g, 0, none⟩)) (hg : Bx w g x b c d)
    (hR : R (.returned (.agg #[x, b, c, d])) w) : bodyPost Tryz.prog fn R .ret a w :=
  bodyPost_ret (results_row h _ _ g #[x, b, c, d] _ _ _ hp hg Tryz.underlying46 rfl (by kernel_rfl)) hd hR
theorem Tryz.ret_lineE {fn : Func} {R : Ending → World → Prop} {a : Act} {w : World} {p u : Tmp} (h : fn.results = #[.cell p 46, .tmp u]) (hd : a.defers = []) (g : Nat) (x b c d y : Value) (hp : a.tmps.getD p undef = .pointer (some ⟨g, 0, none⟩)) (hy : a.tmps.getD u undef = y) (hg : Bx w g x b c d)
    (hR : R (.returned (.tuple #[.agg #[x, b, c, d], y])) w) : bodyPost Tryz.prog fn R .ret a w :=
  bodyPost_ret (results_row_tmp h _ _ g #[x, b, c, d] _ _ _ hp hg Tryz.underlying46 rfl (by kernel_rfl)) hd (by rw [hy]; exact hR)
theorem Tryz.ret_line2E {fn : Func} {R : Ending → World → Prop} {a : Act} {w : World} {p p2 u : Tmp} (h : fn.results = #[.cell p 46, .cell p2 46, .tmp u]) (hd : a.defers = []) (g g2 : Nat) (x b c d x2 b2 c2 d2 y : Value) (hp : a.tmps.getD p undef = .pointer (some ⟨g, 0, none⟩)) (hp2 : a.tmps.getD p2 undef = .pointer (some ⟨g2, 0, none⟩)) (hy : a.tmps.getD u undef = y)
    (hg : Bx w g x b c d) (hg2 : Bx w g2 x2 b2 c2 d2) (hR : R (.returned (.tuple #[.agg #[x, b, c, d], .agg #[x2, b2, c2, d2], y])) w) : bodyPost Tryz.prog fn R .ret a w :=
  bodyPost_ret (results_row2_tmp h _ _ g g2 #[x, b, c, d] #[x2, b2, c2, d2] _ _ _ hp hp2 hg hg2 Tryz.underlying46 rfl (by kernel_rfl) (by kernel_rfl)) hd (by rw [hy]; exact hR)
end Go.Proofs.YtblbfoniimnkcaaGreatDoor
