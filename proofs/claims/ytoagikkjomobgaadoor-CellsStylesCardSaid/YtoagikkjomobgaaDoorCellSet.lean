/- The walks of cells.Set and Link whatever the span, of the reference's Set and Links. -/
import Derived.Test.YtoagikkjomobgaaDoorCellMay
import Derived.Test.YtoagikkjomobgaaDoorCells5
namespace Go.Proofs.YtoagikkjomobgaaDoor
open Go.RowKit Go.Lib

def AnsC (w : World) (ys : List Cl) (er : Int) (e : Ending) (w' : World) : Prop := ∃ v, e = .returned (.tuple #[v, .int .i64 er]) ∧ Own encC 3 29 w' w.heap.size v ys ∧ Below w.heap.size w w'
set_option maxHeartbeats 1000000 in
theorem each_no (A : Option Addr) (n c : Nat) (f t : Int) (F : Value) (w : World) (h : ¬ spanOk n f t) :
    Calls Tryd.prog 16 #[.slice A n c, .int .i64 f, .int .i64 t, F] w fun e w' => e = .returned (.tuple #[.slice none 0 0, .int .i64 1]) ∧ w = w' := by
  go_enter Tryd.func16, Tryd.ntmps16
  go_wp2_with (go_at_call 20; refine (span_no _ _ _ _ _ _ h).mono ?_; rintro e w' ⟨rfl, rfl⟩)
  go_ret2
  exact ⟨rfl, rfl⟩
set_option maxHeartbeats 1000000 in
theorem set_no (A : Option Addr) (n c : Nat) (f t s cl : Int) (w : World) (h : ¬ spanOk n f t) :
    Calls Tryd.prog 6 #[.slice A n c, .int .i64 f, .int .i64 t, .int .i64 s, .int .i64 cl] w (AnsC w [] 1) := by
  go_enter Tryd.func6, Tryd.ntmps6
  go_wp2_with (go_at_call 16; refine (each_no _ _ _ _ _ _ _ h).mono ?_; rintro e w' ⟨rfl, rfl⟩)
  go_ret2
  exact ⟨_, rfl, Own.nil, ((Below.refl _ w).alloc (Nat.le_refl _) _).alloc (by simp) _⟩

/-- A value of a row of one's own is stored: a cell's bits. -/
theorem own_bits {w : World} {base : Nat} {A : Option Addr} {n c : Nat} {xs : List Cl} (ho : Own encC 3 29 w base (.slice A n c) xs) (hn : n = xs.length) {k : Nat} {x : Cl} (hx : xs[k]? = some x) (b : Int) :
    ∃ g, A = some ⟨g, 0, none⟩ ∧ base ≤ g ∧ w.cell? ⟨g, k * 3 + 1, none⟩ = some (.int .i64 x.b) ∧ w.frozen? ⟨g, k * 3 + 1, none⟩ = false ∧ Own encC 3 29 (w.setCell ⟨g, k * 3 + 1, none⟩ (.int .i64 b)) base (.slice A n c) (xs.set k ⟨x.r, b, x.h⟩) := by
  have hlt := (List.getElem?_eq_some_iff.1 hx).1
  obtain ⟨g, rfl, hg⟩ : ∃ g, A = some ⟨g, 0, none⟩ ∧ base ≤ g := by
    rcases ho.2 with ⟨_, h0⟩ | ⟨g, cap, cur, hv, hbg, _⟩
    · omega
    · injection hv with hv; exact ⟨g, hv, hbg⟩
  have ho0 := ho
  unfold Own at ho0
  rw [← hn] at ho0
  refine ⟨g, rfl, hg, ?_, World.ownsRow.frozenAt ho0 (k * 3 + 1), ?_⟩
  · rw [World.ownsRow.cellAt ho0 (k * 3 + 1) (by omega)]
    exact getElem?_flat encC_len _ k x 1 _ hx rfl
  · have hst := (World.ownsRow.stored ho0 (k * 3 + 1) (.int .i64 b)).1
    unfold Own
    rw [List.length_set, ← hn, ← flat_set _ k x _ hx]
    exact hst
theorem flat_setH (cs : List Cl) (k : Nat) (x : Cl) (h : ByteArray) (hx : cs[k]? = some x) : (cs.flatMap encC).set (k * 3 + 2) (.string h) = (cs.set k ⟨x.r, x.b, h⟩).flatMap encC := by
  induction cs generalizing k with
  | nil => simp at hx
  | cons y ys ih =>
    cases k with
    | zero =>
      simp at hx
      subst hx
      rfl
    | succ k =>
      have := ih k (by simpa using hx)
      rw [List.set_cons_succ, List.flatMap_cons, List.flatMap_cons, ← this]
      show (_ :: _ :: _ :: ys.flatMap encC).set ((k + 1) * 3 + 2) _ = _ :: _ :: _ :: _
      rw [show (k + 1) * 3 + 2 = (k * 3 + 2) + 1 + 1 + 1 from by omega]
      rfl
theorem own_href {w : World} {base : Nat} {A : Option Addr} {n c : Nat} {xs : List Cl} (ho : Own encC 3 29 w base (.slice A n c) xs) (hn : n = xs.length) {k : Nat} {x : Cl} (hx : xs[k]? = some x) (h : ByteArray) :
    ∃ g, A = some ⟨g, 0, none⟩ ∧ base ≤ g ∧ w.cell? ⟨g, k * 3 + 2, none⟩ = some (.string x.h) ∧ w.frozen? ⟨g, k * 3 + 2, none⟩ = false ∧ Own encC 3 29 (w.setCell ⟨g, k * 3 + 2, none⟩ (.string h)) base (.slice A n c) (xs.set k ⟨x.r, x.b, h⟩) := by
  have hlt := (List.getElem?_eq_some_iff.1 hx).1
  obtain ⟨g, rfl, hg⟩ : ∃ g, A = some ⟨g, 0, none⟩ ∧ base ≤ g := by
    rcases ho.2 with ⟨_, h0⟩ | ⟨g, cap, cur, hv, hbg, _⟩
    · omega
    · injection hv with hv; exact ⟨g, hv, hbg⟩
  have ho0 := ho
  unfold Own at ho0
  rw [← hn] at ho0
  refine ⟨g, rfl, hg, ?_, World.ownsRow.frozenAt ho0 (k * 3 + 2), ?_⟩
  · rw [World.ownsRow.cellAt ho0 (k * 3 + 2) (by omega)]
    exact getElem?_flat encC_len _ k x 2 _ hx rfl
  · have hst := (World.ownsRow.stored ho0 (k * 3 + 2) (.string h)).1
    unfold Own
    rw [List.length_set, ← hn, ← flat_setH _ k x _ hx]
    exact hst
theorem setAt_get {g : Cl → Cl} {F k : Nat} {cs : List Cl} {x : Cl} (hx : cs[k]? = some x) : (setAt g F k cs)[k]? = some x := by rw [getElem?_setAt, hx]; simp

end Go.Proofs.YtoagikkjomobgaaDoor
