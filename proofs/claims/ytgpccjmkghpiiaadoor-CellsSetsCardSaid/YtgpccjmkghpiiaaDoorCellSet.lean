/- The walks of cells.Set and Link whatever the span, of the reference's Set and Links. -/
import Derived.Test.YtgpccjmkghpiiaaDoorCellMay
import Derived.Test.YtgpccjmkghpiiaaDoorCells5
namespace Go.Proofs.YtgpccjmkghpiiaaDoor
open Go.RowKit Go.Lib

def AnsC (w : World) (ys : List Cl) (er : Int) (e : Ending) (w' : World) : Prop := ∃ v, e = .returned (.tuple #[v, .int .i64 er]) ∧ Own encC 3 37 w' w.heap.size v ys ∧ Below w.heap.size w w'
set_option maxHeartbeats 1000000 in
theorem each_no (A : Option Addr) (n c : Nat) (f t : Int) (F : Value) (w : World) (h : ¬ spanOk n f t) :
    Calls Tryd.prog 28 #[.slice A n c, .int .i64 f, .int .i64 t, F] w fun e w' => e = .returned (.tuple #[.slice none 0 0, .int .i64 1]) ∧ w = w' := by
  go_enter Tryd.func28, Tryd.ntmps28
  go_wp2_with (go_at_call 35; refine (span_no _ _ _ _ _ _ h).mono ?_; rintro e w' ⟨rfl, rfl⟩)
  go_ret2
  exact ⟨rfl, rfl⟩
set_option maxHeartbeats 1000000 in
theorem set_no (A : Option Addr) (n c : Nat) (f t s cl : Int) (w : World) (h : ¬ spanOk n f t) :
    Calls Tryd.prog 9 #[.slice A n c, .int .i64 f, .int .i64 t, .int .i64 s, .int .i64 cl] w (AnsC w [] 1) := by
  go_enter Tryd.func9, Tryd.ntmps9
  go_wp2_with (go_at_call 28; refine (each_no _ _ _ _ _ _ _ h).mono ?_; rintro e w' ⟨rfl, rfl⟩)
  go_ret2
  exact ⟨_, rfl, Own.nil, ((Below.refl _ w).alloc (Nat.le_refl _) _).alloc (by simp) _⟩

/-- A value of a row of one's own is stored: a cell's bits. -/
theorem own_bits {w : World} {base : Nat} {A : Option Addr} {n c : Nat} {xs : List Cl} (ho : Own encC 3 37 w base (.slice A n c) xs) (hn : n = xs.length) {k : Nat} {x : Cl} (hx : xs[k]? = some x) (b : Int) :
    ∃ g, A = some ⟨g, 0, none⟩ ∧ base ≤ g ∧ w.cell? ⟨g, k * 3 + 1, none⟩ = some (.int .i64 x.b) ∧ w.frozen? ⟨g, k * 3 + 1, none⟩ = false ∧ Own encC 3 37 (w.setCell ⟨g, k * 3 + 1, none⟩ (.int .i64 b)) base (.slice A n c) (xs.set k ⟨x.r, b, x.h⟩) := by
  have hlt := (List.getElem?_eq_some_iff.1 hx).1
  obtain ⟨g, rfl, hg⟩ : ∃ g, A = some ⟨g, 0, none⟩ ∧ base ≤ g := by
    rcases ho.2 with ⟨_, h0⟩ | ⟨g, cap, cur, hv, hbg, _⟩
    · omega
    · injection hv with hv; exact ⟨g, hv, hbg⟩
  have ho0 := ho
  unfold Own at ho0
  rw [← hn] at ho0
  refine ⟨g, rfl, hg, ?_, World.ownsRow.frozenAt ho0 (k * 3 + 1), ?_⟩
  · rw [World.ownsRow.cellAt ho0 (k * 3 + 1) (by omega)]
    exact getElem?_flat encC_len _ k x 1 _ hx rfl
  · have hst := (World.ownsRow.stored ho0 (k * 3 + 1) (.int .i64 b)).1
    unfold Own
    rw [List.length_set, ← hn, ← flat_set _ k x _ hx]
    exact hst
theorem flat_setH (cs : List Cl) (k : Nat) (x : Cl) (h : ByteArray) (hx : cs[k]? = some x) : (cs.flatMap encC).set (k * 3 + 2) (.string h) = (cs.set k ⟨x.r, x.b, h⟩).flatMap encC := by
  induction cs generalizing k with
  | nil => simp at hx
  | cons y ys ih =>
    cases k with
    | zero =>
      simp at hx
      subst hx
      rfl
    | succ k =>
      have := ih k (by simpa using hx)
      rw [List.set_cons_succ, List.flatMap_cons, List.flatMap_cons, ← this]
      show (_ :: _ :: _ :: ys.flatMap encC).set ((k + 1) * 3 + 2) _ = _ :: _ :: _ :: _
      rw [show (k + 1) * 3 + 2 = (k * 3 + 2) + 1 + 1 + 1 from by omega]
      rfl
theorem own_href {w : World} {base : Nat} {A : Option Addr} {n c : Nat} {xs : List Cl} (ho : Own encC 3 37 w base (.slice A n c) xs) (hn : n = xs.length) {k : Nat} {x : Cl} (hx : xs[k]? = some x) (h : ByteArray) :
    ∃ g, A = some ⟨g, 0, none⟩ ∧ base ≤ g ∧ w.cell? ⟨g, k * 3 + 2, none⟩ = some (.string x.h) ∧ w.frozen? ⟨g, k * 3 + 2, none⟩ = false ∧ Own encC 3 37 (w.setCell ⟨g, k * 3 + 2, none⟩ (.string h)) base (.slice A n c) (xs.set k ⟨x.r, x.b, h⟩) := by
  have hlt := (List.getElem?_eq_some_iff.1 hx).1
  obtain ⟨g, rfl, hg⟩ : ∃ g, A = some ⟨g, 0, none⟩ ∧ base ≤ g := by
    rcases ho.2 with ⟨_, h0⟩ | ⟨g, cap, cur, hv, hbg, _⟩
    · omega
    · injection hv with hv; exact ⟨g, hv, hbg⟩
  have ho0 := ho
  unfold Own at ho0
  rw [← hn] at ho0
  refine ⟨g, rfl, hg, ?_, World.ownsRow.frozenAt ho0 (k * 3 + 2), ?_⟩
  · rw [World.ownsRow.cellAt ho0 (k * 3 + 2) (by omega)]
    exact getElem?_flat encC_len _ k x 2 _ hx rfl
  · have hst := (World.ownsRow.stored ho0 (k * 3 + 2) (.string h)).1
    unfold Own
    rw [List.length_set, ← hn, ← flat_setH _ k x _ hx]
    exact hst
theorem setAt_get {g : Cl → Cl} {F k : Nat} {cs : List Cl} {x : Cl} (hx : cs[k]? = some x) : (setAt g F k cs)[k]? = some x := by rw [getElem?_setAt, hx]; simp

set_option maxRecDepth 100000 in
set_option maxHeartbeats 4000000 in
theorem refSet_yes (A : Option Addr) (cs : List Cl) (n c B : Nat) (hn : n = cs.length) (f t s cl : Int) (w : World) (hA : SlAt encC 3 w B A cs) (hl : cs.length ≤ 1000000000) (h : spanOk cs.length f t) :
    Calls Tryd.prog 10 #[.slice A n c, .int .i64 f, .int .i64 t, .int .i64 s, .int .i64 cl] w (AnsC w (setAt (setC s cl) f.toNat t.toNat cs) 0) := by
  subst hn
  obtain ⟨hf0, hft, htn⟩ := h
  obtain ⟨F, rfl⟩ := Int.eq_ofNat_of_zero_le hf0
  obtain ⟨T, rfl⟩ := Int.eq_ofNat_of_zero_le (Int.le_trans hf0 hft)
  have hFT : F ≤ T := by omega
  have hTn : T ≤ cs.length := by omega
  simp only [Int.toNat_natCast]
  clear htn
  go_enter Tryd.func10, Tryd.ntmps10
  go_wp2_with (first
    | (go_at_call 31; refine (refSpan_yes _ _ _ _ _ _ ⟨by omega, by omega, by omega⟩).mono ?_; rintro e w' ⟨rfl, rfl⟩)
    | (go_at_call 8; refine (refOwn_any A cs _ c B rfl _ hA hl).mono ?_; rintro e W1 ⟨v, rfl, ho, hb1⟩; obtain ⟨A1, n1, c1, rfl, hn1⟩ := ho.shape))
  go_loopw [13] (fun i wr => ∃ k : Nat, F ≤ k ∧ k ≤ T ∧ i = .int .i64 k ∧ Own encC 3 37 wr w.heap.size (.slice A1 n1 c1) (setAt (setC s cl) F k cs) ∧ Below w.heap.size w wr) (fun i _ => T - (intOf i).toNat)
  case atStart => exact ⟨F, Nat.le_refl _, hFT, rfl, by rw [setAt_nil _ _ _ (Nat.le_refl _)]; exact ho, hb1⟩
  case round =>
    obtain ⟨k, hk1, hk2, rfl, hown, hbr⟩ := hrel
    by_cases hlt : k < T
    · obtain ⟨x, hx⟩ : ∃ x, cs[k]? = some x := ⟨_, List.getElem?_eq_getElem (show k < cs.length by omega)⟩
      have hn1' : n1 = (setAt (setC s cl) F k cs).length := by rw [length_setAt]; exact hn1.out
      obtain ⟨g, rfl, hbg, hcell, hfz, hst⟩ := own_bits hown hn1' (setAt_get hx) (ovr x.b (low s) (low cl))
      have hi1 : (k : Int) < (n1 : Int) := by have := hn1.out; omega
      have HST : Hid (Own encC 3 37 (wr.setCell ⟨g, k * 3 + 1, none⟩ (.int .i64 (ovr x.b (low s) (low cl)))) w.heap.size (.slice (some ⟨g, 0, none⟩) n1 c1) (setAt (setC s cl) F (k + 1) cs)) := hid (by rw [setAt_succ _ _ _ hk1 _ _ hx]; exact hst)
      have HB := hid (hbr.setCell (p := ⟨g, k * 3 + 1, none⟩) hbg (.int .i64 (ovr x.b (low s) (low cl))))
      unfold ovr low at HST HB
      clear hst hown hx hn1' hbr
      go_wp2_with fail
      go_roundw
      case rel => exact ⟨k + 1, by omega, by omega, by go_num, HST.out, HB.out⟩
      case measure => simp [intOf]; omega
    · have he : k = T := by omega
      subst he
      have HO := hid hown
      clear hown
      go_wp2_with fail
      go_ret2
      exact ⟨_, rfl, HO.out, hbr⟩
set_option maxHeartbeats 1000000 in
theorem refSet_no (A : Option Addr) (n c : Nat) (f t s cl : Int) (w : World) (h : ¬ spanOk n f t) :
    Calls Tryd.prog 10 #[.slice A n c, .int .i64 f, .int .i64 t, .int .i64 s, .int .i64 cl] w (AnsC w [] 1) := by
  go_enter Tryd.func10, Tryd.ntmps10
  go_wp2_with (go_at_call 31; refine (refSpan_no _ _ _ _ _ _ h).mono ?_; rintro e w' ⟨rfl, rfl⟩)
  go_ret2
  exact ⟨_, rfl, Own.nil, Below.refl _ _⟩
end Go.Proofs.YtgpccjmkghpiiaaDoor
