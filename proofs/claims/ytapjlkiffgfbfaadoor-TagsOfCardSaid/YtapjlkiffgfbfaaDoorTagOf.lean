/- The walks of tags.of, Name, Class. -/
import Derived.Test.YtapjlkiffgfbfaaDoorTagTable
import Derived.Test.YtapjlkiffgfbfaaDoorTagRef
import Derived.Handy
namespace Go.Proofs.YtapjlkiffgfbfaaDoor
open Go.RowKit

def nmE (s : List UInt8) : List Value := [.string (nmS s)]
theorem rowV_shape (b t : Nat) : ∃ A, rowV b t = .slice A (namesT t).length (namesT t).length ∧ ∀ w : World, NamesAt w b → SlAt nmE 1 w (b + t + 1) A (namesT t) := by
  unfold rowV
  split
  · next h => exact ⟨none, by rw [h]; rfl, fun _ _ => by rw [h]; exact SlAt.nil⟩
  · next h =>
    refine ⟨_, rfl, fun w hw _ => ⟨_, rfl, by simp, fun k x hx j u hu => ?_⟩⟩
    cases j with
    | zero =>
      simp [nmE] at hu
      subst hu
      rw [add_add']
      have := hw t k x hx
      unfold Addr.add
      split
      · next h0 => simp at h0; subst h0; exact this
      · simpa using this
    | succ j => simp [nmE] at hu
theorem index_tab (b : Nat) (w : World) : ∀ t, t ≤ 16 → (Instr.index 67 (.agg (tabC b).toArray) (.int .i64 (t : Nat))).run Tryd.prog w = .ok (.agg #[rowV b t, .int .i64 (classN t)]) w
  | 0, _ => by kernel_rfl | 1, _ => by kernel_rfl | 2, _ => by kernel_rfl | 3, _ => by kernel_rfl | 4, _ => by kernel_rfl | 5, _ => by kernel_rfl | 6, _ => by kernel_rfl | 7, _ => by kernel_rfl | 8, _ => by kernel_rfl
  | 9, _ => by kernel_rfl | 10, _ => by kernel_rfl | 11, _ => by kernel_rfl | 12, _ => by kernel_rfl | 13, _ => by kernel_rfl | 14, _ => by kernel_rfl | 15, _ => by kernel_rfl | 16, _ => by kernel_rfl
  | t + 17, h => absurd h (by omega)

theorem NamesAt.setLow {w : World} {b : Nat} (h : NamesAt w b) {p : Addr} (hp : p.block < b) (v : Value) : NamesAt (w.setCell p v) b := fun t j s hs =>
  (World.cell?_setCell_other w p _ v (fun e => by rw [e] at hp; simp at hp; omega)).trans (h t j s hs)
def OfPost (w : World) (t : Nat) (e : Ending) (w' : World) : Prop :=
  ∃ A, e = .returned (.agg #[.slice A (namesT t).length (namesT t).length, .int .i64 (classN t)]) ∧ SlAt nmE 1 w' w'.heap.size A (namesT t) ∧ Below w.heap.size w w'
theorem slAt_nm {w : World} {B : Nat} {A : Option Addr} {xs : List (List UInt8)} (h : SlAt nmE 1 w B A xs) : SlAt nmE 1 w w.heap.size A xs := h.live fun _ => by simp [nmE]
/-- The two cells of a row's box, behind a call. -/
theorem box2 {w w1 : World} {u v : Value} {T : TypeId} (hb : Below (w.alloc (.cells #[u, v] T)).heap.size (w.alloc (.cells #[u, v] T)) w1) :
    w1.cell? ⟨w.heap.size, 0, none⟩ = some u ∧ w1.cell? ⟨w.heap.size, 1, none⟩ = some v ∧ w1.frozen? ⟨w.heap.size, 0, none⟩ = false ∧ w1.frozen? ⟨w.heap.size, 1, none⟩ = false ∧ Below w.heap.size w w1 ∧ w.heap.size < w1.heap.size := by
  have hg := heap_alloc_new w (.cells #[u, v] T)
  refine ⟨(hb.cell (p := ⟨w.heap.size, 0, none⟩) (by simp)).trans ?_, (hb.cell (p := ⟨w.heap.size, 1, none⟩) (by simp)).trans ?_, (hb.frozen (p := ⟨w.heap.size, 0, none⟩) (by simp)).trans (World.frozen?_alloc_new w _ _ _), (hb.frozen (p := ⟨w.heap.size, 1, none⟩) (by simp)).trans (World.frozen?_alloc_new w _ _ _),
    ((Below.refl _ w).alloc (Nat.le_refl _) _).trans (hb.mono (by simp)), ?_⟩
  · exact cell_of_row _ _ 0 _ _ _ hg
  · exact cell_of_row _ _ 1 _ _ _ hg
  · have := hb.size; simp at this; omega

set_option maxHeartbeats 1000000 in
theorem of_in (t : Nat) (ht : t ≤ 16) (w : World) : Calls Tryd.prog 57 #[.int .i64 (t : Nat)] w (OfPost w t) := by
  have hi : ∀ W, (Instr.index 67 (.agg (tabC (w.heap.size + 1)).toArray) (.int .i64 (t : Nat))).run Tryd.prog W = .ok (.agg #[rowV (w.heap.size + 1) t, .int .i64 (classN t)]) W := fun W => index_tab _ W t ht
  obtain ⟨A, hA, hsl⟩ := rowV_shape (w.heap.size + 1) t
  rw [hA] at hi
  clear hA
  obtain ⟨n, hn⟩ : ∃ n, (namesT t).length = n := ⟨_, rfl⟩
  obtain ⟨c, hc⟩ : ∃ c, classN t = c := ⟨_, rfl⟩
  rw [hn, hc] at hi
  have H1 := hid hn
  have H2 := hid hc
  have HS := hid hsl
  clear hn hc hsl
  have h0 : ¬ ((t : Int) < 0) := by omega
  have h1 : ¬ (16 < (t : Int)) := by omega
  go_enter Tryd.func57, Tryd.ntmps57
  go_wp2_with (go_at_call 58; refine (table_any _).mono ?_; rintro e w1 ⟨rfl, hn1, hb1⟩; obtain ⟨c0, c1, f0, f1, hb2, hlt⟩ := box2 hb1; (have N1 := hid hn1); (have B2 := hid hb2); clear hn1 hb1 hb2)
  refine bodyPost_ret (v := .agg #[.slice A n n, .int .i64 c]) (by simp [results, Tryd.results57, go_sem, c0, c1]) rfl ⟨A, ?_, ?_, ?_⟩
  · rw [H1.out, H2.out]
  · have hn2 : NamesAt ((w1.setCell ⟨w.heap.size, 0, none⟩ (.slice A n n)).setCell ⟨w.heap.size, 1, none⟩ (.int .i64 c)) (w.heap.size + 1) := by
      have := N1.out
      rw [World.size_alloc] at this
      exact (this.setLow (by simp) _).setLow (by simp) _
    exact slAt_nm (HS.out _ hn2)
  · exact (B2.out.setCell (Nat.le_refl _) _).setCell (Nat.le_refl _) _
def rowZ : Value := .agg #[.slice none 0 0, .int .i64 0]
set_option maxHeartbeats 1000000 in
theorem of_out (t : Int) (ht : t < 0 ∨ 16 < t) (w : World) : Calls Tryd.prog 57 #[.int .i64 t] w fun e w' => e = .returned (.agg #[.slice none 0 0, .int .i64 0]) ∧ Below w.heap.size w w' := by
  rcases ht with h | h
  · go_enter Tryd.func57, Tryd.ntmps57
    go_wp2
    exact bodyPost_ret (v := .agg #[.slice none 0 0, .int .i64 0]) (by simp [results, Tryd.results57, go_sem]) rfl ⟨rfl, (Below.refl _ _).alloc (Nat.le_refl _) _⟩
  · have h' : ¬ t < 0 := by omega
    go_enter Tryd.func57, Tryd.ntmps57
    go_wp2
    exact bodyPost_ret (v := .agg #[.slice none 0 0, .int .i64 0]) (by simp [results, Tryd.results57, go_sem]) rfl ⟨rfl, (Below.refl _ _).alloc (Nat.le_refl _) _⟩

theorem field0 (u v : Value) (w : World) : (Instr.field 64 (.agg #[u, v]) 0).run Tryd.prog w = .ok u w := by kernel_rfl
theorem field1 (u v : Value) (w : World) : (Instr.field 64 (.agg #[u, v]) 1).run Tryd.prog w = .ok v w := by kernel_rfl
/-- The first name of a tag. -/
def nameL (tag : Int) : List UInt8 := if tag < 0 ∨ 16 < tag then [] else (namesT tag.toNat).headD []
theorem classT_nat : ∀ t : Nat, t ≤ 16 → classT t = classN t
  | 0, _ => rfl | 1, _ => rfl | 2, _ => rfl | 3, _ => rfl | 4, _ => rfl | 5, _ => rfl | 6, _ => rfl | 7, _ => rfl | 8, _ => rfl
  | 9, _ => rfl | 10, _ => rfl | 11, _ => rfl | 12, _ => rfl | 13, _ => rfl | 14, _ => rfl | 15, _ => rfl | 16, _ => rfl
  | t + 17, h => absurd h (by omega)
theorem classT_out {t : Int} (h : t < 0 ∨ 16 < t) : classT t = 0 := by unfold classT; rw [if_pos h]
theorem nameL_out {t : Int} (h : t < 0 ∨ 16 < t) : nameL t = [] := by unfold nameL; rw [if_pos h]
theorem nameL_nat {t : Nat} (h : t ≤ 16) : nameL t = (namesT t).headD [] := by
  unfold nameL; rw [if_neg (by omega)]; rfl
set_option maxRecDepth 100000 in
set_option maxHeartbeats 1000000 in
theorem class_any (tag : Int) (w : World) : Calls Tryd.prog 20 #[.int .i64 tag] w fun e w' => e = .returned (.int .i64 (classT tag)) ∧ Below w.heap.size w w' := by
  by_cases h : tag < 0 ∨ 16 < tag
  · rw [classT_out h]
    have fd := field1
    go_enter Tryd.func20, Tryd.ntmps20
    go_wp2_with (go_at_call 57; refine (of_out tag h _).mono ?_; rintro e w1 ⟨rfl, hb1⟩)
    go_ret
    exact ⟨rfl, by assumption⟩
  · obtain ⟨t, rfl⟩ : ∃ t : Nat, tag = t := ⟨tag.toNat, by omega⟩
    rw [classT_nat t (by omega)]
    have ht : t ≤ 16 := by omega
    clear h
    have fd := field1
    go_enter Tryd.func20, Tryd.ntmps20
    go_wp2_with (go_at_call 57; refine (of_in t ht _).mono ?_; rintro e w1 ⟨A, rfl, hs1, hb1⟩; (have B1 := hid hb1); (have S1 := hid hs1); clear hb1 hs1)
    go_ret
    exact ⟨rfl, B1.out⟩
set_option maxRecDepth 100000 in
set_option maxHeartbeats 1000000 in
theorem name_any (tag : Int) (w : World) : Calls Tryd.prog 19 #[.int .i64 tag] w fun e w' => e = .returned (.string (nmS (nameL tag))) ∧ Below w.heap.size w w' := by
  by_cases h : tag < 0 ∨ 16 < tag
  · rw [nameL_out h]
    have fd := field0
    go_enter Tryd.func19, Tryd.ntmps19
    go_wp2_with (go_at_call 57; refine (of_out tag h _).mono ?_; rintro e w1 ⟨rfl, hb1⟩)
    go_ret
    exact ⟨rfl, by assumption⟩
  · obtain ⟨t, rfl⟩ : ∃ t : Nat, tag = t := ⟨tag.toNat, by omega⟩
    have ht : t ≤ 16 := by omega
    rw [nameL_nat ht]
    clear h
    obtain ⟨l, hl⟩ : ∃ l, namesT t = l := ⟨_, rfl⟩
    have L := hid hl
    rw [hl]
    clear hl
    cases l with
    | nil =>
      have fd := field0
      go_enter Tryd.func19, Tryd.ntmps19
      go_wp2_with (go_at_call 57; refine (of_in t ht _).mono ?_; rintro e w1 ⟨A, rfl, hs1, hb1⟩; (have B1 := hid hb1); (have S1 := hid hs1); clear hb1 hs1; rw [L.out])
      go_ret
      exact ⟨rfl, B1.out⟩
    | cons s r =>
      have fd := field0
      go_enter Tryd.func19, Tryd.ntmps19
      go_wp2_with (go_at_call 57; refine (of_in t ht _).mono ?_; rintro e w1 ⟨A, rfl, hs1, hb1⟩; (have B1 := hid hb1); rw [L.out] at hs1 ⊢; obtain ⟨ad, rfl, hlt, hc⟩ := hs1 (by simp); (have c0 : w1.cell? ad = some (.string (nmS s)) := by have := hc 0 s rfl 0 _ rfl; simpa [add_zero'] using this); clear hb1 hc)
      go_ret
      exact ⟨rfl, B1.out⟩
end Go.Proofs.YtapjlkiffgfbfaaDoor
