/- Texts on cells and lines, put together: LnInts, LnWrote. -/
import Derived.Test.YtblbfoniimnkcaaGreatDoorLn
import Derived.OwnWalk
import Derived.Deep.QuietTactic
import Derived.BigQuiet
import Derived.OneCell
/- Rows of integers: slices.Clone, slices.Equal, the reference's ints, whether a list's kind is none. (Printed by wip/lnints.py.) -/
namespace Go.Proofs.YtblbfoniimnkcaaGreatDoor
open Go.RowKit Go.Lib

theorem Tryz.okI : ElemOk Tryz.prog encI 1 3 := ElemOk.mk' (z := .int .i64 0) (bytes := 8) encI_len (fun x u hu => by simp [encI] at hu; subst hu; rfl) (by omega) (by kernel_rfl) rfl (by omega)

set_option maxHeartbeats 1000000 in
theorem cloneI_any (A : Option Addr) (xs : List Int) (n c B : Nat) (hn : n = xs.length) (w : World) (hA : SlAt encI 1 w B A xs) (hl : xs.length ≤ 1000000000) :
    Calls Tryz.prog 76 #[.slice A n c] w (RetOwn encI 1 3 w xs) := by
  subst hn
  cases A with
  | none =>
    have hc : xs = [] := by
      cases xs with
      | nil => rfl
      | cons x xs => obtain ⟨ad, e, _⟩ := hA (by simp); cases e
    subst hc
    have heq : ∀ W : World, (binOp .eql 43 (.slice none 0 c) (.slice none 0 0)).run Tryz.prog W = .ok (.bool true) W := fun W => Lib.run_eql_slice_nil W 43 3 none 0 c 0 0 Tryz.underlying43
    go_enter Tryz.func76, Tryz.ntmps76
    go_wp2
    go_ret
    exact ⟨_, rfl, Own.nil, Below.refl _ _⟩
  | some ad =>
    have hS := (hA.live (fun _ => by rw [encI_len]; omega)).alloc (Nat.le_refl _) (.cells #[] 3)
    have h0 : Own encI 1 3 (w.alloc (.cells #[] 3)) w.heap.size (.slice (some ⟨w.heap.size, 0, none⟩) 0 0) ([] : List Int) := World.ownsRow_lit w #[] 0 (Nat.le_refl _) (by simp) rfl
    have heq : ∀ W : World, (binOp .eql 43 (.slice (some ad) xs.length c) (.slice none 0 0)).run Tryz.prog W = .ok (.bool false) W := fun W => Lib.run_eql_slice_nil W 43 3 (some ad) xs.length c 0 0 Tryz.underlying43
    go_enter Tryz.func76, Tryz.ntmps76
    go_wp2_with (at_builtin; refine wpList_appS Tryz.okI rfl (.tmp 5) (.tmp 6) 43 rfl Tryz.underlying43 w.heap.size _ ([] : List Int) rfl h0 _ (some ad) xs c rfl hS (by simp; omega) (by simp) ?_; intro v' w1 hown' hg' _ _)
    go_ret
    exact ⟨_, rfl, by simpa using hown', ((Below.refl _ w).alloc (Nat.le_refl _) _).grown hg' (by simp) fun k hk => (h0.lt k hk).1⟩

set_option maxHeartbeats 1000000 in
theorem refInts_any (A B : Option Addr) (xs ys : List Int) (n m c d C D : Nat) (hn : n = xs.length) (hm : m = ys.length) (w : World) (hA : SlAt encI 1 w C A xs) (hB : SlAt encI 1 w D B ys) (hx : xs.length ≤ 1000000000) :
    Calls Tryz.prog 67 #[.slice A n c, .slice B m d] w (RetQuiet (.bool (decide (xs = ys))) w) := by
  subst hn hm
  by_cases hl : xs.length = ys.length
  · have hb0 : ((xs.length : Int) != (ys.length : Int)) = false := by rw [bne_eq_false_iff_eq]; omega
    have HL := hid hl
    obtain ⟨r, hr⟩ : ∃ r, decide (xs = ys) = r := ⟨_, rfl⟩
    have HR := hid hr
    rw [hr]
    clear hl hr
    go_enter Tryz.func67, Tryz.ntmps67
    go_wp2
    go_loopw [5] (fun i wr => ∃ k : Nat, k ≤ xs.length ∧ i = .int .i64 k ∧ Hid (xs.take k = ys.take k) ∧ ∃ q, wr = w.drewN q) (fun i _ => xs.length - (intOf i).toNat)
    case atStart => exact ⟨0, Nat.zero_le _, rfl, rfl, 0, rfl⟩
    case round =>
      obtain ⟨k, hk, rfl, ht, q, rfl⟩ := hrel
      by_cases hlt : k < xs.length
      · obtain ⟨ad, x, rfl, -, hx, x0⟩ := hA.atI hlt
        obtain ⟨bd, y, rfl, -, hy, y0⟩ := hB.atI (show k < ys.length by rw [← HL.out]; exact hlt)
        have hi1 : (k : Int) < (xs.length : Int) := by omega
        have hi2 : (k : Int) < (ys.length : Int) := by rw [← HL.out]; omega
        have HX := hid hx
        have HY := hid hy
        clear hx hy
        by_cases hxy : x = y
        · subst hxy
          have HT : Hid (xs.take (k + 1) = ys.take (k + 1)) := by
            show _ = _
            rw [take_snoc' HX.out, take_snoc' HY.out, ht.out]
          have hb : (x != x) = false := by simp
          go_wp2
          go_quiet (fail)
          go_wp2
          go_roundw
          case rel => exact ⟨k + 1, by omega, by go_num, HT, _, rfl⟩
          case measure => simp [intOf]; omega
        · have hne : r = false := by
            rw [← HR.out]
            exact decide_eq_false fun e => hxy (by
              have h1 := HX.out
              rw [e, HY.out] at h1
              injection h1 with h1
              exact h1.symm)
          have HN := hid hne
          have hb : (x != y) = true := by simpa using hxy
          clear hne hxy
          go_wp2
          go_quiet (fail)
          go_wp2
          go_ret
          exact ⟨ret_bool HN.out.symm, _, by first | rfl | exact World.drewN_drewN _ _ _⟩
      · have hne : r = true := by
          rw [← HR.out]
          refine decide_eq_true ?_
          have := ht.out
          rwa [List.take_of_length_le (by omega), List.take_of_length_le (by rw [← HL.out]; omega)] at this
        have HN := hid hne
        clear hne
        go_wp2
        go_ret
        exact ⟨ret_bool HN.out.symm, _, by first | rfl | exact World.drewN_drewN _ _ _⟩
  · have hb0 : ((xs.length : Int) != (ys.length : Int)) = true := by rw [bne_iff_ne]; omega
    have hr : decide (xs = ys) = false := decide_eq_false fun e => hl (by rw [e])
    rw [hr]
    clear hl hr
    go_enter Tryz.func67, Tryz.ntmps67
    go_wp2
    go_ret
    exact ⟨rfl, 0, rfl⟩

set_option maxHeartbeats 400000 in
theorem lmay1_any (x : Int) (w : World) : Calls Tryz.prog 71 #[.int .i64 x] w fun e w' => e = .returned (.bool (badI x)) ∧ w = w' := by
  by_cases h0 : x = 0
  · subst h0
    go_enter Tryz.func71, Tryz.ntmps71
    go_wp2
    go_ret
    exact ⟨rfl, rfl⟩
  · have b0 : (x != 0) = true := by simpa using h0
    by_cases h1 : x = 1
    · subst h1
      go_enter Tryz.func71, Tryz.ntmps71
      go_wp2
      go_ret
      exact ⟨rfl, rfl⟩
    · have b1 : (x != 1) = true := by simpa using h1
      have H := hid (show badI x = true by unfold badI; simp [h0, h1])
      clear h0 h1
      go_enter Tryz.func71, Tryz.ntmps71
      go_wp2
      go_ret
      exact ⟨ret_bool H.out.symm, rfl⟩

/-! ### the first of a kind -/
def idxI (p : Int → Bool) (xs : List Int) : Int := match xs.findIdx? p with | some i => (i : Int) | none => -1
def NoneToI (p : Int → Bool) (xs : List Int) (k : Nat) : Prop := ∀ j y, j < k → xs[j]? = some y → p y = false
theorem findIdxI_at {p : Int → Bool} : ∀ {xs : List Int} {k : Nat} {x : Int}, xs[k]? = some x → p x = true → NoneToI p xs k → xs.findIdx? p = some k
  | [], _, _, h, _, _ => by simp at h
  | y :: ys, 0, x, h, e, _ => by
    simp at h; subst h
    rw [List.findIdx?_cons, e]; rfl
  | y :: ys, k + 1, x, h, e, hn => by
    have h0 : p y = false := hn 0 y (by omega) rfl
    have ih := findIdxI_at (p := p) (xs := ys) (k := k) (x := x) (by simpa using h) e fun j z hj hz => hn (j + 1) z (by omega) (by simpa using hz)
    rw [List.findIdx?_cons, h0, ih]; rfl
theorem idxI_at {p : Int → Bool} {xs : List Int} {k : Nat} {x : Int} (h : xs[k]? = some x) (e : p x = true) (hn : NoneToI p xs k) : idxI p xs = (k : Int) := by unfold idxI; rw [findIdxI_at h e hn]
theorem idxI_none {p : Int → Bool} {xs : List Int} (hn : NoneToI p xs xs.length) : idxI p xs = -1 := by
  have : xs.findIdx? p = none := by
    rw [List.findIdx?_eq_none_iff]
    intro x hx
    obtain ⟨k, hk, rfl⟩ := List.getElem_of_mem hx
    exact hn k _ hk (List.getElem?_eq_getElem hk)
  unfold idxI; rw [this]
theorem NoneToI.succ {p : Int → Bool} {xs : List Int} {k : Nat} {x : Int} (h : NoneToI p xs k) (hx : xs[k]? = some x) (e : p x = false) : NoneToI p xs (k + 1) := fun j y hj hy => by
  rcases Nat.lt_or_ge j k with h3 | h3
  · exact h j y h3 hy
  · obtain rfl : j = k := by omega
    rw [hx] at hy; injection hy with hy
    rw [← hy]; exact e
theorem idxI_any (p : Int → Bool) (xs : List Int) : decide (0 ≤ idxI p xs) = xs.any p := by
  unfold idxI
  cases h : xs.findIdx? p with
  | none =>
    rw [List.findIdx?_eq_none_iff] at h
    have : xs.any p = false := by rw [List.any_eq_false]; intro x hx; rw [h x hx]; simp
    rw [this]; rfl
  | some i =>
    have hi := List.findIdx?_eq_some_iff_getElem.1 h
    obtain ⟨hlt, hp, _⟩ := hi
    have : xs.any p = true := List.any_eq_true.2 ⟨_, List.getElem_mem hlt, hp⟩
    rw [this]
    exact decide_eq_true (show (0 : Int) ≤ (i : Int) by omega)

set_option maxRecDepth 100000 in
set_option maxHeartbeats 4000000 in
theorem indexI_any (A : Option Addr) (xs : List Int) (n c B : Nat) (hn : n = xs.length) (w : World) (hA : SlAt encI 1 w B A xs) (hl : xs.length ≤ 1000000000) :
    Calls Tryz.prog 78 #[.slice A n c, .func (.func 71) #[] #[]] w (fun e w' => e = .returned (.int .i64 (idxI badI xs)) ∧ w = w') := by
  subst hn
  have hS := hid hA
  obtain ⟨x, hx⟩ : ∃ x, idxI badI xs = x := ⟨_, rfl⟩
  have HX := hid hx
  rw [hx]
  clear hx hA
  go_enter Tryz.func78, Tryz.ntmps78
  go_wp2_with fail
  go_loopw [8] (fun i wr => ∃ k : Nat, k ≤ xs.length ∧ i = .int .i64 k ∧ Hid (NoneToI badI xs k) ∧ wr = w) (fun i _ => xs.length - (intOf i).toNat)
  case atStart => exact ⟨0, Nat.zero_le _, rfl, (fun j _ h => absurd h (by omega)), rfl⟩
  case round =>
    obtain ⟨k, hk, rfl, hno, rfl⟩ := hrel
    by_cases hlt : k < xs.length
    · obtain ⟨ad, x, rfl, -, hx, x0⟩ := hS.out.atI hlt
      have hi1 : (k : Int) < (xs.length : Int) := by omega
      cases hp : badI x with
      | true =>
        have E := hid (idxI_at hx hp hno.out)
        have HP := hid hp
        clear hx hp
        go_wp2_with (go_at_call 71; refine (lmay1_any x _).mono ?_; rintro e w1 ⟨rfl, rfl⟩; rw [HP.out])
        go_ret
        exact ⟨ret_inC (E.out.symm.trans HX.out), rfl⟩
      | false =>
        have N1 := hid (hno.out.succ hx hp)
        have HP := hid hp
        clear hx hp
        go_wp2_with (go_at_call 71; refine (lmay1_any x _).mono ?_; rintro e w1 ⟨rfl, rfl⟩; rw [HP.out])
        go_roundw
        case rel => exact ⟨k + 1, by omega, by go_num, N1.out, by first | rfl | trivial⟩
        case measure => simp [intOf]; omega
    · obtain rfl : k = xs.length := by omega
      have E := hid (idxI_none hno.out)
      go_wp2_with fail
      go_ret
      exact ⟨ret_inC (E.out.symm.trans HX.out), rfl⟩

set_option maxHeartbeats 1000000 in
theorem hasI_any (A : Option Addr) (xs : List Int) (n c B : Nat) (hn : n = xs.length) (w : World) (hA : SlAt encI 1 w B A xs) (hl : xs.length ≤ 1000000000) :
    Calls Tryz.prog 70 #[.slice A n c, .func (.func 71) #[] #[]] w (fun e w' => e = .returned (.bool (xs.any badI)) ∧ w = w') := by
  subst hn
  have HS := hid hA
  rw [← idxI_any]
  obtain ⟨x, hx⟩ : ∃ x, idxI badI xs = x := ⟨_, rfl⟩
  have HX := hid hx
  rw [hx]
  clear hx hA
  go_enter Tryz.func70, Tryz.ntmps70
  go_wp2_with (go_at_call 78; refine (indexI_any A xs _ c _ rfl _ HS.out hl).mono ?_; rintro e w1 ⟨rfl, rfl⟩; rw [HX.out])
  go_ret
  exact ⟨rfl, rfl⟩
end Go.Proofs.YtblbfoniimnkcaaGreatDoor

/- What was written over, and what was not. No program in sight. -/
namespace Go.Proofs.YtblbfoniimnkcaaGreatDoor
open Go.RowKit Go.Lib

/-- Of the memory that there was the cells that R names alone may have been written over. -/
structure Wrote (R : Nat → Nat → Prop) (w w' : World) : Prop where
  os : w'.os = w.os
  tape : w'.tape = w.tape
  output : w'.output = w.output
  size : w.heap.size ≤ w'.heap.size
  block : ∀ k, k < w.heap.size → (∀ j, ¬ R k j) → w'.heap[k]? = w.heap[k]?
  cells : ∀ k cur e, w.heap[k]? = some (.cells cur e (0, 0)) → ∃ cur', w'.heap[k]? = some (.cells cur' e (0, 0)) ∧ cur'.size = cur.size ∧ ∀ j, ¬ R k j → cur'[j]? = cur[j]?
section
variable {R S : Nat → Nat → Prop} {w w' w2 : World}
theorem Wrote.refl : Wrote R w w := ⟨rfl, rfl, rfl, Nat.le_refl _, fun _ _ _ => rfl, fun _ cur _ h => ⟨cur, h, rfl, fun _ _ => rfl⟩⟩
theorem Wrote.trans (h : Wrote R w w') (k : Wrote R w' w2) : Wrote R w w2 :=
  ⟨k.os.trans h.os, k.tape.trans h.tape, k.output.trans h.output, Nat.le_trans h.size k.size, fun i hi hn => (k.block i (Nat.lt_of_lt_of_le hi h.size) hn).trans (h.block i hi hn), fun i cur e hc => by
    obtain ⟨c1, h1, h2, h3⟩ := h.cells i cur e hc
    obtain ⟨c2, k1, k2, k3⟩ := k.cells i c1 e h1
    exact ⟨c2, k1, k2.trans h2, fun j hj => (k3 j hj).trans (h3 j hj)⟩⟩
theorem Wrote.mono (h : Wrote R w w') (hs : ∀ k j, R k j → S k j) : Wrote S w w' :=
  ⟨h.os, h.tape, h.output, h.size, fun i hi hn => h.block i hi fun j hj => hn j (hs i j hj), fun i cur e hc => by
    obtain ⟨c1, h1, h2, h3⟩ := h.cells i cur e hc
    exact ⟨c1, h1, h2, fun j hj => h3 j fun hr => hj (hs i j hr)⟩⟩
theorem Wrote.drewN (h : Wrote R w w') (q : Nat) : Wrote R w (w'.drewN q) := ⟨h.os, h.tape, h.output, h.size, h.block, h.cells⟩
theorem Wrote.quiet (h : Wrote R w w') (k : ∃ q, w2 = w'.drewN q) : Wrote R w w2 := by
  obtain ⟨q, rfl⟩ := k
  exact h.drewN q
theorem Wrote.of_below (h : Below w.heap.size w w') : Wrote R w w' :=
  ⟨h.os, h.tape, h.output, h.size, fun i hi _ => h.block i hi, fun i cur _ hc => ⟨cur, (h.block i (Array.getElem?_eq_some_iff.1 hc).1).trans hc, rfl, fun _ _ => rfl⟩⟩
theorem Wrote.store (h : Wrote R w w') {g o : Nat} (u : Value) (hr : R g o) : Wrote R w (w'.setCell ⟨g, o, none⟩ u) :=
  h.trans ⟨rfl, rfl, rfl, by simp [World.setCell], fun i _ hn => Below.heap_setCell _ _ _ _ (fun e => by subst e; exact hn o hr), fun i cur _ hc => by
    by_cases hi : i = g
    · subst hi
      refine ⟨_, heap_setCell_same w' i o cur _ u hc, by simp, fun j hj => ?_⟩
      rw [Array.getElem?_setIfInBounds, if_neg (fun e => by subst e; exact hj hr)]
    · exact ⟨cur, (Below.heap_setCell _ _ _ _ (by simpa using hi)).trans hc, rfl, fun _ _ => rfl⟩⟩
theorem Wrote.below {B : Nat} (h : Wrote R w w') (hr : ∀ k j, R k j → B ≤ k) (hB : B ≤ w.heap.size) : Below B w w' :=
  ⟨h.os, h.tape, h.output, h.size, fun k hk => h.block k (by omega) fun j hj => by have := hr k j hj; omega⟩

variable {α : Type} {enc : α → List Value} {sz : Nat} {e : TypeId} {base : Nat} {A : Option Addr} {xs : List α}
theorem Wr.apart (h : Wr enc sz e w base A xs) (hw : Wrote R w w') (hd : ∀ g o, A = some ⟨g, o, none⟩ → ∀ j, o ≤ j → j < o + xs.length * sz → ¬ R g j) : Wr enc sz e w' base A xs := fun hn => by
  obtain ⟨g, o, cur, rfl, h2, h3, h4, h5⟩ := h hn
  obtain ⟨c1, k1, k2, k3⟩ := hw.cells g cur e h3
  refine ⟨g, o, c1, rfl, h2, k1, by omega, ?_⟩
  rw [← h5]
  apply List.ext_getElem?
  intro j
  rw [List.getElem?_take, List.getElem?_take]
  by_cases hj : j < xs.length * sz
  · rw [if_pos hj, if_pos hj, List.getElem?_drop, List.getElem?_drop, Array.getElem?_toList, Array.getElem?_toList]
    exact k3 _ (hd g o rfl _ (by omega) (by omega))
  · rw [if_neg hj, if_neg hj]
theorem flat_setG (he : ∀ x, (enc x).length = sz) : ∀ (xs : List α) (k : Nat) (x y : α) (j : Nat) (u : Value), xs[k]? = some x → j < sz → enc y = (enc x).set j u → (xs.set k y).flatMap enc = (xs.flatMap enc).set (k * sz + j) u := by
  intro xs
  induction xs with
  | nil => intro k x y j u h; simp at h
  | cons z zs ih =>
    intro k x y j u hx hj hy
    cases k with
    | zero =>
      simp at hx
      subst hx
      rw [List.set_cons_zero, List.flatMap_cons, List.flatMap_cons, hy, Nat.zero_mul, Nat.zero_add, List.set_append_left _ _ (by rw [he]; exact hj)]
    | succ k =>
      rw [List.set_cons_succ, List.flatMap_cons, List.flatMap_cons, ih k x y j u (by simpa using hx) hj hy, List.set_append_right _ _ (by rw [he, Nat.add_mul]; omega), he]
      congr 2
      rw [Nat.add_mul]; omega
/-- A value of such a row is stored. -/
theorem Wr.store (h : Wr enc sz e w base A xs) (he : ∀ x, (enc x).length = sz) {k : Nat} {x y : α} (hx : xs[k]? = some x) {j : Nat} (hj : j < sz) (u : Value) (hy : enc y = (enc x).set j u) :
    ∃ g o, A = some ⟨g, o, none⟩ ∧ base ≤ g ∧ w.cell? ⟨g, o + (k * sz + j), none⟩ = (enc x)[j]? ∧ w.frozen? ⟨g, o + (k * sz + j), none⟩ = false ∧ Wr enc sz e (w.setCell ⟨g, o + (k * sz + j), none⟩ u) base A (xs.set k y) := by
  have hk := (List.getElem?_eq_some_iff.1 hx).1
  obtain ⟨g, o, cur, rfl, h2, h3, h4, h5⟩ := h (by rintro rfl; simp at hk)
  have hkj : k * sz + j < xs.length * sz := by
    have : (k + 1) * sz ≤ xs.length * sz := Nat.mul_le_mul_right _ hk
    rw [Nat.add_mul] at this; omega
  have hu : (enc x)[j]? = some ((enc x)[j]'(by rw [he]; exact hj)) := List.getElem?_eq_getElem _
  have hfl := getElem?_flat he xs k x j _ hx hu
  refine ⟨g, o, rfl, h2, ?_, frozen_of_row w g _ cur e h3, fun _ => ⟨g, o, _, rfl, h2, heap_setCell_same w g _ cur e u h3, by simpa using h4, ?_⟩⟩
  · rw [cell_of_row w g _ cur e (0, 0) h3, hu, ← hfl, ← h5, List.getElem?_take, if_pos hkj, List.getElem?_drop]
    simp
  · rw [Array.toList_setIfInBounds, List.length_set]
    have hfs := flat_setG he xs k x y j u hx hj hy
    rw [hfs, ← h5]
    apply List.ext_getElem?
    intro i
    rw [List.getElem?_take, List.getElem?_drop, List.getElem?_set, List.getElem?_set, List.getElem?_take, List.getElem?_drop]
    by_cases hi : i < xs.length * sz
    · rw [if_pos hi, if_pos hi]
      by_cases hij : k * sz + j = i
      · rw [if_pos hij, if_pos (by omega), if_pos (by rw [Array.length_toList (xs := cur)]; omega), if_pos (by rw [List.length_take, List.length_drop, Array.length_toList (xs := cur)]; omega)]
      · rw [if_neg hij, if_neg (by omega)]
    · rw [if_neg hi]
      have : ¬ k * sz + j = i := by omega
      rw [if_neg this, if_neg hi]
end
end Go.Proofs.YtblbfoniimnkcaaGreatDoor
