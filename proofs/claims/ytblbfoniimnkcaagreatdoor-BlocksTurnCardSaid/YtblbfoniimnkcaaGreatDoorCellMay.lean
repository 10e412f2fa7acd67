/- The walks of cells.link, May, of the reference's Link, May, Text. (Printed by wip/cellmay.py.) -/
import Derived.Test.YtblbfoniimnkcaaGreatDoorLnBaseB
import Derived.Test.YtblbfoniimnkcaaGreatDoorLnAttB
namespace Go.Proofs.YtblbfoniimnkcaaGreatDoor
open Go.RowKit Go.Lib

def linkB (h : ByteArray) : Bool := decide (h = ⟨#[]⟩) || targetB h
def mayC (x : Cl) : Bool := (decide (2 ≤ cls x.r) || decide (x.r = 10)) && (!decide (x.b < 0) && (!decide (15 < x.b) && linkB x.h))
def noMay (x : Cl) : Bool := !mayC x
def mayCs (cs : List Cl) : Bool := cs.all mayC
theorem empty_no {h : ByteArray} (e : h ≠ ⟨#[]⟩) : (h.toList == []) = false := beq_eq_false_iff_ne.2 fun k => e (toList_inj (k.trans (by rw [ByteArray.toList_eq])))

set_option maxHeartbeats 1000000 in
theorem link_any (h : ByteArray) (w : World) (hs : h.size ≤ 1000000000) (hT : Tb w) : Calls Tryz.prog 82 #[.string h] w (IsBool (linkB h) w) := by
  by_cases he : h = ⟨#[]⟩
  · subst he
    rw [show linkB ⟨#[]⟩ = true from rfl]
    go_enter Tryz.func82, Tryz.ntmps82
    go_wp2
    go_ret
    exact ⟨rfl, Below.refl _ _⟩
  · have q := empty_no he
    obtain ⟨b, hb⟩ : ∃ b, targetB h = b := ⟨_, rfl⟩
    have HB := hid hb
    have T := hid hT
    rw [show linkB h = b from by unfold linkB; rw [decide_eq_false he, hb]; rfl]
    clear hb he hT
    go_enter Tryz.func82, Tryz.ntmps82
    go_wp2_with (go_at_call 88; refine (target_any _ _ hs T.out).mono ?_; rintro e w1 ⟨rfl, hb1⟩; rw [HB.out]; (have B1 := hid hb1); clear hb1)
    go_ret
    exact ⟨rfl, B1.out⟩

set_option maxHeartbeats 1000000 in
theorem refLink_any (h : ByteArray) (w : World) (hs : h.size ≤ 1000000000) : Calls Tryz.prog 85 #[.string h] w (IsBool (linkB h) w) := by
  by_cases he : h = ⟨#[]⟩
  · subst he
    rw [show linkB ⟨#[]⟩ = true from rfl]
    go_enter Tryz.func85, Tryz.ntmps85
    go_wp2
    go_ret
    exact ⟨rfl, Below.refl _ _⟩
  · have q := empty_no he
    obtain ⟨b, hb⟩ : ∃ b, targetB h = b := ⟨_, rfl⟩
    have HB := hid hb
    rw [show linkB h = b from by unfold linkB; rw [decide_eq_false he, hb]; rfl]
    clear hb he
    go_enter Tryz.func85, Tryz.ntmps85
    go_wp2_with (go_at_call 90; refine (refTarget_any _ _ hs).mono ?_; rintro e w1 ⟨rfl, hb1⟩; rw [HB.out]; (have B1 := hid hb1); clear hb1)
    go_ret
    exact ⟨rfl, B1.out⟩

set_option maxRecDepth 100000 in
set_option maxHeartbeats 4000000 in
theorem may1_any (x : Cl) (w : World) (h0 : -2147483648 ≤ x.r) (h1 : x.r ≤ 2147483647) (hs : x.h.size ≤ 1000000000) (hT : Tb w) : Calls Tryz.prog 80 #[.agg #[.int .i32 x.r, .int .i64 x.b, .string x.h]] w (IsBool (noMay x) w) := by
  have T := hid hT
  have B0 := hid ((Below.refl w.heap.size w).alloc (Nat.le_refl _) (.cells #[.int .i32 x.r, .int .i64 x.b, .string x.h] 60))
  clear hT
  cases hc : decide (2 ≤ cls x.r) with
  | true =>
    have C := hid hc
    have HM : mayC x = (!decide (x.b < 0) && (!decide (15 < x.b) && linkB x.h)) := by unfold mayC; rw [hc, Bool.true_or, Bool.true_and]
    by_cases hb0 : x.b < 0
    · have M := hid (show mayC x = false by rw [HM, decide_eq_true hb0]; rfl)
      clear HM hc
      go_enter Tryz.func80, Tryz.ntmps80
      go_wp2_with (first
        | (go_at_call 81; refine (chMay3_any _ _ h0 h1).mono ?_; rintro e w1 ⟨rfl, rfl⟩; rw [C.out]))
      go_ret
      exact ⟨ret_bo (by unfold noMay; rw [M.out]; first | rfl | (simp; omega)), B0.out⟩
    · by_cases hb1 : 15 < x.b
      · have M := hid (show mayC x = false by rw [HM, decide_eq_true hb1]; simp)
        clear HM hc
        go_enter Tryz.func80, Tryz.ntmps80
        go_wp2_with (first
          | (go_at_call 81; refine (chMay3_any _ _ h0 h1).mono ?_; rintro e w1 ⟨rfl, rfl⟩; rw [C.out]))
        go_ret
        exact ⟨ret_bo (by unfold noMay; rw [M.out]; first | rfl | (simp; omega)), B0.out⟩
      · cases hl : linkB x.h with
        | false =>
          have LK := hid hl
          have M := hid (show mayC x = false by rw [HM, hl]; simp)
          clear HM hc hl
          go_enter Tryz.func80, Tryz.ntmps80
          go_wp2_with (first
            | (go_at_call 81; refine (chMay3_any _ _ h0 h1).mono ?_; rintro e w1 ⟨rfl, rfl⟩; rw [C.out])
            | (go_at_call 82; refine (link_any _ _ hs (Utf8Tabs_below T.out B0.out)).mono ?_; rintro e w2 ⟨rfl, hb2⟩; rw [LK.out]; (have B1 := hid (B0.out.trans (hb2.mono B0.out.size))); clear hb2))
          go_ret
          exact ⟨ret_bo (by unfold noMay; rw [M.out]; first | rfl | (simp; omega)), B1.out⟩
        | true =>
          have LK := hid hl
          have M := hid (show mayC x = true by rw [HM, hl, decide_eq_false hb0, decide_eq_false hb1]; rfl)
          clear HM hc hl
          go_enter Tryz.func80, Tryz.ntmps80
          go_wp2_with (first
            | (go_at_call 81; refine (chMay3_any _ _ h0 h1).mono ?_; rintro e w1 ⟨rfl, rfl⟩; rw [C.out])
            | (go_at_call 82; refine (link_any _ _ hs (Utf8Tabs_below T.out B0.out)).mono ?_; rintro e w2 ⟨rfl, hb2⟩; rw [LK.out]; (have B1 := hid (B0.out.trans (hb2.mono B0.out.size))); clear hb2))
          go_ret
          exact ⟨ret_bo (by unfold noMay; rw [M.out]; first | rfl | (simp; omega)), B1.out⟩
  | false =>
    have C := hid hc
    by_cases h10 : x.r = 10
    · have r10 : (x.r != 10) = false := by rw [h10]; rfl
      have r10' : (x.r == 10) = true := by rw [h10]; rfl
      have H10 := hid h10
      have HM : mayC x = (!decide (x.b < 0) && (!decide (15 < x.b) && linkB x.h)) := by unfold mayC; rw [decide_eq_true h10, Bool.or_true, Bool.true_and]
      by_cases hb0 : x.b < 0
      · have M := hid (show mayC x = false by rw [HM, decide_eq_true hb0]; rfl)
        clear HM hc h10
        go_enter Tryz.func80, Tryz.ntmps80
        go_wp2_with (first
          | (go_at_call 81; refine (chMay3_any _ _ h0 h1).mono ?_; rintro e w1 ⟨rfl, rfl⟩; rw [C.out]))
        go_ret
        exact ⟨ret_bo (by unfold noMay; rw [M.out]; first | rfl | (simp; omega)), B0.out⟩
      · by_cases hb1 : 15 < x.b
        · have M := hid (show mayC x = false by rw [HM, decide_eq_true hb1]; simp)
          clear HM hc h10
          go_enter Tryz.func80, Tryz.ntmps80
          go_wp2_with (first
            | (go_at_call 81; refine (chMay3_any _ _ h0 h1).mono ?_; rintro e w1 ⟨rfl, rfl⟩; rw [C.out]))
          go_ret
          exact ⟨ret_bo (by unfold noMay; rw [M.out]; first | rfl | (simp; omega)), B0.out⟩
        · cases hl : linkB x.h with
          | false =>
            have LK := hid hl
            have M := hid (show mayC x = false by rw [HM, hl]; simp)
            clear HM hc h10 hl
            go_enter Tryz.func80, Tryz.ntmps80
            go_wp2_with (first
              | (go_at_call 81; refine (chMay3_any _ _ h0 h1).mono ?_; rintro e w1 ⟨rfl, rfl⟩; rw [C.out])
              | (go_at_call 82; refine (link_any _ _ hs (Utf8Tabs_below T.out B0.out)).mono ?_; rintro e w2 ⟨rfl, hb2⟩; rw [LK.out]; (have B1 := hid (B0.out.trans (hb2.mono B0.out.size))); clear hb2))
            go_ret
            exact ⟨ret_bo (by unfold noMay; rw [M.out]; first | rfl | (simp; omega)), B1.out⟩
          | true =>
            have LK := hid hl
            have M := hid (show mayC x = true by rw [HM, hl, decide_eq_false hb0, decide_eq_false hb1]; rfl)
            clear HM hc h10 hl
            go_enter Tryz.func80, Tryz.ntmps80
            go_wp2_with (first
              | (go_at_call 81; refine (chMay3_any _ _ h0 h1).mono ?_; rintro e w1 ⟨rfl, rfl⟩; rw [C.out])
              | (go_at_call 82; refine (link_any _ _ hs (Utf8Tabs_below T.out B0.out)).mono ?_; rintro e w2 ⟨rfl, hb2⟩; rw [LK.out]; (have B1 := hid (B0.out.trans (hb2.mono B0.out.size))); clear hb2))
            go_ret
            exact ⟨ret_bo (by unfold noMay; rw [M.out]; first | rfl | (simp; omega)), B1.out⟩
    · have r10 : (x.r != 10) = true := by rw [bne_iff_ne]; exact h10
      have r10' : (x.r == 10) = false := by rw [beq_eq_false_iff_ne]; exact h10
      have M := hid (show mayC x = false by unfold mayC; rw [hc, decide_eq_false h10]; rfl)
      clear hc h10
      go_enter Tryz.func80, Tryz.ntmps80
      go_wp2_with (first
        | (go_at_call 81; refine (chMay3_any _ _ h0 h1).mono ?_; rintro e w1 ⟨rfl, rfl⟩; rw [C.out]))
      go_ret
      exact ⟨ret_bo (by unfold noMay; rw [M.out]; first | rfl | (simp; omega)), B0.out⟩

/-! ### the first cell of a kind -/
def idxC (p : Cl → Bool) (cs : List Cl) : Int := match cs.findIdx? p with | some i => (i : Int) | none => -1
def NoneTo (p : Cl → Bool) (cs : List Cl) (k : Nat) : Prop := ∀ j y, j < k → cs[j]? = some y → p y = false
theorem findIdx_at {p : Cl → Bool} : ∀ {cs : List Cl} {k : Nat} {x : Cl}, cs[k]? = some x → p x = true → NoneTo p cs k → cs.findIdx? p = some k
  | [], _, _, h, _, _ => by simp at h
  | y :: ys, 0, x, h, e, _ => by
    simp at h; subst h
    rw [List.findIdx?_cons, e]; rfl
  | y :: ys, k + 1, x, h, e, hn => by
    have h0 : p y = false := hn 0 y (by omega) rfl
    have ih := findIdx_at (p := p) (cs := ys) (k := k) (x := x) (by simpa using h) e fun j z hj hz => hn (j + 1) z (by omega) (by simpa using hz)
    rw [List.findIdx?_cons, h0, ih]; rfl
theorem idxC_at {p : Cl → Bool} {cs : List Cl} {k : Nat} {x : Cl} (h : cs[k]? = some x) (e : p x = true) (hn : NoneTo p cs k) : idxC p cs = (k : Int) := by unfold idxC; rw [findIdx_at h e hn]
theorem idxC_none {p : Cl → Bool} {cs : List Cl} (hn : NoneTo p cs cs.length) : idxC p cs = -1 := by
  have : cs.findIdx? p = none := by
    rw [List.findIdx?_eq_none_iff]
    intro x hx
    obtain ⟨k, hk, rfl⟩ := List.getElem_of_mem hx
    exact hn k _ hk (List.getElem?_eq_getElem hk)
  unfold idxC; rw [this]
theorem NoneTo.succ {p : Cl → Bool} {cs : List Cl} {k : Nat} {x : Cl} (h : NoneTo p cs k) (hx : cs[k]? = some x) (e : p x = false) : NoneTo p cs (k + 1) := fun j y hj hy => by
  rcases Nat.lt_or_ge j k with h3 | h3
  · exact h j y h3 hy
  · obtain rfl : j = k := by omega
    rw [hx] at hy; injection hy with hy
    rw [← hy]; exact e
theorem idxC_any (p : Cl → Bool) (cs : List Cl) : decide (0 ≤ idxC p cs) = cs.any p := by
  unfold idxC
  cases h : cs.findIdx? p with
  | none =>
    rw [List.findIdx?_eq_none_iff] at h
    have : cs.any p = false := by rw [List.any_eq_false]; intro x hx; rw [h x hx]; simp
    rw [this]; rfl
  | some i =>
    have hi := List.findIdx?_eq_some_iff_getElem.1 h
    obtain ⟨hlt, hp, _⟩ := hi
    have : cs.any p = true := List.any_eq_true.2 ⟨_, List.getElem_mem hlt, hp⟩
    rw [this]
    exact decide_eq_true (show (0 : Int) ≤ (i : Int) by omega)
theorem any_noMay (cs : List Cl) : (!cs.any noMay) = mayCs cs := by
  unfold mayCs noMay
  induction cs with
  | nil => rfl
  | cons x xs ih => rw [List.any_cons, List.all_cons, ← ih]; cases mayC x <;> simp
def IsIntC (x : Int) (w : World) (e : Ending) (w' : World) : Prop := e = .returned (.int .i64 x) ∧ Below w.heap.size w w'
def FineC (cs : List Cl) : Prop := ∀ x ∈ cs, -2147483648 ≤ x.r ∧ x.r ≤ 2147483647 ∧ x.h.size ≤ 1000000000
theorem ret_inC {k : IntKind} {a b : Int} (h : a = b) : Ending.returned (.int k a) = .returned (.int k b) := by rw [h]

set_option maxRecDepth 100000 in
set_option maxHeartbeats 4000000 in
theorem indexMay_any (A : Option Addr) (cs : List Cl) (n c B : Nat) (hn : n = cs.length) (w : World) (hA : SlAt encC 3 w B A cs) (hl : cs.length ≤ 1000000000) (hf : FineC cs) (hT : Tb w) :
    Calls Tryz.prog 86 #[.slice A n c, .func (.func 80) #[] #[]] w (IsIntC (idxC noMay cs) w) := by
  subst hn
  have hS := hid (hA.live (fun _ => by rw [encC_len]; omega))
  have T := hid hT
  have F := hid hf
  obtain ⟨x, hx⟩ : ∃ x, idxC noMay cs = x := ⟨_, rfl⟩
  have HX := hid hx
  rw [hx]
  clear hT hf hx hA
  go_enter Tryz.func86, Tryz.ntmps86
  go_wp2_with fail
  go_loopw [8] (fun i wr => ∃ k : Nat, k ≤ cs.length ∧ i = .int .i64 k ∧ Hid (NoneTo noMay cs k) ∧ Below w.heap.size w wr) (fun i _ => cs.length - (intOf i).toNat)
  case atStart => exact ⟨0, Nat.zero_le _, rfl, (fun j _ h => absurd h (by omega)), Below.refl _ _⟩
  case round =>
    obtain ⟨k, hk, rfl, hno, hbr⟩ := hrel
    have HB := hid hbr
    by_cases hlt : k < cs.length
    · obtain ⟨ad, x, rfl, -, hx, x0, x1, x2⟩ := (hS.out.below hbr).atC hlt
      have hi1 : (k : Int) < (cs.length : Int) := by omega
      have ff := hid (F.out x (List.mem_of_getElem? hx))
      clear hbr
      cases hp : noMay x with
      | true =>
        have E := hid (idxC_at hx hp hno.out)
        have HP := hid hp
        clear hx hp
        go_wp2_with (go_at_call 80; refine (may1_any x _ ff.out.1 ff.out.2.1 ff.out.2.2 (Utf8Tabs_below T.out HB.out)).mono ?_; rintro e w1 ⟨rfl, hb1⟩; rw [HP.out]; (have B1 := hid hb1); clear hb1)
        go_ret
        exact ⟨ret_inC (E.out.symm.trans HX.out), HB.out.trans (B1.out.mono HB.out.size)⟩
      | false =>
        have N1 := hid (hno.out.succ hx hp)
        have HP := hid hp
        clear hx hp
        go_wp2_with (go_at_call 80; refine (may1_any x _ ff.out.1 ff.out.2.1 ff.out.2.2 (Utf8Tabs_below T.out HB.out)).mono ?_; rintro e w1 ⟨rfl, hb1⟩; rw [HP.out]; (have B1 := hid hb1); clear hb1)
        go_roundw
        case rel => exact ⟨k + 1, by omega, by go_num, N1.out, HB.out.trans (B1.out.mono HB.out.size)⟩
        case measure => simp [intOf]; omega
    · obtain rfl : k = cs.length := by omega
      have E := hid (idxC_none hno.out)
      clear hbr
      go_wp2_with fail
      go_ret
      exact ⟨ret_inC (E.out.symm.trans HX.out), HB.out⟩

set_option maxHeartbeats 1000000 in
theorem mayCells_any (A : Option Addr) (cs : List Cl) (n c B : Nat) (hn : n = cs.length) (w : World) (hA : SlAt encC 3 w B A cs) (hl : cs.length ≤ 1000000000) (hf : FineC cs) (hT : Tb w) :
    Calls Tryz.prog 72 #[.slice A n c] w (IsBool (mayCs cs) w) := by
  subst hn
  have HS := hid hA
  have T := hid hT
  have F := hid hf
  rw [← any_noMay, ← idxC_any]
  obtain ⟨x, hx⟩ : ∃ x, idxC noMay cs = x := ⟨_, rfl⟩
  have HX := hid hx
  rw [hx]
  clear hT hf hx hA
  have key : Calls Tryz.prog 79 #[.slice A cs.length c, .func (.func 80) #[] #[]] w (IsBool (decide (0 ≤ x)) w) := by
    go_enter Tryz.func79, Tryz.ntmps79
    go_wp2_with (go_at_call 86; refine (indexMay_any A cs _ c _ rfl _ HS.out hl F.out T.out).mono ?_; rintro e w1 ⟨rfl, hb1⟩; rw [HX.out]; (have B1 := hid hb1); clear hb1)
    go_ret
    exact ⟨rfl, B1.out⟩
  have KEY := hid key
  clear key
  go_enter Tryz.func72, Tryz.ntmps72
  go_wp2_with (go_at_call 79; refine KEY.out.mono ?_; rintro e w1 ⟨rfl, hb1⟩; (have B1 := hid hb1); clear hb1)
  go_ret
  exact ⟨ret_bo (by first | rfl | simp), B1.out⟩

/-! ### the reference's May -/
theorem mayCs_no {cs : List Cl} {k : Nat} {x : Cl} (hx : cs[k]? = some x) (h : mayC x = false) : mayCs cs = false := by
  unfold mayCs; rw [List.all_eq_false]; exact ⟨x, List.mem_of_getElem? hx, by rw [h]; simp⟩
theorem mayCs_to {cs : List Cl} {k : Nat} {x : Cl} (h : mayCs (cs.take k) = true) (hx : cs[k]? = some x) (hm : mayC x = true) : mayCs (cs.take (k + 1)) = true := by
  unfold mayCs at *; rw [take_snoc' hx, List.all_append, h]; simp [hm]
set_option maxRecDepth 100000 in
set_option maxHeartbeats 8000000 in
theorem refMayCells_any (A : Option Addr) (cs : List Cl) (n c B : Nat) (hn : n = cs.length) (w : World) (hA : SlAt encC 3 w B A cs) (hl : cs.length ≤ 1000000000) (hf : FineC cs) :
    Calls Tryz.prog 75 #[.slice A n c] w (IsBool (mayCs cs) w) := by
  subst hn
  have hS := hid (hA.live (fun _ => by rw [encC_len]; omega))
  have F := hid hf
  obtain ⟨r, hr⟩ : ∃ r, mayCs cs = r := ⟨_, rfl⟩
  have HR := hid hr
  rw [hr]
  clear hf hr hA
  go_enter Tryz.func75, Tryz.ntmps75
  go_wp2_with fail
  go_loopw [3] (fun i wr => ∃ k : Nat, k ≤ cs.length ∧ i = .int .i64 k ∧ Hid (mayCs (cs.take k) = true) ∧ Below w.heap.size w wr) (fun i _ => cs.length - (intOf i).toNat)
  case atStart => exact ⟨0, Nat.zero_le _, rfl, rfl, Below.refl _ _⟩
  case round =>
    obtain ⟨k, hk, rfl, hto, hbr⟩ := hrel
    have HB := hid hbr
    by_cases hlt : k < cs.length
    · obtain ⟨ad, x, rfl, -, hx, x0, x1, x2⟩ := (hS.out.below hbr).atC hlt
      have hi1 : (k : Int) < (cs.length : Int) := by omega
      obtain ⟨h0, h1, hs⟩ := F.out x (List.mem_of_getElem? hx)
      have HX := hid hx
      have B0 := hid (HB.out.alloc HB.out.size (.cells #[.int .i32 x.r, .int .i64 x.b, .string x.h] 60))
      clear hbr hx
      cases hc : decide (2 ≤ cls x.r) with
      | true =>
        have C := hid hc
        have HM : mayC x = (!decide (x.b < 0) && (!decide (15 < x.b) && linkB x.h)) := by unfold mayC; rw [hc, Bool.true_or, Bool.true_and]
        have n10 : x.r ≠ 10 := fun e => by rw [e] at hc; revert hc; decide
        have r10 : (x.r != 10) = true := by rw [bne_iff_ne]; exact n10
        have r10' : (x.r == 10) = false := by rw [beq_eq_false_iff_ne]; exact n10
        clear n10
        by_cases hb0 : x.b < 0
        · have M := hid (show mayC x = false by rw [HM, decide_eq_true hb0]; rfl)
          clear HM hc
          go_wp2_with (first
            | (go_at_call 84; refine (refMay3_any _ _ h0 h1).mono ?_; rintro e w1 ⟨rfl, rfl⟩; rw [C.out]))
          go_ret
          exact ⟨ret_bo (HR.out.symm.trans (mayCs_no HX.out M.out)).symm, B0.out⟩
        · by_cases hb1 : 15 < x.b
          · have M := hid (show mayC x = false by rw [HM, decide_eq_true hb1]; simp)
            clear HM hc
            go_wp2_with (first
              | (go_at_call 84; refine (refMay3_any _ _ h0 h1).mono ?_; rintro e w1 ⟨rfl, rfl⟩; rw [C.out]))
            go_ret
            exact ⟨ret_bo (HR.out.symm.trans (mayCs_no HX.out M.out)).symm, B0.out⟩
          · cases hl : linkB x.h with
            | false =>
              have LK := hid hl
              have M := hid (show mayC x = false by rw [HM, hl]; simp)
              clear HM hc hl
              go_wp2_with (first
                | (go_at_call 84; refine (refMay3_any _ _ h0 h1).mono ?_; rintro e w1 ⟨rfl, rfl⟩; rw [C.out])
                | (go_at_call 85; refine (refLink_any _ _ hs).mono ?_; rintro e w2 ⟨rfl, hb2⟩; rw [LK.out]; (have B1 := hid (B0.out.trans (hb2.mono B0.out.size))); clear hb2))
              go_ret
              exact ⟨ret_bo (HR.out.symm.trans (mayCs_no HX.out M.out)).symm, B1.out⟩
            | true =>
              have LK := hid hl
              have M := hid (show mayC x = true by rw [HM, hl, decide_eq_false hb0, decide_eq_false hb1]; rfl)
              clear HM hc hl
              go_wp2_with (first
                | (go_at_call 84; refine (refMay3_any _ _ h0 h1).mono ?_; rintro e w1 ⟨rfl, rfl⟩; rw [C.out])
                | (go_at_call 85; refine (refLink_any _ _ hs).mono ?_; rintro e w2 ⟨rfl, hb2⟩; rw [LK.out]; (have B1 := hid (B0.out.trans (hb2.mono B0.out.size))); clear hb2))
              go_roundw
              case rel => exact ⟨k + 1, by omega, by go_num, mayCs_to hto.out HX.out M.out, B1.out⟩
              case measure => simp [intOf]; omega
      | false =>
        have C := hid hc
        by_cases h10 : x.r = 10
        · have r10 : (x.r != 10) = false := by rw [h10]; rfl
          have r10' : (x.r == 10) = true := by rw [h10]; rfl
          have H10 := hid h10
          have HM : mayC x = (!decide (x.b < 0) && (!decide (15 < x.b) && linkB x.h)) := by unfold mayC; rw [decide_eq_true h10, Bool.or_true, Bool.true_and]
          by_cases hb0 : x.b < 0
          · have M := hid (show mayC x = false by rw [HM, decide_eq_true hb0]; rfl)
            clear HM hc h10
            go_wp2_with (first
              | (go_at_call 84; refine (refMay3_any _ _ h0 h1).mono ?_; rintro e w1 ⟨rfl, rfl⟩; rw [C.out]))
            go_ret
            exact ⟨ret_bo (HR.out.symm.trans (mayCs_no HX.out M.out)).symm, B0.out⟩
          · by_cases hb1 : 15 < x.b
            · have M := hid (show mayC x = false by rw [HM, decide_eq_true hb1]; simp)
              clear HM hc h10
              go_wp2_with (first
                | (go_at_call 84; refine (refMay3_any _ _ h0 h1).mono ?_; rintro e w1 ⟨rfl, rfl⟩; rw [C.out]))
              go_ret
              exact ⟨ret_bo (HR.out.symm.trans (mayCs_no HX.out M.out)).symm, B0.out⟩
            · cases hl : linkB x.h with
              | false =>
                have LK := hid hl
                have M := hid (show mayC x = false by rw [HM, hl]; simp)
                clear HM hc h10 hl
                go_wp2_with (first
                  | (go_at_call 84; refine (refMay3_any _ _ h0 h1).mono ?_; rintro e w1 ⟨rfl, rfl⟩; rw [C.out])
                  | (go_at_call 85; refine (refLink_any _ _ hs).mono ?_; rintro e w2 ⟨rfl, hb2⟩; rw [LK.out]; (have B1 := hid (B0.out.trans (hb2.mono B0.out.size))); clear hb2))
                go_ret
                exact ⟨ret_bo (HR.out.symm.trans (mayCs_no HX.out M.out)).symm, B1.out⟩
              | true =>
                have LK := hid hl
                have M := hid (show mayC x = true by rw [HM, hl, decide_eq_false hb0, decide_eq_false hb1]; rfl)
                clear HM hc h10 hl
                go_wp2_with (first
                  | (go_at_call 84; refine (refMay3_any _ _ h0 h1).mono ?_; rintro e w1 ⟨rfl, rfl⟩; rw [C.out])
                  | (go_at_call 85; refine (refLink_any _ _ hs).mono ?_; rintro e w2 ⟨rfl, hb2⟩; rw [LK.out]; (have B1 := hid (B0.out.trans (hb2.mono B0.out.size))); clear hb2))
                go_roundw
                case rel => exact ⟨k + 1, by omega, by go_num, mayCs_to hto.out HX.out M.out, B1.out⟩
                case measure => simp [intOf]; omega
        · have r10 : (x.r != 10) = true := by rw [bne_iff_ne]; exact h10
          have r10' : (x.r == 10) = false := by rw [beq_eq_false_iff_ne]; exact h10
          have M := hid (show mayC x = false by unfold mayC; rw [hc, decide_eq_false h10]; rfl)
          clear hc h10
          go_wp2_with (first
            | (go_at_call 84; refine (refMay3_any _ _ h0 h1).mono ?_; rintro e w1 ⟨rfl, rfl⟩; rw [C.out]))
          go_ret
          exact ⟨ret_bo (HR.out.symm.trans (mayCs_no HX.out M.out)).symm, B0.out⟩
    · have E := hid (show r = true by rw [← HR.out]; have := hto.out; rwa [List.take_of_length_le (by omega)] at this)
      clear hbr
      go_wp2_with fail
      go_ret
      exact ⟨ret_bo E.out.symm, HB.out⟩

end Go.Proofs.YtblbfoniimnkcaaGreatDoor
