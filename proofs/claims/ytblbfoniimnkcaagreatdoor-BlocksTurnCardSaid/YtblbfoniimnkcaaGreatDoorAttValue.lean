/- The walks of attrs.Value and of the reference's Value. -/
import Derived.Test.YtblbfoniimnkcaaGreatDoorLnAttA
import Derived.Test.YtblbfoniimnkcaaGreatDoorShelf
import Derived.Laws.Cover4
import Derived.WalkSmall
namespace Go.Proofs.YtblbfoniimnkcaaGreatDoor
open Go.RowKit Go.Lib

abbrev Tb (w : World) : Prop := Lib.Utf8Tabs 0 1 w
set_option maxHeartbeats 400000 in
theorem refMay3_any (c : Int) (w : World) (h0 : -2147483648 ≤ c) (h1 : c ≤ 2147483647) :
    Calls Tryz.prog 84 #[.int .i32 c] w fun e w' => e = .returned (.bool (decide (2 ≤ cls c))) ∧ w = w' := by
  have hr := cls_range c
  go_enter Tryz.func84, Tryz.ntmps84
  go_wp2_with (go_at_call 89; refine (refClass_any _ _ h0 h1).mono ?_; rintro e w' ⟨rfl, rfl⟩)
  go_ret
  exact ⟨rfl, rfl⟩
set_option maxHeartbeats 400000 in
theorem chMay3_any (c : Int) (w : World) (h0 : -2147483648 ≤ c) (h1 : c ≤ 2147483647) :
    Calls Tryz.prog 81 #[.int .i32 c] w fun e w' => e = .returned (.bool (decide (2 ≤ cls c))) ∧ w = w' := by
  have hr := cls_range c
  go_enter Tryz.func81, Tryz.ntmps81
  go_wp2_with (go_at_call 87; refine (class_any _ _ h0 h1).mono ?_; rintro e w' ⟨rfl, rfl⟩)
  go_ret
  exact ⟨by refine ret_bo ?_; rw [Bool.eq_iff_iff]; simp; omega, rfl⟩
def RetRow3 (w : World) (xs : List Int) (e : Ending) (w' : World) : Prop := ∃ v, e = .returned v ∧ Own encR 1 21 w' w.heap.size v xs ∧ Below w.heap.size w w'
set_option maxHeartbeats 400000 in
theorem refRunes3_any (s : ByteArray) (w : World) (hs : s.size ≤ 1000000000) :
    Calls Tryz.prog 107 #[.string s] w (RetRow3 w (runes s)) := by
  obtain ⟨c, o, hr, ho⟩ := run_runes Tryz.prog 9 111 21 s Tryz.underlying9 Tryz.underlying111 Tryz.underlying21 (by omega) w
  go_enter Tryz.func107, Tryz.ntmps107
  go_wp2
  go_ret
  exact ⟨_, rfl, ho, (Below.refl _ _).drew.alloc (Nat.le_refl _) _⟩
theorem run_text3 (P : Program) (src dst e : TypeId) (A : Option Addr) (xs : List Int) (c B : Nat) (w : World) (hs : P.underlying src = some (.slice e)) (he : P.underlying e = some (.int .i32)) (hd : P.underlying dst = some .string) (h : SlAt encR 1 w B A xs) :
    (convert src dst (.slice A xs.length c)).run P w = .ok (.string (runesBytes xs)) w := by
  cases xs with
  | nil =>
    cases A with
    | none => exact run_convert_runes_nil w src dst e _ _ hs he hd
    | some ad => exact run_convert_runes w src dst e ad _ c [] (Nat.le_refl _) hs he hd (fun j hj => by simp at hj)
  | cons x xs =>
    obtain ⟨ad, rfl, _, hc⟩ := h (by simp)
    have := run_convert_runes (P := P) w src dst e ad (x :: xs).length c (x :: xs) (Nat.le_refl _) hs he hd (fun j hj => by
      have := hc j _ (List.getElem?_eq_getElem hj) 0 _ rfl
      rw [add_zero', Nat.mul_one] at this
      rw [this, List.getD, List.getElem?_eq_getElem hj]
      rfl)
    rw [List.take_of_length_le (Nat.le_refl _)] at this
    exact this

def mayB (l : List Int) : Bool := l.all fun c => decide (2 ≤ cls c)
theorem valueB_eq (s : ByteArray) : valueB s = (mayB (runes s) && (decide (s.size ≤ 200) && validD s.data.toList)) := rfl
theorem mayB_at {l pre rest : List Int} {c : Int} (h : l = pre ++ c :: rest) (hc : decide (2 ≤ cls c) = false) : mayB l = false := by
  subst h
  unfold mayB
  rw [List.all_append, List.all_cons, hc, Bool.false_and, Bool.and_false]
theorem mayB_snoc {pre : List Int} {c : Int} (h : mayB pre = true) (hc : decide (2 ≤ cls c) = true) : mayB (pre ++ [c]) = true := by
  unfold mayB at h ⊢
  rw [List.all_append, h, List.all_cons, hc]; rfl

set_option maxRecDepth 100000 in
set_option maxHeartbeats 4000000 in
theorem value_any (s : ByteArray) (w : World) (hs : s.size ≤ 1000000000) (hT : Tb w) : Calls Tryz.prog 95 #[.string s] w (IsBool (valueB s) w) := by
  obtain ⟨r, hr⟩ : ∃ r, valueB s = r := ⟨_, rfl⟩
  have R := hid hr
  have T := hid hT
  rw [hr]
  clear hr hT
  go_enter Tryz.func95, Tryz.ntmps95
  go_wp2
  go_loopw [4] (fun _ wr => ∃ p pre, Hid (runes s = pre ++ decFrom s p) ∧ Hid (mayB pre = true) ∧ wr.heap[w.heap.size]? = some (.stringIter s p) ∧ Below w.heap.size w wr)
    (fun _ wr => s.size - wr.iterPos w.heap.size)
  case atStart => exact ⟨0, [], rfl, rfl, World.iter_heap w s 0, (Below.refl _ _).alloc (Nat.le_refl _) _⟩
  case round =>
    obtain ⟨p, pre, hpre, hmay, hit, hbw⟩ := hrel
    have hsz : w.heap.size < wr.heap.size := (Array.getElem?_eq_some_iff.1 hit).1
    by_cases hp : p < s.size
    · have hnx : ∀ ty, (Instr.next (.pointer (some ⟨w.heap.size, 0, none⟩)) true ty).run Tryz.prog wr = _ := fun ty => Lib.run_next_any_at wr w.heap.size s p ty hit hp
      have hwd := decode_width s p
      have hd1 := decode_range s p
      have hit2 := Lib.iterAt_heap wr w.heap.size s p (p + (Utf8.decode s p).2) hit
      have hbw2 := hid (Lib.below_iterAt hbw (k := w.heap.size) (by omega) s (p + (Utf8.decode s p).2))
      have hcons : runes s = pre ++ ((Utf8.decode s p).1 : Int) :: decFrom s (p + (Utf8.decode s p).2) := by rw [← decFrom_lt s p hp]; exact hpre.out
      have hnext := hid (show runes s = (pre ++ [((Utf8.decode s p).1 : Int)]) ++ decFrom s (p + (Utf8.decode s p).2) by rw [List.append_assoc]; exact hcons)
      cases hb : decide (2 ≤ cls ((Utf8.decode s p).1 : Int)) with
      | true =>
        have HM := hid (mayB_snoc hmay.out hb)
        have HBB := hid hb
        have fin : ∀ W : World, W = wr.iterAt w.heap.size s (p + (Utf8.decode s p).2) → s.size - W.iterPos w.heap.size < s.size - wr.iterPos w.heap.size := fun W hW => by
          subst hW
          simp only [World.iterPos, hit2, hit]
          omega
        have FIN := hid fin
        have IT2 := hid hit2
        clear hb hcons fin hit2 hit
        go_wp2_with (go_at_call 81; refine (chMay3_any _ _ (by omega) (by omega)).mono ?_; rintro e w' ⟨rfl, rfl⟩; rw [HBB.out])
        go_roundw
        case rel => exact ⟨_, _, hnext, HM, IT2.out, hbw2.out⟩
        case measure => exact FIN.out _ rfl
      | false =>
        have E := hid (show r = false from by rw [← R.out, valueB_eq, mayB_at hcons hb]; rfl)
        have HBB := hid hb
        clear hb hcons hit2 hit
        go_wp2_with (go_at_call 81; refine (chMay3_any _ _ (by omega) (by omega)).mono ?_; rintro e w' ⟨rfl, rfl⟩; rw [HBB.out])
        go_ret
        exact ⟨ret_bo E.out.symm, hbw2.out⟩
    · have hnx : ∀ ty, (Instr.next (.pointer (some ⟨w.heap.size, 0, none⟩)) true ty).run Tryz.prog wr = _ := fun ty => Lib.run_next_end_at wr w.heap.size s p ty hit hp
      have hend : mayB (runes s) = true := by
        have := hpre.out
        rw [decFrom_ge s p (by omega), List.append_nil] at this
        rw [this]
        exact hmay.out
      have hrr : r = (decide (s.size ≤ 200) && validD s.data.toList) := by rw [← R.out, valueB_eq, hend, Bool.true_and]
      have HB := hid hbw
      obtain ⟨v, hv⟩ : ∃ v, validD s.data.toList = v := ⟨_, rfl⟩
      have HV := hid hv
      rw [hv] at hrr
      clear hv hit
      by_cases h2 : s.size ≤ 200
      · have h2' : (s.size : Int) ≤ 200 := by omega
        have E := hid (show r = v from by rw [hrr, decide_eq_true h2, Bool.true_and])
        clear hrr hend hbw
        go_wp2_with (go_at_call 106; refine (Tryz.utf8_ValidString s _ (by omega) (Utf8Tabs_below T.out HB.out)).mono ?_; rintro e w2 ⟨rfl, hb2⟩; rw [HV.out]; (have B2 := hid hb2); clear hb2)
        go_ret
        exact ⟨ret_bo E.out.symm, HB.out.trans (B2.out.mono HB.out.size)⟩
      · have h2' : ¬ (s.size : Int) ≤ 200 := by omega
        have E := hid (show r = false from by rw [hrr, decide_eq_false h2, Bool.false_and])
        clear hrr hend hbw
        go_wp2
        go_ret
        exact ⟨ret_bo E.out.symm, HB.out⟩

set_option maxRecDepth 100000 in
set_option maxHeartbeats 4000000 in
theorem refValue_any (s : ByteArray) (w : World) (hs : s.size ≤ 1000000000) : Calls Tryz.prog 96 #[.string s] w (IsBool (valueB s) w) := by
  obtain ⟨r, hr⟩ : ∃ r, valueB s = r := ⟨_, rfl⟩
  have R := hid hr
  have hlr := length_runes s
  have hvi := valid_iff s
  rw [hr]
  by_cases h2 : 200 < s.size
  · have h2' : 200 < (s.size : Int) := by omega
    have E := hid (show r = false from by rw [← hr, valueB_eq, decide_eq_false (by omega), Bool.false_and, Bool.and_false])
    clear hr hvi
    go_enter Tryz.func96, Tryz.ntmps96
    go_wp2_with (go_at_call 107; refine (refRunes3_any s _ hs).mono ?_; rintro e w1 ⟨v1, rfl, ho1, hb1⟩; (have B1 := hid hb1); clear ho1 hb1)
    go_ret
    exact ⟨ret_bo E.out.symm, B1.out⟩
  · have h2' : ¬ 200 < (s.size : Int) := by omega
    obtain ⟨t, ht⟩ : ∃ t, runesBytes (runes s) = t := ⟨_, rfl⟩
    have HT := hid ht
    by_cases hv : validD s.data.toList = true
    · have hts : t = s := by rw [← ht]; exact hvi.1 hv
      have HTS := hid hts
      have hrr := hid (show r = mayB (runes s) by rw [← hr, valueB_eq, decide_eq_true (by omega), hv, Bool.true_and, Bool.and_true])
      have hcmp : (s.toList != s.toList) = false := by simp
      clear hr hvi ht hts hv
      go_enter Tryz.func96, Tryz.ntmps96
      go_wp2_with (go_at_call 107; refine (refRunes3_any s _ hs).mono ?_; rintro e w1 ⟨v1, rfl, ho1, hb1⟩; obtain ⟨A1, c1, rfl, -, -, -, hS1⟩ := ho1.form encR_len; (have B1 := hid hb1); (have S1 := hid hS1); (have hconv : (convert 111 9 (.slice A1 (runes s).length c1)).run Tryz.prog w1 = .ok (.string s) w1 := by (have := run_text3 Tryz.prog 111 9 21 A1 (runes s) c1 _ w1 Tryz.underlying111 Tryz.underlying21 Tryz.underlying9 hS1); rw [HT.out, HTS.out] at this; exact this); clear ho1 hb1 hS1)
      go_loopw [4] (fun i wr => ∃ k : Nat, k ≤ (runes s).length ∧ i = .int .i64 k ∧ Hid (mayB ((runes s).take k) = true) ∧ wr = w1) (fun i _ => (runes s).length - (intOf i).toNat)
      case atStart => exact ⟨0, Nat.zero_le _, rfl, rfl, rfl⟩
      case round =>
        obtain ⟨k, hk, rfl, hm, rfl⟩ := hrel
        by_cases hlt : k < (runes s).length
        · obtain ⟨ad, c, rfl, -, hx, x0⟩ := S1.out.atR hlt
          have hrg := runes_range s c (List.mem_of_getElem? hx)
          have hi1 : (k : Int) < ((runes s).length : Int) := by omega
          cases hb : decide (2 ≤ cls c) with
          | true =>
            have HM := hid (show mayB ((runes s).take (k + 1)) = true by rw [take_snoc' hx]; exact mayB_snoc hm.out hb)
            have HBB := hid hb
            clear hx hb
            go_wp2_with (go_at_call 84; refine (refMay3_any _ _ (by omega) (by omega)).mono ?_; rintro e w' ⟨rfl, rfl⟩; rw [HBB.out])
            go_roundw
            case rel => exact ⟨k + 1, by omega, by go_num, HM, by first | rfl | trivial⟩
            case measure => simp [intOf]; omega
          | false =>
            have E := hid (show r = false from by
              rw [hrr.out]
              have e1 : runes s = (runes s).take k ++ c :: (runes s).drop (k + 1) := by
                have := List.take_append_drop (k + 1) (runes s)
                rw [take_snoc' hx, List.append_assoc] at this
                exact this.symm
              exact mayB_at e1 hb)
            have HBB := hid hb
            clear hx hb
            go_wp2_with (go_at_call 84; refine (refMay3_any _ _ (by omega) (by omega)).mono ?_; rintro e w' ⟨rfl, rfl⟩; rw [HBB.out])
            go_ret
            exact ⟨ret_bo E.out.symm, B1.out⟩
        · have E := hid (show r = true from by rw [hrr.out]; have := hm.out; rwa [List.take_of_length_le (by omega)] at this)
          go_wp2
          go_ret
          exact ⟨ret_bo E.out.symm, B1.out⟩
    · have hts : t ≠ s := fun e => hv (hvi.2 (ht.trans e))
      have E := hid (show r = false from by
        rw [← hr, valueB_eq]
        have : validD s.data.toList = false := by simpa using hv
        rw [this, Bool.and_false, Bool.and_false])
      have hcmp : (t.toList == s.toList) = false := by
        rw [beq_eq_false_iff_ne, ByteArray.toList_eq, ByteArray.toList_eq]
        intro e
        exact hts (by cases t; cases s; simp at e; rw [e])
      clear hr hvi ht hts hv
      go_enter Tryz.func96, Tryz.ntmps96
      go_wp2_with (go_at_call 107; refine (refRunes3_any s _ hs).mono ?_; rintro e w1 ⟨v1, rfl, ho1, hb1⟩; obtain ⟨A1, c1, rfl, -, -, -, hS1⟩ := ho1.form encR_len; (have B1 := hid hb1); (have hconv : (convert 111 9 (.slice A1 (runes s).length c1)).run Tryz.prog w1 = .ok (.string t) w1 := by (have := run_text3 Tryz.prog 111 9 21 A1 (runes s) c1 _ w1 Tryz.underlying111 Tryz.underlying21 Tryz.underlying9 hS1); rw [HT.out] at this; exact this); clear ho1 hb1 hS1)
      go_ret
      exact ⟨ret_bo E.out.symm, B1.out⟩
end Go.Proofs.YtblbfoniimnkcaaGreatDoor
