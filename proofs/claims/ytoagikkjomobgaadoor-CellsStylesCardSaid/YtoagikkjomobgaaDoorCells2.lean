/- The walks of the package cells and of its reference: the text of a row, how much it is, whether two places may be. -/
import Derived.Test.YtoagikkjomobgaaDoorCells1
import Derived.Test.YtoagikkjomobgaaDoorCellPlain
namespace Go.Proofs.YtoagikkjomobgaaDoor
open Go.RowKit

theorem runesBytes_nil : runesBytes [] = ByteArray.empty := rfl
theorem run_text (P : Program) (src dst e : TypeId) (A : Option Addr) (xs : List Int) (c B : Nat) (w : World) (hs : P.underlying src = some (.slice e)) (he : P.underlying e = some (.int .i32)) (hd : P.underlying dst = some .string) (h : SlAt encR 1 w B A xs) :
    (convert src dst (.slice A xs.length c)).run P w = .ok (.string (runesBytes xs)) w := by
  cases xs with
  | nil =>
    cases A with
    | none => exact run_convert_runes_nil w src dst e _ _ hs he hd
    | some ad => exact run_convert_runes w src dst e ad _ c [] (Nat.le_refl _) hs he hd (fun j hj => by simp at hj)
  | cons x xs =>
    obtain ⟨ad, rfl, _, hc⟩ := h (by simp)
    have := run_convert_runes (P := P) w src dst e ad (x :: xs).length c (x :: xs) (Nat.le_refl _) hs he hd (fun j hj => by
      have := hc j _ (List.getElem?_eq_getElem hj) 0 _ rfl
      rw [add_zero', Nat.mul_one] at this
      rw [this, List.getD, List.getElem?_eq_getElem hj]
      rfl)
    rw [List.take_of_length_le (Nat.le_refl _)] at this
    exact this

set_option maxHeartbeats 400000 in
theorem charsText_any (A : Option Addr) (xs : List Int) (n c B : Nat) (hn : n = xs.length) (w : World) (h : SlAt encR 1 w B A xs) :
    Calls Tryd.prog 31 #[.slice A n c] w fun e w' => e = .returned (.string (runesBytes xs)) ∧ w = w' := by
  subst hn
  have hr := run_text Tryd.prog 52 9 21 A xs c B w Tryd.underlying52 Tryd.underlying21 Tryd.underlying9 h
  go_enter Tryd.func31, Tryd.ntmps31
  go_wp2
  go_ret
  exact ⟨rfl, rfl⟩

/-- What a call hands back that may make memory and leaves what there was. -/
def RetBelow (v : Value) (w : World) (e : Ending) (w' : World) : Prop := e = .returned v ∧ Below w.heap.size w w'

set_option maxHeartbeats 400000 in
theorem text_any (A : Option Addr) (cs : List Cl) (n c B : Nat) (hn : n = cs.length) (w : World) (hA : SlAt encC 3 w B A cs) (hl : cs.length ≤ 1000000000) :
    Calls Tryd.prog 15 #[.slice A n c] w (RetBelow (.string (textL cs)) w) := by
  subst hn
  have hS := hA.live (fun _ => by rw [encC_len]; omega)
  go_enter Tryd.func15, Tryd.ntmps15
  go_wp2_with fail
  go_loopw [3, 8] (fun l i wr => ∃ k : Nat, k ≤ cs.length ∧ i = .int .i64 k ∧ Own encR 1 21 wr w.heap.size l ((cs.take k).map (·.r)) ∧ Below w.heap.size w wr) (fun _ i _ => cs.length - (intOf i).toNat)
  case atStart => exact ⟨0, Nat.zero_le _, rfl, Own.nil, Below.refl _ _⟩
  case round =>
    obtain ⟨k, hk, rfl, hown, hbr⟩ := hrel
    have hsz := hbr.size
    by_cases hlt : k < cs.length
    · obtain ⟨ad, x, rfl, -, hx, x0, x1, x2⟩ := (hS.below hbr).atC hlt
      have hi1 : (k : Int) < (cs.length : Int) := by omega
      have htk : ((cs.take k).map (·.r)).length ≤ k := by rw [List.length_map]; exact List.length_take_le _ _
      have HT : Hid ((cs.take (k + 1)).map (·.r) = (cs.take k).map (·.r) ++ [x.r]) := by
        show _ = _
        rw [take_snoc' hx, List.map_append]; rfl
      clear hx
      go_wp2_with (at_builtin; refine wpList_app1g Tryd.okR rfl (.tmp 12) (.tmp 15) 52 rfl Tryd.underlying52 w.heap.size _ ((cs.take k).map (·.r)) rfl (hown.alloc _) x.r rfl (wr.heap.size + 1) rfl (by simp) (by omega) (by simp; omega) ?_; intro v' w1 hown' hb' _)
      go_wp2
      go_roundw
      case rel => exact ⟨k + 1, by omega, by go_num, by rw [HT.out]; exact hown', (hbr.alloc hsz _).trans hb'⟩
      case measure => simp [intOf]; omega
    · rw [List.take_of_length_le (by omega)] at hown
      obtain ⟨A', c', rfl, -, -, -, hS'⟩ := hown.form encR_len
      go_wp2_with (go_at_call 31; refine (charsText_any A' (cs.map (·.r)) _ c' _ (by simp) wr hS').mono ?_; rintro e w' ⟨rfl, rfl⟩)
      go_ret
      exact ⟨rfl, hbr⟩

set_option maxHeartbeats 400000 in
theorem span_yes (v : Option Addr) (n c : Nat) (f t : Int) (w : World) (h : spanOk n f t) :
    Calls Tryd.prog 20 #[.slice v n c, .int .i64 f, .int .i64 t] w fun e w' => e = .returned (.bool true) ∧ w = w' := by
  obtain ⟨h1, h2, h3⟩ := h
  go_enter Tryd.func20, Tryd.ntmps20
  go_wp2
  go_ret
  exact ⟨rfl, rfl⟩
set_option maxHeartbeats 400000 in
theorem span_no (v : Option Addr) (n c : Nat) (f t : Int) (w : World) (h : ¬ spanOk n f t) :
    Calls Tryd.prog 20 #[.slice v n c, .int .i64 f, .int .i64 t] w fun e w' => e = .returned (.bool false) ∧ w = w' := by
  unfold spanOk at h
  rcases (show f < 0 ∨ (0 ≤ f ∧ t < f) ∨ (0 ≤ f ∧ f ≤ t ∧ n < t) from by omega) with h1 | ⟨h1, h2⟩ | ⟨h1, h2, h3⟩
  all_goals
    clear h
    go_enter Tryd.func20, Tryd.ntmps20
    go_wp2
    go_ret
    exact ⟨ret_bool (by first | rfl | exact decide_eq_false (by omega)), rfl⟩


set_option maxHeartbeats 1000000 in
theorem long_any (A : Option Addr) (cs : List Cl) (n c B : Nat) (hn : n = cs.length) (w : World) (hA : SlAt encC 3 w B A cs) (hl : cs.length ≤ maxLen) (hh : ∀ x ∈ cs, x.h.size ≤ maxLen) :
    Calls Tryd.prog 4 #[.slice A n c] w fun e w' => e = .returned (.bool (decide (20000 < heft cs))) ∧ w = w' := by
  subst hn
  unfold maxLen at hl hh
  have HH := hid hh
  clear hh
  go_enter Tryd.func4, Tryd.ntmps4
  go_wp2
  go_loop [3, 4] (fun n i => ∃ k m : Nat, k ≤ cs.length ∧ i = .int .i64 k ∧ n = .int .i64 (m : Nat) ∧ Hid (m = cs.length + ((cs.take k).map fun c => c.h.size / 8).sum) ∧ m ≤ 9223372036854775807) (fun _ i => cs.length - (intOf i).toNat)
  case atStart => exact ⟨0, cs.length, Nat.zero_le _, rfl, rfl, by simp [Hid], by omega⟩
  case round =>
    obtain ⟨k, m, hk, rfl, rfl, hm, hmb⟩ := hrel
    by_cases hlt : k < cs.length
    · by_cases h20 : m ≤ 20000
      · obtain ⟨ad, x, rfl, -, hx, x0, x1, x2⟩ := hA.atC hlt
        have hi1 : (k : Int) < (cs.length : Int) := by omega
        have hxs := HH.out x (List.mem_of_getElem? hx)
        have h20' : (m : Int) ≤ 20000 := by omega
        have HT : Hid (m + x.h.size / 8 = cs.length + ((cs.take (k + 1)).map fun c => c.h.size / 8).sum) := by
          show _ = _
          rw [heft_take cs k x hx, hm.out]; omega
        clear hx
        go_wp2
        go_round
        case rel => exact ⟨k + 1, m + x.h.size / 8, by omega, by go_num, by go_num, HT, by omega⟩
        case measure => simp [intOf]; omega
      · have h20' : ¬ ((m : Int) ≤ 20000) := by omega
        have hd : decide (20000 < heft cs) = true := decide_eq_true (by
          have h1 := hm.out
          have h2 := heft_take_le cs k
          unfold heft; omega)
        have HD := hid hd
        clear hd
        go_wp2
        go_ret
        exact ⟨ret_bool (by rw [HD.out]), rfl⟩
    · have he : m = heft cs := by
        have h1 := hm.out
        rw [List.take_of_length_le (by omega)] at h1
        exact h1
      have HE := hid he
      clear he
      by_cases h20 : 20000 < m
      · have h20' : (20000 : Int) < (m : Int) := by omega
        have hi1 : ¬ ((k : Int) < (cs.length : Int)) := by omega
        go_wp2
        go_ret
        exact ⟨ret_bool (by rw [← HE.out]; simp [h20]), rfl⟩
      · have h20' : ¬ ((20000 : Int) < (m : Int)) := by omega
        have hi1 : ¬ ((k : Int) < (cs.length : Int)) := by omega
        go_wp2
        go_ret
        exact ⟨ret_bool (by rw [← HE.out]; simp [h20]), rfl⟩
end Go.Proofs.YtoagikkjomobgaaDoor
