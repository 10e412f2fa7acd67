/- The walks of the reference of chars: Runes and Clean of a text. -/
import Derived.Test.YtgpccjmkghpiiaaChars3
namespace Go.Proofs.Ytgpccjmkghpiiaa
open Go.RowKit

set_option maxHeartbeats 400000 in
theorem refRunes_any (s : ByteArray) (w : World) (hs : s.size ≤ 1000000000) :
    Calls Try.prog 48 #[.string s] w (RetOwn encR 1 21 w (runes s)) := by
  obtain ⟨c, o, hr, ho⟩ := run_runes Try.prog 9 50 21 s Try.underlying9 Try.underlying50 Try.underlying21 (by omega) w
  go_enter Try.func48, Try.ntmps48
  go_wp2
  go_ret
  exact ⟨_, rfl, ho, (Below.refl _ _).drew.alloc (Nat.le_refl _) _⟩

theorem cl1_eq {c k : Int} (h : cl1 c = some k) : (c = 9 ∨ c = 12 ∨ c = 13) ∧ k = 32 ∨ (¬ (c = 9 ∨ c = 12 ∨ c = 13)) ∧ k = c ∧ (c = 10 ∨ 2 ≤ cls c) := by
  unfold cl1 at h
  split at h
  · injection h with h; omega
  · split at h
    · injection h with h; omega
    · split at h
      · injection h with h; omega
      · cases h
theorem cl1_none {c : Int} (h : cl1 c = none) : ¬ (c = 9 ∨ c = 12 ∨ c = 13) ∧ ¬ c = 10 ∧ ¬ 2 ≤ cls c := by
  unfold cl1 at h
  split at h
  · cases h
  · split at h
    · cases h
    · split at h
      · cases h
      · refine ⟨by assumption, by assumption, by assumption⟩

set_option maxHeartbeats 1600000 in
theorem refClean_any (s : ByteArray) (w : World) (hs : s.size ≤ 1000000000) :
    Calls Try.prog 32 #[.string s] w (RetOwn encR 1 21 w (clean s)) := by
  have hrl := length_runes s
  have hrr := hid (runes_range s)
  go_enter Try.func32, Try.ntmps32
  go_wp2_with (go_at_call 48; refine (refRunes_any s _ hs).mono ?_; rintro e W1 ⟨v, rfl, ho, hb⟩; obtain ⟨A, cp, rfl, -, -, -, hS⟩ := ho.form encR_len)
  go_loopw [3, 5] (fun l i wr => ∃ k : Nat, k ≤ (runes s).length ∧ i = .int .i64 k ∧ Own encR 1 21 wr W1.heap.size l (((runes s).take k).filterMap cl1) ∧ Below W1.heap.size W1 wr) (fun _ i _ => (runes s).length - (intOf i).toNat)
  case atStart => exact ⟨0, Nat.zero_le _, rfl, Own.nil, Below.refl _ _⟩
  case round =>
    obtain ⟨k, hk, rfl, hown, hbr⟩ := hrel
    have hsz := hbr.size
    by_cases hlt : k < (runes s).length
    · obtain ⟨ad, c, rfl, -, hx, hc⟩ := (hS.below hbr).atR hlt
      have hi1 : (k : Int) < ((runes s).length : Int) := by omega
      have hcr := hrr.out c (List.mem_of_getElem? hx)
      have hfl := List.length_filterMap_le cl1 ((runes s).take k)
      have htk : ((runes s).take k).length ≤ k := List.length_take_le _ _
      have HT : Hid (((runes s).take (k + 1)).filterMap cl1 = ((runes s).take k).filterMap cl1 ++ (cl1 c).toList) := by
        rw [take_snoc' hx, List.filterMap_append]
        cases h : cl1 c <;> simp [h, Hid]
      clear hx
      rcases (show (c = 9 ∨ c = 12 ∨ c = 13) ∨ c = 10 ∨ (¬ c = 9 ∧ ¬ c = 12 ∧ ¬ c = 13 ∧ ¬ c = 10) from by omega) with h9 | rfl | ⟨n1, n2, n3, n4⟩
      · have e32 : cl1 c = some 32 := by unfold cl1; rw [if_pos h9]
        rw [e32] at HT
        have h32 : decide (2 ≤ cls 32) = true := by decide
        clear e32
        rcases h9 with rfl | rfl | rfl
        all_goals
          go_wp2_with (first
            | (go_at_call 49; refine (refMay_any _ _ (by omega) (by omega)).mono ?_; rintro e w' ⟨rfl, rfl⟩)
            | (at_builtin; refine wpList_app1 Try.okR rfl (.tmp 35) (.tmp 37) 50 rfl Try.underlying50 W1.heap.size _ (((runes s).take k).filterMap cl1) rfl hown 32 rfl rfl (by omega) (by omega) ?_; intro v' w1 hown' hb' _))
          go_wp2
          go_roundw
          case rel => exact ⟨k + 1, by omega, by go_num, by rw [HT.out]; exact hown', hbr.trans hb'⟩
          case measure => simp [intOf]; omega
      · have e10 : cl1 10 = some 10 := by decide
        rw [e10] at HT
        have h10 : decide (2 ≤ cls 10) = false := by decide
        clear e10
        go_wp2_with (first
          | (go_at_call 49; refine (refMay_any _ _ (by omega) (by omega)).mono ?_; rintro e w' ⟨rfl, rfl⟩)
          | (at_builtin; refine wpList_app1 Try.okR rfl (.tmp 35) (.tmp 37) 50 rfl Try.underlying50 W1.heap.size _ (((runes s).take k).filterMap cl1) rfl hown 10 rfl rfl (by omega) (by omega) ?_; intro v' w1 hown' hb' _))
        go_wp2
        go_roundw
        case rel => exact ⟨k + 1, by omega, by go_num, by rw [HT.out]; exact hown', hbr.trans hb'⟩
        case measure => simp [intOf]; omega
      · have b1 : (c == 9) = false := beq_eq_false_iff_ne.2 n1
        have b2 : (c == 12) = false := beq_eq_false_iff_ne.2 n2
        have b3 : (c == 13) = false := beq_eq_false_iff_ne.2 n3
        have b4 : (c == 10) = false := beq_eq_false_iff_ne.2 n4
        by_cases h2 : 2 ≤ cls c
        · have e1 : cl1 c = some c := by unfold cl1; rw [if_neg (by omega), if_neg n4, if_pos h2]
          rw [e1] at HT
          have hd : decide (2 ≤ cls c) = true := decide_eq_true h2
          clear e1 h2
          go_wp2_with (first
            | (go_at_call 49; refine (refMay_any _ _ (by omega) (by omega)).mono ?_; rintro e w' ⟨rfl, rfl⟩)
            | (at_builtin; refine wpList_app1 Try.okR rfl (.tmp 35) (.tmp 37) 50 rfl Try.underlying50 W1.heap.size _ (((runes s).take k).filterMap cl1) rfl hown c rfl rfl (by omega) (by omega) ?_; intro v' w1 hown' hb' _))
          go_wp2
          go_roundw
          case rel => exact ⟨k + 1, by omega, by go_num, by rw [HT.out]; exact hown', hbr.trans hb'⟩
          case measure => simp [intOf]; omega
        · have e1 : cl1 c = none := by unfold cl1; rw [if_neg (by omega), if_neg n4, if_neg h2]
          rw [e1] at HT
          have hd : decide (2 ≤ cls c) = false := decide_eq_false h2
          clear e1 h2
          go_wp2_with (go_at_call 49; refine (refMay_any _ _ (by omega) (by omega)).mono ?_; rintro e w' ⟨rfl, rfl⟩)
          go_roundw
          case rel => exact ⟨k + 1, by omega, by go_num, by rw [HT.out]; simpa using hown, hbr⟩
          case measure => simp [intOf]; omega
    · go_wp2
      go_ret
      refine ⟨_, rfl, ?_, hb.trans (hbr.mono hb.size)⟩
      rw [List.take_of_length_le (by omega)] at hown
      exact hown.based hb.size
end Go.Proofs.Ytgpccjmkghpiiaa
