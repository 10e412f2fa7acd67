/- The walk of the law CellsOf: whatever the text, it answers true. -/
import Derived.Test.YtgpccjmkghpiiaaAwake5
namespace Go.Proofs.Ytgpccjmkghpiiaa
open Go.RowKit

set_option maxHeartbeats 1000000 in
theorem lawOf_any (s : ByteArray) (b : Int) (h : ByteArray) (w : World) (hs : s.size ≤ maxLen) (hh : h.size ≤ maxLen) :
    Calls Try.prog 3 #[.string s, .int .i64 b, .string h] w (RetBelow (.bool true) w) := by
  unfold maxLen at hs hh
  rcases (show (10000 : Int) < (s.size : Int) ∨ (¬ (10000 : Int) < (s.size : Int) ∧ (1000 : Int) < (h.size : Int)) ∨ (¬ (10000 : Int) < (s.size : Int) ∧ ¬ (1000 : Int) < (h.size : Int)) from by omega) with h1 | ⟨h1, h2⟩ | ⟨h1, h2⟩
  · go_enter Try.func3, Try.ntmps3
    go_wp2_with (go_at_call 9; refine (awake5_any _).mono ?_; rintro e W1 ⟨rfl, hb1⟩)
    go_ret
    exact ⟨rfl, hb1⟩
  · go_enter Try.func3, Try.ntmps3
    go_wp2_with (go_at_call 9; refine (awake5_any _).mono ?_; rintro e W1 ⟨rfl, hb1⟩)
    go_ret
    exact ⟨rfl, hb1⟩
  · have hcl : ((clean s).map (mkc b h)).length ≤ 1000000000 := by
      rw [List.length_map]
      exact Nat.le_trans (List.length_filterMap_le _ _) (Nat.le_trans (length_runes s) (by omega))
    go_enter Try.func3, Try.ntmps3
    go_wp2_with (first
      | (go_at_call 11; refine (of_any s b h _ (by omega)).mono ?_; rintro e W1 ⟨v1, rfl, ho1, hb1⟩; obtain ⟨A1, c1, rfl, -, -, -, hS1⟩ := ho1.form encC_len)
      | (go_at_call 12; refine (refOf_any s b h _ (by omega)).mono ?_; rintro e W2 ⟨v2, rfl, ho2, hb2⟩; obtain ⟨A2, c2, rfl, -, -, -, hS2⟩ := ho2.form encC_len)
      | (go_at_call 10; refine (refSame_any A1 A2 _ _ _ _ c1 c2 _ _ (by simp) (by simp) _ (hS1.below hb2) hS2 hcl).mono ?_; rintro e W3 ⟨he, q, rfl⟩; simp only [decide_true] at he; subst he)
      | (go_at_call 9; refine (awake5_any _).mono ?_; rintro e W4 ⟨rfl, hb4⟩))
    go_ret
    refine ⟨rfl, ?_⟩
    exact (hb1.trans (hb2.mono hb1.size)).trans ((below_drewN (Below.refl _ _) _).trans (hb4.mono (Nat.le_trans hb1.size hb2.size)))
end Go.Proofs.Ytgpccjmkghpiiaa
