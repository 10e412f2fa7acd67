/- The walks of the small functions of tags' reference, and of tags: Class, Heading, Line. -/
import Derived.Test.YtapjlkiffgfbfaaDoorLib
import Derived.Test.YtapjlkiffgfbfaaDoorProg
import Derived.WalkKit
namespace Go.Proofs.YtapjlkiffgfbfaaDoor
open Go.RowKit

def classT (tag : Int) : Int := if tag < 0 ∨ 16 < tag then 0 else if tag = 0 then 1 else if tag = 1 ∨ tag = 6 ∨ tag = 7 ∨ tag = 8 then 2 else if (2 ≤ tag ∧ tag ≤ 5) ∨ tag = 9 then 3 else if tag = 16 then 5 else 4
def headT (tag : Int) : Int := if tag = 3 ∨ tag = 4 ∨ tag = 5 then tag - 2 else 0
theorem ret_i64 {a b : Int} (h : a = b) : Ending.returned (.int .i64 a) = .returned (.int .i64 b) := by rw [h]
theorem tag_cases (t : Int) : t < 0 ∨ 16 < t ∨ t = 0 ∨ t = 1 ∨ t = 2 ∨ t = 3 ∨ t = 4 ∨ t = 5 ∨ t = 6 ∨ t = 7 ∨ t = 8 ∨ t = 9 ∨ t = 10 ∨ t = 11 ∨ t = 12 ∨ t = 13 ∨ t = 14 ∨ t = 15 ∨ t = 16 := by omega

set_option maxHeartbeats 4000000 in
theorem refClass_any (tag : Int) (w : World) : Calls Tryd.prog 25 #[.int .i64 tag] w fun e w' => e = .returned (.int .i64 (classT tag)) ∧ w = w' := by
  rcases tag_cases tag with h | h | rfl | rfl | rfl | rfl | rfl | rfl | rfl | rfl | rfl | rfl | rfl | rfl | rfl | rfl | rfl | rfl | rfl
  · have hc : classT tag = 0 := by unfold classT; rw [if_pos (.inl h)]
    rw [hc]
    clear hc
    go_enter Tryd.func25, Tryd.ntmps25
    go_wp2
    go_ret
    exact ⟨rfl, rfl⟩
  · have hc : classT tag = 0 := by unfold classT; rw [if_pos (.inr h)]
    rw [hc]
    clear hc
    have h' : ¬ tag < 0 := by omega
    go_enter Tryd.func25, Tryd.ntmps25
    go_wp2
    go_ret
    exact ⟨rfl, rfl⟩
  all_goals
    go_enter Tryd.func25, Tryd.ntmps25
    go_wp2
    go_ret
    exact ⟨rfl, rfl⟩

set_option maxHeartbeats 1000000 in
theorem heading_any (tag : Int) (w : World) : Calls Tryd.prog 26 #[.int .i64 tag] w fun e w' => e = .returned (.int .i64 (headT tag)) ∧ w = w' := by
  rcases (show tag < 3 ∨ 5 < tag ∨ tag = 3 ∨ tag = 4 ∨ tag = 5 from by omega) with h | h | rfl | rfl | rfl
  · have hc : headT tag = 0 := by unfold headT; rw [if_neg (by omega)]
    have b3 : (tag == 3) = false := beq_eq_false_iff_ne.2 (by omega)
    have b4 : (tag == 4) = false := beq_eq_false_iff_ne.2 (by omega)
    have b5 : (tag == 5) = false := beq_eq_false_iff_ne.2 (by omega)
    have h' : ¬ 3 ≤ tag := by omega
    rw [hc]
    clear hc
    go_enter Tryd.func26, Tryd.ntmps26
    go_wp2
    go_ret
    exact ⟨rfl, rfl⟩
  · have hc : headT tag = 0 := by unfold headT; rw [if_neg (by omega)]
    have b3 : (tag == 3) = false := beq_eq_false_iff_ne.2 (by omega)
    have b4 : (tag == 4) = false := beq_eq_false_iff_ne.2 (by omega)
    have b5 : (tag == 5) = false := beq_eq_false_iff_ne.2 (by omega)
    have h' : ¬ tag ≤ 5 := by omega
    have h2 : 3 ≤ tag := by omega
    rw [hc]
    clear hc
    go_enter Tryd.func26, Tryd.ntmps26
    go_wp2
    go_ret
    exact ⟨rfl, rfl⟩
  all_goals
    go_enter Tryd.func26, Tryd.ntmps26
    go_wp2
    go_ret
    exact ⟨rfl, rfl⟩

set_option maxHeartbeats 1000000 in
theorem refHeading_any (tag : Int) (w : World) : Calls Tryd.prog 27 #[.int .i64 tag] w fun e w' => e = .returned (.int .i64 (headT tag)) ∧ w = w' := by
  rcases (show tag < 3 ∨ 5 < tag ∨ tag = 3 ∨ tag = 4 ∨ tag = 5 from by omega) with h | h | rfl | rfl | rfl
  · have hc : headT tag = 0 := by unfold headT; rw [if_neg (by omega)]
    have b3 : (tag == 3) = false := beq_eq_false_iff_ne.2 (by omega)
    have b4 : (tag == 4) = false := beq_eq_false_iff_ne.2 (by omega)
    have b5 : (tag == 5) = false := beq_eq_false_iff_ne.2 (by omega)
    have h' : ¬ 3 ≤ tag := by omega
    rw [hc]
    clear hc
    go_enter Tryd.func27, Tryd.ntmps27
    go_wp2
    go_ret
    exact ⟨rfl, rfl⟩
  · have hc : headT tag = 0 := by unfold headT; rw [if_neg (by omega)]
    have b3 : (tag == 3) = false := beq_eq_false_iff_ne.2 (by omega)
    have b4 : (tag == 4) = false := beq_eq_false_iff_ne.2 (by omega)
    have b5 : (tag == 5) = false := beq_eq_false_iff_ne.2 (by omega)
    have h' : ¬ tag ≤ 5 := by omega
    have h2 : 3 ≤ tag := by omega
    rw [hc]
    clear hc
    go_enter Tryd.func27, Tryd.ntmps27
    go_wp2
    go_ret
    exact ⟨rfl, rfl⟩
  all_goals
    go_enter Tryd.func27, Tryd.ntmps27
    go_wp2
    go_ret
    exact ⟨rfl, rfl⟩

def lineT (k : Int) : Int := if 0 ≤ k ∧ k ≤ 3 then k + 2 else 0
def isLineT (k : Int) : Bool := if 0 ≤ k ∧ k ≤ 3 then true else false

set_option maxHeartbeats 1000000 in
theorem line_any (k : Int) (w : World) : Calls Tryd.prog 22 #[.int .i64 k] w fun e w' => e = .returned (.tuple #[.int .i64 (lineT k), .bool (isLineT k)]) ∧ w = w' := by
  rcases (show k < 0 ∨ 3 < k ∨ k = 0 ∨ k = 1 ∨ k = 2 ∨ k = 3 from by omega) with h | h | rfl | rfl | rfl | rfl
  · have hc : lineT k = 0 := by unfold lineT; rw [if_neg (by omega)]
    have hd : isLineT k = false := by unfold isLineT; rw [if_neg (by omega)]
    have b0 : (k == 0) = false := beq_eq_false_iff_ne.2 (by omega)
    have b1 : (k == 1) = false := beq_eq_false_iff_ne.2 (by omega)
    have b2 : (k == 2) = false := beq_eq_false_iff_ne.2 (by omega)
    have b3 : (k == 3) = false := beq_eq_false_iff_ne.2 (by omega)
    rw [hc, hd]
    clear hc hd
    go_enter Tryd.func22, Tryd.ntmps22
    go_wp2
    go_ret2
    exact ⟨rfl, rfl⟩
  · have hc : lineT k = 0 := by unfold lineT; rw [if_neg (by omega)]
    have hd : isLineT k = false := by unfold isLineT; rw [if_neg (by omega)]
    have b0 : (k == 0) = false := beq_eq_false_iff_ne.2 (by omega)
    have b1 : (k == 1) = false := beq_eq_false_iff_ne.2 (by omega)
    have b2 : (k == 2) = false := beq_eq_false_iff_ne.2 (by omega)
    have b3 : (k == 3) = false := beq_eq_false_iff_ne.2 (by omega)
    have h' : ¬ k < 0 := by omega
    rw [hc, hd]
    clear hc hd
    go_enter Tryd.func22, Tryd.ntmps22
    go_wp2
    go_ret2
    exact ⟨rfl, rfl⟩
  all_goals
    go_enter Tryd.func22, Tryd.ntmps22
    go_wp2
    go_ret2
    exact ⟨rfl, rfl⟩

set_option maxHeartbeats 1000000 in
theorem refLine_any (k : Int) (w : World) : Calls Tryd.prog 23 #[.int .i64 k] w fun e w' => e = .returned (.tuple #[.int .i64 (lineT k), .bool (isLineT k)]) ∧ w = w' := by
  rcases (show k < 0 ∨ 3 < k ∨ k = 0 ∨ k = 1 ∨ k = 2 ∨ k = 3 from by omega) with h | h | rfl | rfl | rfl | rfl
  · have hc : lineT k = 0 := by unfold lineT; rw [if_neg (by omega)]
    have hd : isLineT k = false := by unfold isLineT; rw [if_neg (by omega)]
    have b0 : (k == 0) = false := beq_eq_false_iff_ne.2 (by omega)
    have b1 : (k == 1) = false := beq_eq_false_iff_ne.2 (by omega)
    have b2 : (k == 2) = false := beq_eq_false_iff_ne.2 (by omega)
    have b3 : (k == 3) = false := beq_eq_false_iff_ne.2 (by omega)
    rw [hc, hd]
    clear hc hd
    go_enter Tryd.func23, Tryd.ntmps23
    go_wp2
    go_ret2
    exact ⟨rfl, rfl⟩
  · have hc : lineT k = 0 := by unfold lineT; rw [if_neg (by omega)]
    have hd : isLineT k = false := by unfold isLineT; rw [if_neg (by omega)]
    have b0 : (k == 0) = false := beq_eq_false_iff_ne.2 (by omega)
    have b1 : (k == 1) = false := beq_eq_false_iff_ne.2 (by omega)
    have b2 : (k == 2) = false := beq_eq_false_iff_ne.2 (by omega)
    have b3 : (k == 3) = false := beq_eq_false_iff_ne.2 (by omega)
    have h' : ¬ k < 0 := by omega
    rw [hc, hd]
    clear hc hd
    go_enter Tryd.func23, Tryd.ntmps23
    go_wp2
    go_ret2
    exact ⟨rfl, rfl⟩
  all_goals
    go_enter Tryd.func23, Tryd.ntmps23
    go_wp2
    go_ret2
    exact ⟨rfl, rfl⟩
end Go.Proofs.YtapjlkiffgfbfaaDoor
