/- The walks of the package chars, and of its reference: the class of a character. -/
import Derived.Test.YtoagikkjomobgaaDoorProg
import Derived.Test.YtoagikkjomobgaaDoorRunes
import Derived.Outline
namespace Go.Proofs.YtoagikkjomobgaaDoor
open Go.RowKit

def cls (c : Int) : Int :=
  if c < 0 ∨ 1114111 < c ∨ (55296 ≤ c ∧ c ≤ 57343) then 0 else if c < 32 ∨ c = 127 then 1 else if c = 32 ∨ c = 160 then 2
  else if (97 ≤ c ∧ c ≤ 122) ∨ (65 ≤ c ∧ c ≤ 90) ∨ (128 ≤ c ∧ c ≠ 65533) then 3 else if 48 ≤ c ∧ c ≤ 57 then 4 else 5
theorem ret_int {k : IntKind} {a b : Int} (h : a = b) : Ending.returned (.int k a) = .returned (.int k b) := by rw [h]
theorem ret_bool {a b : Bool} (h : a = b) : Ending.returned (.bool a) = .returned (.bool b) := by rw [h]
theorem cls_range (c : Int) : 0 ≤ cls c ∧ cls c ≤ 5 := by unfold cls; repeat' split <;> omega

set_option maxHeartbeats 1000000 in
theorem class_any (c : Int) (w : World) (h0 : -2147483648 ≤ c) (h1 : c ≤ 2147483647) :
    Calls Tryd.prog 34 #[.int .i32 c] w fun e w' => e = .returned (.int .i64 (cls c)) ∧ w = w' := by
  go_enter Tryd.func34, Tryd.ntmps34
  go_wp2
  all_goals
    go_ret
    refine ⟨ret_int ?_, rfl⟩
    try simp only [beq_iff_eq, beq_eq_false_iff_ne, ne_eq] at *
    unfold cls
    repeat' split
    all_goals omega
end Go.Proofs.YtoagikkjomobgaaDoor
