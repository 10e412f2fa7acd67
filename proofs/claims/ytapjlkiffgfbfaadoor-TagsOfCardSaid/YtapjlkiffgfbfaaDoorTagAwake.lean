/- The walk of law02's awake: it answers true. -/
import Derived.Test.YtapjlkiffgfbfaaDoorTagFind
import Derived.Test.YtapjlkiffgfbfaaDoorTagMay
import Derived.Test.YtapjlkiffgfbfaaDoorTagRef
namespace Go.Proofs.YtapjlkiffgfbfaaDoor
open Go.RowKit Go.Lib

def strong : ByteArray := ⟨#[83, 84, 82, 79, 78, 71]⟩
set_option maxRecDepth 100000 in
set_option maxHeartbeats 4000000 in
theorem awake2_any (w : World) (hT : Lib.Utf8Tabs 0 1 w) : Calls Tryd.prog 14 #[] w fun e w' => e = .returned (.bool true) ∧ Below w.heap.size w w' := by
  have T := hid hT
  have s1 := hid (show findI (List.map lowB (ByteArray.mk #[83, 84, 82, 79, 78, 71]).data.toList) = 11 from by decide)
  have s2 := hid (show findB (List.map lowB (ByteArray.mk #[83, 84, 82, 79, 78, 71]).data.toList) = true from by decide)
  have x2 := hid (show findB (List.map lowB (ByteArray.mk #[120]).data.toList) = false from by decide)
  have l1 := hid (show lineT 2 = 4 from rfl)
  have l2 := hid (show isLineT 2 = true from rfl)
  have n6 := hid (show nmS (nameL 6) = ByteArray.mk #[98, 108, 111, 99, 107, 113, 117, 111, 116, 101] from rfl)
  have m1 := hid (show mayA 7 9 (classT 7) (classT 9) = true from rfl)
  have m2 := hid (show mayA 2 7 (classT 2) (classT 7) = false from rfl)
  have m3 := hid (show mayA 10 10 (classT 10) (classT 10) = false from rfl)
  have Bx := hid (Below.refl w.heap.size w)
  clear hT
  go_enter Tryd.func14, Tryd.ntmps14
  go_wp2_with (first
    | (go_at_call 15; (with_reducible refine (find_any (ByteArray.mk #[83, 84, 82, 79, 78, 71]) _ (by decide) (Utf8Tabs_below T.out Bx.out)).mono ?_); rintro e w1 ⟨rfl, hb1⟩; rw [s1.out, s2.out]; (have By := hid (Bx.out.trans (hb1.mono Bx.out.size))); clear hb1 Bx; (have Bx := By); clear By)
    | (go_at_call 15; (with_reducible refine (find_any (ByteArray.mk #[120]) _ (by decide) (Utf8Tabs_below T.out Bx.out)).mono ?_); rintro e w1 ⟨rfl, hb1⟩; rw [x2.out]; (have By := hid (Bx.out.trans (hb1.mono Bx.out.size))); clear hb1 Bx; (have Bx := By); clear By)
    | (go_at_call 22; refine (line_any 2 _).mono ?_; rintro e w1 ⟨rfl, rfl⟩; rw [l1.out, l2.out])
    | (go_at_call 19; refine (name_any 6 _).mono ?_; rintro e w1 ⟨rfl, hb1⟩; rw [n6.out]; (have By := hid (Bx.out.trans (hb1.mono Bx.out.size))); clear hb1 Bx; (have Bx := By); clear By)
    | (go_at_call 17; refine (may_any _ _ _).mono ?_; rintro e w1 ⟨rfl, hb1⟩; (first | rw [m1.out] | rw [m2.out] | rw [m3.out]); (have By := hid (Bx.out.trans (hb1.mono Bx.out.size))); clear hb1 Bx; (have Bx := By); clear By))
  go_goals
  go_ret
  exact ⟨rfl, Bx.out⟩
end Go.Proofs.YtapjlkiffgfbfaaDoor
