/- The walks of the reference of chars: Runes and Clean of a text. -/
import Derived.Test.YtgpccjmkghpiiaaDoorChars3
namespace Go.Proofs.YtgpccjmkghpiiaaDoor
open Go.RowKit

set_option maxHeartbeats 400000 in
theorem refRunes_any (s : ByteArray) (w : World) (hs : s.size ≤ 1000000000) :
    Calls Tryd.prog 74 #[.string s] w (RetOwn encR 1 21 w (runes s)) := by
  obtain ⟨c, o, hr, ho⟩ := run_runes Tryd.prog 9 56 21 s Tryd.underlying9 Tryd.underlying56 Tryd.underlying21 (by omega) w
  go_enter Tryd.func74, Tryd.ntmps74
  go_wp2
  go_ret
  exact ⟨_, rfl, ho, (Below.refl _ _).drew.alloc (Nat.le_refl _) _⟩

theorem cl1_eq {c k : Int} (h : cl1 c = some k) : (c = 9 ∨ c = 12 ∨ c = 13) ∧ k = 32 ∨ (¬ (c = 9 ∨ c = 12 ∨ c = 13)) ∧ k = c ∧ (c = 10 ∨ 2 ≤ cls c) := by
  unfold cl1 at h
  split at h
  · injection h with h; omega
  · split at h
    · injection h with h; omega
    · split at h
      · injection h with h; omega
      · cases h
theorem cl1_none {c : Int} (h : cl1 c = none) : ¬ (c = 9 ∨ c = 12 ∨ c = 13) ∧ ¬ c = 10 ∧ ¬ 2 ≤ cls c := by
  unfold cl1 at h
  split at h
  · cases h
  · split at h
    · cases h
    · split at h
      · cases h
      · refine ⟨by assumption, by assumption, by assumption⟩

end Go.Proofs.YtgpccjmkghpiiaaDoor
