/- The walks of the reference of chars: Runes and Clean of a text. -/
import Derived.Test.YtoagikkjomobgaaDoorChars3
namespace Go.Proofs.YtoagikkjomobgaaDoor
open Go.RowKit

theorem cl1_eq {c k : Int} (h : cl1 c = some k) : (c = 9 ∨ c = 12 ∨ c = 13) ∧ k = 32 ∨ (¬ (c = 9 ∨ c = 12 ∨ c = 13)) ∧ k = c ∧ (c = 10 ∨ 2 ≤ cls c) := by
  unfold cl1 at h
  split at h
  · injection h with h; omega
  · split at h
    · injection h with h; omega
    · split at h
      · injection h with h; omega
      · cases h
theorem cl1_none {c : Int} (h : cl1 c = none) : ¬ (c = 9 ∨ c = 12 ∨ c = 13) ∧ ¬ c = 10 ∧ ¬ 2 ≤ cls c := by
  unfold cl1 at h
  split at h
  · cases h
  · split at h
    · cases h
    · split at h
      · cases h
      · refine ⟨by assumption, by assumption, by assumption⟩

end Go.Proofs.YtoagikkjomobgaaDoor
