/- What set does to a row, said of lists: twice is once, all have what was set, none what was cleared. (Printed by wip/lawstyles5.py.) -/
import Derived.Test.YtoagikkjomobgaaDoorCellSets
import Derived.Test.YtoagikkjomobgaaDoorBits5
import Derived.Deep.QuietTactic
import Derived.BigQuiet
namespace Go.Proofs.YtoagikkjomobgaaDoor
open Go.RowKit Go.Lib

theorem part_inv {cs : List Cl} {f t : Nat} {x : Cl} (h : x ∈ partC cs f t) : ∃ k, f ≤ k ∧ k < t ∧ cs[k]? = some x := by
  obtain ⟨i, hi, e⟩ := List.getElem_of_mem h
  have e2 : (partC cs f t)[i]? = some x := by rw [List.getElem?_eq_getElem hi, e]
  unfold partC at e2
  rw [List.getElem?_take] at e2
  split at e2
  · rw [List.getElem?_drop] at e2
    exact ⟨f + i, by omega, by omega, e2⟩
  · cases e2
theorem setAt_idem {g : Cl → Cl} (hg : ∀ x, g (g x) = g x) (F T : Nat) (cs : List Cl) : setAt g F T (setAt g F T cs) = setAt g F T cs := by
  apply List.ext_getElem?
  intro k
  rw [getElem?_setAt, getElem?_setAt]
  cases cs[k]? with
  | none => rfl
  | some x =>
    simp only [Option.map_some]
    by_cases h : F ≤ k ∧ k < T
    · rw [if_pos h, if_pos h, hg]
    · rw [if_neg h, if_neg h]
theorem setAt_mem {g : Cl → Cl} {F T : Nat} {cs : List Cl} {y : Cl} (h : y ∈ setAt g F T cs) : ∃ x ∈ cs, y = g x ∨ y = x := by
  obtain ⟨k, hk, e⟩ := List.getElem_of_mem h
  have e2 : (setAt g F T cs)[k]? = some y := by rw [List.getElem?_eq_getElem hk, e]
  rw [getElem?_setAt] at e2
  cases hx : cs[k]? with
  | none => rw [hx] at e2; cases e2
  | some x =>
    rw [hx] at e2
    simp only [Option.map_some, Option.some.injEq] at e2
    refine ⟨x, List.mem_of_getElem? hx, ?_⟩
    split at e2
    · exact .inl e2.symm
    · exact .inr e2.symm
theorem setAt_in {g : Cl → Cl} {F T k : Nat} {cs : List Cl} {y : Cl} (h1 : F ≤ k) (h2 : k < T) (h : (setAt g F T cs)[k]? = some y) : ∃ x, y = g x := by
  rw [getElem?_setAt] at h
  cases hx : cs[k]? with
  | none => rw [hx] at h; cases h
  | some x =>
    rw [hx] at h
    simp only [Option.map_some, Option.some.injEq] at h
    rw [if_pos ⟨h1, h2⟩] at h
    exact ⟨x, h.symm⟩
theorem styles_all {s cl : Int} {F T : Nat} {cs : List Cl} : (partC (setAt (setC s cl) F T cs) F T).any (predA (bits .and .i64 s 15)) = false := by
  rw [List.any_eq_false]
  intro y hy
  obtain ⟨k, h1, h2, h3⟩ := part_inv hy
  obtain ⟨x, rfl⟩ := setAt_in h1 h2 h3
  have := ovr_has x.b s (low cl)
  unfold predA
  show ¬ (bits .and .i64 (ovr x.b (low s) (low cl)) (low s) != low s) = true
  rw [this]; simp
theorem styles_some {s cl : Int} {F T : Nat} {cs : List Cl} : (partC (setAt (setC s cl) F T cs) F T).any (predS (bits .andNot .i64 (bits .and .i64 cl 15) s)) = false := by
  rw [List.any_eq_false]
  intro y hy
  obtain ⟨k, h1, h2, h3⟩ := part_inv hy
  obtain ⟨x, rfl⟩ := setAt_in h1 h2 h3
  have := ovr_less x.b s cl
  unfold predS
  show ¬ (bits .and .i64 (ovr x.b (low s) (low cl)) (bits .andNot .i64 (low cl) s) != 0) = true
  rw [this]; simp
theorem mayC_set {s cl : Int} {x : Cl} (h : mayC x = true) : mayC (setC s cl x) = true := by
  unfold mayC at h ⊢
  simp only [Bool.and_eq_true, Bool.not_eq_true', decide_eq_false_iff_not] at h ⊢
  obtain ⟨h1, h2, h3, h4⟩ := h
  obtain ⟨a, b⟩ := ovr_may x.b s (low cl) (by omega) (by omega)
  exact ⟨h1, by show ¬ ovr x.b (low s) (low cl) < 0; omega, by show ¬ 15 < ovr x.b (low s) (low cl); omega, h4⟩
theorem styles_may {s cl : Int} {F T : Nat} {cs : List Cl} (h : mayCs cs = true) : mayCs (setAt (setC s cl) F T cs) = true := by
  unfold mayCs at *
  rw [List.all_eq_true] at *
  intro y hy
  obtain ⟨x, hx, rfl | rfl⟩ := setAt_mem hy
  · exact mayC_set (h x hx)
  · exact h y hx
theorem styles_fine {s cl : Int} {F T : Nat} {cs : List Cl} (h : FineC cs) : FineC (setAt (setC s cl) F T cs) := by
  intro y hy
  obtain ⟨x, hx, rfl | rfl⟩ := setAt_mem hy
  · exact h x hx
  · exact h y hx

end Go.Proofs.YtoagikkjomobgaaDoor
