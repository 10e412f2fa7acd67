/- What Within says, said of lists: the cells between are of the link, those beside are not. No program in sight. -/
import Derived.Test.YtgpccjmkghpiiaaCellPlain
namespace Go.Proofs.Ytgpccjmkghpiiaa
open Go.RowKit

theorem backTo_le (cs : List Cl) (h : ByteArray) : ∀ k, backTo cs h k ≤ k := by
  intro k
  induction k with
  | zero => exact Nat.le_refl _
  | succ k ih => rw [backTo]; split <;> omega
theorem backTo_all (cs : List Cl) (h : ByteArray) : ∀ k i, backTo cs h k ≤ i → i < k → hrefAt cs i = h := by
  intro k
  induction k with
  | zero => intro i _ hi; omega
  | succ k ih =>
    intro i h1 h2
    rw [backTo] at h1
    split at h1
    · rename_i he
      by_cases hk : i = k
      · subst hk; exact he
      · exact ih i h1 (by omega)
    · omega
theorem backTo_edge (cs : List Cl) (h : ByteArray) : ∀ k, backTo cs h k = 0 ∨ (0 < backTo cs h k ∧ hrefAt cs (backTo cs h k - 1) ≠ h) := by
  intro k
  induction k with
  | zero => exact .inl rfl
  | succ k ih =>
    rw [backTo]
    split
    · exact ih
    · rename_i he
      exact .inr ⟨by omega, by simpa using he⟩
theorem onTo_ge (cs : List Cl) (h : ByteArray) : ∀ b k, k ≤ onTo cs h b k := by
  intro b
  induction b with
  | zero => intro k; exact Nat.le_refl _
  | succ b ih => intro k; rw [onTo]; split
                 · exact Nat.le_trans (Nat.le_succ k) (ih (k + 1))
                 · exact Nat.le_refl _
theorem onTo_le (cs : List Cl) (h : ByteArray) : ∀ b k, k ≤ cs.length → onTo cs h b k ≤ cs.length := by
  intro b
  induction b with
  | zero => intro k hk; exact hk
  | succ b ih =>
    intro k hk
    rw [onTo]
    split
    · rename_i he; exact ih (k + 1) (by omega)
    · exact hk
theorem onTo_all (cs : List Cl) (h : ByteArray) : ∀ b k i, k ≤ i → i < onTo cs h b k → hrefAt cs i = h := by
  intro b
  induction b with
  | zero => intro k i h1 h2; rw [onTo] at h2; omega
  | succ b ih =>
    intro k i h1 h2
    rw [onTo] at h2
    split at h2
    · rename_i he
      by_cases hk : i = k
      · subst hk; exact he.2
      · exact ih (k + 1) i (by omega) h2
    · omega
theorem onTo_edge (cs : List Cl) (h : ByteArray) : ∀ b k, k ≤ cs.length → cs.length ≤ k + b → onTo cs h b k = cs.length ∨ (onTo cs h b k < cs.length ∧ hrefAt cs (onTo cs h b k) ≠ h) := by
  intro b
  induction b with
  | zero => intro k h1 h2; rw [onTo]; exact .inl (by omega)
  | succ b ih =>
    intro k h1 h2
    rw [onTo]
    split
    · rename_i he; exact ih (k + 1) (by omega) (by omega)
    · rename_i he
      by_cases hk : k = cs.length
      · exact .inl hk
      · exact .inr ⟨by omega, fun e => he ⟨by omega, e⟩⟩

/-- All that the law asks of Within, in a row. -/
structure LinkFacts (cs : List Cl) (p f t : Nat) (h : ByteArray) : Prop where
  fp : f ≤ p
  pt : p ≤ t
  tn : t ≤ cs.length
  lt : f < t
  all : ∀ i, f ≤ i → i < t → hrefAt cs i = h
  lo : f = 0 ∨ (0 < f ∧ hrefAt cs (f - 1) ≠ h)
  hi : t = cs.length ∨ (t < cs.length ∧ hrefAt cs t ≠ h)
theorem linkFacts (cs : List Cl) (p : Nat) (hp : p ≤ cs.length) (h : ByteArray) (hb : (0 < p ∧ hrefAt cs (p - 1) = h) ∨ (p < cs.length ∧ hrefAt cs p = h)) :
    LinkFacts cs p (backTo cs h p) (onTo cs h cs.length p) h := by
  have h1 := backTo_le cs h p
  have h2 := onTo_ge cs h cs.length p
  have h3 := onTo_le cs h cs.length p hp
  refine ⟨h1, h2, h3, ?_, fun i a b => ?_, backTo_edge cs h p, onTo_edge cs h cs.length p hp (by omega)⟩
  · rcases hb with ⟨h0, he⟩ | ⟨h0, he⟩
    · have : backTo cs h p < p := by
        obtain ⟨j, rfl⟩ : ∃ j, p = j + 1 := ⟨p - 1, by omega⟩
        rw [backTo, if_pos (by simpa using he)]
        have := backTo_le cs h j
        omega
      omega
    · have := onTo_step cs h p h0 he
      have := onTo_ge cs h cs.length (p + 1)
      omega
  · by_cases hi : i < p
    · exact backTo_all cs h p i a hi
    · exact onTo_all cs h _ p i (by omega) b
end Go.Proofs.Ytgpccjmkghpiiaa
