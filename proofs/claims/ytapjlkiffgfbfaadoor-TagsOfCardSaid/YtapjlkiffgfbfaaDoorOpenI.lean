/- A row of integers that came in, opened to its cells. No program in sight. -/
import Derived.Test.YtapjlkiffgfbfaaDoorRunes
import Derived.ProofKit
namespace Go.Proofs.YtapjlkiffgfbfaaDoor
open Go.ChangeShapes Go.WideShapes

/-- What is told of a row of integers that came in. -/
structure IntsIn (w : World) (A : Option Addr) (n : Nat) (xs : List Int) : Prop where
  len : n = xs.length
  le : xs.length ≤ maxLen
  at_ : SlAt encI 1 w w.heap.size A xs
theorem open_intsI {H : Type} {enc : TypeId × Value → H} {P : Program} {w : World} {base : Nat} {spare : Nat → Bool} {held : Bool} {t e : TypeId} {fuel : Nat} {A : Option Addr} {n c : Nat} {x : DataW H × List MemPlace} (ht : P.underlying t = some (.slice e)) (he : P.underlying e = some (.int .i64)) (hc : P.cellsOf e = 1)
    (h : DataW.trod enc P w base spare held fuel t [.slice A n c] = some x) : ∃ xs, IntsIn w A n xs := by
  rcases open_ints ht he hc h with ⟨hcs, _⟩ | ⟨a, len, cap, zs, hcs, _, hl, hm, hz, _, hcell, _⟩
  · simp at hcs
    obtain ⟨rfl, rfl, rfl⟩ := hcs
    exact ⟨[], rfl, by simp, SlAt.nil⟩
  · simp at hcs
    obtain ⟨rfl, rfl, rfl⟩ := hcs
    have hnz : n ≤ zs.length := by rw [hz]; split <;> omega
    refine ⟨zs.take n, by rw [List.length_take]; omega, by rw [List.length_take]; omega, SlAt.live (B := a.block + 1) (fun _ => ⟨a, rfl, by omega, fun k y hy j u hu => ?_⟩) (fun _ => by rw [encI_len]; omega)⟩
    cases j with
    | succ j => simp [encI] at hu
    | zero =>
      simp [encI] at hu
      subst hu
      rw [List.getElem?_take] at hy
      split at hy
      · have hk : k < zs.length := (List.getElem?_eq_some_iff.1 hy).1
        rw [add_add', Nat.mul_one, Nat.add_zero, hcell k hk, List.getD, hy]
        rfl
      · cases hy
end Go.Proofs.YtapjlkiffgfbfaaDoor
