/- The walk of lines.Join. (Printed by wip/lnjoin.py.) -/
import Derived.Test.YtblbfoniimnkcaaGreatDoorLnKit
import Derived.Test.YtblbfoniimnkcaaGreatDoorLnOwn
import Derived.Test.YtblbfoniimnkcaaGreatDoorLnMay
import Derived.BigQuiet
import Derived.Deep.QuietTactic
namespace Go.Proofs.YtblbfoniimnkcaaGreatDoor
open Go.RowKit Go.Lib

/-- A row of cells grew: the boxes stand, and what lies ahead. -/
theorem KL.grown {w0 w w' : World} {bs : List BoxR} {rs : List RowL} (h : KL w0 w bs rs []) {v : Value} {xs : List Cl} (hv : Own encC 3 60 w w0.heap.size v xs) (hg : w.grownBy w' v.ownBlock) (hr : ∀ r ∈ rs, LnAt w0 w0.heap.size r.l r.A r.B) : KL w0 w' bs rs [] := by
  have hb : Below w0.heap.size w w' := (Below.refl _ w).grown hg h.b.size (fun k hk => (hv.lt k hk).1)
  refine ⟨h.b.trans hb, fun t ht => ⟨(h.bx t ht).1, ?_⟩, h.nd, fun r hr' => .inl ((hr r hr').below (h.b.trans hb)), (fun _ h => by cases h), .nil⟩
  have hk := (h.bx t ht).2
  refine (hg.block t.g hk.lt (fun hrow => ?_)).trans hk
  obtain ⟨cur, hc⟩ := hv.ty hrow.symm
  unfold Bx at hk
  rw [hc] at hk
  injection hk with hk
  injection hk with _ hk _
  exact absurd hk (by decide)
theorem Own.grownI {w w' : World} {base : Nat} {v u : Value} {xs : List Cl} {ys : List Int} (hv : Own encC 3 60 w base v xs) (hg : w.grownBy w' v.ownBlock) (hu : Own encI 1 3 w base u ys) : Own encI 1 3 w' base u ys := by
  unfold Own at hu ⊢
  refine hu.kept hg ?_
  by_cases hn : u.ownBlock = none
  · exact .inl hn
  · right
    intro e
    cases hk : u.ownBlock with
    | none => exact hn hk
    | some k =>
      obtain ⟨cur, hc⟩ := Own.ty (show Own encI 1 3 w base u ys from hu) hk
      obtain ⟨cur', hc'⟩ := hv.ty (e ▸ hk)
      rw [hc] at hc'
      injection hc' with hc'
      injection hc' with _ hc' _
      exact absurd hc' (by decide)
end Go.Proofs.YtblbfoniimnkcaaGreatDoor
