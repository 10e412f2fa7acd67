/- The walks of slices.Equal over rows of cells, of cells.Same. -/
import Derived.Test.YtblbfoniimnkcaaDoorLnBaseB
import Derived.Laws.OwnMore
import Derived.RegionTactic
import Derived.BigRegion
namespace Go.Proofs.YtblbfoniimnkcaaDoor
open Go.RowKit

set_option maxHeartbeats 2000000 in
theorem equal_any (A B : Option Addr) (xs ys : List Cl) (n m c d C D : Nat) (hn : n = xs.length) (hm : m = ys.length) (w : World) (hA : SlAt encC 3 w C A xs) (hB : SlAt encC 3 w D B ys) (hx : xs.length ≤ 1000000000) :
    Calls Tryd.prog 53 #[.slice A n c, .slice B m d] w (RetQuiet (.bool (decide (xs = ys))) w) := by
  subst hn hm
  by_cases hl : xs.length = ys.length
  · have hb0 : ((xs.length : Int) != (ys.length : Int)) = false := by rw [bne_eq_false_iff_eq]; omega
    go_enter Tryd.func53, Tryd.ntmps53
    go_wp2
    go_loopw [13] (fun i wr => ∃ k : Nat, k ≤ xs.length ∧ i = .int .i64 k ∧ Hid (xs.take k = ys.take k) ∧ ∃ q, wr = w.drewN q) (fun i _ => xs.length - (intOf i).toNat)
    case atStart => exact ⟨0, Nat.zero_le _, rfl, rfl, 0, rfl⟩
    case round =>
      obtain ⟨k, hk, rfl, ht, q, rfl⟩ := hrel
      by_cases hlt : k < xs.length
      · obtain ⟨ad, x, rfl, -, hx, x0, x1, x2⟩ := hA.atC hlt
        obtain ⟨bd, y, rfl, -, hy, y0, y1, y2⟩ := hB.atC (show k < ys.length by omega)
        have hi1 : (k : Int) < (xs.length : Int) := by omega
        have hi2 : (k : Int) < (ys.length : Int) := by omega
        have HX := hid hx
        have HY := hid hy
        clear hx hy
        by_cases hxy : x = y
        · subst hxy
          have HT : Hid (xs.take (k + 1) = ys.take (k + 1)) := by
            show _ = _
            rw [take_snoc' HX.out, take_snoc' HY.out, ht.out]
          go_wp2
          go_quiet (fail)
          go_wp2
          go_roundw
          case rel => exact ⟨k + 1, by omega, by go_num, HT, _, rfl⟩
          case measure => simp [intOf]; omega
        · have hne : decide (xs = ys) = false := decide_eq_false fun e => hxy (by
            have h1 := HX.out
            rw [e, HY.out] at h1
            injection h1 with h1
            exact h1.symm)
          have HN := hid hne
          clear hne
          rcases (show (¬ x.r = y.r) ∨ (x.r = y.r ∧ ¬ x.b = y.b) ∨ (x.r = y.r ∧ x.b = y.b ∧ ¬ x.h.toList = y.h.toList) from by
            by_cases h1 : x.r = y.r
            · by_cases h2 : x.b = y.b
              · exact .inr (.inr ⟨h1, h2, fun h3 => hxy (Cl.ext' h1 h2 (toList_inj h3))⟩)
              · exact .inr (.inl ⟨h1, h2⟩)
            · exact .inl h1) with h1 | ⟨h1, h2⟩ | ⟨h1, h2, h3⟩
          · have b1 : (x.r == y.r) = false := beq_eq_false_iff_ne.2 h1
            clear h1
            go_wp2
            go_quiet (fail)
            go_wp2
            go_ret
            exact ⟨ret_bool HN.out.symm, _, by first | rfl | exact World.drewN_drewN _ _ _⟩
          · have b1 : (x.r == y.r) = true := beq_iff_eq.2 h1
            have b2 : (x.b == y.b) = false := beq_eq_false_iff_ne.2 h2
            clear h1 h2
            go_wp2
            go_quiet (fail)
            go_wp2
            go_ret
            exact ⟨ret_bool HN.out.symm, _, by first | rfl | exact World.drewN_drewN _ _ _⟩
          · have b1 : (x.r == y.r) = true := beq_iff_eq.2 h1
            have b2 : (x.b == y.b) = true := beq_iff_eq.2 h2
            have b3 : (x.h.toList == y.h.toList) = false := beq_eq_false_iff_ne.2 h3
            clear h1 h2 h3
            go_wp2
            go_quiet (fail)
            go_wp2
            go_ret
            exact ⟨ret_bool HN.out.symm, _, by first | rfl | exact World.drewN_drewN _ _ _⟩
      · have he : decide (xs = ys) = true := decide_eq_true (by
          have h1 := ht.out
          rwa [List.take_of_length_le (by omega), List.take_of_length_le (by omega)] at h1)
        have HN := hid he
        clear he
        have hi1 : ¬ ((k : Int) < (xs.length : Int)) := by omega
        go_wp2
        go_ret
        exact ⟨ret_bool HN.out.symm, q, rfl⟩
  · have hb0 : ((xs.length : Int) != (ys.length : Int)) = true := by rw [bne_iff_ne]; omega
    have hne : decide (xs = ys) = false := decide_eq_false fun e => hl (by rw [e])
    have HN := hid hne
    clear hne
    go_enter Tryd.func53, Tryd.ntmps53
    go_wp2
    go_ret
    exact ⟨ret_bool HN.out.symm, 0, rfl⟩

set_option maxHeartbeats 400000 in
theorem same_any (A B : Option Addr) (xs ys : List Cl) (n m c d C D : Nat) (hn : n = xs.length) (hm : m = ys.length) (w : World) (hA : SlAt encC 3 w C A xs) (hB : SlAt encC 3 w D B ys) (hx : xs.length ≤ 1000000000) :
    Calls Tryd.prog 33 #[.slice A n c, .slice B m d] w (RetQuiet (.bool (decide (xs = ys))) w) := by
  have HE := hid (equal_any A B xs ys n m c d C D hn hm w hA hB hx)
  obtain ⟨b, hb⟩ : ∃ b, b = decide (xs = ys) := ⟨_, rfl⟩
  rw [← hb] at HE ⊢
  clear hb hA hB hn hm hx
  go_enter Tryd.func33, Tryd.ntmps33
  go_wp2_with (go_at_call 53; refine HE.out.mono ?_; rintro e w' ⟨rfl, q, rfl⟩)
  go_ret
  exact ⟨rfl, q, rfl⟩

end Go.Proofs.YtblbfoniimnkcaaDoor
