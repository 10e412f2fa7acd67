/- Rows of integers: slices.Contains, the reference's Same. -/
import Derived.Test.YtapjlkiffgfbfaaDoorRunes
import Derived.Test.YtapjlkiffgfbfaaDoorApp
import Derived.Test.YtapjlkiffgfbfaaDoorTagFind
import Derived.OwnWalk
import Derived.Deep.QuietTactic
import Derived.BigQuiet
import Derived.Lib.LaidU8
namespace Go.Proofs.YtapjlkiffgfbfaaDoor
open Go.RowKit Go.Lib

theorem Tryd.okI : ElemOk Tryd.prog encI 1 3 := ElemOk.mk' (z := .int .i64 0) (bytes := 8) encI_len (fun x u hu => by simp [encI] at hu; subst hu; rfl) (by omega) (by kernel_rfl) rfl (by omega)
theorem contains_any (A : Option Addr) (xs : List Int) (n c B : Nat) (hn : n = xs.length) (x : Int) (w : World) (hA : SlAt encI 1 w B A xs) (hl : xs.length ≤ 1000000000) :
    Calls Tryd.prog 59 #[.slice A n c, .int .i64 x] w fun e w' => e = .returned (.bool (xs.contains x)) ∧ w = w' := by
  subst hn
  cases xs with
  | nil => exact (Tryd.slices_Contains_int_empty A c x w).mono fun e w' ⟨he, hw⟩ => ⟨by rw [he]; rfl, hw.symm⟩
  | cons y ys =>
    obtain ⟨ad, rfl, _, hc⟩ := hA (by simp)
    have hcell : ∀ j, j < (y :: ys).length → w.cell? (ad.add j) = some (.int .i64 ((y :: ys).getD j 0)) := fun j hj => by
      have := hc j _ (List.getElem?_eq_getElem hj) 0 _ rfl
      rw [add_zero', Nat.mul_one] at this
      rw [this, List.getD, List.getElem?_eq_getElem hj]; rfl
    obtain ⟨b, o, sp⟩ := ad
    have h0 := hcell 0 (by simp)
    rw [add_zero'] at h0
    obtain rfl := cell_spot h0
    refine (Tryd.slices_Contains_int b o (y :: ys).length c (y :: ys) x w (Nat.le_refl _) (by omega) (fun j hj => by rw [← hcell j hj, Addr.add_mid])).mono fun e w' ⟨he, hw⟩ => ⟨by rw [he, List.take_of_length_le (Nat.le_refl _)], hw.symm⟩

theorem ret_bl {a b : Bool} (h : a = b) : Ending.returned (.bool a) = .returned (.bool b) := by rw [h]
def IntsQuiet (b : Bool) (w : World) (e : Ending) (w' : World) : Prop := e = .returned (.bool b) ∧ ∃ q, w' = w.drewN q
set_option maxHeartbeats 1000000 in
theorem sameInts_any (A B : Option Addr) (xs ys : List Int) (n m c d C D : Nat) (hn : n = xs.length) (hm : m = ys.length) (w : World) (hA : SlAt encI 1 w C A xs) (hB : SlAt encI 1 w D B ys) (hx : xs.length ≤ 1000000000) :
    Calls Tryd.prog 29 #[.slice A n c, .slice B m d] w (IntsQuiet (decide (xs = ys)) w) := by
  subst hn hm
  by_cases hl : xs.length = ys.length
  · have hb0 : ((xs.length : Int) != (ys.length : Int)) = false := by rw [bne_eq_false_iff_eq]; omega
    have HL := hid hl
    obtain ⟨r, hr⟩ : ∃ r, decide (xs = ys) = r := ⟨_, rfl⟩
    have HR := hid hr
    rw [hr]
    clear hl hr
    go_enter Tryd.func29, Tryd.ntmps29
    go_wp2
    go_loopw [5] (fun i wr => ∃ k : Nat, k ≤ xs.length ∧ i = .int .i64 k ∧ Hid (xs.take k = ys.take k) ∧ ∃ q, wr = w.drewN q) (fun i _ => xs.length - (intOf i).toNat)
    case atStart => exact ⟨0, Nat.zero_le _, rfl, rfl, 0, rfl⟩
    case round =>
      obtain ⟨k, hk, rfl, ht, q, rfl⟩ := hrel
      by_cases hlt : k < xs.length
      · obtain ⟨ad, x, rfl, -, hx, x0⟩ := hA.atI hlt
        obtain ⟨bd, y, rfl, -, hy, y0⟩ := hB.atI (show k < ys.length by rw [← HL.out]; exact hlt)
        have hi1 : (k : Int) < (xs.length : Int) := by omega
        have hi2 : (k : Int) < (ys.length : Int) := by rw [← HL.out]; omega
        have HX := hid hx
        have HY := hid hy
        clear hx hy
        by_cases hxy : x = y
        · subst hxy
          have HT : Hid (xs.take (k + 1) = ys.take (k + 1)) := by
            show _ = _
            rw [take_snoc' HX.out, take_snoc' HY.out, ht.out]
          have hb : (x != x) = false := by simp
          go_wp2
          go_quiet (fail)
          go_wp2
          go_roundw
          case rel => exact ⟨k + 1, by omega, by go_num, HT, _, rfl⟩
          case measure => simp [intOf]; omega
        · have hne : r = false := by
            rw [← HR.out]
            exact decide_eq_false fun e => hxy (by
              have h1 := HX.out
              rw [e, HY.out] at h1
              injection h1 with h1
              exact h1.symm)
          have HN := hid hne
          have hb : (x != y) = true := by simpa using hxy
          clear hne hxy
          go_wp2
          go_quiet (fail)
          go_wp2
          go_ret
          exact ⟨ret_bl HN.out.symm, _, by first | rfl | exact World.drewN_drewN _ _ _⟩
      · have hne : r = true := by
          rw [← HR.out]
          refine decide_eq_true ?_
          have := ht.out
          rwa [List.take_of_length_le (by omega), List.take_of_length_le (by rw [← HL.out]; omega)] at this
        have HN := hid hne
        clear hne
        go_wp2
        go_ret
        exact ⟨ret_bl HN.out.symm, _, by first | rfl | exact World.drewN_drewN _ _ _⟩
  · have hb0 : ((xs.length : Int) != (ys.length : Int)) = true := by rw [bne_iff_ne]; omega
    have hr : decide (xs = ys) = false := decide_eq_false fun e => hl (by rw [e])
    rw [hr]
    clear hl hr
    go_enter Tryd.func29, Tryd.ntmps29
    go_wp2
    go_ret
    exact ⟨rfl, 0, rfl⟩
end Go.Proofs.YtapjlkiffgfbfaaDoor
