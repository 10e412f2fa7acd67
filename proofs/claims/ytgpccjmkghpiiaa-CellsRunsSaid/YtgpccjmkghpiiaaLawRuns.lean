/- The walk of the law CellsRuns: whatever the row and the place, it answers true. -/
import Derived.Test.YtgpccjmkghpiiaaRefRuns
import Derived.Test.YtgpccjmkghpiiaaAround
import Derived.Test.YtgpccjmkghpiiaaCells4
import Derived.Test.YtgpccjmkghpiiaaOpen
namespace Go.Proofs.Ytgpccjmkghpiiaa
open Go.RowKit

set_option maxRecDepth 100000 in
set_option maxHeartbeats 8000000 in
theorem lawRuns_any (A : Option Addr) (cs : List Cl) (n c B : Nat) (hn : n = cs.length) (at_ : Int) (w : World) (hA : SlAt encC 3 w B A cs) (hl : cs.length ≤ maxLen) (hh : ∀ x ∈ cs, x.h.size ≤ maxLen) :
    Calls Try.prog 7 #[.slice A n c, .int .i64 at_] w (RetBelow (.bool true) w) := by
  subst hn
  have hlong := hid (long_any A cs cs.length c B rfl w hA hl hh)
  by_cases hbig : 20000 < heft cs
  · have hd : decide (20000 < heft cs) = true := decide_eq_true hbig
    clear hbig
    go_enter Try.func7, Try.ntmps7
    go_wp2_with (first
      | (go_at_call 13; refine hlong.out.mono ?_; rintro e w' ⟨rfl, rfl⟩)
      | (go_at_call 9; refine (awake5_any _).mono ?_; rintro e W1 ⟨rfl, hb1⟩))
    go_ret
    exact ⟨rfl, hb1⟩
  · have hlen : cs.length ≤ 20000 := by unfold heft at hbig; omega
    have hd : decide (20000 < heft cs) = false := decide_eq_false hbig
    clear hbig hl hh
    have hRl := length_runsL cs
    have hS := hA.live (fun _ => by rw [encC_len]; omega)
    have HR := hid (fun W B h => runs_any A cs cs.length c B rfl W h (by omega))
    have HR2 := hid (fun W B h => refRuns_any A cs cs.length c B rfl W h (by omega))
    have HAr := hid (fun W B h => around_any A cs cs.length c B rfl at_ W h (by omega))
    have HAr2 := hid (fun W B h => refAround_any A cs cs.length c B rfl at_ W h (by omega))
    have HW := hid (fun W B h => within_any A cs cs.length c B rfl at_ W h (by omega))
    have HW2 := hid (fun W B h => refWithin_any A cs cs.length c B rfl at_ W h (by omega))
    obtain ⟨R, hR⟩ : ∃ R, R = runsL cs := ⟨_, rfl⟩
    rw [← hR] at hRl HR HR2
    clear hR
    obtain ⟨ab, ah, hab⟩ : ∃ ab ah, aroundL cs at_ = (ab, ah) := ⟨_, _, rfl⟩
    rw [hab] at HAr HAr2
    obtain ⟨wf, wt, hwt⟩ : ∃ wf wt, withinL cs at_ = (wf, wt) := ⟨_, _, rfl⟩
    rw [hwt] at HW HW2
    simp only at HAr HAr2 HW HW2
    clear hab hwt
    have q1 : (ab == ab) = true := by simp
    have q2 : (ah.toList == ah.toList) = true := by simp
    have q3 : ((wf : Int) == (wf : Int)) = true := by simp
    have q4 : ((wt : Int) == (wt : Int)) = true := by simp
    go_enter Try.func7, Try.ntmps7
    go_wp2_with (first
      | (go_at_call 13; refine hlong.out.mono ?_; rintro e w' ⟨rfl, rfl⟩)
      | (go_at_call 14; refine (HR.out _ _ hA).mono ?_; rintro e W1 ⟨v1, rfl, ho1, hb1⟩; obtain ⟨A1, c1, rfl, -, -, -, hS1⟩ := ho1.form encN_len)
      | (go_at_call 24; refine (HR2.out _ _ (hS.below hb1)).mono ?_; rintro e W2 ⟨v2, rfl, ho2, hb2⟩; obtain ⟨A2, c2, rfl, -, -, -, hS2⟩ := ho2.form encN_len))
    have hS1' := hS1.below hb2
    have hSw := (hS.below hb1).belowM hb2 hb1.size
    go_loopw [7] (fun s7 wr => ∃ i q : Nat, i ≤ R.length ∧ s7 = .int .i64 i ∧ wr = W2.drewN q) (fun s7 _ => R.length - (intOf s7).toNat)
    case atStart => exact ⟨0, 0, Nat.zero_le _, rfl, rfl⟩
    case round =>
      obtain ⟨i, q, hi, rfl, rfl⟩ := hrel
      by_cases hlt : i < R.length
      · obtain ⟨ad, x, rfl, -, hx, x0, x1, x2, x3, x4⟩ := hS1'.atN hlt
        obtain ⟨bd, y, rfl, -, hy, y0, y1, y2, y3, y4⟩ := hS2.atN hlt
        rw [hx] at hy
        injection hy with hy
        subst hy
        have hi1 : (i : Int) < (R.length : Int) := by omega
        clear hx
        go_wp2
        go_quiet (fail)
        go_wp2
        go_roundw
        case rel => exact ⟨i + 1, _, by omega, by go_num, rfl⟩
        case measure => simp [intOf]; omega
      · have hi1 : ¬ ((i : Int) < (R.length : Int)) := by omega
        go_wp2_with (first
          | (go_at_call 25; refine (HAr.out _ _ (hSw.drewN _)).mono ?_; rintro e w' ⟨rfl, q1', rfl⟩)
          | (go_at_call 26; refine (HAr2.out _ _ (hSw.drewN _)).mono ?_; rintro e w' ⟨rfl, q2', rfl⟩)
          | (go_at_call 15; refine (HW.out _ _ (hSw.drewN _)).mono ?_; rintro e w' ⟨rfl, rfl⟩)
          | (go_at_call 27; refine (HW2.out _ _ (hSw.drewN _)).mono ?_; rintro e w' ⟨rfl, rfl⟩)
          | (go_at_call 9; refine (awake5_any _).mono ?_; rintro e W4 ⟨rfl, hb4⟩))
        go_ret
        refine ⟨rfl, (hb1.trans (hb2.mono hb1.size)).trans ((below_drewN (Below.refl _ W2) _).trans (hb4.mono (Nat.le_trans hb1.size hb2.size)))⟩

theorem lawRuns_in {A : Option Addr} {n c : Nat} {cs : List Cl} (w : World) (h : CellsIn w A n cs) (at_ : Int) (_ : (Lit.int .i64 at_).wf = true) :
    Calls Try.prog 7 #[.slice A n c, .int .i64 at_] w (RetBelow (.bool true) w) :=
  lawRuns_any A cs n c _ h.len at_ w h.at_ h.le h.size
end Go.Proofs.Ytgpccjmkghpiiaa
