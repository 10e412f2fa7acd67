/- The walk of the law CellsLinks: whatever the row and the place, it answers true. -/
import Derived.Test.YtgpccjmkghpiiaaAwake5
import Derived.Test.YtgpccjmkghpiiaaLinksPlain
import Derived.Deep.DeepCutAuto
import Derived.Test.YtgpccjmkghpiiaaOpen
namespace Go.Proofs.Ytgpccjmkghpiiaa
open Go.RowKit

set_option maxRecDepth 100000 in
set_option maxHeartbeats 4000000 in
theorem lawLinks_any (A : Option Addr) (cs : List Cl) (n c B : Nat) (hn : n = cs.length) (at_ : Int) (w : World) (hA : SlAt encC 3 w B A cs) (hl : cs.length ≤ maxLen) (hh : ∀ x ∈ cs, x.h.size ≤ maxLen) :
    Calls Try.prog 5 #[.slice A n c, .int .i64 at_] w (RetBelow (.bool true) w) := by
  subst hn
  have hlong := hid (long_any A cs cs.length c B rfl w hA hl hh)
  by_cases hbig : 20000 < heft cs
  · have hd : decide (20000 < heft cs) = true := decide_eq_true hbig
    clear hbig
    go_enter Try.func5, Try.ntmps5
    go_wp2_with (first
      | (go_at_call 13; refine hlong.out.mono ?_; rintro e w' ⟨rfl, rfl⟩)
      | (go_at_call 9; refine (awake5_any _).mono ?_; rintro e W1 ⟨rfl, hb1⟩))
    go_ret
    exact ⟨rfl, hb1⟩
  · have hlen : cs.length ≤ 20000 := by unfold heft at hbig; omega
    have hd : decide (20000 < heft cs) = false := decide_eq_false hbig
    clear hbig hl hh
    have hple := place_le cs.length at_
    have hwin := within_any A cs cs.length c B rfl at_ w hA (by omega)
    obtain ⟨p, hp⟩ : ∃ p, place cs.length at_ = p := ⟨_, rfl⟩
    have HP := hid hp
    rw [hp] at hple
    unfold withinL at hwin
    rw [hp] at hwin
    simp only at hwin
    clear hp
    obtain ⟨f, t, HW, hft⟩ : ∃ f t : Nat, Hid (Calls Try.prog 15 #[.slice A cs.length c, .int .i64 at_] w fun e w' => e = .returned (.tuple #[.int .i64 f, .int .i64 t]) ∧ w = w') ∧
        (f = p ∧ t = p ∧ linkAt cs p = .empty ∨ LinkFacts cs p f t (linkAt cs p) ∧ linkAt cs p ≠ .empty) := by
      by_cases he : linkAt cs p = .empty
      · rw [if_pos he] at hwin
        exact ⟨p, p, hwin, .inl ⟨rfl, rfl, he⟩⟩
      · rw [if_neg he] at hwin
        refine ⟨_, _, hwin, .inr ⟨linkFacts cs p hple _ ?_, he⟩⟩
        by_cases h1 : 0 < p ∧ hrefAt cs (p - 1) ≠ .empty
        · have e1 : linkAt cs p = hrefAt cs (p - 1) := by unfold linkAt; rw [if_pos h1]
          exact .inl ⟨h1.1, e1.symm⟩
        · have e1 : linkAt cs p = hrefAt cs p := by unfold linkAt; rw [if_neg h1]
          refine .inr ⟨?_, e1.symm⟩
          by_cases h2 : p < cs.length
          · exact h2
          · exact absurd (e1.trans (by unfold hrefAt; rw [List.getElem?_eq_none (by omega)])) he
    clear hwin
    have hfb : f ≤ p ∧ p ≤ t ∧ t ≤ cs.length := by
      rcases hft with ⟨rfl, rfl, _⟩ | ⟨h, _⟩
      · exact ⟨Nat.le_refl _, Nat.le_refl _, hple⟩
      · exact ⟨h.fp, h.pt, h.tn⟩
    obtain ⟨b1, b2, b3⟩ := hfb
    have HFT := hid hft
    have HA := hid hA
    clear hft hA
    go_enter Try.func5, Try.ntmps5
    go_upto_region 4 with (first
      | (go_at_call 13; refine hlong.out.mono ?_; rintro e w' ⟨rfl, rfl⟩)
      | (go_at_call 15; refine HW.out.mono ?_; rintro e w' ⟨rfl, rfl⟩))
    go_cut [7] (fun s7 wx => s7 = .int .i64 p ∧ w = wx)
    case first =>
      rcases (show at_ < 0 ∨ (∃ q : Nat, at_ = q ∧ q < cs.length) ∨ (cs.length : Int) = at_ ∨ (cs.length : Int) < at_ from by
        rcases (show at_ < 0 ∨ (0 ≤ at_ ∧ at_ < cs.length) ∨ (cs.length : Int) = at_ ∨ (cs.length : Int) < at_ from by omega) with h | ⟨h, h'⟩ | h | h
        · exact .inl h
        · exact .inr (.inl ⟨at_.toNat, by omega, by omega⟩)
        · exact .inr (.inr (.inl h))
        · exact .inr (.inr (.inr h))) with h | ⟨q, rfl, h⟩ | rfl | h
      · obtain rfl : p = 0 := by rw [← HP.out]; unfold place; omega
        go_wp2_with fail
        go_meet
        exact ⟨rfl, rfl⟩
      · obtain rfl : p = q := by rw [← HP.out]; unfold place; omega
        go_wp2_with fail
        go_meet
        exact ⟨rfl, rfl⟩
      · obtain rfl : p = cs.length := by rw [← HP.out]; unfold place; omega
        go_wp2_with fail
        go_meet
        exact ⟨rfl, rfl⟩
      · obtain rfl : p = cs.length := by rw [← HP.out]; unfold place; omega
        go_wp2_with fail
        go_meet
        exact ⟨rfl, rfl⟩
    case rest =>
      obtain ⟨rfl, rfl⟩ := hcut
      -- what is beside the place
      have hbes : ∃ beside : Bool, (beside = true ↔ linkAt cs p ≠ .empty) ∧
          ((p = 0 ∧ cs.length = 0 ∧ beside = false) ∨
           (p = 0 ∧ 0 < cs.length ∧ ∃ ad hy, A = some ad ∧ w.cell? ⟨ad.block, ad.off + 2, none⟩ = some (.string hy) ∧ hy.toList.isEmpty = !beside) ∨
           (∃ j ad hx, p = j + 1 ∧ A = some ad ∧ w.cell? ⟨(ad.add (j * 3)).block, (ad.add (j * 3)).off + 2, none⟩ = some (.string hx) ∧
             (hx.toList.isEmpty = false ∧ beside = true ∨
              hx.toList.isEmpty = true ∧ (p = cs.length ∧ beside = false ∨ ∃ hy, p < cs.length ∧ w.cell? ⟨(ad.add (p * 3)).block, (ad.add (p * 3)).off + 2, none⟩ = some (.string hy) ∧ hy.toList.isEmpty = !beside)))) := by
        have hem : ∀ h : ByteArray, h ≠ .empty ↔ h.toList.isEmpty = false := fun h => by
          rw [Ne, ← toList_nil_iff_emptyBytes]; simp
        cases p with
        | zero =>
          have e0 : linkAt cs 0 = hrefAt cs 0 := linkAt_behind fun y _ h0 => absurd h0 (by omega)
          rw [e0]
          by_cases hp : 0 < cs.length
          · obtain ⟨ad, x, rfl, -, hx, -, -, x2⟩ := HA.out.atC hp
            rw [Nat.zero_mul, add_zero'] at x2
            rw [hrefAt_some hx]
            refine ⟨!x.h.toList.isEmpty, by rw [hem]; simp, .inr (.inl ⟨rfl, hp, ad, x.h, rfl, x2, by simp⟩)⟩
          · rw [hrefAt_none (by omega)]
            exact ⟨false, by simp, .inl ⟨rfl, by omega, rfl⟩⟩
        | succ j =>
          obtain ⟨ad, x, rfl, -, hx, -, -, x2⟩ := HA.out.atC (show j < cs.length by omega)
          by_cases he : x.h.toList.isEmpty = true
          · have e0 : linkAt cs (j + 1) = hrefAt cs (j + 1) := linkAt_behind fun y hy _ => by
              rw [show j + 1 - 1 = j by omega, hx] at hy; injection hy with hy; subst hy; exact (toList_nil_iff_emptyBytes _).1 (by simpa using he)
            rw [e0]
            by_cases hp : j + 1 < cs.length
            · obtain ⟨ad', y, e', -, hy, -, -, y2⟩ := HA.out.atC hp
              injection e' with e'
              subst e'
              rw [hrefAt_some hy]
              exact ⟨!y.h.toList.isEmpty, by rw [hem]; simp, .inr (.inr ⟨j, ad, x.h, rfl, rfl, x2, .inr ⟨he, .inr ⟨y.h, hp, y2, by simp⟩⟩⟩)⟩
            · rw [hrefAt_none (by omega)]
              exact ⟨false, by simp, .inr (.inr ⟨j, ad, x.h, rfl, rfl, x2, .inr ⟨he, .inl ⟨by omega, rfl⟩⟩⟩)⟩
          · have hne : x.h ≠ .empty := (hem _).2 (by simpa using he)
            rw [linkAt_ahead (by rw [show j + 1 - 1 = j by omega]; exact hx) (by omega) hne]
            exact ⟨true, by simp [hne], .inr (.inr ⟨j, ad, x.h, rfl, rfl, x2, .inl ⟨by simpa using he, rfl⟩⟩)⟩
      obtain ⟨beside, hbl, hcs⟩ := hbes
      have HBL := hid hbl
      clear hbl
      go_upto_region 7 with (fail)
      go_cut [8] (fun s8 w8 => s8 = .bool beside ∧ w = w8)
      case first =>
        rcases hcs with ⟨rfl, h1, rfl⟩ | ⟨rfl, h1, ad, hy, rfl, hc, he⟩ | ⟨j, ad, hx, rfl, rfl, hc, ⟨he, rfl⟩ | ⟨he, ⟨h1, rfl⟩ | ⟨hy, h1, hc1, he1⟩⟩⟩
        · have h1' : ¬ ((0 : Int) < (cs.length : Int)) := by omega
          have H1 := hid h1
          clear h1
          go_wp2_with fail
          go_meet
          exact ⟨rfl, rfl⟩
        · have h1' : (0 : Int) < (cs.length : Int) := by omega
          go_wp2_with fail
          go_meet
          exact ⟨by simp, rfl⟩
        · go_wp2_with fail
          go_meet
          exact ⟨rfl, rfl⟩
        · have h1' : ¬ ((j : Int) + 1 < (cs.length : Int)) := by omega
          have H1 := hid h1
          clear h1
          go_wp2_with fail
          go_meet
          exact ⟨rfl, rfl⟩
        · have h1' : (j : Int) + 1 < (cs.length : Int) := by omega
          go_wp2_with fail
          go_meet
          exact ⟨by simp, rfl⟩
      case rest =>
        obtain ⟨rfl, rfl⟩ := hcut
        rcases HFT.out with ⟨e1, e2, e3⟩ | ⟨hlf, e3⟩
        · obtain rfl : beside = false := by
            cases hb : beside with
            | false => rfl
            | true => exact absurd e3 (HBL.out.1 hb)
          subst e1
          subst e2
          go_wp2_with (go_at_call 9; refine (awake5_any _).mono ?_; rintro e W1 ⟨rfl, hb1⟩)
          go_ret
          exact ⟨rfl, hb1⟩
        · obtain rfl : beside = true := HBL.out.2 e3
          have HL := hid hlf
          have hft : f < t := hlf.lt
          have hne : ((f : Int) == (t : Int)) = false := by rw [beq_eq_false_iff_ne]; omega
          obtain ⟨hr, hhr⟩ : ∃ hr, hr = linkAt cs p := ⟨_, rfl⟩
          have HHR := hid hhr
          clear hhr hcs
          obtain ⟨ad, x, rfl, -, hx, -, -, x2⟩ := HA.out.atC (show f < cs.length by omega)
          have hxh : x.h = hr := by rw [HHR.out, ← hrefAt_some hx]; exact hlf.all f (Nat.le_refl _) hlf.lt
          have hre : hr.toList.isEmpty = false := by
            have h2 : hr ≠ .empty := by rw [HHR.out]; exact e3
            rw [Ne, ← toList_nil_iff_emptyBytes] at h2
            simpa using h2
          rw [hxh] at x2
          clear e3 hxh hx hlf
          have hi0 : (f : Int) < (cs.length : Int) := by omega
          go_wp2_with fail
          go_loop [10] (fun s => ∃ i : Nat, f ≤ i ∧ i ≤ t ∧ s = .int .i64 i) (fun s => t - (intOf s).toNat)
          case atStart => exact ⟨f, Nat.le_refl _, by omega, rfl⟩
          case round =>
            obtain ⟨i, hi1, hi2, rfl⟩ := hrel
            by_cases hit : i < t
            · obtain ⟨ad2, y, e2, -, hy, -, -, y2⟩ := HA.out.atC (show i < cs.length by omega)
              injection e2 with e2
              subst e2
              have hyh : y.h = hr := by rw [HHR.out, ← hrefAt_some hy]; exact HL.out.all i hi1 hit
              rw [hyh] at y2
              clear hyh hy
              have hi3 : (i : Int) < (cs.length : Int) := by omega
              go_wp2
              go_round
              case rel => exact ⟨i + 1, by omega, by omega, by go_num⟩
              case measure => simp [intOf]; omega
            · have hit' : ¬ ((i : Int) < (t : Int)) := by omega
              have key : ∀ k, k < cs.length → hrefAt cs k ≠ linkAt cs p → ∃ hz, w.cell? ⟨(ad.add (k * 3)).block, (ad.add (k * 3)).off + 2, none⟩ = some (.string hz) ∧ (hz.toList == hr.toList) = false := fun k hk hne2 => by
                obtain ⟨ad2, y, e2, -, hy, -, -, y2⟩ := HA.out.atC hk
                injection e2 with e2
                subst e2
                refine ⟨y.h, y2, beq_eq_false_iff_ne.2 fun e => hne2 ?_⟩
                rw [hrefAt_some hy, ← HHR.out]
                exact toList_inj e
              have HK := hid key
              clear key
              rcases HL.out.lo with h1 | ⟨h1, h1'⟩ <;> rcases HL.out.hi with h2 | ⟨h2, h2'⟩
              · have c1 : ((f : Int) == 0) = true := by rw [beq_iff_eq]; omega
                have c2 : ((t : Int) == (cs.length : Int)) = true := by rw [beq_iff_eq]; omega
                clear h1 h2
                go_wp2_with (go_at_call 9; refine (awake5_any _).mono ?_; rintro e W1 ⟨rfl, hb1⟩)
                go_ret
                exact ⟨rfl, hb1⟩
              · have c1 : ((f : Int) == 0) = true := by rw [beq_iff_eq]; omega
                have c2 : ((t : Int) == (cs.length : Int)) = false := by rw [beq_eq_false_iff_ne]; omega
                obtain ⟨hz, z2, z3⟩ := HK.out t h2 h2'
                have z4 : (hz.toList != hr.toList) = true := by rw [bne, z3]; rfl
                have hi4 : (t : Int) < (cs.length : Int) := by omega
                clear h1 h2 h2'
                go_wp2_with (go_at_call 9; refine (awake5_any _).mono ?_; rintro e W1 ⟨rfl, hb1⟩)
                go_ret
                exact ⟨rfl, hb1⟩
              · have c1 : ((f : Int) == 0) = false := by rw [beq_eq_false_iff_ne]; omega
                have c2 : ((t : Int) == (cs.length : Int)) = true := by rw [beq_iff_eq]; omega
                obtain ⟨hz, z2, z3⟩ := HK.out (f - 1) (by omega) h1'
                have z4 : (hz.toList != hr.toList) = true := by rw [bne, z3]; rfl
                clear h2 h1'
                go_wp2_with (go_at_call 9; refine (awake5_any _).mono ?_; rintro e W1 ⟨rfl, hb1⟩)
                go_ret
                exact ⟨rfl, hb1⟩
              · have c1 : ((f : Int) == 0) = false := by rw [beq_eq_false_iff_ne]; omega
                have c2 : ((t : Int) == (cs.length : Int)) = false := by rw [beq_eq_false_iff_ne]; omega
                obtain ⟨hz, z2, z3⟩ := HK.out (f - 1) (by omega) h1'
                have z4 : (hz.toList != hr.toList) = true := by rw [bne, z3]; rfl
                obtain ⟨hu, u2, u3⟩ := HK.out t h2 h2'
                have u4 : (hu.toList != hr.toList) = true := by rw [bne, u3]; rfl
                have hi4 : (t : Int) < (cs.length : Int) := by omega
                clear h1' h2 h2'
                go_wp2_with (go_at_call 9; refine (awake5_any _).mono ?_; rintro e W1 ⟨rfl, hb1⟩)
                go_ret
                exact ⟨rfl, hb1⟩

theorem lawLinks_in {A : Option Addr} {n c : Nat} {cs : List Cl} (w : World) (h : CellsIn w A n cs) (at_ : Int) (_ : (Lit.int .i64 at_).wf = true) :
    Calls Try.prog 5 #[.slice A n c, .int .i64 at_] w (RetBelow (.bool true) w) :=
  lawLinks_any A cs n c _ h.len at_ w h.at_ h.le h.size
end Go.Proofs.Ytgpccjmkghpiiaa
