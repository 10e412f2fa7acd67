/- The walk of the law CellsStyles: it answers true. (Printed by wip/lawstyles5.py.) -/
import Derived.Test.YtoagikkjomobgaaDoorStylesPlain
namespace Go.Proofs.YtoagikkjomobgaaDoor
open Go.RowKit Go.Lib

set_option maxRecDepth 100000 in
set_option maxHeartbeats 8000000 in
theorem cellsStyles_walk (w : World) {A : Option Addr} {n c : Nat} {cs : List Cl} (hA : CellsIn w A n cs) (hc : n ≤ c) (f : Int) (_ : (Lit.int .i64 f).wf = true) (t : Int) (_ : (Lit.int .i64 t).wf = true) (s : Int) (_ : (Lit.int .i64 s).wf = true) (cl : Int) (_ : (Lit.int .i64 cl).wf = true) (hT : Lib.Utf8Tabs 0 1 w) :
    Calls Tryd.prog 3 #[.slice A n c, .int .i64 f, .int .i64 t, .int .i64 s, .int .i64 cl] w fun e w' => e = .returned (.bool true) ∧ Below w.heap.size w w' := by
  have T := hid hT
  obtain ⟨rfl, hle, hat, hwf, hsz⟩ := hA
  have HA := hid hat
  have Z := hid hsz
  have K := hid (KpC.start w)
  clear hT hat hsz
  cases hb : decide (20000 < heft cs) with
  | true =>
    have HL := hid hb
    clear hb hwf
    go_enter Tryd.func3, Tryd.ntmps3
    go_wp2_with (first
      | (go_at_call 4; refine (long_any A cs _ c _ rfl _ HA.out hle Z.out).mono ?_; rintro e w1 ⟨rfl, rfl⟩; rw [HL.out])
      | (go_at_call 5; refine (awake5_any _).mono ?_; rintro e w3 ⟨rfl, hb⟩; (have K2 := hid (K.out.later hb)); clear hb K; (have K := K2); clear K2))
    go_ret
    exact ⟨rfl, K.out.b⟩
  | false =>
    have HL := hid hb
    have hn1 := of_decide_eq_false hb
    have l9 : cs.length ≤ 1000000000 := by have := @heft_len cs; omega
    have FI := hid (fineC_of hwf hn1)
    clear hb hn1 hwf
    cases hok : okB cs.length f t with
    | false =>
      have SL := hid (show setL s cl f t cs = [] by unfold setL; rw [hok]; rfl)
      have SE := hid (show setE f t cs = 1 by unfold setE; rw [hok]; rfl)
      clear hok
      go_enter Tryd.func3, Tryd.ntmps3
      go_wp2_with (first
        | (go_at_call 4; refine (long_any A cs _ c _ rfl _ HA.out hle Z.out).mono ?_; rintro e w1 ⟨rfl, rfl⟩; rw [HL.out])
        | (go_at_call 6; (with_reducible refine (setC_any A cs _ c _ rfl f t s cl _ (HA.out.below K.out.b) l9).mono ?_); rintro e w5 ⟨v1, rfl, ho1, hb1⟩; rw [SL.out] at ho1; rw [SE.out]; obtain ⟨A1, c1, rfl, cc1, -, -, -⟩ := ho1.form encC_len; (have K2 := hid (K.out.add hb1 ho1)); clear ho1 hb1 K; (have K := K2); clear K2)
        | (go_at_call 5; refine (awake5_any _).mono ?_; rintro e w3 ⟨rfl, hb⟩; (have K2 := hid (K.out.later hb)); clear hb K; (have K := K2); clear K2))
      go_ret
      exact ⟨rfl, K.out.b⟩
    | true =>
      obtain ⟨F, TT, rfl, rfl, hFT, hTn⟩ := span_nat (okB_iff.1 hok)
      obtain ⟨f, hf⟩ : ∃ f : Int, f = (F : Int) := ⟨_, rfl⟩
      obtain ⟨t, ht⟩ : ∃ t : Int, t = (TT : Int) := ⟨_, rfl⟩
      rw [← hf, ← ht] at hok ⊢
      have nf : f.toNat = F := by omega
      have nt : t.toNat = TT := by omega
      obtain ⟨ms, hms⟩ : ∃ l, setAt (setC s cl) F TT cs = l := ⟨_, rfl⟩
      have lenm : ms.length = cs.length := by rw [← hms, length_setAt]
      have SL := hid (show setL s cl f t cs = ms by unfold setL; rw [hok, nf, nt, hms]; rfl)
      have SE := hid (show setE f t cs = 0 by unfold setE; rw [hok]; rfl)
      have SL2 := hid (show setL s cl f t ms = ms by unfold setL; rw [lenm, hok, nf, nt, ← hms]; exact setAt_idem (fun x => setC_idem s cl x) _ _ _)
      have SE2 := hid (show setE f t ms = 0 by unfold setE; rw [lenm, hok]; rfl)
      have SB := hid (show someB5 (bits .andNot .i64 (bits .and .i64 cl 15) s) f t ms = false by unfold someB5; rw [nf, nt, ← hms, styles_some, Bool.and_false])
      have AB0 : F < TT → allB5 (bits .and .i64 s 15) f t ms = true := fun h => by unfold allB5; rw [lenm, hok, nf, nt, decide_eq_true h, ← hms, styles_all]; rfl
      have HM2 : mayCs cs = true → mayCs ms = true := fun h => by rw [← hms]; exact styles_may h
      have FM := hid (show FineC ms by rw [← hms]; exact styles_fine FI.out)
      have GET := hid (fun k x (hx : cs[k]? = some x) => (show ms[k]? = some (if F ≤ k ∧ k < TT then setC s cl x else x) by rw [← hms, getElem?_setAt, hx]; rfl))
      have lms : ms.length ≤ 1000000000 := by omega
      have ml := hid lenm
      have q1 : ((ms.length : Int) != (cs.length : Int)) = false := by rw [lenm]; simp
      obtain ⟨mb, hmb⟩ : ∃ b, mayCs cs = b := ⟨_, rfl⟩
      have MB := hid hmb
      have HFF := hid hf
      have HTT := hid ht
      clear hok nf nt hms lenm hf ht
      go_enter Tryd.func3, Tryd.ntmps3
      go_wp2_with (first
        | (go_at_call 4; refine (long_any A cs _ c _ rfl _ HA.out hle Z.out).mono ?_; rintro e w1 ⟨rfl, rfl⟩; rw [HL.out])
        | (go_at_call 6; (with_reducible refine (setC_any A cs _ c _ rfl f t s cl _ (HA.out.below K.out.b) l9).mono ?_); rintro e w5 ⟨v1, rfl, ho1, hb1⟩; rw [SL.out] at ho1; rw [SE.out]; obtain ⟨A1, c1, rfl, cc1, -, -, -⟩ := ho1.form encC_len; (have K2 := hid (K.out.add hb1 ho1)); clear ho1 hb1 K; (have K := K2); clear K2))
      go_loopw [13] (fun i wr => ∃ k : Nat, k ≤ cs.length ∧ i = .int .i64 k ∧ ∃ q, wr = w5.drewN q) (fun i _ => cs.length - (intOf i).toNat)
      case atStart => exact ⟨0, Nat.zero_le _, rfl, 0, rfl⟩
      case round =>
        obtain ⟨k, hk, rfl, q, rfl⟩ := hrel
        have hf := HFF.out
        have ht := HTT.out
        by_cases hlt : k < cs.length
        · obtain ⟨ad, x, rfl, -, hx, x0, x1, x2⟩ := (HA.out.below K.out.b).atC hlt
          have hi1 : (k : Int) < (cs.length : Int) := by omega
          have hi2 : (k : Int) < (ms.length : Int) := by have := ml.out; omega
          have p0 : (0 : Int) ≤ (k : Int) := by omega
          obtain ⟨ad1, y, rfl, -, hy, y0, y1, y2⟩ := (K.out.sl (A := A1) (n := ms.length) (c := c1) (ys := ms) (by simp)).atC (show k < ms.length by have := ml.out; omega)
          have hyx := hy.symm.trans (GET.out k x hx)
          injection hyx with hyx
          have r1 : y.r = x.r := by rw [hyx]; split <;> rfl
          have r2 : y.h = x.h := by rw [hyx]; split <;> rfl
          have r3 : ¬ (F ≤ k ∧ k < TT) → y.b = x.b := fun h => by rw [hyx, if_neg h]
          have qr : (x.r != x.r) = false := by simp
          have qh1 : (x.h.toList == x.h.toList) = true := by simp
          have qh2 : (x.h.toList != x.h.toList) = false := by simp
          have qb : (x.b != x.b) = false := by simp
          rw [r1] at y0
          rw [r2] at y2
          clear hy hx hyx r1 r2
          by_cases h1 : F ≤ k
          · have g1 : f ≤ (k : Int) := by omega
            by_cases h2 : k < TT
            · have g2 : (k : Int) < t := by omega
              clear r3 ht hf
              go_wp2_with fail
              go_quiet (fail)
              go_wp2_with fail
              go_roundw
              case rel => exact ⟨k + 1, by omega, by go_num, _, by first | rfl | exact World.drewN_drewN _ _ _⟩
              case measure => simp [intOf]; omega
            · have g2 : ¬ (k : Int) < t := by omega
              rw [r3 (by omega)] at y1
              clear r3 ht hf
              go_wp2_with fail
              go_quiet (fail)
              go_wp2_with fail
              go_roundw
              case rel => exact ⟨k + 1, by omega, by go_num, _, by first | rfl | exact World.drewN_drewN _ _ _⟩
              case measure => simp [intOf]; omega
          · have g1 : ¬ f ≤ (k : Int) := by omega
            rw [r3 (by omega)] at y1
            clear r3 ht hf
            go_wp2_with fail
            go_quiet (fail)
            go_wp2_with fail
            go_roundw
            case rel => exact ⟨k + 1, by omega, by go_num, _, by first | rfl | exact World.drewN_drewN _ _ _⟩
            case measure => simp [intOf]; omega
        · have hi1 : ¬ ((k : Int) < (cs.length : Int)) := by omega
          have HQ := hid (K.out.quiet ⟨q, rfl⟩)
          clear K
          have K := HQ
          clear HQ
          by_cases hft : F = TT
          · have e1 : (f == t) = true := by rw [hf, ht, hft]; simp
            clear AB0 ht hf
            cases mb with
            | false =>
              clear HM2 hmb
              go_wp2_with (first
                | (go_at_call 6; (with_reducible refine (setC_any _ ms _ c1 _ rfl f t s cl _ (K.out.sl (n := ms.length) (c := c1) (by simp)) lms).mono ?_); rintro e w5 ⟨v2, rfl, ho2, hb2⟩; rw [SL2.out] at ho2; rw [SE2.out]; obtain ⟨A2, c2, rfl, cc2, -, -, -⟩ := ho2.form encC_len; (have K2 := hid (K.out.add hb2 ho2)); clear ho2 hb2 K; (have K := K2); clear K2)
                | (go_at_call 7; (with_reducible refine (same_any A2 _ ms ms _ _ c2 c1 _ _ rfl rfl _ (K.out.sl (n := ms.length) (c := c2) (by simp)) (K.out.sl (n := ms.length) (c := c1) (by simp)) lms).mono ?_); rintro e w6 ⟨rfl, hq⟩; rw [decide_eq_true (rfl : ms = ms)]; (have K2 := hid (K.out.quiet hq)); clear hq K; (have K := K2); clear K2)
                | (go_at_call 9; (with_reducible refine (someC_any _ ms _ c1 _ rfl f t (bits .andNot .i64 (bits .and .i64 cl 15) s) _ (K.out.sl (n := ms.length) (c := c1) (by simp)) lms cc1).mono ?_); rintro e w6 ⟨rfl, hb⟩; rw [SB.out]; (have K2 := hid (K.out.later hb)); clear hb K; (have K := K2); clear K2)
                | (go_at_call 10; (with_reducible refine (mayCells_any _ cs _ c _ rfl _ (HA.out.below K.out.b) l9 FI.out (Utf8Tabs_below T.out K.out.b)).mono ?_); rintro e w6 ⟨rfl, hb⟩; rw [MB.out]; (have K2 := hid (K.out.later hb)); clear hb K; (have K := K2); clear K2)
                | (go_at_call 5; refine (awake5_any _).mono ?_; rintro e w3 ⟨rfl, hb⟩; (have K2 := hid (K.out.later hb)); clear hb K; (have K := K2); clear K2))
              go_ret
              exact ⟨rfl, K.out.b⟩
            | true =>
              have MB2 := hid (HM2 hmb)
              clear HM2 hmb
              go_wp2_with (first
                | (go_at_call 6; (with_reducible refine (setC_any _ ms _ c1 _ rfl f t s cl _ (K.out.sl (n := ms.length) (c := c1) (by simp)) lms).mono ?_); rintro e w5 ⟨v2, rfl, ho2, hb2⟩; rw [SL2.out] at ho2; rw [SE2.out]; obtain ⟨A2, c2, rfl, cc2, -, -, -⟩ := ho2.form encC_len; (have K2 := hid (K.out.add hb2 ho2)); clear ho2 hb2 K; (have K := K2); clear K2)
                | (go_at_call 7; (with_reducible refine (same_any A2 _ ms ms _ _ c2 c1 _ _ rfl rfl _ (K.out.sl (n := ms.length) (c := c2) (by simp)) (K.out.sl (n := ms.length) (c := c1) (by simp)) lms).mono ?_); rintro e w6 ⟨rfl, hq⟩; rw [decide_eq_true (rfl : ms = ms)]; (have K2 := hid (K.out.quiet hq)); clear hq K; (have K := K2); clear K2)
                | (go_at_call 9; (with_reducible refine (someC_any _ ms _ c1 _ rfl f t (bits .andNot .i64 (bits .and .i64 cl 15) s) _ (K.out.sl (n := ms.length) (c := c1) (by simp)) lms cc1).mono ?_); rintro e w6 ⟨rfl, hb⟩; rw [SB.out]; (have K2 := hid (K.out.later hb)); clear hb K; (have K := K2); clear K2)
                | (go_at_call 10; (with_reducible refine (mayCells_any _ cs _ c _ rfl _ (HA.out.below K.out.b) l9 FI.out (Utf8Tabs_below T.out K.out.b)).mono ?_); rintro e w6 ⟨rfl, hb⟩; rw [MB.out]; (have K2 := hid (K.out.later hb)); clear hb K; (have K := K2); clear K2)
                | (go_at_call 10; (with_reducible refine (mayCells_any _ ms _ c1 _ rfl _ (K.out.sl (n := ms.length) (c := c1) (by simp)) lms FM.out (Utf8Tabs_below T.out K.out.b)).mono ?_); rintro e w6 ⟨rfl, hb⟩; rw [MB2.out]; (have K2 := hid (K.out.later hb)); clear hb K; (have K := K2); clear K2)
                | (go_at_call 5; refine (awake5_any _).mono ?_; rintro e w3 ⟨rfl, hb⟩; (have K2 := hid (K.out.later hb)); clear hb K; (have K := K2); clear K2))
              go_ret
              exact ⟨rfl, K.out.b⟩
          · have e1 : (f == t) = false := by rw [hf, ht, beq_eq_false_iff_ne]; omega
            have AB := hid (AB0 (by omega))
            clear AB0 ht hf
            cases mb with
            | false =>
              clear HM2 hmb
              go_wp2_with (first
                | (go_at_call 6; (with_reducible refine (setC_any _ ms _ c1 _ rfl f t s cl _ (K.out.sl (n := ms.length) (c := c1) (by simp)) lms).mono ?_); rintro e w5 ⟨v2, rfl, ho2, hb2⟩; rw [SL2.out] at ho2; rw [SE2.out]; obtain ⟨A2, c2, rfl, cc2, -, -, -⟩ := ho2.form encC_len; (have K2 := hid (K.out.add hb2 ho2)); clear ho2 hb2 K; (have K := K2); clear K2)
                | (go_at_call 7; (with_reducible refine (same_any A2 _ ms ms _ _ c2 c1 _ _ rfl rfl _ (K.out.sl (n := ms.length) (c := c2) (by simp)) (K.out.sl (n := ms.length) (c := c1) (by simp)) lms).mono ?_); rintro e w6 ⟨rfl, hq⟩; rw [decide_eq_true (rfl : ms = ms)]; (have K2 := hid (K.out.quiet hq)); clear hq K; (have K := K2); clear K2)
                | (go_at_call 8; (with_reducible refine (allC_any _ ms _ c1 _ rfl f t (bits .and .i64 s 15) _ (K.out.sl (n := ms.length) (c := c1) (by simp)) lms cc1).mono ?_); rintro e w6 ⟨rfl, hb⟩; rw [AB.out]; (have K2 := hid (K.out.later hb)); clear hb K; (have K := K2); clear K2)
                | (go_at_call 9; (with_reducible refine (someC_any _ ms _ c1 _ rfl f t (bits .andNot .i64 (bits .and .i64 cl 15) s) _ (K.out.sl (n := ms.length) (c := c1) (by simp)) lms cc1).mono ?_); rintro e w6 ⟨rfl, hb⟩; rw [SB.out]; (have K2 := hid (K.out.later hb)); clear hb K; (have K := K2); clear K2)
                | (go_at_call 10; (with_reducible refine (mayCells_any _ cs _ c _ rfl _ (HA.out.below K.out.b) l9 FI.out (Utf8Tabs_below T.out K.out.b)).mono ?_); rintro e w6 ⟨rfl, hb⟩; rw [MB.out]; (have K2 := hid (K.out.later hb)); clear hb K; (have K := K2); clear K2)
                | (go_at_call 5; refine (awake5_any _).mono ?_; rintro e w3 ⟨rfl, hb⟩; (have K2 := hid (K.out.later hb)); clear hb K; (have K := K2); clear K2))
              go_ret
              exact ⟨rfl, K.out.b⟩
            | true =>
              have MB2 := hid (HM2 hmb)
              clear HM2 hmb
              go_wp2_with (first
                | (go_at_call 6; (with_reducible refine (setC_any _ ms _ c1 _ rfl f t s cl _ (K.out.sl (n := ms.length) (c := c1) (by simp)) lms).mono ?_); rintro e w5 ⟨v2, rfl, ho2, hb2⟩; rw [SL2.out] at ho2; rw [SE2.out]; obtain ⟨A2, c2, rfl, cc2, -, -, -⟩ := ho2.form encC_len; (have K2 := hid (K.out.add hb2 ho2)); clear ho2 hb2 K; (have K := K2); clear K2)
                | (go_at_call 7; (with_reducible refine (same_any A2 _ ms ms _ _ c2 c1 _ _ rfl rfl _ (K.out.sl (n := ms.length) (c := c2) (by simp)) (K.out.sl (n := ms.length) (c := c1) (by simp)) lms).mono ?_); rintro e w6 ⟨rfl, hq⟩; rw [decide_eq_true (rfl : ms = ms)]; (have K2 := hid (K.out.quiet hq)); clear hq K; (have K := K2); clear K2)
                | (go_at_call 8; (with_reducible refine (allC_any _ ms _ c1 _ rfl f t (bits .and .i64 s 15) _ (K.out.sl (n := ms.length) (c := c1) (by simp)) lms cc1).mono ?_); rintro e w6 ⟨rfl, hb⟩; rw [AB.out]; (have K2 := hid (K.out.later hb)); clear hb K; (have K := K2); clear K2)
                | (go_at_call 9; (with_reducible refine (someC_any _ ms _ c1 _ rfl f t (bits .andNot .i64 (bits .and .i64 cl 15) s) _ (K.out.sl (n := ms.length) (c := c1) (by simp)) lms cc1).mono ?_); rintro e w6 ⟨rfl, hb⟩; rw [SB.out]; (have K2 := hid (K.out.later hb)); clear hb K; (have K := K2); clear K2)
                | (go_at_call 10; (with_reducible refine (mayCells_any _ cs _ c _ rfl _ (HA.out.below K.out.b) l9 FI.out (Utf8Tabs_below T.out K.out.b)).mono ?_); rintro e w6 ⟨rfl, hb⟩; rw [MB.out]; (have K2 := hid (K.out.later hb)); clear hb K; (have K := K2); clear K2)
                | (go_at_call 10; (with_reducible refine (mayCells_any _ ms _ c1 _ rfl _ (K.out.sl (n := ms.length) (c := c1) (by simp)) lms FM.out (Utf8Tabs_below T.out K.out.b)).mono ?_); rintro e w6 ⟨rfl, hb⟩; rw [MB2.out]; (have K2 := hid (K.out.later hb)); clear hb K; (have K := K2); clear K2)
                | (go_at_call 5; refine (awake5_any _).mono ?_; rintro e w3 ⟨rfl, hb⟩; (have K2 := hid (K.out.later hb)); clear hb K; (have K := K2); clear K2))
              go_ret
              exact ⟨rfl, K.out.b⟩
end Go.Proofs.YtoagikkjomobgaaDoor
