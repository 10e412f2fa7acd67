/- Texts on cells and lines, put together: RDoc7, RMay23, RSpan23, RSame23. -/
import Derived.Test.YtblbfoniimnkcaaGreatDoorBgKg
import Derived.Test.YtblbfoniimnkcaaGreatDoorDocMay
import Derived.Test.YtblbfoniimnkcaaGreatDoorBgCmp
import Derived.Test.YtblbfoniimnkcaaGreatDoorLnMayR
import Derived.Test.YtblbfoniimnkcaaGreatDoorBgSame
import Derived.Test.YtblbfoniimnkcaaGreatDoorBgDr
import Derived.BigQuiet
import Derived.Deep.QuietTactic
import Derived.Test.YtblbfoniimnkcaaGreatDoorDocBits
import Derived.Test.YtblbfoniimnkcaaGreatDoorTSpan
/- The walks of the reference's May, Is, Cmp of documents. (Printed by wip/bldoc.py.) -/
namespace Go.Proofs.YtblbfoniimnkcaaGreatDoor
open Go.RowKit Go.Lib

theorem all_yes {hs : List Hd} (h : ∀ (j : Nat) (y : Hd), hs[j]? = some y → mayL y.l = true) : (lnsOf hs).all mayL = true := by
  rw [List.all_eq_true]
  intro l hl
  obtain ⟨y, hy, rfl⟩ := List.mem_map.1 hl
  obtain ⟨j, hj, rfl⟩ := List.getElem_of_mem hy
  exact h j _ (List.getElem?_eq_getElem hj)
theorem all_no {hs : List Hd} {k : Nat} {x : Hd} (hx : hs[k]? = some x) (h : mayL x.l = false) : (lnsOf hs).all mayL = false := by
  cases e : (lnsOf hs).all mayL with
  | false => rfl
  | true =>
    rw [List.all_eq_true] at e
    have := e x.l (List.mem_map_of_mem (List.mem_of_getElem? hx))
    rw [h] at this
    cases this
set_option maxRecDepth 100000 in
set_option maxHeartbeats 4000000 in
theorem rMay7_any (hs : List Hd) (A : Option Addr) (n c C : Nat) (hn : n = hs.length) (w : World) (hd : DocAt w C A hs) (h1 : hs.length ≤ 1000) (h2 : ∀ h ∈ hs, h.l.ls.length ≤ 1000000 ∧ h.l.cs.length ≤ 1000000) (hf : ∀ h ∈ hs, FineC h.l.cs) :
    Calls Tryz.prog 40 #[.slice A n c] w (IsBool (mayD (lnsOf hs)) w) := by
  unfold mayD
  rw [lnsOf_len]
  subst hn
  have D0 := hid h2
  have L0 := hid h1
  have K := hid (KG.start w [⟨hs, A, false⟩] (by simpa using hd.live))
  have FI := hid hf
  clear hd h2 hf
  by_cases l1 : hs.length < 1
  · have l1' : ((hs.length : Nat) : Int) < 1 := by omega
    rw [decide_eq_false (show ¬ 1 ≤ hs.length by omega)]
    go_enter Tryz.func40, Tryz.ntmps40
    go_wp2_with (first
      | go_big_skip
      | (go_at_call 62; (with_reducible refine (rSize7_any hs A _ c _ rfl _ (K.out.at_ (d := ⟨hs, A, false⟩) (by simp)) L0.out D0.out).mono ?_); rintro e W1 ⟨rfl, hb⟩; (have K2 := hid (K.out.later hb)); clear hb K; (have K := K2); clear K2))
    go_ret
    exact ⟨rfl, K.out.b⟩
  have d1 : decide (((hs.length : Nat) : Int) < 1) = false := decide_eq_false (by omega)
  rw [decide_eq_true (show 1 ≤ hs.length by omega)]
  by_cases l2 : 200 < hs.length
  · have l2' : (200 : Int) < ((hs.length : Nat) : Int) := by omega
    rw [decide_eq_false (show ¬ hs.length ≤ 200 by omega)]
    go_enter Tryz.func40, Tryz.ntmps40
    go_wp2_with (first
      | go_big_skip
      | (go_at_call 62; (with_reducible refine (rSize7_any hs A _ c _ rfl _ (K.out.at_ (d := ⟨hs, A, false⟩) (by simp)) L0.out D0.out).mono ?_); rintro e W1 ⟨rfl, hb⟩; (have K2 := hid (K.out.later hb)); clear hb K; (have K := K2); clear K2))
    go_ret
    exact ⟨rfl, K.out.b⟩
  have d2 : decide ((200 : Int) < ((hs.length : Nat) : Int)) = false := decide_eq_false (by omega)
  rw [decide_eq_true (show hs.length ≤ 200 by omega)]
  by_cases l3 : 4000 < sizeD (lnsOf hs)
  · have l3' : (4000 : Int) < ((sizeD (lnsOf hs) : Nat) : Int) := by omega
    rw [decide_eq_false (show ¬ sizeD (lnsOf hs) ≤ 4000 by omega)]
    go_enter Tryz.func40, Tryz.ntmps40
    go_wp2_with (first
      | go_big_skip
      | (go_at_call 62; (with_reducible refine (rSize7_any hs A _ c _ rfl _ (K.out.at_ (d := ⟨hs, A, false⟩) (by simp)) L0.out D0.out).mono ?_); rintro e W1 ⟨rfl, hb⟩; (have K2 := hid (K.out.later hb)); clear hb K; (have K := K2); clear K2))
    go_ret
    exact ⟨rfl, K.out.b⟩
  have d3 : decide ((4000 : Int) < ((sizeD (lnsOf hs) : Nat) : Int)) = false := decide_eq_false (by omega)
  rw [decide_eq_true (show sizeD (lnsOf hs) ≤ 4000 by omega)]
  simp only [Bool.true_and]
  go_enter Tryz.func40, Tryz.ntmps40
  go_wp2_with (first
    | go_big_skip
    | (go_at_call 62; (with_reducible refine (rSize7_any hs A _ c _ rfl _ (K.out.at_ (d := ⟨hs, A, false⟩) (by simp)) L0.out D0.out).mono ?_); rintro e W1 ⟨rfl, hb⟩; (have K2 := hid (K.out.later hb)); clear hb K; (have K := K2); clear K2))
  go_loopw [3] (fun i wr => ∃ (k : Nat), k ≤ hs.length ∧ i = .int .i64 (k : Int) ∧ Hid (∀ (j : Nat) (y : Hd), hs[j]? = some y → j < k → mayL y.l = true) ∧ Hid (KG w wr [] [⟨hs, A, false⟩])) (fun i _ => hs.length - (intOf i).toNat)
  case atStart => exact ⟨0, Nat.zero_le _, rfl, hid (fun j y _ h => by omega), K⟩
  case round =>
    clear K
    obtain ⟨k, hk, rfl, HA, K⟩ := hrel
    have hk3 : (k : Int) ≤ 1000 := by have := L0.out; omega
    by_cases hlt : k < hs.length
    · have hi : (k : Int) < (hs.length : Int) := by omega
      obtain ⟨ad, x, rfl, -, hx, -⟩ := (K.out.at_ (d := ⟨hs, A, false⟩) (by simp)).row.atH hlt
      have HX := hid hx
      have XM := hid (List.mem_of_getElem? hx)
      have HLT := hid hlt
      clear hx hlt
      cases mx : mayL x.l with
      | false =>
        have MX := hid mx
        rw [all_no HX.out mx]
        clear mx
        go_wp2_with (first
          | go_big_skip
          | ((with_reducible show wpList _ _ _ _ _ _); refine kgElem (by rfl) 46 _ (by rfl) _ Tryz.underlying46 rfl (by kernel_rfl) K (by rfl) (by repeat (first | exact List.mem_cons_self | refine List.mem_cons_of_mem _ ?_)) HX.out ?_)
          | (go_at_call 63; (with_reducible refine (refLMay_any x.l x.A _ x.c x.B _ x.d _ rfl rfl _ ((K.out.at_ (d := ⟨hs, some ad, false⟩) (by simp)).ln HX.out) (by have := (D0.out x XM.out).1; omega) (by have := (D0.out x XM.out).2; omega) (FI.out x XM.out)).mono ?_); rintro e W2 ⟨rfl, hb⟩; rw [MX.out]; (have K2 := hid (K.out.later hb)); clear hb K; (have K := K2); clear K2))
        go_ret
        exact ⟨rfl, K.out.b⟩
      | true =>
        have MX := hid mx
        clear mx
        go_wp2_with (first
          | go_big_skip
          | ((with_reducible show wpList _ _ _ _ _ _); refine kgElem (by rfl) 46 _ (by rfl) _ Tryz.underlying46 rfl (by kernel_rfl) K (by rfl) (by repeat (first | exact List.mem_cons_self | refine List.mem_cons_of_mem _ ?_)) HX.out ?_)
          | (go_at_call 63; (with_reducible refine (refLMay_any x.l x.A _ x.c x.B _ x.d _ rfl rfl _ ((K.out.at_ (d := ⟨hs, some ad, false⟩) (by simp)).ln HX.out) (by have := (D0.out x XM.out).1; omega) (by have := (D0.out x XM.out).2; omega) (FI.out x XM.out)).mono ?_); rintro e W2 ⟨rfl, hb⟩; rw [MX.out]; (have K2 := hid (K.out.later hb)); clear hb K; (have K := K2); clear K2))
        go_roundw
        case rel =>
          refine ⟨k + 1, by have := HLT.out; omega, by go_num, hid (fun j y hy hj => ?_), K⟩
          by_cases e : j = k
          · subst e
            rw [HX.out] at hy
            injection hy with hy
            subst hy
            exact MX.out
          · exact HA.out j y hy (by omega)
        case measure => simp [intOf]; have := HLT.out; omega
    · have hi : ¬ (k : Int) < (hs.length : Int) := by omega
      have hi' : decide ((k : Int) < (hs.length : Int)) = false := decide_eq_false hi
      have AY := hid (all_yes (fun j y hy => HA.out j y hy (by have := (List.getElem?_eq_some_iff.1 hy).1; omega)))
      go_wp2_with (first
        | fail)
      go_ret
      refine ⟨?_, K.out.b⟩
      rw [AY.out]
      rfl
set_option maxRecDepth 100000 in
set_option maxHeartbeats 4000000 in
theorem rIs7_any (hs : List Hd) (A : Option Addr) (n c C : Nat) (hn : n = hs.length) (w : World) (hd : DocAt w C A hs) (pl pa : Int) :
    Calls Tryz.prog 41 #[.slice A n c, .agg #[.int .i64 pl, .int .i64 pa]] w (IsBool (isD (lnsOf hs) ⟨pl, pa⟩) w) := by
  subst hn
  have K := hid (KG.start w [⟨hs, A, false⟩] (by simpa using hd.live))
  clear hd
  by_cases l1 : pl < 0
  · rw [isD_out (show ¬ (0 ≤ pl ∧ pl < (hs.length : Int)) by omega)]
    go_enter Tryz.func41, Tryz.ntmps41
    go_wp2_with (first
      | go_big_skip
      | ((with_reducible show wpList _ _ _ _ _ _); refine kgBox (by rfl) 24 _ (by rfl) (some 3) (by rfl) (by rfl) [_, _] (by rfl) K ?_; intro g3 V1 K1; clear K; (have K := K1); clear K1)
      | ((with_reducible show wpList _ _ _ _ _ _); refine kgLoad1 (by rfl) 3 _ (by rfl) _ Tryz.underlying3 rfl K (by rfl) (by repeat (first | exact List.mem_cons_self | refine List.mem_cons_of_mem _ ?_)) (by rfl) ?_))
    go_ret
    exact ⟨rfl, K.out.b⟩
  have d1 : decide (pl < 0) = false := decide_eq_false l1
  by_cases l2 : (hs.length : Int) ≤ pl
  · rw [isD_out (show ¬ (0 ≤ pl ∧ pl < (hs.length : Int)) by omega)]
    go_enter Tryz.func41, Tryz.ntmps41
    go_wp2_with (first
      | go_big_skip
      | ((with_reducible show wpList _ _ _ _ _ _); refine kgBox (by rfl) 24 _ (by rfl) (some 3) (by rfl) (by rfl) [_, _] (by rfl) K ?_; intro g3 V1 K1; clear K; (have K := K1); clear K1)
      | ((with_reducible show wpList _ _ _ _ _ _); refine kgLoad1 (by rfl) 3 _ (by rfl) _ Tryz.underlying3 rfl K (by rfl) (by repeat (first | exact List.mem_cons_self | refine List.mem_cons_of_mem _ ?_)) (by rfl) ?_))
    go_ret
    exact ⟨rfl, K.out.b⟩
  have d2 : decide ((hs.length : Int) ≤ pl) = false := decide_eq_false l2
  obtain ⟨k, rfl⟩ := Int.eq_ofNat_of_zero_le (show 0 ≤ pl by omega)
  have hi : (k : Int) < (hs.length : Int) := by omega
  have hi0 : (0 : Int) ≤ (k : Int) := by omega
  obtain ⟨ad, x, rfl, -, hx, -⟩ := (K.out.at_ (d := ⟨hs, A, false⟩) (by simp)).row.atH (show k < hs.length by omega)
  have HX := hid hx
  rw [isD_in hx]
  clear hx
  by_cases l3 : 0 ≤ pa
  · have d3 : decide ((0 : Int) ≤ pa) = true := decide_eq_true l3
    rw [d3]
    simp only [Bool.true_and]
    go_enter Tryz.func41, Tryz.ntmps41
    go_upto_region 3 with (first
      | go_big_skip
      | ((with_reducible show wpList _ _ _ _ _ _); refine kgBox (by rfl) 24 _ (by rfl) (some 3) (by rfl) (by rfl) [_, _] (by rfl) K ?_; intro g3 V1 K1; clear K; (have K := K1); clear K1)
      | ((with_reducible show wpList _ _ _ _ _ _); refine kgLoad1 (by rfl) 3 _ (by rfl) _ Tryz.underlying3 rfl K (by rfl) (by repeat (first | exact List.mem_cons_self | refine List.mem_cons_of_mem _ ?_)) (by rfl) ?_))
    obtain ⟨J, hJ⟩ : ∃ J : (Nat → Bool) → World → Prop, J = fun _ W => Hid (KG w W [⟨g3, 24, [.int .i64 (k : Int), .int .i64 pa]⟩] [⟨hs, some ad, false⟩]) := ⟨_, rfl⟩
    replace hJ := hid hJ
    refine wp_drawn2_det [.pointer (some ⟨g3, 1, none⟩), .int .i64 pa, .bool true, .bool true, .pointer (some ⟨g3, 1, none⟩), .int .i64 pa, .slice (some ad) hs.length c, .pointer (some ⟨g3, 0, none⟩), .int .i64 (k : Int), .pointer (some (ad.add (k * 4))), .pointer (some ⟨(ad.add (k * 4)).block, (ad.add (k * 4)).off + 3, none⟩), .slice x.B x.l.cs.length x.d, .int .i64 (x.l.cs.length : Int), .bool (decide (pa ≤ (x.l.cs.length : Int))), .bool (decide (pa ≤ (x.l.cs.length : Int))), .bool (decide (pa ≤ (x.l.cs.length : Int)))] (by kernel_rfl) (by kernel_rfl) rfl J (by rw [hJ.out]; exact hid (K.out.quiet ⟨1, rfl⟩)) ?step ?fin
    case step =>
      clear K
      intro i o b W ho hb hw K
      rw [hJ.out] at K
      rcases i with _ | i
      · obtain rfl := Option.some.inj ho
        simp only [List.take_zero, drFrame]
        clear ho hb hw
        go_wp2_with (first
          | fail)
        refine ⟨rfl, rfl, ?_⟩
        rw [hJ.out]
        exact K
      rcases i with _ | i
      · obtain rfl := Option.some.inj ho
        simp only [List.take_succ_cons, List.take_zero, drFrame, List.setIfInBounds_toArray, List.set_cons_succ, List.set_cons_zero]
        clear ho hb hw
        go_wp2_with (first
          | go_big_skip
          | ((with_reducible show wpList _ _ _ _ _ _); refine kgLoad1 (by rfl) 3 _ (by rfl) _ Tryz.underlying3 rfl K (by rfl) (by repeat (first | exact List.mem_cons_self | refine List.mem_cons_of_mem _ ?_)) (by rfl) ?_))
        refine ⟨rfl, rfl, ?_⟩
        rw [hJ.out]
        exact K
      rcases i with _ | i
      · obtain rfl := Option.some.inj ho
        simp only [List.take_succ_cons, List.take_zero, drFrame, List.setIfInBounds_toArray, List.set_cons_succ, List.set_cons_zero]
        clear ho hb hw
        go_wp2_with (first
          | fail)
        refine ⟨rfl, rfl, ?_⟩
        rw [hJ.out]
        exact K
      rcases i with _ | i
      · obtain rfl := Option.some.inj ho
        simp only [List.take_succ_cons, List.take_zero, drFrame, List.setIfInBounds_toArray, List.set_cons_succ, List.set_cons_zero]
        clear ho hb hw
        go_wp2_with (first
          | fail)
        refine ⟨rfl, rfl, ?_⟩
        rw [hJ.out]
        exact K
      rcases i with _ | i
      · obtain rfl := Option.some.inj ho
        simp only [List.take_succ_cons, List.take_zero, drFrame, List.setIfInBounds_toArray, List.set_cons_succ, List.set_cons_zero]
        clear ho hb hw
        go_wp2_with (first
          | fail)
        refine ⟨rfl, rfl, ?_⟩
        rw [hJ.out]
        exact K
      rcases i with _ | i
      · obtain rfl := Option.some.inj ho
        simp only [List.take_succ_cons, List.take_zero, drFrame, List.setIfInBounds_toArray, List.set_cons_succ, List.set_cons_zero]
        clear ho hb hw
        go_wp2_with (first
          | go_big_skip
          | ((with_reducible show wpList _ _ _ _ _ _); refine kgLoad1 (by rfl) 3 _ (by rfl) _ Tryz.underlying3 rfl K (by rfl) (by repeat (first | exact List.mem_cons_self | refine List.mem_cons_of_mem _ ?_)) (by rfl) ?_))
        refine ⟨rfl, rfl, ?_⟩
        rw [hJ.out]
        exact K
      rcases i with _ | i
      · obtain rfl := Option.some.inj ho
        simp only [List.take_succ_cons, List.take_zero, drFrame, List.setIfInBounds_toArray, List.set_cons_succ, List.set_cons_zero]
        clear ho hb hw
        go_wp2_with (first
          | fail)
        refine ⟨rfl, rfl, ?_⟩
        rw [hJ.out]
        exact K
      rcases i with _ | i
      · obtain rfl := Option.some.inj ho
        simp only [List.take_succ_cons, List.take_zero, drFrame, List.setIfInBounds_toArray, List.set_cons_succ, List.set_cons_zero]
        clear ho hb hw
        go_wp2_with (first
          | fail)
        refine ⟨rfl, rfl, ?_⟩
        rw [hJ.out]
        exact K
      rcases i with _ | i
      · obtain rfl := Option.some.inj ho
        simp only [List.take_succ_cons, List.take_zero, drFrame, List.setIfInBounds_toArray, List.set_cons_succ, List.set_cons_zero]
        clear ho hb hw
        go_wp2_with (first
          | go_big_skip
          | ((with_reducible show wpList _ _ _ _ _ _); refine kgLoad1 (by rfl) 3 _ (by rfl) _ Tryz.underlying3 rfl K (by rfl) (by repeat (first | exact List.mem_cons_self | refine List.mem_cons_of_mem _ ?_)) (by rfl) ?_))
        refine ⟨rfl, rfl, ?_⟩
        rw [hJ.out]
        exact K
      rcases i with _ | i
      · obtain rfl := Option.some.inj ho
        simp only [List.take_succ_cons, List.take_zero, drFrame, List.setIfInBounds_toArray, List.set_cons_succ, List.set_cons_zero]
        clear ho hb hw
        go_wp2_with (first
          | fail)
        refine ⟨rfl, rfl, ?_⟩
        rw [hJ.out]
        exact K
      rcases i with _ | i
      · obtain rfl := Option.some.inj ho
        simp only [List.take_succ_cons, List.take_zero, drFrame, List.setIfInBounds_toArray, List.set_cons_succ, List.set_cons_zero]
        clear ho hb hw
        go_wp2_with (first
          | fail)
        refine ⟨rfl, rfl, ?_⟩
        rw [hJ.out]
        exact K
      rcases i with _ | i
      · obtain rfl := Option.some.inj ho
        simp only [List.take_succ_cons, List.take_zero, drFrame, List.setIfInBounds_toArray, List.set_cons_succ, List.set_cons_zero]
        clear ho hb hw
        go_wp2_with (first
          | go_big_skip
          | ((with_reducible show wpList _ _ _ _ _ _); refine kgElem1 (by rfl) 44 _ (by rfl) _ Tryz.underlying44 rfl K (by rfl) (by repeat (first | exact List.mem_cons_self | refine List.mem_cons_of_mem _ ?_)) HX.out (by decide) (by rfl) ?_))
        refine ⟨rfl, rfl, ?_⟩
        rw [hJ.out]
        exact K
      rcases i with _ | i
      · obtain rfl := Option.some.inj ho
        simp only [List.take_succ_cons, List.take_zero, drFrame, List.setIfInBounds_toArray, List.set_cons_succ, List.set_cons_zero]
        clear ho hb hw
        go_wp2_with (first
          | fail)
        refine ⟨rfl, rfl, ?_⟩
        rw [hJ.out]
        exact K
      rcases i with _ | i
      · obtain rfl := Option.some.inj ho
        simp only [List.take_succ_cons, List.take_zero, drFrame, List.setIfInBounds_toArray, List.set_cons_succ, List.set_cons_zero]
        clear ho hb hw
        go_wp2_with (first
          | fail)
        refine ⟨rfl, rfl, ?_⟩
        rw [hJ.out]
        exact K
      rcases i with _ | i
      · obtain rfl := Option.some.inj ho
        simp only [List.take_succ_cons, List.take_zero, drFrame, List.setIfInBounds_toArray, List.set_cons_succ, List.set_cons_zero]
        clear ho hb hw
        go_wp2_with (first
          | fail)
        refine ⟨rfl, rfl, ?_⟩
        rw [hJ.out]
        exact K
      rcases i with _ | i
      · obtain rfl := Option.some.inj ho
        simp only [List.take_succ_cons, List.take_zero, drFrame, List.setIfInBounds_toArray, List.set_cons_succ, List.set_cons_zero]
        clear ho hb hw
        go_wp2_with (first
          | fail)
        refine ⟨rfl, rfl, ?_⟩
        rw [hJ.out]
        exact K
      · cases ho
    case fin =>
      clear K
      intro b W hb K
      rw [hJ.out] at K
      simp only [drFrame, List.setIfInBounds_toArray, List.set_cons_succ, List.set_cons_zero]
      clear hb hJ
      go_wp2_with (first
        | fail)
      go_ret
      exact ⟨rfl, K.out.b⟩
  · have d3 : decide ((0 : Int) ≤ pa) = false := decide_eq_false l3
    rw [d3]
    simp only [Bool.false_and]
    go_enter Tryz.func41, Tryz.ntmps41
    go_upto_region 3 with (first
      | go_big_skip
      | ((with_reducible show wpList _ _ _ _ _ _); refine kgBox (by rfl) 24 _ (by rfl) (some 3) (by rfl) (by rfl) [_, _] (by rfl) K ?_; intro g3 V1 K1; clear K; (have K := K1); clear K1)
      | ((with_reducible show wpList _ _ _ _ _ _); refine kgLoad1 (by rfl) 3 _ (by rfl) _ Tryz.underlying3 rfl K (by rfl) (by repeat (first | exact List.mem_cons_self | refine List.mem_cons_of_mem _ ?_)) (by rfl) ?_))
    obtain ⟨J, hJ⟩ : ∃ J : (Nat → Bool) → World → Prop, J = fun _ W => Hid (KG w W [⟨g3, 24, [.int .i64 (k : Int), .int .i64 pa]⟩] [⟨hs, some ad, false⟩]) := ⟨_, rfl⟩
    replace hJ := hid hJ
    refine wp_drawn2_det [.pointer (some ⟨g3, 1, none⟩), .int .i64 pa, .bool false, .bool false, (undef), (undef), (undef), (undef), (undef), (undef), (undef), (undef), (undef), (undef), .bool false, .bool false] (by kernel_rfl) (by kernel_rfl) rfl J (by rw [hJ.out]; exact hid (K.out.quiet ⟨1, rfl⟩)) ?step ?fin
    case step =>
      clear K
      intro i o b W ho hb hw K
      rw [hJ.out] at K
      rcases i with _ | i
      · obtain rfl := Option.some.inj ho
        simp only [List.take_zero, drFrame]
        clear ho hb hw
        go_wp2_with (first
          | fail)
        refine ⟨rfl, rfl, ?_⟩
        rw [hJ.out]
        exact K
      rcases i with _ | i
      · obtain rfl := Option.some.inj ho
        simp only [List.take_succ_cons, List.take_zero, drFrame, List.setIfInBounds_toArray, List.set_cons_succ, List.set_cons_zero]
        clear ho hb hw
        go_wp2_with (first
          | go_big_skip
          | ((with_reducible show wpList _ _ _ _ _ _); refine kgLoad1 (by rfl) 3 _ (by rfl) _ Tryz.underlying3 rfl K (by rfl) (by repeat (first | exact List.mem_cons_self | refine List.mem_cons_of_mem _ ?_)) (by rfl) ?_))
        refine ⟨rfl, rfl, ?_⟩
        rw [hJ.out]
        exact K
      rcases i with _ | i
      · obtain rfl := Option.some.inj ho
        simp only [List.take_succ_cons, List.take_zero, drFrame, List.setIfInBounds_toArray, List.set_cons_succ, List.set_cons_zero]
        clear ho hb hw
        go_wp2_with (first
          | fail)
        refine ⟨rfl, rfl, ?_⟩
        rw [hJ.out]
        exact K
      rcases i with _ | i
      · obtain rfl := Option.some.inj ho
        simp only [List.take_succ_cons, List.take_zero, drFrame, List.setIfInBounds_toArray, List.set_cons_succ, List.set_cons_zero]
        clear ho hb hw
        go_wp2_with (first
          | fail)
        refine ⟨rfl, rfl, ?_⟩
        rw [hJ.out]
        exact K
      rcases i with _ | i
      · obtain rfl := Option.some.inj ho
        simp only [List.take_succ_cons, List.take_zero, drFrame, List.setIfInBounds_toArray, List.set_cons_succ, List.set_cons_zero]
        clear ho hb hw
        go_wp2_with (first
          | fail)
        refine ⟨rfl, rfl, ?_⟩
        rw [hJ.out]
        exact K
      rcases i with _ | i
      · obtain rfl := Option.some.inj ho
        simp only [List.take_succ_cons, List.take_zero, drFrame, List.setIfInBounds_toArray, List.set_cons_succ, List.set_cons_zero]
        clear ho hb hw
        go_wp2_with (first
          | go_big_skip
          | ((with_reducible show wpList _ _ _ _ _ _); refine kgLoad1 (by rfl) 3 _ (by rfl) _ Tryz.underlying3 rfl K (by rfl) (by repeat (first | exact List.mem_cons_self | refine List.mem_cons_of_mem _ ?_)) (by rfl) ?_))
        refine ⟨rfl, rfl, ?_⟩
        rw [hJ.out]
        exact K
      rcases i with _ | i
      · obtain rfl := Option.some.inj ho
        simp only [List.take_succ_cons, List.take_zero, drFrame, List.setIfInBounds_toArray, List.set_cons_succ, List.set_cons_zero]
        clear ho hb hw
        go_wp2_with (first
          | fail)
        refine ⟨rfl, rfl, ?_⟩
        rw [hJ.out]
        exact K
      rcases i with _ | i
      · obtain rfl := Option.some.inj ho
        simp only [List.take_succ_cons, List.take_zero, drFrame, List.setIfInBounds_toArray, List.set_cons_succ, List.set_cons_zero]
        clear ho hb hw
        go_wp2_with (first
          | fail)
        refine ⟨rfl, rfl, ?_⟩
        rw [hJ.out]
        exact K
      rcases i with _ | i
      · obtain rfl := Option.some.inj ho
        simp only [List.take_succ_cons, List.take_zero, drFrame, List.setIfInBounds_toArray, List.set_cons_succ, List.set_cons_zero]
        clear ho hb hw
        go_wp2_with (first
          | go_big_skip
          | ((with_reducible show wpList _ _ _ _ _ _); refine kgLoad1 (by rfl) 3 _ (by rfl) _ Tryz.underlying3 rfl K (by rfl) (by repeat (first | exact List.mem_cons_self | refine List.mem_cons_of_mem _ ?_)) (by rfl) ?_))
        refine ⟨rfl, rfl, ?_⟩
        rw [hJ.out]
        exact K
      rcases i with _ | i
      · obtain rfl := Option.some.inj ho
        simp only [List.take_succ_cons, List.take_zero, drFrame, List.setIfInBounds_toArray, List.set_cons_succ, List.set_cons_zero]
        clear ho hb hw
        go_wp2_with (first
          | fail)
        refine ⟨rfl, rfl, ?_⟩
        rw [hJ.out]
        exact K
      rcases i with _ | i
      · obtain rfl := Option.some.inj ho
        simp only [List.take_succ_cons, List.take_zero, drFrame, List.setIfInBounds_toArray, List.set_cons_succ, List.set_cons_zero]
        clear ho hb hw
        go_wp2_with (first
          | fail)
        refine ⟨rfl, rfl, ?_⟩
        rw [hJ.out]
        exact K
      rcases i with _ | i
      · obtain rfl := Option.some.inj ho
        simp only [List.take_succ_cons, List.take_zero, drFrame, List.setIfInBounds_toArray, List.set_cons_succ, List.set_cons_zero]
        clear ho hb hw
        go_wp2_with (first
          | go_big_skip
          | ((with_reducible show wpList _ _ _ _ _ _); refine kgElem1 (by rfl) 44 _ (by rfl) _ Tryz.underlying44 rfl K (by rfl) (by repeat (first | exact List.mem_cons_self | refine List.mem_cons_of_mem _ ?_)) HX.out (by decide) (by rfl) ?_))
        refine ⟨rfl, rfl, ?_⟩
        rw [hJ.out]
        exact K
      rcases i with _ | i
      · obtain rfl := Option.some.inj ho
        simp only [List.take_succ_cons, List.take_zero, drFrame, List.setIfInBounds_toArray, List.set_cons_succ, List.set_cons_zero]
        clear ho hb hw
        go_wp2_with (first
          | fail)
        refine ⟨rfl, rfl, ?_⟩
        rw [hJ.out]
        exact K
      rcases i with _ | i
      · obtain rfl := Option.some.inj ho
        simp only [List.take_succ_cons, List.take_zero, drFrame, List.setIfInBounds_toArray, List.set_cons_succ, List.set_cons_zero]
        clear ho hb hw
        go_wp2_with (first
          | fail)
        refine ⟨rfl, rfl, ?_⟩
        rw [hJ.out]
        exact K
      rcases i with _ | i
      · obtain rfl := Option.some.inj ho
        simp only [List.take_succ_cons, List.take_zero, drFrame, List.setIfInBounds_toArray, List.set_cons_succ, List.set_cons_zero]
        clear ho hb hw
        go_wp2_with (first
          | fail)
        refine ⟨rfl, rfl, ?_⟩
        rw [hJ.out]
        exact K
      rcases i with _ | i
      · obtain rfl := Option.some.inj ho
        simp only [List.take_succ_cons, List.take_zero, drFrame, List.setIfInBounds_toArray, List.set_cons_succ, List.set_cons_zero]
        clear ho hb hw
        go_wp2_with (first
          | fail)
        refine ⟨rfl, rfl, ?_⟩
        rw [hJ.out]
        exact K
      · cases ho
    case fin =>
      clear K
      intro b W hb K
      rw [hJ.out] at K
      simp only [drFrame, List.setIfInBounds_toArray, List.set_cons_succ, List.set_cons_zero]
      clear hb hJ
      go_wp2_with (first
        | fail)
      go_ret
      exact ⟨rfl, K.out.b⟩
def cmpR (p q : Ps) : Int := if p = q then 0 else if ltP p q then -1 else 1
theorem cmpR_lt (p q : Ps) : decide (cmpR p q < 0) = ltP p q := by
  unfold cmpR
  by_cases e : p = q
  · subst e
    rw [if_pos rfl]
    unfold ltP
    symm
    apply decide_eq_false
    omega
  · rw [if_neg e]
    cases ltP p q <;> rfl
set_option maxRecDepth 100000 in
set_option maxHeartbeats 4000000 in
theorem rCmp7_any (pl pa ql qa : Int) (w : World) :
    Calls Tryz.prog 42 #[.agg #[.int .i64 pl, .int .i64 pa], .agg #[.int .i64 ql, .int .i64 qa]] w (fun e w' => e = .returned (.int .i64 (cmpR ⟨pl, pa⟩ ⟨ql, qa⟩)) ∧ Below w.heap.size w w') := by
  have K := hid (KG.start w [] (by simp))
  unfold cmpR ltP
  dsimp only
  by_cases a : pl = ql
  · subst a
    by_cases b : pa = qa
    · subst b
      rw [if_pos rfl]
      go_enter Tryz.func42, Tryz.ntmps42
      go_wp2_with (first
        | go_big_skip
        | ((with_reducible show wpList _ _ _ _ _ _); refine kgBox (by rfl) 24 _ (by rfl) (some 2) (by rfl) (by rfl) [_, _] (by rfl) K ?_; intro g2 V1 K1; clear K; (have K := K1); clear K1)
        | ((with_reducible show wpList _ _ _ _ _ _); refine kgBox (by rfl) 24 _ (by rfl) (some 3) (by rfl) (by rfl) [_, _] (by rfl) K ?_; intro g3 V1 K1; clear K; (have K := K1); clear K1)
        | ((with_reducible show wpList _ _ _ _ _ _); refine kgLoadA (by rfl) 24 _ (by rfl) 2 _ Tryz.underlying24 rfl (by kernel_rfl) K (by rfl) (by repeat (first | exact List.mem_cons_self | refine List.mem_cons_of_mem _ ?_)) (part := [_, _]) (by rfl) (by rfl) ?_)
        | ((with_reducible show wpList _ _ _ _ _ _); refine kgLoad1 (by rfl) 3 _ (by rfl) _ Tryz.underlying3 rfl K (by rfl) (by repeat (first | exact List.mem_cons_self | refine List.mem_cons_of_mem _ ?_)) (by rfl) ?_))
      go_ret
      exact ⟨rfl, K.out.b⟩
    · rw [if_neg (fun h => b (by injection h))]
      have b1 : (pa == qa) = false := beq_eq_false_iff_ne.2 b
      have a2 : decide (pl < pl) = false := decide_eq_false (by omega)
      by_cases c : pa < qa
      · rw [if_pos (decide_eq_true (.inr ⟨rfl, c⟩))]
        go_enter Tryz.func42, Tryz.ntmps42
        go_wp2_with (first
          | go_big_skip
          | ((with_reducible show wpList _ _ _ _ _ _); refine kgBox (by rfl) 24 _ (by rfl) (some 2) (by rfl) (by rfl) [_, _] (by rfl) K ?_; intro g2 V1 K1; clear K; (have K := K1); clear K1)
          | ((with_reducible show wpList _ _ _ _ _ _); refine kgBox (by rfl) 24 _ (by rfl) (some 3) (by rfl) (by rfl) [_, _] (by rfl) K ?_; intro g3 V1 K1; clear K; (have K := K1); clear K1)
          | ((with_reducible show wpList _ _ _ _ _ _); refine kgLoadA (by rfl) 24 _ (by rfl) 2 _ Tryz.underlying24 rfl (by kernel_rfl) K (by rfl) (by repeat (first | exact List.mem_cons_self | refine List.mem_cons_of_mem _ ?_)) (part := [_, _]) (by rfl) (by rfl) ?_)
          | ((with_reducible show wpList _ _ _ _ _ _); refine kgLoad1 (by rfl) 3 _ (by rfl) _ Tryz.underlying3 rfl K (by rfl) (by repeat (first | exact List.mem_cons_self | refine List.mem_cons_of_mem _ ?_)) (by rfl) ?_))
        go_ret
        exact ⟨rfl, K.out.b⟩
      · rw [if_neg (by simp; omega)]
        have c2 : decide (pa < qa) = false := decide_eq_false c
        go_enter Tryz.func42, Tryz.ntmps42
        go_wp2_with (first
          | go_big_skip
          | ((with_reducible show wpList _ _ _ _ _ _); refine kgBox (by rfl) 24 _ (by rfl) (some 2) (by rfl) (by rfl) [_, _] (by rfl) K ?_; intro g2 V1 K1; clear K; (have K := K1); clear K1)
          | ((with_reducible show wpList _ _ _ _ _ _); refine kgBox (by rfl) 24 _ (by rfl) (some 3) (by rfl) (by rfl) [_, _] (by rfl) K ?_; intro g3 V1 K1; clear K; (have K := K1); clear K1)
          | ((with_reducible show wpList _ _ _ _ _ _); refine kgLoadA (by rfl) 24 _ (by rfl) 2 _ Tryz.underlying24 rfl (by kernel_rfl) K (by rfl) (by repeat (first | exact List.mem_cons_self | refine List.mem_cons_of_mem _ ?_)) (part := [_, _]) (by rfl) (by rfl) ?_)
          | ((with_reducible show wpList _ _ _ _ _ _); refine kgLoad1 (by rfl) 3 _ (by rfl) _ Tryz.underlying3 rfl K (by rfl) (by repeat (first | exact List.mem_cons_self | refine List.mem_cons_of_mem _ ?_)) (by rfl) ?_))
        go_ret
        exact ⟨rfl, K.out.b⟩
  · rw [if_neg (fun h => a (by injection h))]
    have a1 : (pl == ql) = false := beq_eq_false_iff_ne.2 a
    by_cases c : pl < ql
    · rw [if_pos (decide_eq_true (.inl c))]
      go_enter Tryz.func42, Tryz.ntmps42
      go_wp2_with (first
        | go_big_skip
        | ((with_reducible show wpList _ _ _ _ _ _); refine kgBox (by rfl) 24 _ (by rfl) (some 2) (by rfl) (by rfl) [_, _] (by rfl) K ?_; intro g2 V1 K1; clear K; (have K := K1); clear K1)
        | ((with_reducible show wpList _ _ _ _ _ _); refine kgBox (by rfl) 24 _ (by rfl) (some 3) (by rfl) (by rfl) [_, _] (by rfl) K ?_; intro g3 V1 K1; clear K; (have K := K1); clear K1)
        | ((with_reducible show wpList _ _ _ _ _ _); refine kgLoadA (by rfl) 24 _ (by rfl) 2 _ Tryz.underlying24 rfl (by kernel_rfl) K (by rfl) (by repeat (first | exact List.mem_cons_self | refine List.mem_cons_of_mem _ ?_)) (part := [_, _]) (by rfl) (by rfl) ?_)
        | ((with_reducible show wpList _ _ _ _ _ _); refine kgLoad1 (by rfl) 3 _ (by rfl) _ Tryz.underlying3 rfl K (by rfl) (by repeat (first | exact List.mem_cons_self | refine List.mem_cons_of_mem _ ?_)) (by rfl) ?_))
      go_ret
      exact ⟨rfl, K.out.b⟩
    · rw [if_neg (by simp; omega)]
      have c2 : decide (pl < ql) = false := decide_eq_false c
      go_enter Tryz.func42, Tryz.ntmps42
      go_wp2_with (first
        | go_big_skip
        | ((with_reducible show wpList _ _ _ _ _ _); refine kgBox (by rfl) 24 _ (by rfl) (some 2) (by rfl) (by rfl) [_, _] (by rfl) K ?_; intro g2 V1 K1; clear K; (have K := K1); clear K1)
        | ((with_reducible show wpList _ _ _ _ _ _); refine kgBox (by rfl) 24 _ (by rfl) (some 3) (by rfl) (by rfl) [_, _] (by rfl) K ?_; intro g3 V1 K1; clear K; (have K := K1); clear K1)
        | ((with_reducible show wpList _ _ _ _ _ _); refine kgLoadA (by rfl) 24 _ (by rfl) 2 _ Tryz.underlying24 rfl (by kernel_rfl) K (by rfl) (by repeat (first | exact List.mem_cons_self | refine List.mem_cons_of_mem _ ?_)) (part := [_, _]) (by rfl) (by rfl) ?_)
        | ((with_reducible show wpList _ _ _ _ _ _); refine kgLoad1 (by rfl) 3 _ (by rfl) _ Tryz.underlying3 rfl K (by rfl) (by repeat (first | exact List.mem_cons_self | refine List.mem_cons_of_mem _ ?_)) (by rfl) ?_))
      go_ret
      exact ⟨rfl, K.out.b⟩
end Go.Proofs.YtblbfoniimnkcaaGreatDoor

/- The walk of the reference's May of states. (Printed by wip/bldoc.py.) -/
namespace Go.Proofs.YtblbfoniimnkcaaGreatDoor
open Go.RowKit Go.Lib

theorem bitsOk_iff {on off : Int} (w1 : (Lit.int .i64 on).wf = true) (w2 : (Lit.int .i64 off).wf = true) : bitsOk on off = (decide (0 ≤ on ∧ on ≤ 15) && (decide (0 ≤ off ∧ off ≤ 15) && decide (bits .and .i64 on off = 0))) := by
  have h1 := wf_i64 w1
  have h2 := wf_i64 w2
  unfold bitsOk
  rw [decide_eq_decide.2 (andNot15 h1.1 h1.2), decide_eq_decide.2 (andNot15 h2.1 h2.2)]
set_option maxRecDepth 100000 in
set_option maxHeartbeats 8000000 in
theorem rMay23_any (hs : List Hd) (A : Option Addr) (n c C : Nat) (hn : n = hs.length) (w : World) (hd : DocAt w C A hs) (h1 : hs.length ≤ 1000) (h2 : ∀ h ∈ hs, h.l.ls.length ≤ 1000000 ∧ h.l.cs.length ≤ 1000000) (hf : ∀ h ∈ hs, FineC h.l.cs) (al aa fl fa on off : Int) (w1 : (Lit.int .i64 on).wf = true) (w2 : (Lit.int .i64 off).wf = true) :
    Calls Tryz.prog 23 #[.agg #[.slice A n c, .int .i64 al, .int .i64 aa, .int .i64 fl, .int .i64 fa, .int .i64 on, .int .i64 off]] w (IsBool (mayS ⟨lnsOf hs, ⟨al, aa⟩, ⟨fl, fa⟩, on, off⟩) w) := by
  unfold mayS
  dsimp only
  rw [bitsOk_iff w1 w2]
  clear w1 w2
  subst hn
  have D0 := hid h2
  have L0 := hid h1
  have K := hid (KG.start w [⟨hs, A, false⟩] (by simpa using hd.live))
  have FI := hid hf
  clear hd h2 hf
  by_cases c1 : on < 0
  · rw [decide_eq_false (show ¬ (0 ≤ on ∧ on ≤ 15) by omega)]
    simp only [Bool.and_false, Bool.false_and]
    go_enter Tryz.func23, Tryz.ntmps23
    go_wp2_with (first
      | go_big_skip
      | ((with_reducible show wpList _ _ _ _ _ _); refine kgBox (by rfl) 26 _ (by rfl) (some 1) (by rfl) (by rfl) [_, _, _, _, _, _, _] (by rfl) K ?_; intro g1 V1 K1; clear K; (have K := K1); clear K1)
      | ((with_reducible show wpList _ _ _ _ _ _); refine kgLoad1 (by rfl) 3 _ (by rfl) _ Tryz.underlying3 rfl K (by rfl) (by repeat (first | exact List.mem_cons_self | refine List.mem_cons_of_mem _ ?_)) (by rfl) ?_))
    go_ret
    exact ⟨rfl, K.out.b⟩
  have d1 : decide (on < 0) = false := decide_eq_false c1
  by_cases c2 : 15 < on
  · rw [decide_eq_false (show ¬ (0 ≤ on ∧ on ≤ 15) by omega)]
    simp only [Bool.and_false, Bool.false_and]
    go_enter Tryz.func23, Tryz.ntmps23
    go_wp2_with (first
      | go_big_skip
      | ((with_reducible show wpList _ _ _ _ _ _); refine kgBox (by rfl) 26 _ (by rfl) (some 1) (by rfl) (by rfl) [_, _, _, _, _, _, _] (by rfl) K ?_; intro g1 V1 K1; clear K; (have K := K1); clear K1)
      | ((with_reducible show wpList _ _ _ _ _ _); refine kgLoad1 (by rfl) 3 _ (by rfl) _ Tryz.underlying3 rfl K (by rfl) (by repeat (first | exact List.mem_cons_self | refine List.mem_cons_of_mem _ ?_)) (by rfl) ?_))
    go_ret
    exact ⟨rfl, K.out.b⟩
  have d2 : decide (15 < on) = false := decide_eq_false c2
  rw [decide_eq_true (show 0 ≤ on ∧ on ≤ 15 by omega)]
  by_cases c3 : off < 0
  · rw [decide_eq_false (show ¬ (0 ≤ off ∧ off ≤ 15) by omega)]
    simp only [Bool.and_false, Bool.false_and]
    go_enter Tryz.func23, Tryz.ntmps23
    go_wp2_with (first
      | go_big_skip
      | ((with_reducible show wpList _ _ _ _ _ _); refine kgBox (by rfl) 26 _ (by rfl) (some 1) (by rfl) (by rfl) [_, _, _, _, _, _, _] (by rfl) K ?_; intro g1 V1 K1; clear K; (have K := K1); clear K1)
      | ((with_reducible show wpList _ _ _ _ _ _); refine kgLoad1 (by rfl) 3 _ (by rfl) _ Tryz.underlying3 rfl K (by rfl) (by repeat (first | exact List.mem_cons_self | refine List.mem_cons_of_mem _ ?_)) (by rfl) ?_))
    go_ret
    exact ⟨rfl, K.out.b⟩
  have d3 : decide (off < 0) = false := decide_eq_false c3
  by_cases c4 : 15 < off
  · rw [decide_eq_false (show ¬ (0 ≤ off ∧ off ≤ 15) by omega)]
    simp only [Bool.and_false, Bool.false_and]
    go_enter Tryz.func23, Tryz.ntmps23
    go_wp2_with (first
      | go_big_skip
      | ((with_reducible show wpList _ _ _ _ _ _); refine kgBox (by rfl) 26 _ (by rfl) (some 1) (by rfl) (by rfl) [_, _, _, _, _, _, _] (by rfl) K ?_; intro g1 V1 K1; clear K; (have K := K1); clear K1)
      | ((with_reducible show wpList _ _ _ _ _ _); refine kgLoad1 (by rfl) 3 _ (by rfl) _ Tryz.underlying3 rfl K (by rfl) (by repeat (first | exact List.mem_cons_self | refine List.mem_cons_of_mem _ ?_)) (by rfl) ?_))
    go_ret
    exact ⟨rfl, K.out.b⟩
  have d4 : decide (15 < off) = false := decide_eq_false c4
  rw [decide_eq_true (show 0 ≤ off ∧ off ≤ 15 by omega)]
  by_cases c5 : ¬ bits .and .i64 on off = 0
  · have d5 : (bits .and .i64 on off != 0) = true := bne_iff_ne.2 c5
    rw [decide_eq_false c5]
    simp only [Bool.and_false]
    go_enter Tryz.func23, Tryz.ntmps23
    go_wp2_with (first
      | go_big_skip
      | ((with_reducible show wpList _ _ _ _ _ _); refine kgBox (by rfl) 26 _ (by rfl) (some 1) (by rfl) (by rfl) [_, _, _, _, _, _, _] (by rfl) K ?_; intro g1 V1 K1; clear K; (have K := K1); clear K1)
      | ((with_reducible show wpList _ _ _ _ _ _); refine kgLoad1 (by rfl) 3 _ (by rfl) _ Tryz.underlying3 rfl K (by rfl) (by repeat (first | exact List.mem_cons_self | refine List.mem_cons_of_mem _ ?_)) (by rfl) ?_))
    go_ret
    exact ⟨rfl, K.out.b⟩
  have d5 : (bits .and .i64 on off != 0) = false := bne_eq_false_iff_eq.2 (Decidable.not_not.1 c5)
  rw [decide_eq_true (Decidable.not_not.1 c5)]
  clear c5
  simp only [Bool.and_true]
  cases m1 : mayD (lnsOf hs) with
  | false =>
    have M1 := hid m1
    clear m1
    simp only [Bool.false_and]
    go_enter Tryz.func23, Tryz.ntmps23
    go_wp2_with (first
      | go_big_skip
      | ((with_reducible show wpList _ _ _ _ _ _); refine kgBox (by rfl) 26 _ (by rfl) (some 1) (by rfl) (by rfl) [_, _, _, _, _, _, _] (by rfl) K ?_; intro g1 V1 K1; clear K; (have K := K1); clear K1)
      | ((with_reducible show wpList _ _ _ _ _ _); refine kgLoad1 (by rfl) 3 _ (by rfl) _ Tryz.underlying3 rfl K (by rfl) (by repeat (first | exact List.mem_cons_self | refine List.mem_cons_of_mem _ ?_)) (by rfl) ?_)
      | ((with_reducible show wpList _ _ _ _ _ _); refine kgLoad1 (by rfl) 22 _ (by rfl) _ Tryz.underlying22 rfl K (by rfl) (by repeat (first | exact List.mem_cons_self | refine List.mem_cons_of_mem _ ?_)) (by rfl) ?_)
      | ((with_reducible show wpList _ _ _ _ _ _); refine kgLoadA (by rfl) 24 _ (by rfl) 2 _ Tryz.underlying24 rfl (by kernel_rfl) K (by rfl) (by repeat (first | exact List.mem_cons_self | refine List.mem_cons_of_mem _ ?_)) (part := [_, _]) (by rfl) (by rfl) ?_)
      | (go_at_call 40; (with_reducible refine (rMay7_any hs A _ c _ rfl _ (K.out.at_ (d := ⟨hs, A, false⟩) (by simp)) L0.out D0.out FI.out).mono ?_); rintro e W2 ⟨rfl, hb⟩; rw [M1.out]; (have K2 := hid (K.out.later hb)); clear hb K; (have K := K2); clear K2))
    go_ret
    exact ⟨rfl, K.out.b⟩
  | true =>
    have M1 := hid m1
    clear m1
    simp only [Bool.true_and]
    cases m2 : isD (lnsOf hs) ⟨al, aa⟩ with
    | false =>
      have M2 := hid m2
      clear m2
      simp only [Bool.false_and]
      go_enter Tryz.func23, Tryz.ntmps23
      go_wp2_with (first
        | go_big_skip
        | ((with_reducible show wpList _ _ _ _ _ _); refine kgBox (by rfl) 26 _ (by rfl) (some 1) (by rfl) (by rfl) [_, _, _, _, _, _, _] (by rfl) K ?_; intro g1 V1 K1; clear K; (have K := K1); clear K1)
        | ((with_reducible show wpList _ _ _ _ _ _); refine kgLoad1 (by rfl) 3 _ (by rfl) _ Tryz.underlying3 rfl K (by rfl) (by repeat (first | exact List.mem_cons_self | refine List.mem_cons_of_mem _ ?_)) (by rfl) ?_)
        | ((with_reducible show wpList _ _ _ _ _ _); refine kgLoad1 (by rfl) 22 _ (by rfl) _ Tryz.underlying22 rfl K (by rfl) (by repeat (first | exact List.mem_cons_self | refine List.mem_cons_of_mem _ ?_)) (by rfl) ?_)
        | ((with_reducible show wpList _ _ _ _ _ _); refine kgLoadA (by rfl) 24 _ (by rfl) 2 _ Tryz.underlying24 rfl (by kernel_rfl) K (by rfl) (by repeat (first | exact List.mem_cons_self | refine List.mem_cons_of_mem _ ?_)) (part := [_, _]) (by rfl) (by rfl) ?_)
        | (go_at_call 40; (with_reducible refine (rMay7_any hs A _ c _ rfl _ (K.out.at_ (d := ⟨hs, A, false⟩) (by simp)) L0.out D0.out FI.out).mono ?_); rintro e W2 ⟨rfl, hb⟩; rw [M1.out]; (have K2 := hid (K.out.later hb)); clear hb K; (have K := K2); clear K2)
        | (go_at_call 41; (with_reducible refine (rIs7_any hs A _ c _ rfl _ (K.out.at_ (d := ⟨hs, A, false⟩) (by simp)) al aa).mono ?_); rintro e W3 ⟨rfl, hb⟩; rw [M2.out]; (have K2 := hid (K.out.later hb)); clear hb K; (have K := K2); clear K2))
      go_ret
      exact ⟨rfl, K.out.b⟩
    | true =>
      have M2 := hid m2
      clear m2
      simp only [Bool.true_and]
      cases m3 : isD (lnsOf hs) ⟨fl, fa⟩ with
      | false =>
        have M3 := hid m3
        clear m3
        by_cases same : al = fl ∧ aa = fa
        · obtain ⟨rfl, rfl⟩ := same
          exact absurd (M2.out.symm.trans M3.out) (by decide)
        · have NS := hid same
          clear same
          go_enter Tryz.func23, Tryz.ntmps23
          go_wp2_with (first
            | go_big_skip
            | ((with_reducible show wpList _ _ _ _ _ _); refine kgBox (by rfl) 26 _ (by rfl) (some 1) (by rfl) (by rfl) [_, _, _, _, _, _, _] (by rfl) K ?_; intro g1 V1 K1; clear K; (have K := K1); clear K1)
            | ((with_reducible show wpList _ _ _ _ _ _); refine kgLoad1 (by rfl) 3 _ (by rfl) _ Tryz.underlying3 rfl K (by rfl) (by repeat (first | exact List.mem_cons_self | refine List.mem_cons_of_mem _ ?_)) (by rfl) ?_)
            | ((with_reducible show wpList _ _ _ _ _ _); refine kgLoad1 (by rfl) 22 _ (by rfl) _ Tryz.underlying22 rfl K (by rfl) (by repeat (first | exact List.mem_cons_self | refine List.mem_cons_of_mem _ ?_)) (by rfl) ?_)
            | ((with_reducible show wpList _ _ _ _ _ _); refine kgLoadA (by rfl) 24 _ (by rfl) 2 _ Tryz.underlying24 rfl (by kernel_rfl) K (by rfl) (by repeat (first | exact List.mem_cons_self | refine List.mem_cons_of_mem _ ?_)) (part := [_, _]) (by rfl) (by rfl) ?_)
            | (go_at_call 40; (with_reducible refine (rMay7_any hs A _ c _ rfl _ (K.out.at_ (d := ⟨hs, A, false⟩) (by simp)) L0.out D0.out FI.out).mono ?_); rintro e W2 ⟨rfl, hb⟩; rw [M1.out]; (have K2 := hid (K.out.later hb)); clear hb K; (have K := K2); clear K2)
            | (go_at_call 41; (with_reducible refine (rIs7_any hs A _ c _ rfl _ (K.out.at_ (d := ⟨hs, A, false⟩) (by simp)) al aa).mono ?_); rintro e W3 ⟨rfl, hb⟩; rw [M2.out]; (have K2 := hid (K.out.later hb)); clear hb K; (have K := K2); clear K2)
            | (go_at_call 41; (with_reducible refine (rIs7_any hs A _ c _ rfl _ (K.out.at_ (d := ⟨hs, A, false⟩) (by simp)) fl fa).mono ?_); rintro e W3 ⟨rfl, hb⟩; rw [M3.out]; (have K2 := hid (K.out.later hb)); clear hb K; (have K := K2); clear K2))
          go_ret
          exact ⟨rfl, K.out.b⟩
      | true =>
        have M3 := hid m3
        clear m3
        by_cases same : al = fl ∧ aa = fa
        · obtain ⟨rfl, rfl⟩ := same
          go_enter Tryz.func23, Tryz.ntmps23
          go_wp2_with (first
            | go_big_skip
            | ((with_reducible show wpList _ _ _ _ _ _); refine kgBox (by rfl) 26 _ (by rfl) (some 1) (by rfl) (by rfl) [_, _, _, _, _, _, _] (by rfl) K ?_; intro g1 V1 K1; clear K; (have K := K1); clear K1)
            | ((with_reducible show wpList _ _ _ _ _ _); refine kgLoad1 (by rfl) 3 _ (by rfl) _ Tryz.underlying3 rfl K (by rfl) (by repeat (first | exact List.mem_cons_self | refine List.mem_cons_of_mem _ ?_)) (by rfl) ?_)
            | ((with_reducible show wpList _ _ _ _ _ _); refine kgLoad1 (by rfl) 22 _ (by rfl) _ Tryz.underlying22 rfl K (by rfl) (by repeat (first | exact List.mem_cons_self | refine List.mem_cons_of_mem _ ?_)) (by rfl) ?_)
            | ((with_reducible show wpList _ _ _ _ _ _); refine kgLoadA (by rfl) 24 _ (by rfl) 2 _ Tryz.underlying24 rfl (by kernel_rfl) K (by rfl) (by repeat (first | exact List.mem_cons_self | refine List.mem_cons_of_mem _ ?_)) (part := [_, _]) (by rfl) (by rfl) ?_)
            | (go_at_call 40; (with_reducible refine (rMay7_any hs A _ c _ rfl _ (K.out.at_ (d := ⟨hs, A, false⟩) (by simp)) L0.out D0.out FI.out).mono ?_); rintro e W2 ⟨rfl, hb⟩; rw [M1.out]; (have K2 := hid (K.out.later hb)); clear hb K; (have K := K2); clear K2)
            | (go_at_call 41; (with_reducible refine (rIs7_any hs A _ c _ rfl _ (K.out.at_ (d := ⟨hs, A, false⟩) (by simp)) al aa).mono ?_); rintro e W3 ⟨rfl, hb⟩; rw [M2.out]; (have K2 := hid (K.out.later hb)); clear hb K; (have K := K2); clear K2))
          go_ret
          exact ⟨rfl, K.out.b⟩
        · have NS := hid same
          clear same
          go_enter Tryz.func23, Tryz.ntmps23
          go_wp2_with (first
            | go_big_skip
            | ((with_reducible show wpList _ _ _ _ _ _); refine kgBox (by rfl) 26 _ (by rfl) (some 1) (by rfl) (by rfl) [_, _, _, _, _, _, _] (by rfl) K ?_; intro g1 V1 K1; clear K; (have K := K1); clear K1)
            | ((with_reducible show wpList _ _ _ _ _ _); refine kgLoad1 (by rfl) 3 _ (by rfl) _ Tryz.underlying3 rfl K (by rfl) (by repeat (first | exact List.mem_cons_self | refine List.mem_cons_of_mem _ ?_)) (by rfl) ?_)
            | ((with_reducible show wpList _ _ _ _ _ _); refine kgLoad1 (by rfl) 22 _ (by rfl) _ Tryz.underlying22 rfl K (by rfl) (by repeat (first | exact List.mem_cons_self | refine List.mem_cons_of_mem _ ?_)) (by rfl) ?_)
            | ((with_reducible show wpList _ _ _ _ _ _); refine kgLoadA (by rfl) 24 _ (by rfl) 2 _ Tryz.underlying24 rfl (by kernel_rfl) K (by rfl) (by repeat (first | exact List.mem_cons_self | refine List.mem_cons_of_mem _ ?_)) (part := [_, _]) (by rfl) (by rfl) ?_)
            | (go_at_call 40; (with_reducible refine (rMay7_any hs A _ c _ rfl _ (K.out.at_ (d := ⟨hs, A, false⟩) (by simp)) L0.out D0.out FI.out).mono ?_); rintro e W2 ⟨rfl, hb⟩; rw [M1.out]; (have K2 := hid (K.out.later hb)); clear hb K; (have K := K2); clear K2)
            | (go_at_call 41; (with_reducible refine (rIs7_any hs A _ c _ rfl _ (K.out.at_ (d := ⟨hs, A, false⟩) (by simp)) al aa).mono ?_); rintro e W3 ⟨rfl, hb⟩; rw [M2.out]; (have K2 := hid (K.out.later hb)); clear hb K; (have K := K2); clear K2)
            | (go_at_call 41; (with_reducible refine (rIs7_any hs A _ c _ rfl _ (K.out.at_ (d := ⟨hs, A, false⟩) (by simp)) fl fa).mono ?_); rintro e W3 ⟨rfl, hb⟩; rw [M3.out]; (have K2 := hid (K.out.later hb)); clear hb K; (have K := K2); clear K2))
          go_ret
          exact ⟨rfl, K.out.b⟩
end Go.Proofs.YtblbfoniimnkcaaGreatDoor

/- The walk of the reference's Span of states. (Printed by wip/bldoc.py.) -/
namespace Go.Proofs.YtblbfoniimnkcaaGreatDoor
open Go.RowKit Go.Lib

set_option maxRecDepth 100000 in
set_option maxHeartbeats 8000000 in
theorem rSpan23_any (d : List Ln) (A : Option Addr) (n c : Nat) (al aa fl fa on off : Int) (w : World) :
    Calls Tryz.prog 24 #[.agg #[.slice A n c, .int .i64 al, .int .i64 aa, .int .i64 fl, .int .i64 fa, .int .i64 on, .int .i64 off]] w (fun e w' => e = .returned (.tuple #[psV (fromS ⟨d, ⟨al, aa⟩, ⟨fl, fa⟩, on, off⟩), psV (toS ⟨d, ⟨al, aa⟩, ⟨fl, fa⟩, on, off⟩)]) ∧ Below w.heap.size w w') := by
  have K := hid (KG.start w [] (by simp))
  have E := cmpR_lt ⟨fl, fa⟩ ⟨al, aa⟩
  unfold fromS toS
  dsimp only
  rw [← E]
  clear E
  obtain ⟨z, hz⟩ : ∃ z, cmpR ⟨fl, fa⟩ ⟨al, aa⟩ = z := ⟨_, rfl⟩
  rw [hz]
  have HZ := hid hz
  clear hz
  by_cases h0 : z < 0
  · rw [decide_eq_true h0]
    go_enter Tryz.func24, Tryz.ntmps24
    go_upto_region 2 with (first
      | go_big_skip
      | ((with_reducible show wpList _ _ _ _ _ _); refine kgBox (by rfl) 26 _ (by rfl) (some 1) (by rfl) (by rfl) [_, _, _, _, _, _, _] (by rfl) K ?_; intro g1 V1 K1; clear K; (have K := K1); clear K1)
      | ((with_reducible show wpList _ _ _ _ _ _); refine kgAlloc (by rfl) 24 (by rfl) (some 2) (by rfl) [.int .i64 0, .int .i64 0] (fun _ => by kernel_rfl) K ?_; intro g2 V1 K1; clear K; (have K := K1); clear K1)
      | ((with_reducible show wpList _ _ _ _ _ _); refine kgAlloc (by rfl) 24 (by rfl) (some 3) (by rfl) [.int .i64 0, .int .i64 0] (fun _ => by kernel_rfl) K ?_; intro g3 V1 K1; clear K; (have K := K1); clear K1)
      | ((with_reducible show wpList _ _ _ _ _ _); refine kgLoadA (by rfl) 24 _ (by rfl) 2 _ Tryz.underlying24 rfl (by kernel_rfl) K (by rfl) (by repeat (first | exact List.mem_cons_self | refine List.mem_cons_of_mem _ ?_)) (part := [_, _]) (by rfl) (by rfl) ?_)
      | (go_at_call 42; (with_reducible refine (rCmp7_any _ _ _ _ _).mono ?_); rintro e W3 ⟨rfl, hb⟩; rw [HZ.out]; (have K2 := hid (K.out.later hb)); clear hb K; (have K := K2); clear K2))
    obtain ⟨J, hJ⟩ : ∃ J : (Nat → Bool) → World → Prop, J = fun b W => Hid (KG w W [⟨g3, 24, if b 5 then [.int .i64 al, .int .i64 aa] else [.int .i64 0, .int .i64 0]⟩, ⟨g2, 24, if b 4 then [.int .i64 fl, .int .i64 fa] else [.int .i64 0, .int .i64 0]⟩, ⟨g1, 26, [.slice A n c, .int .i64 al, .int .i64 aa, .int .i64 fl, .int .i64 fa, .int .i64 on, .int .i64 off]⟩] []) := ⟨_, rfl⟩
    replace hJ := hid hJ
    refine wp_drawn_det [.pointer (some ⟨g1, 3, none⟩), .agg #[.int .i64 fl, .int .i64 fa], .pointer (some ⟨g1, 1, none⟩), .agg #[.int .i64 al, .int .i64 aa], undef, undef] (by kernel_rfl) (by kernel_rfl) rfl J (by rw [hJ.out]; exact hid (K.out.quiet ⟨1, rfl⟩)) ?step ?fin
    case step =>
      clear K
      intro i o b W ho hb hw K
      rw [hJ.out] at K
      simp only [drFrame, List.setIfInBounds_toArray, List.set_cons_succ, List.set_cons_zero]
      rcases i with _ | i
      · obtain rfl := Option.some.inj ho
        clear ho hb hw
        go_wp2_with (first
          | fail)
        refine ⟨rfl, rfl, ?_⟩
        rw [hJ.out]
        exact K
      rcases i with _ | i
      · obtain rfl := Option.some.inj ho
        clear ho hb hw
        go_wp2_with (first
          | go_big_skip
          | ((with_reducible show wpList _ _ _ _ _ _); refine kgLoadA (by rfl) 24 _ (by rfl) 2 _ Tryz.underlying24 rfl (by kernel_rfl) K (by rfl) (by repeat (first | exact List.mem_cons_self | refine List.mem_cons_of_mem _ ?_)) (part := [_, _]) (by rfl) (by rfl) ?_))
        refine ⟨rfl, rfl, ?_⟩
        rw [hJ.out]
        exact K
      rcases i with _ | i
      · obtain rfl := Option.some.inj ho
        clear ho hb hw
        go_wp2_with (first
          | fail)
        refine ⟨rfl, rfl, ?_⟩
        rw [hJ.out]
        exact K
      rcases i with _ | i
      · obtain rfl := Option.some.inj ho
        clear ho hb hw
        go_wp2_with (first
          | go_big_skip
          | ((with_reducible show wpList _ _ _ _ _ _); refine kgLoadA (by rfl) 24 _ (by rfl) 2 _ Tryz.underlying24 rfl (by kernel_rfl) K (by rfl) (by repeat (first | exact List.mem_cons_self | refine List.mem_cons_of_mem _ ?_)) (part := [_, _]) (by rfl) (by rfl) ?_))
        refine ⟨rfl, rfl, ?_⟩
        rw [hJ.out]
        exact K
      rcases i with _ | i
      · obtain rfl := Option.some.inj ho
        replace hb : b 4 = false := hb
        simp only [hb, Bool.false_eq_true, if_false] at K
        clear ho hb hw
        go_wp2_with (first
          | go_big_skip
          | ((with_reducible show wpList _ _ _ _ _ _); refine kgStore (by rfl) 24 (.tmp 2) _ (by rfl) 2 (by kernel_rfl) [_] (by exact K) (by rfl) (by rfl) [_, _] (by rfl) (by rfl) (by simp) (by simp [Value.oneCell']) (cs := [_, _]) (by rfl) ?_; intro V2 K1; (dsimp only [List.cons_append, List.nil_append] at K1); clear K; (have K := K1); clear K1))
        refine ⟨rfl, trivial, ?_⟩
        rw [hJ.out]
        exact K
      rcases i with _ | i
      · obtain rfl := Option.some.inj ho
        replace hb : b 5 = false := hb
        simp only [hb, Bool.false_eq_true, if_false] at K
        clear ho hb hw
        go_wp2_with (first
          | go_big_skip
          | ((with_reducible show wpList _ _ _ _ _ _); refine kgStore (by rfl) 24 (.tmp 3) _ (by rfl) 2 (by kernel_rfl) [] (by exact K) (by rfl) (by rfl) [_, _] (by rfl) (by rfl) (by simp) (by simp [Value.oneCell']) (cs := [_, _]) (by rfl) ?_; intro V2 K1; (dsimp only [List.cons_append, List.nil_append] at K1); clear K; (have K := K1); clear K1))
        refine ⟨rfl, trivial, ?_⟩
        rw [hJ.out]
        exact K
      · cases ho
    case fin =>
      clear K
      intro b W hb K
      rw [hJ.out] at K
      simp only [drFrame, List.setIfInBounds_toArray, List.set_cons_succ, List.set_cons_zero]
      have b4 := hb 4 (by decide)
      have b5 := hb 5 (by decide)
      simp only [b4, b5, if_true] at K
      clear b4 b5
      clear hb hJ
      go_wp2_with (first
        | fail)
      refine bodyPost_ret (results_cc Tryz.results24 (by rfl) (K.out.loadA (off := 0) (n := 2) (by repeat (first | exact List.mem_cons_self | refine List.mem_cons_of_mem _ ?_)) Tryz.underlying24 rfl (by kernel_rfl) (part := [_, _]) (by rfl) (by rfl)) (by rfl) (K.out.loadA (off := 0) (n := 2) (by repeat (first | exact List.mem_cons_self | refine List.mem_cons_of_mem _ ?_)) Tryz.underlying24 rfl (by kernel_rfl) (part := [_, _]) (by rfl) (by rfl))) rfl ?_
      exact ⟨rfl, K.out.b⟩
  · rw [decide_eq_false h0]
    have d0 : decide (z < 0) = false := decide_eq_false h0
    go_enter Tryz.func24, Tryz.ntmps24
    go_upto_region 3 with (first
      | go_big_skip
      | ((with_reducible show wpList _ _ _ _ _ _); refine kgBox (by rfl) 26 _ (by rfl) (some 1) (by rfl) (by rfl) [_, _, _, _, _, _, _] (by rfl) K ?_; intro g1 V1 K1; clear K; (have K := K1); clear K1)
      | ((with_reducible show wpList _ _ _ _ _ _); refine kgAlloc (by rfl) 24 (by rfl) (some 2) (by rfl) [.int .i64 0, .int .i64 0] (fun _ => by kernel_rfl) K ?_; intro g2 V1 K1; clear K; (have K := K1); clear K1)
      | ((with_reducible show wpList _ _ _ _ _ _); refine kgAlloc (by rfl) 24 (by rfl) (some 3) (by rfl) [.int .i64 0, .int .i64 0] (fun _ => by kernel_rfl) K ?_; intro g3 V1 K1; clear K; (have K := K1); clear K1)
      | ((with_reducible show wpList _ _ _ _ _ _); refine kgLoadA (by rfl) 24 _ (by rfl) 2 _ Tryz.underlying24 rfl (by kernel_rfl) K (by rfl) (by repeat (first | exact List.mem_cons_self | refine List.mem_cons_of_mem _ ?_)) (part := [_, _]) (by rfl) (by rfl) ?_)
      | (go_at_call 42; (with_reducible refine (rCmp7_any _ _ _ _ _).mono ?_); rintro e W3 ⟨rfl, hb⟩; rw [HZ.out]; (have K2 := hid (K.out.later hb)); clear hb K; (have K := K2); clear K2))
    obtain ⟨J, hJ⟩ : ∃ J : (Nat → Bool) → World → Prop, J = fun b W => Hid (KG w W [⟨g3, 24, if b 5 then [.int .i64 fl, .int .i64 fa] else [.int .i64 0, .int .i64 0]⟩, ⟨g2, 24, if b 4 then [.int .i64 al, .int .i64 aa] else [.int .i64 0, .int .i64 0]⟩, ⟨g1, 26, [.slice A n c, .int .i64 al, .int .i64 aa, .int .i64 fl, .int .i64 fa, .int .i64 on, .int .i64 off]⟩] []) := ⟨_, rfl⟩
    replace hJ := hid hJ
    refine wp_drawn_det [.pointer (some ⟨g1, 1, none⟩), .agg #[.int .i64 al, .int .i64 aa], .pointer (some ⟨g1, 3, none⟩), .agg #[.int .i64 fl, .int .i64 fa], undef, undef] (by kernel_rfl) (by kernel_rfl) rfl J (by rw [hJ.out]; exact hid (K.out.quiet ⟨1, rfl⟩)) ?step ?fin
    case step =>
      clear K
      intro i o b W ho hb hw K
      rw [hJ.out] at K
      simp only [drFrame, List.setIfInBounds_toArray, List.set_cons_succ, List.set_cons_zero]
      rcases i with _ | i
      · obtain rfl := Option.some.inj ho
        clear ho hb hw
        go_wp2_with (first
          | fail)
        refine ⟨rfl, rfl, ?_⟩
        rw [hJ.out]
        exact K
      rcases i with _ | i
      · obtain rfl := Option.some.inj ho
        clear ho hb hw
        go_wp2_with (first
          | go_big_skip
          | ((with_reducible show wpList _ _ _ _ _ _); refine kgLoadA (by rfl) 24 _ (by rfl) 2 _ Tryz.underlying24 rfl (by kernel_rfl) K (by rfl) (by repeat (first | exact List.mem_cons_self | refine List.mem_cons_of_mem _ ?_)) (part := [_, _]) (by rfl) (by rfl) ?_))
        refine ⟨rfl, rfl, ?_⟩
        rw [hJ.out]
        exact K
      rcases i with _ | i
      · obtain rfl := Option.some.inj ho
        clear ho hb hw
        go_wp2_with (first
          | fail)
        refine ⟨rfl, rfl, ?_⟩
        rw [hJ.out]
        exact K
      rcases i with _ | i
      · obtain rfl := Option.some.inj ho
        clear ho hb hw
        go_wp2_with (first
          | go_big_skip
          | ((with_reducible show wpList _ _ _ _ _ _); refine kgLoadA (by rfl) 24 _ (by rfl) 2 _ Tryz.underlying24 rfl (by kernel_rfl) K (by rfl) (by repeat (first | exact List.mem_cons_self | refine List.mem_cons_of_mem _ ?_)) (part := [_, _]) (by rfl) (by rfl) ?_))
        refine ⟨rfl, rfl, ?_⟩
        rw [hJ.out]
        exact K
      rcases i with _ | i
      · obtain rfl := Option.some.inj ho
        replace hb : b 4 = false := hb
        simp only [hb, Bool.false_eq_true, if_false] at K
        clear ho hb hw
        go_wp2_with (first
          | go_big_skip
          | ((with_reducible show wpList _ _ _ _ _ _); refine kgStore (by rfl) 24 (.tmp 2) _ (by rfl) 2 (by kernel_rfl) [_] (by exact K) (by rfl) (by rfl) [_, _] (by rfl) (by rfl) (by simp) (by simp [Value.oneCell']) (cs := [_, _]) (by rfl) ?_; intro V2 K1; (dsimp only [List.cons_append, List.nil_append] at K1); clear K; (have K := K1); clear K1))
        refine ⟨rfl, trivial, ?_⟩
        rw [hJ.out]
        exact K
      rcases i with _ | i
      · obtain rfl := Option.some.inj ho
        replace hb : b 5 = false := hb
        simp only [hb, Bool.false_eq_true, if_false] at K
        clear ho hb hw
        go_wp2_with (first
          | go_big_skip
          | ((with_reducible show wpList _ _ _ _ _ _); refine kgStore (by rfl) 24 (.tmp 3) _ (by rfl) 2 (by kernel_rfl) [] (by exact K) (by rfl) (by rfl) [_, _] (by rfl) (by rfl) (by simp) (by simp [Value.oneCell']) (cs := [_, _]) (by rfl) ?_; intro V2 K1; (dsimp only [List.cons_append, List.nil_append] at K1); clear K; (have K := K1); clear K1))
        refine ⟨rfl, trivial, ?_⟩
        rw [hJ.out]
        exact K
      · cases ho
    case fin =>
      clear K
      intro b W hb K
      rw [hJ.out] at K
      simp only [drFrame, List.setIfInBounds_toArray, List.set_cons_succ, List.set_cons_zero]
      have b4 := hb 4 (by decide)
      have b5 := hb 5 (by decide)
      simp only [b4, b5, if_true] at K
      clear b4 b5
      clear hb hJ
      go_wp2_with (first
        | fail)
      refine bodyPost_ret (results_cc Tryz.results24 (by rfl) (K.out.loadA (off := 0) (n := 2) (by repeat (first | exact List.mem_cons_self | refine List.mem_cons_of_mem _ ?_)) Tryz.underlying24 rfl (by kernel_rfl) (part := [_, _]) (by rfl) (by rfl)) (by rfl) (K.out.loadA (off := 0) (n := 2) (by repeat (first | exact List.mem_cons_self | refine List.mem_cons_of_mem _ ?_)) Tryz.underlying24 rfl (by kernel_rfl) (part := [_, _]) (by rfl) (by rfl))) rfl ?_
      exact ⟨rfl, K.out.b⟩
end Go.Proofs.YtblbfoniimnkcaaGreatDoor

/- The walk of the reference's Same of states, where they are. (Printed by wip/bldoc.py.) -/
namespace Go.Proofs.YtblbfoniimnkcaaGreatDoor
open Go.RowKit Go.Lib

set_option maxRecDepth 100000 in
set_option maxHeartbeats 4000000 in
theorem rSame23_yes (hs hs' : List Hd) (A A' : Option Addr) (n n' c c' C C' : Nat) (hn : n = hs.length) (hn' : n' = hs'.length) (w : World) (hd : DocAt w C A hs) (hd' : DocAt w C' A' hs') (h1 : hs.length ≤ 1000) (h2 : ∀ h ∈ hs, h.l.ls.length ≤ 1000000 ∧ h.l.cs.length ≤ 1000000) (al aa fl fa on off : Int) (heq : lnsOf hs = lnsOf hs') :
    Calls Tryz.prog 19 #[.agg #[.slice A n c, .int .i64 al, .int .i64 aa, .int .i64 fl, .int .i64 fa, .int .i64 on, .int .i64 off], .agg #[.slice A' n' c', .int .i64 al, .int .i64 aa, .int .i64 fl, .int .i64 fa, .int .i64 on, .int .i64 off]] w (IsBool true w) := by
  subst hn hn'
  have H2 := hid h2
  have K := hid (KG.start w [⟨hs, A, false⟩, ⟨hs', A', false⟩] (by simpa using ⟨hd.live, hd'.live⟩))
  have NE := hid (decide_eq_true heq)
  clear hd hd' h2 heq
  go_enter Tryz.func19, Tryz.ntmps19
  go_wp2_with (first
    | go_big_skip
    | ((with_reducible show wpList _ _ _ _ _ _); refine kgBox (by rfl) 26 _ (by rfl) (some 2) (by rfl) (by rfl) [_, _, _, _, _, _, _] (by rfl) K ?_; intro g2 V1 K1; clear K; (have K := K1); clear K1)
    | ((with_reducible show wpList _ _ _ _ _ _); refine kgBox (by rfl) 26 _ (by rfl) (some 3) (by rfl) (by rfl) [_, _, _, _, _, _, _] (by rfl) K ?_; intro g3 V1 K1; clear K; (have K := K1); clear K1)
    | ((with_reducible show wpList _ _ _ _ _ _); refine kgLoad1 (by rfl) 22 _ (by rfl) _ Tryz.underlying22 rfl K (by rfl) (by repeat (first | exact List.mem_cons_self | refine List.mem_cons_of_mem _ ?_)) (by rfl) ?_)
    | ((with_reducible show wpList _ _ _ _ _ _); refine kgLoad1 (by rfl) 3 _ (by rfl) _ Tryz.underlying3 rfl K (by rfl) (by repeat (first | exact List.mem_cons_self | refine List.mem_cons_of_mem _ ?_)) (by rfl) ?_)
    | ((with_reducible show wpList _ _ _ _ _ _); refine kgLoadA (by rfl) 24 _ (by rfl) 2 _ Tryz.underlying24 rfl (by kernel_rfl) K (by rfl) (by repeat (first | exact List.mem_cons_self | refine List.mem_cons_of_mem _ ?_)) (part := [_, _]) (by rfl) (by rfl) ?_)
    | (go_at_call 35; (with_reducible refine (rSame7_any hs hs' A A' _ _ c c' _ _ rfl rfl _ (K.out.at_ (d := ⟨hs, A, false⟩) (by simp)) (K.out.at_ (d := ⟨hs', A', false⟩) (by simp)) h1 H2.out).mono ?_); rintro e W2 ⟨rfl, hb⟩; rw [NE.out]; (have K2 := hid (K.out.later hb)); clear hb K; (have K := K2); clear K2))
  go_ret
  exact ⟨rfl, K.out.b⟩
end Go.Proofs.YtblbfoniimnkcaaGreatDoor
