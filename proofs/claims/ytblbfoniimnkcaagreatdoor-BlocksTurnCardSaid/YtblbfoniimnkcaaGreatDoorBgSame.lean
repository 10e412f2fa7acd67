/- Texts on cells and lines, put together: DocSame, RSame7. -/
import Derived.Test.YtblbfoniimnkcaaGreatDoorBgKg
import Derived.Test.YtblbfoniimnkcaaGreatDoorLnSame
import Derived.BigQuiet
import Derived.Deep.QuietTactic
import Derived.Test.YtblbfoniimnkcaaGreatDoorBgDr
import Derived.Test.YtblbfoniimnkcaaGreatDoorDocMay
/- The walks of slices.EqualFunc at lines.Same, of doc.Same. (Printed by wip/bldoc.py.) -/
namespace Go.Proofs.YtblbfoniimnkcaaGreatDoor
open Go.RowKit Go.Lib

theorem lns_differ {hs hs' : List Hd} {k : Nat} {x y : Hd} (hx : hs[k]? = some x) (hy : hs'[k]? = some y) (h : ¬ x.l = y.l) : decide (lnsOf hs = lnsOf hs') = false := by
  refine decide_eq_false fun e => h ?_
  have h1 := lnsOf_get hx
  rw [e, lnsOf_get hy] at h1
  injection h1 with h1
  exact h1.symm
theorem lns_snoc {hs hs' : List Hd} {k : Nat} {x y : Hd} (hx : hs[k]? = some x) (hy : hs'[k]? = some y) (h : x.l = y.l) (he : (lnsOf hs).take k = (lnsOf hs').take k) : (lnsOf hs).take (k + 1) = (lnsOf hs').take (k + 1) := by
  rw [List.take_add_one, List.take_add_one, he, lnsOf_get hx, lnsOf_get hy, h]
theorem lns_all {hs hs' : List Hd} (hl : hs.length = hs'.length) (he : (lnsOf hs).take hs.length = (lnsOf hs').take hs.length) : decide (lnsOf hs = lnsOf hs') = true := by
  refine decide_eq_true ?_
  rwa [List.take_of_length_le (by rw [lnsOf_len]; exact Nat.le_refl _), List.take_of_length_le (by rw [lnsOf_len]; omega)] at he
theorem lns_len {hs hs' : List Hd} (hl : ¬ hs.length = hs'.length) : decide (lnsOf hs = lnsOf hs') = false := decide_eq_false fun e => hl (by rw [← lnsOf_len hs, e, lnsOf_len])
end Go.Proofs.YtblbfoniimnkcaaGreatDoor

/- The walks of the reference's Same and Size of documents. (Printed by wip/bldoc.py.) -/
namespace Go.Proofs.YtblbfoniimnkcaaGreatDoor
open Go.RowKit Go.Lib

set_option maxRecDepth 100000 in
set_option maxHeartbeats 4000000 in
theorem rSame7_any (hs hs' : List Hd) (A A' : Option Addr) (n n' c c' C C' : Nat) (hn : n = hs.length) (hn' : n' = hs'.length) (w : World) (hd : DocAt w C A hs) (hd' : DocAt w C' A' hs') (h1 : hs.length ≤ 1000) (h2 : ∀ h ∈ hs, h.l.ls.length ≤ 1000000 ∧ h.l.cs.length ≤ 1000000) :
    Calls Tryz.prog 35 #[.slice A n c, .slice A' n' c'] w (IsBool (decide (lnsOf hs = lnsOf hs')) w) := by
  subst hn hn'
  have D0 := hid h2
  have L0 := hid h1
  have K := hid (KG.start w [⟨hs, A, false⟩, ⟨hs', A', false⟩] (by simpa using ⟨hd.live, hd'.live⟩))
  clear hd hd' h2
  by_cases hl : hs.length = hs'.length
  · have HL := hid hl
    have b0 : ((hs.length : Int) != (hs'.length : Int)) = false := by simp [hl]
    clear hl
    go_enter Tryz.func35, Tryz.ntmps35
    go_wp2_with fail
    go_loopw [5] (fun i wr => ∃ k : Nat, k ≤ hs.length ∧ i = .int .i64 k ∧ Hid ((lnsOf hs).take k = (lnsOf hs').take k) ∧ Hid (KG w wr [] [⟨hs, A, false⟩, ⟨hs', A', false⟩])) (fun i _ => hs.length - (intOf i).toNat)
    case atStart => exact ⟨0, Nat.zero_le _, rfl, rfl, K⟩
    case round =>
      clear K
      obtain ⟨k, hk, rfl, HE, K⟩ := hrel
      by_cases hlt : k < hs.length
      · obtain ⟨ad, x, e, -, hx, -⟩ := (K.out.at_ (d := ⟨hs, A, false⟩) (by simp)).row.atH hlt
        obtain rfl : A = some ad := e
        obtain ⟨ad', y, e, -, hy, -⟩ := (K.out.at_ (d := ⟨hs', A', false⟩) (by simp)).row.atH (show k < hs'.length by have := HL.out; omega)
        obtain rfl : A' = some ad' := e
        have hi1 : (k : Int) < (hs.length : Int) := by omega
        have hi2 : (k : Int) < (hs'.length : Int) := by have := HL.out; omega
        have XL : Hid (x.l.ls.length ≤ 1000000000) := hid (by have := (D0.out x (List.mem_of_getElem? hx)).1; omega)
        have XC : Hid (x.l.cs.length ≤ 1000000000) := hid (by have := (D0.out x (List.mem_of_getElem? hx)).2; omega)
        have HX := hid hx
        have HY := hid hy
        clear hx hy
        by_cases he : x.l = y.l
        · have EQ := hid (decide_eq_true he)
          have HE2 := hid (lns_snoc HX.out HY.out he HE.out)
          clear he
          go_upto_region 6 with (fail)
          obtain ⟨J, hJ⟩ : ∃ J : (Nat → Bool) → World → Prop, J = fun _ W => Hid (KG w W [] [⟨hs, some ad, false⟩, ⟨hs', some ad', false⟩]) := ⟨_, rfl⟩
          replace hJ := hid hJ
          refine wp_drawn_det [.slice (some ad) hs.length c, .int .i64 k, .pointer (some (ad.add (k * 4))), .agg #[.int .i64 x.l.q, .slice x.A x.l.ls.length x.c, .int .i64 x.l.k, .slice x.B x.l.cs.length x.d], .slice (some ad') hs'.length c', .int .i64 k, .pointer (some (ad'.add (k * 4))), .agg #[.int .i64 y.l.q, .slice y.A y.l.ls.length y.c, .int .i64 y.l.k, .slice y.B y.l.cs.length y.d], .bool true, .bool (!true)] (by kernel_rfl) (by kernel_rfl) rfl J (by rw [hJ.out]; exact hid (K.out.quiet ⟨1, rfl⟩)) ?step ?fin
          case step =>
            clear K
            intro i o b W ho hb hw K
            rw [hJ.out] at K
            simp only [drFrame, List.setIfInBounds_toArray, List.set_cons_succ, List.set_cons_zero]
            rcases i with _ | i
            · obtain rfl := Option.some.inj ho
              clear ho hb hw
              go_wp2_with (first
                | go_big_skip
                | ((with_reducible show wpList _ _ _ _ _ _); refine kgElem (by rfl) 46 _ (by rfl) _ Tryz.underlying46 rfl (by kernel_rfl) K (by rfl) (by repeat (first | exact List.mem_cons_self | refine List.mem_cons_of_mem _ ?_)) HX.out ?_)
                | ((with_reducible show wpList _ _ _ _ _ _); refine kgElem (by rfl) 46 _ (by rfl) _ Tryz.underlying46 rfl (by kernel_rfl) K (by rfl) (by repeat (first | exact List.mem_cons_self | refine List.mem_cons_of_mem _ ?_)) HY.out ?_)
                | (go_at_call 56; (with_reducible refine (refLSame_any x.l y.l x.A _ x.c x.B _ x.d y.A _ y.c y.B _ y.d _ _ rfl rfl rfl rfl _ ((K.out.at_ (d := ⟨hs, some ad, false⟩) (by simp)).ln HX.out) ((K.out.at_ (d := ⟨hs', some ad', false⟩) (by simp)).ln HY.out) XL.out XC.out).mono ?_); rintro e W4 ⟨rfl, hb⟩; rw [EQ.out]; (have K2 := hid (K.out.later hb)); clear hb K; (have K := K2); clear K2))
              refine ⟨rfl, rfl, ?_⟩
              rw [hJ.out]
              exact K
            rcases i with _ | i
            · obtain rfl := Option.some.inj ho
              clear ho hb hw
              go_wp2_with (first
                | go_big_skip
                | ((with_reducible show wpList _ _ _ _ _ _); refine kgElem (by rfl) 46 _ (by rfl) _ Tryz.underlying46 rfl (by kernel_rfl) K (by rfl) (by repeat (first | exact List.mem_cons_self | refine List.mem_cons_of_mem _ ?_)) HX.out ?_)
                | ((with_reducible show wpList _ _ _ _ _ _); refine kgElem (by rfl) 46 _ (by rfl) _ Tryz.underlying46 rfl (by kernel_rfl) K (by rfl) (by repeat (first | exact List.mem_cons_self | refine List.mem_cons_of_mem _ ?_)) HY.out ?_)
                | (go_at_call 56; (with_reducible refine (refLSame_any x.l y.l x.A _ x.c x.B _ x.d y.A _ y.c y.B _ y.d _ _ rfl rfl rfl rfl _ ((K.out.at_ (d := ⟨hs, some ad, false⟩) (by simp)).ln HX.out) ((K.out.at_ (d := ⟨hs', some ad', false⟩) (by simp)).ln HY.out) XL.out XC.out).mono ?_); rintro e W4 ⟨rfl, hb⟩; rw [EQ.out]; (have K2 := hid (K.out.later hb)); clear hb K; (have K := K2); clear K2))
              refine ⟨rfl, rfl, ?_⟩
              rw [hJ.out]
              exact K
            rcases i with _ | i
            · obtain rfl := Option.some.inj ho
              clear ho hb hw
              go_wp2_with (first
                | go_big_skip
                | ((with_reducible show wpList _ _ _ _ _ _); refine kgElem (by rfl) 46 _ (by rfl) _ Tryz.underlying46 rfl (by kernel_rfl) K (by rfl) (by repeat (first | exact List.mem_cons_self | refine List.mem_cons_of_mem _ ?_)) HX.out ?_)
                | ((with_reducible show wpList _ _ _ _ _ _); refine kgElem (by rfl) 46 _ (by rfl) _ Tryz.underlying46 rfl (by kernel_rfl) K (by rfl) (by repeat (first | exact List.mem_cons_self | refine List.mem_cons_of_mem _ ?_)) HY.out ?_)
                | (go_at_call 56; (with_reducible refine (refLSame_any x.l y.l x.A _ x.c x.B _ x.d y.A _ y.c y.B _ y.d _ _ rfl rfl rfl rfl _ ((K.out.at_ (d := ⟨hs, some ad, false⟩) (by simp)).ln HX.out) ((K.out.at_ (d := ⟨hs', some ad', false⟩) (by simp)).ln HY.out) XL.out XC.out).mono ?_); rintro e W4 ⟨rfl, hb⟩; rw [EQ.out]; (have K2 := hid (K.out.later hb)); clear hb K; (have K := K2); clear K2))
              refine ⟨rfl, rfl, ?_⟩
              rw [hJ.out]
              exact K
            rcases i with _ | i
            · obtain rfl := Option.some.inj ho
              clear ho hb hw
              go_wp2_with (first
                | go_big_skip
                | ((with_reducible show wpList _ _ _ _ _ _); refine kgElem (by rfl) 46 _ (by rfl) _ Tryz.underlying46 rfl (by kernel_rfl) K (by rfl) (by repeat (first | exact List.mem_cons_self | refine List.mem_cons_of_mem _ ?_)) HX.out ?_)
                | ((with_reducible show wpList _ _ _ _ _ _); refine kgElem (by rfl) 46 _ (by rfl) _ Tryz.underlying46 rfl (by kernel_rfl) K (by rfl) (by repeat (first | exact List.mem_cons_self | refine List.mem_cons_of_mem _ ?_)) HY.out ?_)
                | (go_at_call 56; (with_reducible refine (refLSame_any x.l y.l x.A _ x.c x.B _ x.d y.A _ y.c y.B _ y.d _ _ rfl rfl rfl rfl _ ((K.out.at_ (d := ⟨hs, some ad, false⟩) (by simp)).ln HX.out) ((K.out.at_ (d := ⟨hs', some ad', false⟩) (by simp)).ln HY.out) XL.out XC.out).mono ?_); rintro e W4 ⟨rfl, hb⟩; rw [EQ.out]; (have K2 := hid (K.out.later hb)); clear hb K; (have K := K2); clear K2))
              refine ⟨rfl, rfl, ?_⟩
              rw [hJ.out]
              exact K
            rcases i with _ | i
            · obtain rfl := Option.some.inj ho
              clear ho hb hw
              go_wp2_with (first
                | go_big_skip
                | ((with_reducible show wpList _ _ _ _ _ _); refine kgElem (by rfl) 46 _ (by rfl) _ Tryz.underlying46 rfl (by kernel_rfl) K (by rfl) (by repeat (first | exact List.mem_cons_self | refine List.mem_cons_of_mem _ ?_)) HX.out ?_)
                | ((with_reducible show wpList _ _ _ _ _ _); refine kgElem (by rfl) 46 _ (by rfl) _ Tryz.underlying46 rfl (by kernel_rfl) K (by rfl) (by repeat (first | exact List.mem_cons_self | refine List.mem_cons_of_mem _ ?_)) HY.out ?_)
                | (go_at_call 56; (with_reducible refine (refLSame_any x.l y.l x.A _ x.c x.B _ x.d y.A _ y.c y.B _ y.d _ _ rfl rfl rfl rfl _ ((K.out.at_ (d := ⟨hs, some ad, false⟩) (by simp)).ln HX.out) ((K.out.at_ (d := ⟨hs', some ad', false⟩) (by simp)).ln HY.out) XL.out XC.out).mono ?_); rintro e W4 ⟨rfl, hb⟩; rw [EQ.out]; (have K2 := hid (K.out.later hb)); clear hb K; (have K := K2); clear K2))
              refine ⟨rfl, rfl, ?_⟩
              rw [hJ.out]
              exact K
            rcases i with _ | i
            · obtain rfl := Option.some.inj ho
              clear ho hb hw
              go_wp2_with (first
                | go_big_skip
                | ((with_reducible show wpList _ _ _ _ _ _); refine kgElem (by rfl) 46 _ (by rfl) _ Tryz.underlying46 rfl (by kernel_rfl) K (by rfl) (by repeat (first | exact List.mem_cons_self | refine List.mem_cons_of_mem _ ?_)) HX.out ?_)
                | ((with_reducible show wpList _ _ _ _ _ _); refine kgElem (by rfl) 46 _ (by rfl) _ Tryz.underlying46 rfl (by kernel_rfl) K (by rfl) (by repeat (first | exact List.mem_cons_self | refine List.mem_cons_of_mem _ ?_)) HY.out ?_)
                | (go_at_call 56; (with_reducible refine (refLSame_any x.l y.l x.A _ x.c x.B _ x.d y.A _ y.c y.B _ y.d _ _ rfl rfl rfl rfl _ ((K.out.at_ (d := ⟨hs, some ad, false⟩) (by simp)).ln HX.out) ((K.out.at_ (d := ⟨hs', some ad', false⟩) (by simp)).ln HY.out) XL.out XC.out).mono ?_); rintro e W4 ⟨rfl, hb⟩; rw [EQ.out]; (have K2 := hid (K.out.later hb)); clear hb K; (have K := K2); clear K2))
              refine ⟨rfl, rfl, ?_⟩
              rw [hJ.out]
              exact K
            rcases i with _ | i
            · obtain rfl := Option.some.inj ho
              clear ho hb hw
              go_wp2_with (first
                | go_big_skip
                | ((with_reducible show wpList _ _ _ _ _ _); refine kgElem (by rfl) 46 _ (by rfl) _ Tryz.underlying46 rfl (by kernel_rfl) K (by rfl) (by repeat (first | exact List.mem_cons_self | refine List.mem_cons_of_mem _ ?_)) HX.out ?_)
                | ((with_reducible show wpList _ _ _ _ _ _); refine kgElem (by rfl) 46 _ (by rfl) _ Tryz.underlying46 rfl (by kernel_rfl) K (by rfl) (by repeat (first | exact List.mem_cons_self | refine List.mem_cons_of_mem _ ?_)) HY.out ?_)
                | (go_at_call 56; (with_reducible refine (refLSame_any x.l y.l x.A _ x.c x.B _ x.d y.A _ y.c y.B _ y.d _ _ rfl rfl rfl rfl _ ((K.out.at_ (d := ⟨hs, some ad, false⟩) (by simp)).ln HX.out) ((K.out.at_ (d := ⟨hs', some ad', false⟩) (by simp)).ln HY.out) XL.out XC.out).mono ?_); rintro e W4 ⟨rfl, hb⟩; rw [EQ.out]; (have K2 := hid (K.out.later hb)); clear hb K; (have K := K2); clear K2))
              refine ⟨rfl, rfl, ?_⟩
              rw [hJ.out]
              exact K
            rcases i with _ | i
            · obtain rfl := Option.some.inj ho
              clear ho hb hw
              go_wp2_with (first
                | go_big_skip
                | ((with_reducible show wpList _ _ _ _ _ _); refine kgElem (by rfl) 46 _ (by rfl) _ Tryz.underlying46 rfl (by kernel_rfl) K (by rfl) (by repeat (first | exact List.mem_cons_self | refine List.mem_cons_of_mem _ ?_)) HX.out ?_)
                | ((with_reducible show wpList _ _ _ _ _ _); refine kgElem (by rfl) 46 _ (by rfl) _ Tryz.underlying46 rfl (by kernel_rfl) K (by rfl) (by repeat (first | exact List.mem_cons_self | refine List.mem_cons_of_mem _ ?_)) HY.out ?_)
                | (go_at_call 56; (with_reducible refine (refLSame_any x.l y.l x.A _ x.c x.B _ x.d y.A _ y.c y.B _ y.d _ _ rfl rfl rfl rfl _ ((K.out.at_ (d := ⟨hs, some ad, false⟩) (by simp)).ln HX.out) ((K.out.at_ (d := ⟨hs', some ad', false⟩) (by simp)).ln HY.out) XL.out XC.out).mono ?_); rintro e W4 ⟨rfl, hb⟩; rw [EQ.out]; (have K2 := hid (K.out.later hb)); clear hb K; (have K := K2); clear K2))
              refine ⟨rfl, rfl, ?_⟩
              rw [hJ.out]
              exact K
            rcases i with _ | i
            · obtain rfl := Option.some.inj ho
              clear ho hb hw
              go_wp2_with (first
                | go_big_skip
                | ((with_reducible show wpList _ _ _ _ _ _); refine kgElem (by rfl) 46 _ (by rfl) _ Tryz.underlying46 rfl (by kernel_rfl) K (by rfl) (by repeat (first | exact List.mem_cons_self | refine List.mem_cons_of_mem _ ?_)) HX.out ?_)
                | ((with_reducible show wpList _ _ _ _ _ _); refine kgElem (by rfl) 46 _ (by rfl) _ Tryz.underlying46 rfl (by kernel_rfl) K (by rfl) (by repeat (first | exact List.mem_cons_self | refine List.mem_cons_of_mem _ ?_)) HY.out ?_)
                | (go_at_call 56; (with_reducible refine (refLSame_any x.l y.l x.A _ x.c x.B _ x.d y.A _ y.c y.B _ y.d _ _ rfl rfl rfl rfl _ ((K.out.at_ (d := ⟨hs, some ad, false⟩) (by simp)).ln HX.out) ((K.out.at_ (d := ⟨hs', some ad', false⟩) (by simp)).ln HY.out) XL.out XC.out).mono ?_); rintro e W4 ⟨rfl, hb⟩; rw [EQ.out]; (have K2 := hid (K.out.later hb)); clear hb K; (have K := K2); clear K2))
              refine ⟨rfl, rfl, ?_⟩
              rw [hJ.out]
              exact K
            rcases i with _ | i
            · obtain rfl := Option.some.inj ho
              clear ho hb hw
              go_wp2_with (first
                | go_big_skip
                | ((with_reducible show wpList _ _ _ _ _ _); refine kgElem (by rfl) 46 _ (by rfl) _ Tryz.underlying46 rfl (by kernel_rfl) K (by rfl) (by repeat (first | exact List.mem_cons_self | refine List.mem_cons_of_mem _ ?_)) HX.out ?_)
                | ((with_reducible show wpList _ _ _ _ _ _); refine kgElem (by rfl) 46 _ (by rfl) _ Tryz.underlying46 rfl (by kernel_rfl) K (by rfl) (by repeat (first | exact List.mem_cons_self | refine List.mem_cons_of_mem _ ?_)) HY.out ?_)
                | (go_at_call 56; (with_reducible refine (refLSame_any x.l y.l x.A _ x.c x.B _ x.d y.A _ y.c y.B _ y.d _ _ rfl rfl rfl rfl _ ((K.out.at_ (d := ⟨hs, some ad, false⟩) (by simp)).ln HX.out) ((K.out.at_ (d := ⟨hs', some ad', false⟩) (by simp)).ln HY.out) XL.out XC.out).mono ?_); rintro e W4 ⟨rfl, hb⟩; rw [EQ.out]; (have K2 := hid (K.out.later hb)); clear hb K; (have K := K2); clear K2))
              refine ⟨rfl, rfl, ?_⟩
              rw [hJ.out]
              exact K
            · cases ho
          case fin =>
            clear K
            intro b W hb K
            rw [hJ.out] at K
            simp only [drFrame, List.setIfInBounds_toArray, List.set_cons_succ, List.set_cons_zero]
            clear hb hJ
            go_wp2_with (first
              | fail)
            go_roundw
            case rel => exact ⟨k + 1, by omega, by go_num, HE2, hid (K.out.less (by simp) (by simp))⟩
            case measure => simp [intOf]; omega
        · have EQ := hid (decide_eq_false he)
          have NE := hid (lns_differ HX.out HY.out he)
          clear he
          go_upto_region 6 with (fail)
          obtain ⟨J, hJ⟩ : ∃ J : (Nat → Bool) → World → Prop, J = fun _ W => Hid (KG w W [] [⟨hs, some ad, false⟩, ⟨hs', some ad', false⟩]) := ⟨_, rfl⟩
          replace hJ := hid hJ
          refine wp_drawn_det [.slice (some ad) hs.length c, .int .i64 k, .pointer (some (ad.add (k * 4))), .agg #[.int .i64 x.l.q, .slice x.A x.l.ls.length x.c, .int .i64 x.l.k, .slice x.B x.l.cs.length x.d], .slice (some ad') hs'.length c', .int .i64 k, .pointer (some (ad'.add (k * 4))), .agg #[.int .i64 y.l.q, .slice y.A y.l.ls.length y.c, .int .i64 y.l.k, .slice y.B y.l.cs.length y.d], .bool false, .bool (!false)] (by kernel_rfl) (by kernel_rfl) rfl J (by rw [hJ.out]; exact hid (K.out.quiet ⟨1, rfl⟩)) ?step ?fin
          case step =>
            clear K
            intro i o b W ho hb hw K
            rw [hJ.out] at K
            simp only [drFrame, List.setIfInBounds_toArray, List.set_cons_succ, List.set_cons_zero]
            rcases i with _ | i
            · obtain rfl := Option.some.inj ho
              clear ho hb hw
              go_wp2_with (first
                | go_big_skip
                | ((with_reducible show wpList _ _ _ _ _ _); refine kgElem (by rfl) 46 _ (by rfl) _ Tryz.underlying46 rfl (by kernel_rfl) K (by rfl) (by repeat (first | exact List.mem_cons_self | refine List.mem_cons_of_mem _ ?_)) HX.out ?_)
                | ((with_reducible show wpList _ _ _ _ _ _); refine kgElem (by rfl) 46 _ (by rfl) _ Tryz.underlying46 rfl (by kernel_rfl) K (by rfl) (by repeat (first | exact List.mem_cons_self | refine List.mem_cons_of_mem _ ?_)) HY.out ?_)
                | (go_at_call 56; (with_reducible refine (refLSame_any x.l y.l x.A _ x.c x.B _ x.d y.A _ y.c y.B _ y.d _ _ rfl rfl rfl rfl _ ((K.out.at_ (d := ⟨hs, some ad, false⟩) (by simp)).ln HX.out) ((K.out.at_ (d := ⟨hs', some ad', false⟩) (by simp)).ln HY.out) XL.out XC.out).mono ?_); rintro e W4 ⟨rfl, hb⟩; rw [EQ.out]; (have K2 := hid (K.out.later hb)); clear hb K; (have K := K2); clear K2))
              refine ⟨rfl, rfl, ?_⟩
              rw [hJ.out]
              exact K
            rcases i with _ | i
            · obtain rfl := Option.some.inj ho
              clear ho hb hw
              go_wp2_with (first
                | go_big_skip
                | ((with_reducible show wpList _ _ _ _ _ _); refine kgElem (by rfl) 46 _ (by rfl) _ Tryz.underlying46 rfl (by kernel_rfl) K (by rfl) (by repeat (first | exact List.mem_cons_self | refine List.mem_cons_of_mem _ ?_)) HX.out ?_)
                | ((with_reducible show wpList _ _ _ _ _ _); refine kgElem (by rfl) 46 _ (by rfl) _ Tryz.underlying46 rfl (by kernel_rfl) K (by rfl) (by repeat (first | exact List.mem_cons_self | refine List.mem_cons_of_mem _ ?_)) HY.out ?_)
                | (go_at_call 56; (with_reducible refine (refLSame_any x.l y.l x.A _ x.c x.B _ x.d y.A _ y.c y.B _ y.d _ _ rfl rfl rfl rfl _ ((K.out.at_ (d := ⟨hs, some ad, false⟩) (by simp)).ln HX.out) ((K.out.at_ (d := ⟨hs', some ad', false⟩) (by simp)).ln HY.out) XL.out XC.out).mono ?_); rintro e W4 ⟨rfl, hb⟩; rw [EQ.out]; (have K2 := hid (K.out.later hb)); clear hb K; (have K := K2); clear K2))
              refine ⟨rfl, rfl, ?_⟩
              rw [hJ.out]
              exact K
            rcases i with _ | i
            · obtain rfl := Option.some.inj ho
              clear ho hb hw
              go_wp2_with (first
                | go_big_skip
                | ((with_reducible show wpList _ _ _ _ _ _); refine kgElem (by rfl) 46 _ (by rfl) _ Tryz.underlying46 rfl (by kernel_rfl) K (by rfl) (by repeat (first | exact List.mem_cons_self | refine List.mem_cons_of_mem _ ?_)) HX.out ?_)
                | ((with_reducible show wpList _ _ _ _ _ _); refine kgElem (by rfl) 46 _ (by rfl) _ Tryz.underlying46 rfl (by kernel_rfl) K (by rfl) (by repeat (first | exact List.mem_cons_self | refine List.mem_cons_of_mem _ ?_)) HY.out ?_)
                | (go_at_call 56; (with_reducible refine (refLSame_any x.l y.l x.A _ x.c x.B _ x.d y.A _ y.c y.B _ y.d _ _ rfl rfl rfl rfl _ ((K.out.at_ (d := ⟨hs, some ad, false⟩) (by simp)).ln HX.out) ((K.out.at_ (d := ⟨hs', some ad', false⟩) (by simp)).ln HY.out) XL.out XC.out).mono ?_); rintro e W4 ⟨rfl, hb⟩; rw [EQ.out]; (have K2 := hid (K.out.later hb)); clear hb K; (have K := K2); clear K2))
              refine ⟨rfl, rfl, ?_⟩
              rw [hJ.out]
              exact K
            rcases i with _ | i
            · obtain rfl := Option.some.inj ho
              clear ho hb hw
              go_wp2_with (first
                | go_big_skip
                | ((with_reducible show wpList _ _ _ _ _ _); refine kgElem (by rfl) 46 _ (by rfl) _ Tryz.underlying46 rfl (by kernel_rfl) K (by rfl) (by repeat (first | exact List.mem_cons_self | refine List.mem_cons_of_mem _ ?_)) HX.out ?_)
                | ((with_reducible show wpList _ _ _ _ _ _); refine kgElem (by rfl) 46 _ (by rfl) _ Tryz.underlying46 rfl (by kernel_rfl) K (by rfl) (by repeat (first | exact List.mem_cons_self | refine List.mem_cons_of_mem _ ?_)) HY.out ?_)
                | (go_at_call 56; (with_reducible refine (refLSame_any x.l y.l x.A _ x.c x.B _ x.d y.A _ y.c y.B _ y.d _ _ rfl rfl rfl rfl _ ((K.out.at_ (d := ⟨hs, some ad, false⟩) (by simp)).ln HX.out) ((K.out.at_ (d := ⟨hs', some ad', false⟩) (by simp)).ln HY.out) XL.out XC.out).mono ?_); rintro e W4 ⟨rfl, hb⟩; rw [EQ.out]; (have K2 := hid (K.out.later hb)); clear hb K; (have K := K2); clear K2))
              refine ⟨rfl, rfl, ?_⟩
              rw [hJ.out]
              exact K
            rcases i with _ | i
            · obtain rfl := Option.some.inj ho
              clear ho hb hw
              go_wp2_with (first
                | go_big_skip
                | ((with_reducible show wpList _ _ _ _ _ _); refine kgElem (by rfl) 46 _ (by rfl) _ Tryz.underlying46 rfl (by kernel_rfl) K (by rfl) (by repeat (first | exact List.mem_cons_self | refine List.mem_cons_of_mem _ ?_)) HX.out ?_)
                | ((with_reducible show wpList _ _ _ _ _ _); refine kgElem (by rfl) 46 _ (by rfl) _ Tryz.underlying46 rfl (by kernel_rfl) K (by rfl) (by repeat (first | exact List.mem_cons_self | refine List.mem_cons_of_mem _ ?_)) HY.out ?_)
                | (go_at_call 56; (with_reducible refine (refLSame_any x.l y.l x.A _ x.c x.B _ x.d y.A _ y.c y.B _ y.d _ _ rfl rfl rfl rfl _ ((K.out.at_ (d := ⟨hs, some ad, false⟩) (by simp)).ln HX.out) ((K.out.at_ (d := ⟨hs', some ad', false⟩) (by simp)).ln HY.out) XL.out XC.out).mono ?_); rintro e W4 ⟨rfl, hb⟩; rw [EQ.out]; (have K2 := hid (K.out.later hb)); clear hb K; (have K := K2); clear K2))
              refine ⟨rfl, rfl, ?_⟩
              rw [hJ.out]
              exact K
            rcases i with _ | i
            · obtain rfl := Option.some.inj ho
              clear ho hb hw
              go_wp2_with (first
                | go_big_skip
                | ((with_reducible show wpList _ _ _ _ _ _); refine kgElem (by rfl) 46 _ (by rfl) _ Tryz.underlying46 rfl (by kernel_rfl) K (by rfl) (by repeat (first | exact List.mem_cons_self | refine List.mem_cons_of_mem _ ?_)) HX.out ?_)
                | ((with_reducible show wpList _ _ _ _ _ _); refine kgElem (by rfl) 46 _ (by rfl) _ Tryz.underlying46 rfl (by kernel_rfl) K (by rfl) (by repeat (first | exact List.mem_cons_self | refine List.mem_cons_of_mem _ ?_)) HY.out ?_)
                | (go_at_call 56; (with_reducible refine (refLSame_any x.l y.l x.A _ x.c x.B _ x.d y.A _ y.c y.B _ y.d _ _ rfl rfl rfl rfl _ ((K.out.at_ (d := ⟨hs, some ad, false⟩) (by simp)).ln HX.out) ((K.out.at_ (d := ⟨hs', some ad', false⟩) (by simp)).ln HY.out) XL.out XC.out).mono ?_); rintro e W4 ⟨rfl, hb⟩; rw [EQ.out]; (have K2 := hid (K.out.later hb)); clear hb K; (have K := K2); clear K2))
              refine ⟨rfl, rfl, ?_⟩
              rw [hJ.out]
              exact K
            rcases i with _ | i
            · obtain rfl := Option.some.inj ho
              clear ho hb hw
              go_wp2_with (first
                | go_big_skip
                | ((with_reducible show wpList _ _ _ _ _ _); refine kgElem (by rfl) 46 _ (by rfl) _ Tryz.underlying46 rfl (by kernel_rfl) K (by rfl) (by repeat (first | exact List.mem_cons_self | refine List.mem_cons_of_mem _ ?_)) HX.out ?_)
                | ((with_reducible show wpList _ _ _ _ _ _); refine kgElem (by rfl) 46 _ (by rfl) _ Tryz.underlying46 rfl (by kernel_rfl) K (by rfl) (by repeat (first | exact List.mem_cons_self | refine List.mem_cons_of_mem _ ?_)) HY.out ?_)
                | (go_at_call 56; (with_reducible refine (refLSame_any x.l y.l x.A _ x.c x.B _ x.d y.A _ y.c y.B _ y.d _ _ rfl rfl rfl rfl _ ((K.out.at_ (d := ⟨hs, some ad, false⟩) (by simp)).ln HX.out) ((K.out.at_ (d := ⟨hs', some ad', false⟩) (by simp)).ln HY.out) XL.out XC.out).mono ?_); rintro e W4 ⟨rfl, hb⟩; rw [EQ.out]; (have K2 := hid (K.out.later hb)); clear hb K; (have K := K2); clear K2))
              refine ⟨rfl, rfl, ?_⟩
              rw [hJ.out]
              exact K
            rcases i with _ | i
            · obtain rfl := Option.some.inj ho
              clear ho hb hw
              go_wp2_with (first
                | go_big_skip
                | ((with_reducible show wpList _ _ _ _ _ _); refine kgElem (by rfl) 46 _ (by rfl) _ Tryz.underlying46 rfl (by kernel_rfl) K (by rfl) (by repeat (first | exact List.mem_cons_self | refine List.mem_cons_of_mem _ ?_)) HX.out ?_)
                | ((with_reducible show wpList _ _ _ _ _ _); refine kgElem (by rfl) 46 _ (by rfl) _ Tryz.underlying46 rfl (by kernel_rfl) K (by rfl) (by repeat (first | exact List.mem_cons_self | refine List.mem_cons_of_mem _ ?_)) HY.out ?_)
                | (go_at_call 56; (with_reducible refine (refLSame_any x.l y.l x.A _ x.c x.B _ x.d y.A _ y.c y.B _ y.d _ _ rfl rfl rfl rfl _ ((K.out.at_ (d := ⟨hs, some ad, false⟩) (by simp)).ln HX.out) ((K.out.at_ (d := ⟨hs', some ad', false⟩) (by simp)).ln HY.out) XL.out XC.out).mono ?_); rintro e W4 ⟨rfl, hb⟩; rw [EQ.out]; (have K2 := hid (K.out.later hb)); clear hb K; (have K := K2); clear K2))
              refine ⟨rfl, rfl, ?_⟩
              rw [hJ.out]
              exact K
            rcases i with _ | i
            · obtain rfl := Option.some.inj ho
              clear ho hb hw
              go_wp2_with (first
                | go_big_skip
                | ((with_reducible show wpList _ _ _ _ _ _); refine kgElem (by rfl) 46 _ (by rfl) _ Tryz.underlying46 rfl (by kernel_rfl) K (by rfl) (by repeat (first | exact List.mem_cons_self | refine List.mem_cons_of_mem _ ?_)) HX.out ?_)
                | ((with_reducible show wpList _ _ _ _ _ _); refine kgElem (by rfl) 46 _ (by rfl) _ Tryz.underlying46 rfl (by kernel_rfl) K (by rfl) (by repeat (first | exact List.mem_cons_self | refine List.mem_cons_of_mem _ ?_)) HY.out ?_)
                | (go_at_call 56; (with_reducible refine (refLSame_any x.l y.l x.A _ x.c x.B _ x.d y.A _ y.c y.B _ y.d _ _ rfl rfl rfl rfl _ ((K.out.at_ (d := ⟨hs, some ad, false⟩) (by simp)).ln HX.out) ((K.out.at_ (d := ⟨hs', some ad', false⟩) (by simp)).ln HY.out) XL.out XC.out).mono ?_); rintro e W4 ⟨rfl, hb⟩; rw [EQ.out]; (have K2 := hid (K.out.later hb)); clear hb K; (have K := K2); clear K2))
              refine ⟨rfl, rfl, ?_⟩
              rw [hJ.out]
              exact K
            rcases i with _ | i
            · obtain rfl := Option.some.inj ho
              clear ho hb hw
              go_wp2_with (first
                | go_big_skip
                | ((with_reducible show wpList _ _ _ _ _ _); refine kgElem (by rfl) 46 _ (by rfl) _ Tryz.underlying46 rfl (by kernel_rfl) K (by rfl) (by repeat (first | exact List.mem_cons_self | refine List.mem_cons_of_mem _ ?_)) HX.out ?_)
                | ((with_reducible show wpList _ _ _ _ _ _); refine kgElem (by rfl) 46 _ (by rfl) _ Tryz.underlying46 rfl (by kernel_rfl) K (by rfl) (by repeat (first | exact List.mem_cons_self | refine List.mem_cons_of_mem _ ?_)) HY.out ?_)
                | (go_at_call 56; (with_reducible refine (refLSame_any x.l y.l x.A _ x.c x.B _ x.d y.A _ y.c y.B _ y.d _ _ rfl rfl rfl rfl _ ((K.out.at_ (d := ⟨hs, some ad, false⟩) (by simp)).ln HX.out) ((K.out.at_ (d := ⟨hs', some ad', false⟩) (by simp)).ln HY.out) XL.out XC.out).mono ?_); rintro e W4 ⟨rfl, hb⟩; rw [EQ.out]; (have K2 := hid (K.out.later hb)); clear hb K; (have K := K2); clear K2))
              refine ⟨rfl, rfl, ?_⟩
              rw [hJ.out]
              exact K
            · cases ho
          case fin =>
            clear K
            intro b W hb K
            rw [hJ.out] at K
            simp only [drFrame, List.setIfInBounds_toArray, List.set_cons_succ, List.set_cons_zero]
            clear hb hJ
            go_wp2_with (first
              | fail)
            go_ret
            exact ⟨by rw [NE.out] <;> rfl, K.out.b⟩
      · obtain rfl : k = hs.length := by omega
        have AL := hid (lns_all HL.out HE.out)
        go_wp2_with fail
        go_ret
        exact ⟨by rw [AL.out] <;> rfl, K.out.b⟩
  · have NL := hid (lns_len hl)
    have b0 : ((hs.length : Int) != (hs'.length : Int)) = true := by simp; omega
    clear hl
    go_enter Tryz.func35, Tryz.ntmps35
    go_wp2_with fail
    go_ret
    exact ⟨by rw [NL.out] <;> rfl, K.out.b⟩
set_option maxRecDepth 100000 in
set_option maxHeartbeats 4000000 in
theorem rSize7_any (hs : List Hd) (A : Option Addr) (n c C : Nat) (hn : n = hs.length) (w : World) (hd : DocAt w C A hs) (h1 : hs.length ≤ 1000) (h2 : ∀ h ∈ hs, h.l.ls.length ≤ 1000000 ∧ h.l.cs.length ≤ 1000000) :
    Calls Tryz.prog 62 #[.slice A n c] w (IsIntC (sizeD (lnsOf hs)) w) := by
  subst hn
  have D0 := hid h2
  have L0 := hid h1
  have K := hid (KG.start w [⟨hs, A, false⟩] (by simpa using hd.live))
  clear hd h2
  go_enter Tryz.func62, Tryz.ntmps62
  go_wp2_with fail
  go_loopw [3, 4] (fun s i wr => ∃ k : Nat, k ≤ hs.length ∧ i = .int .i64 k ∧ s = .int .i64 (sizeD ((lnsOf hs).take k) : Nat) ∧ Hid (KG w wr [] [⟨hs, A, false⟩])) (fun _ i _ => hs.length - (intOf i).toNat)
  case atStart => exact ⟨0, Nat.zero_le _, rfl, rfl, K⟩
  case round =>
    clear K
    obtain ⟨k, hk, rfl, rfl, K⟩ := hrel
    by_cases hlt : k < hs.length
    · obtain ⟨ad, x, rfl, -, hx, -⟩ := (K.out.at_ (d := ⟨hs, A, false⟩) (by simp)).row.atH hlt
      have hi1 : (k : Int) < (hs.length : Int) := by omega
      have q1 := (D0.out x (List.mem_of_getElem? hx)).2
      have q2 := sizeD_bound D0.out k
      have q3 := L0.out
      have EQ := hid (sizeD_step hx)
      have HX := hid hx
      obtain ⟨s, hs'⟩ : ∃ s, sizeD ((lnsOf hs).take k) = s := ⟨_, rfl⟩
      rw [hs'] at q2 EQ ⊢
      have q4 : s ≤ 1000000000 := by omega
      clear hx hs' q2 q3
      go_wp2_with (first
        | go_big_skip
        | ((with_reducible show wpList _ _ _ _ _ _); refine kgElem1 (by rfl) 44 _ (by rfl) _ Tryz.underlying44 rfl K (by rfl) (by repeat (first | exact List.mem_cons_self | refine List.mem_cons_of_mem _ ?_)) HX.out (by decide) (by rfl) ?_))
      go_roundw
      case rel => exact ⟨k + 1, by omega, by go_num, by rw [EQ.out]; go_num, hid (K.out.less (List.nil_sublist _) (by simp))⟩
      case measure => simp [intOf]; omega
    · obtain rfl : k = hs.length := by omega
      have e := hid (sizeD_end hs)
      rw [e.out]
      go_wp2_with fail
      go_ret
      exact ⟨rfl, K.out.b⟩
end Go.Proofs.YtblbfoniimnkcaaGreatDoor
