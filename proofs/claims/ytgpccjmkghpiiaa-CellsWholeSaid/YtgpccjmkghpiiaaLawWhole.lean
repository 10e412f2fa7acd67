/- The walk of the law CellsWhole: whatever the row, it answers true. -/
import Derived.Test.YtgpccjmkghpiiaaAwake5
import Derived.Test.YtgpccjmkghpiiaaWholePlain
import Derived.Test.YtgpccjmkghpiiaaOpen
namespace Go.Proofs.Ytgpccjmkghpiiaa
open Go.RowKit

set_option maxRecDepth 100000 in
set_option maxHeartbeats 8000000 in
theorem lawWhole_any (A : Option Addr) (cs : List Cl) (n c B : Nat) (hn : n = cs.length) (w : World) (hA : SlAt encC 3 w B A cs) (hl : cs.length ≤ maxLen) (hh : ∀ x ∈ cs, x.h.size ≤ maxLen) :
    Calls Try.prog 4 #[.slice A n c] w (RetBelow (.bool true) w) := by
  subst hn
  have hlong := hid (long_any A cs cs.length c B rfl w hA hl hh)
  by_cases hbig : 20000 < heft cs
  · have hd : decide (20000 < heft cs) = true := decide_eq_true hbig
    clear hbig
    go_enter Try.func4, Try.ntmps4
    go_wp2_with (first
      | (go_at_call 13; refine hlong.out.mono ?_; rintro e w' ⟨rfl, rfl⟩)
      | (go_at_call 9; refine (awake5_any _).mono ?_; rintro e W1 ⟨rfl, hb1⟩))
    go_ret
    exact ⟨rfl, hb1⟩
  · have hlen : cs.length ≤ 20000 := by unfold heft at hbig; omega
    have hd : decide (20000 < heft cs) = false := decide_eq_false hbig
    clear hbig hl hh
    have hRl := length_runsL cs
    have hS := hA.live (fun _ => by rw [encC_len]; omega)
    have HOK := hid (runsOk cs)
    have HR := hid (fun W => runs_any A cs cs.length c B rfl W)
    obtain ⟨R, hR⟩ : ∃ R, R = runsL cs := ⟨_, rfl⟩
    rw [← hR] at hRl HOK
    have HRE := hid hR
    clear hR
    go_enter Try.func4, Try.ntmps4
    go_wp2_with (first
      | (go_at_call 13; refine hlong.out.mono ?_; rintro e w' ⟨rfl, rfl⟩)
      | (go_at_call 14; refine (HR.out _ hA (by omega)).mono ?_; rintro e W1 ⟨v1, rfl, ho1, hb1⟩; rw [← HRE.out] at ho1; obtain ⟨A1, c1, rfl, -, -, -, hS1⟩ := ho1.form encN_len))
    have hSc := hS.below hb1
    go_loopw [4, 5] (fun s4 s5 wr => ∃ (a i : Nat) (pre rest : List Rn), s4 = .int .i64 a ∧ s5 = .int .i64 i ∧ Hid (R = pre ++ rest) ∧ Hid (pre.length = i) ∧ a ≤ cs.length ∧ Hid (RunsOk cs a pre.getLast? rest) ∧ Below W1.heap.size W1 wr) (fun _ s5 _ => R.length - (intOf s5).toNat)
    case atStart => exact ⟨0, 0, [], R, rfl, rfl, rfl, rfl, Nat.zero_le _, HOK, Below.refl _ _⟩
    case round =>
      obtain ⟨a, i, pre, rest, rfl, rfl, hR, hi, han, hok, hbr⟩ := hrel
      obtain ⟨wo, rfl⟩ : ∃ wo : World, wo = wr := ⟨_, rfl⟩
      have hszo := hbr.size
      cases rest with
      | nil =>
        have hRi : R.length = i := by rw [hR.out, List.append_nil]; exact hi.out
        have hac : a = cs.length := hok.out
        have hne : ¬ ((i : Int) < (R.length : Int)) := by omega
        have hq : ((a : Int) == (cs.length : Int)) = true := by rw [beq_iff_eq]; omega
        have H1 := hid hRi
        have H2 := hid hac
        clear hRi hac
        go_wp2_with (go_at_call 9; refine (awake5_any _).mono ?_; rintro e W2 ⟨rfl, hb2⟩)
        go_ret
        exact ⟨rfl, hb1.trans ((hbr.mono hb1.size).trans (hb2.mono (by have := hb1.size; omega)))⟩
      | cons x rest =>
        have hRi : i < R.length := by rw [hR.out, List.length_append, hi.out]; simp
        have hi1 : (i : Int) < (R.length : Int) := by omega
        have hxi : R[i]? = some x := by rw [hR.out, ← hi.out]; simp
        obtain ⟨ad, x', rfl, had, hx', x0, x1, x2, x3, x4⟩ := (hS1.below hbr).atN hRi
        rw [hxi] at hx'
        injection hx' with hx'
        subst hx'
        obtain ⟨t, kz, ef, et, ek, hat, htn, hkz, hcells, hprev, hok'⟩ := hok.out
        rw [ef] at x0
        rw [et] at x1
        rw [ek] at x4
        have HNXT : Hid (R = (pre ++ [x]) ++ rest) := hR.out.trans (by simp)
        have HLEN : Hid ((pre ++ [x]).length = i + 1) := by
          show _ = _
          rw [List.length_append, hi.out]; rfl
        have HOK' : Hid (RunsOk cs t (pre ++ [x]).getLast? rest) := by
          show RunsOk _ _ _ _
          rw [List.getLast?_append]; exact hok'
        have HC := hid hcells
        have HP := hid hprev
        have EK := hid ek
        have hq2 : (ad.add (i * 5)).block < wo.heap.size := by rw [block_add]; omega
        clear ef et ek hok' hcells hprev hxi
        have t1 : ((a : Int) != (a : Int)) = false := by simp
        rcases hkz with ⟨rfl, rfl⟩ | rfl
        · -- a line break
          go_wp2
          go_loopw [7] (fun s7 wr => ∃ (k q : Nat), a ≤ k ∧ k ≤ a + 1 ∧ s7 = .int .i64 k ∧ wr = (wo.alloc (.cells #[.int .i64 a, .int .i64 (a + 1), .int .i64 x.b, .string x.h, .int .i64 1] 31)).drewN q) (fun s7 _ => a + 1 - (intOf s7).toNat)
          case atStart => exact ⟨a, 0, Nat.le_refl _, by omega, rfl, rfl⟩
          case round =>
            obtain ⟨k, q, hk1, hk2, rfl, rfl⟩ := hrel
            by_cases hk : k < a + 1
            · obtain ⟨adc, y, rfl, hadc, hy, y0, y1, y2⟩ := (hSc.belowM hbr hb1.size).atC (show k < cs.length by omega)
              have hq3 : (adc.add (k * 3)).block < wo.heap.size := by rw [block_add]; have := hb1.size; omega
              obtain ⟨y', hy', e1, e2, e3⟩ := HC.out k hk1 hk
              rw [hy] at hy'
              injection hy' with hy'
              subst hy'
              have e4 := e3.2 (by trivial)
              rw [e4] at y0
              rw [e1] at y1
              rw [e2] at y2
              have t2 : (x.b != x.b) = false := by simp
              have t3 : (x.h.toList != x.h.toList) = false := by simp
              have hi2 : (k : Int) < (cs.length : Int) := by omega
              clear e1 e2 e3 e4 hy
              go_wp2
              go_quiet (fail)
              go_wp2
              go_roundw
              case rel => exact ⟨k + 1, _, by omega, by omega, by go_num, rfl⟩
              case measure => simp [intOf]; omega
            · have hk' : ¬ ((k : Int) < (a : Int) + 1) := by omega
              rcases (show i = 0 ∨ ∃ j, i = j + 1 from by cases i with | zero => exact .inl rfl | succ j => exact .inr ⟨j, rfl⟩) with rfl | ⟨j, rfl⟩
              · go_wp2
                go_quiet (fail)
                go_wp2
                go_roundw
                case rel => exact ⟨a + 1, 0 + 1, pre ++ [x], rest, by first | rfl | go_num, by first | rfl | go_num, HNXT, HLEN, htn, HOK', hbr.trans (below_drewN ((Below.refl _ _).alloc hszo _) _)⟩
                case measure => simp [intOf]; omega
              · go_wp2
                go_quiet (fail)
                go_wp2
                go_roundw
                case rel => exact ⟨a + 1, j + 1 + 1, pre ++ [x], rest, by first | rfl | go_num, by go_num, HNXT, HLEN, htn, HOK', hbr.trans (below_drewN ((Below.refl _ _).alloc hszo _) _)⟩
                case measure => simp [intOf]; omega
        · -- a run of characters
          have t4 : ¬ ((t : Int) ≤ (a : Int)) := by omega
          go_wp2
          go_loopw [7] (fun s7 wr => ∃ (k q : Nat), a ≤ k ∧ k ≤ t ∧ s7 = .int .i64 k ∧ wr = (wo.alloc (.cells #[.int .i64 a, .int .i64 t, .int .i64 x.b, .string x.h, .int .i64 0] 31)).drewN q) (fun s7 _ => t - (intOf s7).toNat)
          case atStart => exact ⟨a, 0, Nat.le_refl _, by omega, rfl, rfl⟩
          case round =>
            obtain ⟨k, q, hk1, hk2, rfl, rfl⟩ := hrel
            by_cases hk : k < t
            · obtain ⟨adc, y, rfl, hadc, hy, y0, y1, y2⟩ := (hSc.belowM hbr hb1.size).atC (show k < cs.length by omega)
              have hq3 : (adc.add (k * 3)).block < wo.heap.size := by rw [block_add]; have := hb1.size; omega
              obtain ⟨y', hy', e1, e2, e3⟩ := HC.out k hk1 hk
              rw [hy] at hy'
              injection hy' with hy'
              subst hy'
              have e4 : (y.r == 10) = false := beq_eq_false_iff_ne.2 fun e => absurd (e3.1 e) (by decide)
              rw [e1] at y1
              rw [e2] at y2
              have t2 : (x.b != x.b) = false := by simp
              have t3 : (x.h.toList != x.h.toList) = false := by simp
              have hi2 : (k : Int) < (cs.length : Int) := by omega
              clear e1 e2 e3 hy
              go_wp2
              go_quiet (fail)
              go_wp2
              go_roundw
              case rel => exact ⟨k + 1, _, by omega, by omega, by go_num, rfl⟩
              case measure => simp [intOf]; omega
            · have hk' : ¬ ((k : Int) < (t : Int)) := by omega
              rcases (show i = 0 ∨ ∃ j, i = j + 1 from by cases i with | zero => exact .inl rfl | succ j => exact .inr ⟨j, rfl⟩) with rfl | ⟨j, rfl⟩
              · go_wp2
                go_quiet (fail)
                go_wp2
                go_roundw
                case rel => exact ⟨t, 0 + 1, pre ++ [x], rest, by first | rfl | go_num, by first | rfl | go_num, HNXT, HLEN, htn, HOK', hbr.trans (below_drewN ((Below.refl _ _).alloc hszo _) _)⟩
                case measure => simp [intOf]; omega
              · obtain ⟨adp, p, ep, -, hp, p0, p1, p2, p3, p4⟩ := (hS1.below hbr).atN (show j < R.length by omega)
                injection ep with ep
                subst ep
                have hpl : pre.getLast? = some p := by
                  have h1 : pre[j]? = some p := by
                    rw [hR.out, List.getElem?_append_left (by rw [hi.out]; omega)] at hp
                    exact hp
                  rw [List.getLast?_eq_getElem?, hi.out]
                  exact h1
                have hq4 : (ad.add (j * 5)).block < wo.heap.size := by rw [block_add]; omega
                have hun := HP.out p hpl (by trivial)
                clear hp hpl
                by_cases hpk : p.k = 0
                · have u1 : (p.k == 0) = true := beq_iff_eq.2 hpk
                  have hun' := hun hpk
                  clear hpk hun
                  by_cases hb : x.b = p.b
                  · have u2 : (x.b == p.b) = true := beq_iff_eq.2 hb
                    have u3 : (x.h.toList == p.h.toList) = false := beq_eq_false_iff_ne.2 fun e => hun' ⟨hb, toList_inj e⟩
                    clear hb hun'
                    go_wp2
                    go_quiet (fail)
                    go_wp2
                    go_roundw
                    case rel => exact ⟨t, j + 1 + 1, pre ++ [x], rest, by first | rfl | go_num, by go_num, HNXT, HLEN, htn, HOK', hbr.trans (below_drewN ((Below.refl _ _).alloc hszo _) _)⟩
                    case measure => simp [intOf]; omega
                  · have u2 : (x.b == p.b) = false := beq_eq_false_iff_ne.2 hb
                    clear hb hun'
                    go_wp2
                    go_quiet (fail)
                    go_wp2
                    go_roundw
                    case rel => exact ⟨t, j + 1 + 1, pre ++ [x], rest, by first | rfl | go_num, by go_num, HNXT, HLEN, htn, HOK', hbr.trans (below_drewN ((Below.refl _ _).alloc hszo _) _)⟩
                    case measure => simp [intOf]; omega
                · have u1 : (p.k == 0) = false := beq_eq_false_iff_ne.2 hpk
                  clear hpk hun
                  go_wp2
                  go_quiet (fail)
                  go_wp2
                  go_roundw
                  case rel => exact ⟨t, j + 1 + 1, pre ++ [x], rest, by first | rfl | go_num, by go_num, HNXT, HLEN, htn, HOK', hbr.trans (below_drewN ((Below.refl _ _).alloc hszo _) _)⟩
                  case measure => simp [intOf]; omega

theorem lawWhole_in {A : Option Addr} {n c : Nat} {cs : List Cl} (w : World) (h : CellsIn w A n cs) :
    Calls Try.prog 4 #[.slice A n c] w (RetBelow (.bool true) w) :=
  lawWhole_any A cs n c _ h.len w h.at_ h.le h.size
end Go.Proofs.Ytgpccjmkghpiiaa
