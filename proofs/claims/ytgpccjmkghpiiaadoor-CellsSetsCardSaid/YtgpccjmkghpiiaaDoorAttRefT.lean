/- The walk of the reference's Target. -/
import Derived.Test.YtgpccjmkghpiiaaDoorAttTarget
namespace Go.Proofs.YtgpccjmkghpiiaaDoor
open Go.RowKit Go.Lib Go.Shelf

theorem head_take : ∀ (l : List UInt8) (k : Nat), (∀ j x, j < k → l[j]? = some x → x ≠ 58) → (l.length ≤ k ∨ l[k]? = some 58) → headL l = l.take k
  | [], k, _, _ => by simp [headL]
  | b :: l, 0, _, h => by
    rcases h with h | h
    · simp at h
    · simp at h; subst h; simp [headL]
  | b :: l, k + 1, h, he => by
    have hb : b ≠ 58 := h 0 b (by omega) rfl
    have ih := head_take l k (fun j x hj hx => h (j + 1) x (by omega) (by simpa using hx)) (by simpa using he)
    unfold headL at ih ⊢
    rw [List.takeWhile_cons, if_pos (by simpa using hb), ih, List.take_succ_cons]
theorem getElem_list {s : ByteArray} {j : Nat} (hj : j < s.size) : s.data.toList[j]? = some s[j] := by
  rw [List.getElem?_eq_getElem (by rw [← Lib.size_eq]; exact hj)]; rfl
/-- How long is the head? -/
theorem head_stop {s : ByteArray} {k : Nat} (h : ∀ j (hj : j < s.size), j < k → s[j] ≠ 58) (he : s.size ≤ k ∨ ∃ hk : k < s.size, s[k] = 58) : headL s.data.toList = s.data.toList.take k := by
  refine head_take _ _ (fun j x hj hx => ?_) ?_
  · have hl : j < s.size := by rw [Lib.size_eq]; exact (List.getElem?_eq_some_iff.1 hx).1
    rw [getElem_list hl] at hx
    injection hx with hx
    rw [← hx]
    exact h j hl hj
  · rcases he with he | ⟨hk, he⟩
    · exact .inl (by rw [← Lib.size_eq]; exact he)
    · exact .inr (by rw [getElem_list hk, he])
theorem js_len {s : ByteArray} {k : Nat} (hh : headL s.data.toList = s.data.toList.take k) (hk : k ≤ s.size) (h : k ≠ 10) : jsB s.data.toList = false := by
  refine decide_eq_false fun e => h ?_
  have := congrArg List.length e
  rw [hh, List.length_map, List.length_take, ← Lib.size_eq] at this
  have h10 : jsL.length = 10 := rfl
  omega
theorem js_at {s : ByteArray} {j : Nat} (hh : headL s.data.toList = s.data.toList.take 10) (hs : 10 ≤ s.size) (hj : j < 10) (h : jsL[j]? ≠ some (lowB (s[j]'(by omega)))) : jsB s.data.toList = false := by
  refine decide_eq_false fun e => h ?_
  rw [← e, hh, List.getElem?_map, List.getElem?_take, if_pos hj, getElem_list (by omega)]
  rfl
theorem js_all {s : ByteArray} (hh : headL s.data.toList = s.data.toList.take 10) (hs : 10 ≤ s.size) (h : ∀ j (hj : j < s.size), j < 10 → jsL[j]? = some (lowB s[j])) : jsB s.data.toList = true := by
  refine decide_eq_true (List.ext_getElem? fun j => ?_)
  rw [hh, List.getElem?_map, List.getElem?_take]
  split
  · next hj => rw [getElem_list (by omega), h j (by omega) hj]; rfl
  · next hj => rw [List.getElem?_eq_none (by show 10 ≤ j; omega)]; rfl
theorem run_word0 (W : World) : ∀ j, j < 10 → (Instr.index 9 (.string ⟨#[106, 97, 118, 97, 115, 99, 114, 105, 112, 116]⟩) (.int .i64 (j : Nat))).run Tryd.prog W = .ok (.int .u8 ((jsL.getD j 0).toNat : Int)) W
  | 0, _ => by kernel_rfl | 1, _ => by kernel_rfl | 2, _ => by kernel_rfl | 3, _ => by kernel_rfl | 4, _ => by kernel_rfl
  | 5, _ => by kernel_rfl | 6, _ => by kernel_rfl | 7, _ => by kernel_rfl | 8, _ => by kernel_rfl | 9, _ => by kernel_rfl
  | j + 10, h => absurd h (by omega)
theorem run_word (W : World) (j : Nat) (y : UInt8) (hy : jsL[j]? = some y) : (Instr.index 9 (.string ⟨#[106, 97, 118, 97, 115, 99, 114, 105, 112, 116]⟩) (.int .i64 (j : Nat))).run Tryd.prog W = .ok (.int .u8 (y.toNat : Int)) W := by
  have hj : j < 10 := (List.getElem?_eq_some_iff.1 hy).1
  rw [run_word0 W j hj, List.getD, hy]
  rfl
set_option maxRecDepth 100000 in
set_option maxHeartbeats 8000000 in
theorem refTarget_any (s : ByteArray) (w : World) (hs : s.size ≤ 1000000000) : Calls Tryd.prog 50 #[.string s] w (IsBool (targetB s) w) := by
  obtain ⟨r, hr⟩ : ∃ r, targetB s = r := ⟨_, rfl⟩
  obtain ⟨v, hv⟩ : ∃ v, valueB s = v := ⟨_, rfl⟩
  obtain ⟨jb, hj⟩ : ∃ jb, jsB s.data.toList = jb := ⟨_, rfl⟩
  have HV := hid hv
  have HJ := hid hj
  rw [hr]
  cases v with
  | false =>
    have E := hid (show r = false by rw [← hr]; unfold targetB; rw [hv]; rfl)
    clear hr hv hj
    go_enter Tryd.func50, Tryd.ntmps50
    go_wp2_with (go_at_call 62; refine (refValue_any s _ hs).mono ?_; rintro e w3 ⟨rfl, hb3⟩; rw [HV.out]; (have B3 := hid hb3); clear hb3)
    go_ret
    exact ⟨ret_bo E.out.symm, B3.out⟩
  | true =>
    by_cases h0 : s.size = 0
    · have E := hid (show r = false by rw [← hr]; exact targetB_nil h0)
      have hem : (s.toList == [] : Bool) = true := by
        rw [ByteArray.toList_eq, beq_iff_eq]
        exact List.eq_nil_of_length_eq_zero (by rw [← Lib.size_eq]; exact h0)
      clear hr hv hj h0
      go_enter Tryd.func50, Tryd.ntmps50
      go_wp2_with (go_at_call 62; refine (refValue_any s _ hs).mono ?_; rintro e w3 ⟨rfl, hb3⟩; rw [HV.out]; (have B3 := hid hb3); clear hb3)
      go_ret
      exact ⟨ret_bo E.out.symm, B3.out⟩
    · have hpos : 0 < s.size := by omega
      have hrr := targetB_pos hpos
      rw [hr, hv, hj, Bool.true_and] at hrr
      have hem : (s.toList == [] : Bool) = false := by
        rw [ByteArray.toList_eq, beq_eq_false_iff_ne]
        intro e
        have h := congrArg List.length e
        rw [← Lib.size_eq, List.length_nil] at h
        omega
      have i0 : (0 : Int) < (s.size : Int) := by omega
      have i1 : ((s.size : Int) - 1).toNat = s.size - 1 := by omega
      obtain ⟨x, hx⟩ : ∃ x, s[0] = x := ⟨_, rfl⟩
      obtain ⟨y, hy⟩ : ∃ y, s[s.size - 1] = y := ⟨_, rfl⟩
      rw [hx, hy] at hrr
      have bridge : ∀ z : UInt8, ((z.toNat : Int) == 32) = !(z != 32) := fun z => by
        rw [Bool.eq_iff_iff, beq_iff_eq, Bool.not_eq_true', bne_eq_false_iff_eq]
        constructor
        · intro h; exact UInt8.toNat_inj.1 (by show z.toNat = 32; omega)
        · intro h; subst h; rfl
      have gx : ∀ W, (Instr.index 9 (.string s) (.int .i64 0)).run Tryd.prog W = .ok (.int .u8 (x.toNat : Int)) W := fun W => by
        rw [run_index_string W 9 s .i64 0 Tryd.underlying9, dif_pos ⟨by omega, i0⟩, ← hx]; rfl
      have gy : ∀ W, (Instr.index 9 (.string s) (.int .i64 ((s.size : Int) - 1))).run Tryd.prog W = .ok (.int .u8 (y.toNat : Int)) W := fun W => by
        rw [run_index_string W 9 s .i64 _ Tryd.underlying9, dif_pos ⟨by omega, by omega⟩, ← hy]; simp only [i1]
      have bx := bridge x
      have bxy := bridge y
      clear bridge hr hv hj h0 hx hy i1
      cases hcx : (x != 32) with
      | false =>
        rw [hcx] at bx hrr
        have E := hid (show r = false from hrr)
        clear hrr bxy gy hcx
        go_enter Tryd.func50, Tryd.ntmps50
        go_wp2_with (go_at_call 62; refine (refValue_any s _ hs).mono ?_; rintro e w3 ⟨rfl, hb3⟩; rw [HV.out]; (have B3 := hid hb3); clear hb3)
        go_ret
        exact ⟨ret_bo E.out.symm, B3.out⟩
      | true =>
        rw [hcx] at bx hrr
        rw [Bool.true_and] at hrr
        cases hcy : (y != 32) with
        | false =>
          rw [hcy] at bxy hrr
          have E := hid (show r = false from hrr)
          clear hrr hcx hcy
          go_enter Tryd.func50, Tryd.ntmps50
          go_wp2_with (go_at_call 62; refine (refValue_any s _ hs).mono ?_; rintro e w3 ⟨rfl, hb3⟩; rw [HV.out]; (have B3 := hid hb3); clear hb3)
          go_ret
          exact ⟨ret_bo E.out.symm, B3.out⟩
        | true =>
          rw [hcy] at bxy hrr
          rw [Bool.true_and] at hrr
          have E := hid hrr
          clear hrr hcx hcy
          go_enter Tryd.func50, Tryd.ntmps50
          go_wp2_with (go_at_call 62; refine (refValue_any s _ hs).mono ?_; rintro e w3 ⟨rfl, hb3⟩; rw [HV.out]; (have B3 := hid hb3); clear hb3)
          clear bx bxy gx gy hem
          go_loop [4] (fun i => ∃ k : Nat, k ≤ s.size ∧ i = .int .i64 k ∧ ∀ j (hj : j < s.size), j < k → s[j] ≠ 58) (fun i => s.size - (intOf i).toNat)
          case atStart => exact ⟨0, Nat.zero_le _, rfl, fun j _ h => absurd h (by omega)⟩
          case round =>
            obtain ⟨k, hk, rfl, hall⟩ := hrel
            have HA := hid hall
            clear hall
            by_cases hgo : ∃ hlt : k < s.size, s[k] ≠ 58
            · obtain ⟨hlt, hne⟩ := hgo
              have bt : ((s[k].toNat : Int) != 58) = true := by
                rw [bne_iff_ne]; intro h; exact hne (UInt8.toNat_inj.1 (by show _ = 58; omega))
              have E1 := hid (show ∀ j (hj : j < s.size), j < k + 1 → s[j] ≠ 58 from fun j hj h => by
                rcases Nat.lt_or_ge j k with h3 | h3
                · exact HA.out j hj h3
                · obtain rfl : j = k := by omega
                  exact hne)
              clear hne
              go_wp2
              go_round
              case rel => exact ⟨k + 1, by omega, by go_num, E1.out⟩
              case measure => simp [intOf]; omega
            · have hstop : s.size ≤ k ∨ ∃ hk : k < s.size, s[k] = 58 := by
                rcases Nat.lt_or_ge k s.size with h | h
                · exact .inr ⟨h, Classical.byContradiction fun h2 => hgo ⟨h, h2⟩⟩
                · exact .inl h
              have HH := hid (head_stop HA.out hstop)
              have tests : (¬ (k : Int) < (s.size : Int)) ∨ (∃ hlt : k < s.size, ((s[k].toNat : Int) != 58) = false) := by
                rcases hstop with h | ⟨h, e⟩
                · exact .inl (by omega)
                · exact .inr ⟨h, by rw [bne_eq_false_iff_eq, e]; rfl⟩
              clear hgo hstop
              by_cases h10 : k = 10
              · subst h10
                rcases tests with t1 | ⟨hlt, t1⟩
                all_goals
                  go_wp2
                  go_loop [5] (fun i => ∃ j : Nat, j ≤ 10 ∧ i = .int .i64 j ∧ ∀ q (hq : q < s.size), q < j → jsL[q]? = some (lowB s[q])) (fun i => 10 - (intOf i).toNat)
                  case atStart => exact ⟨0, Nat.zero_le _, rfl, fun q _ h => absurd h (by omega)⟩
                  case round =>
                    obtain ⟨j, hj, rfl, hall2⟩ := hrel
                    have HA2 := hid hall2
                    clear hall2
                    by_cases hlt : j < 10
                    · obtain ⟨y, hy⟩ : ∃ y, jsL[j]? = some y := ⟨_, List.getElem?_eq_getElem hlt⟩
                      have gw := fun W => run_word W j y hy
                      have hjs : j < s.size := by omega
                      have x0 := s[j].toNat_lt
                      have y0 := y.toNat_lt
                      have lx := lowB_nat s[j]
                      unfold lowI at lx
                      have hno := hid (show y ≠ lowB s[j] → r = true from fun h => by rw [E.out, ← HJ.out, js_at HH.out hk hlt (by rw [hy]; exact fun e => h (by injection e))]; rfl)
                      have hyes := hid (show y = lowB s[j] → ∀ q (hq : q < s.size), q < j + 1 → jsL[q]? = some (lowB s[q]) from fun h q hq hqj => by
                        rcases Nat.lt_or_ge q j with h3 | h3
                        · exact HA2.out q hq h3
                        · obtain rfl : q = j := by omega
                          rw [hy, h])
                      clear hy
                      by_cases hu : 65 ≤ (s[j].toNat : Int) ∧ (s[j].toNat : Int) ≤ 90
                      · rw [if_pos hu] at lx
                        obtain ⟨a1, a2⟩ := hu
                        have hw : IntKind.u8.wrap ((s[j].toNat : Int) + 32) = (s[j].toNat : Int) + 32 := IntWalk.u8_in _ (by omega)
                        by_cases he : (s[j].toNat : Int) + 32 = (y.toNat : Int)
                        · have E1 := hid (hyes.out (UInt8.toNat_inj.1 (by omega)))
                          have ht : ((s[j].toNat : Int) + 32 != (y.toNat : Int)) = false := by rw [bne_eq_false_iff_eq]; exact he
                          clear he lx
                          go_wp2
                          go_round
                          case rel => exact ⟨j + 1, by omega, by go_num, E1.out⟩
                          case measure => simp [intOf]; omega
                        · have E1 := hid (hno.out fun e => he (by rw [e]; omega))
                          have ht : ((s[j].toNat : Int) + 32 != (y.toNat : Int)) = true := by rw [bne_iff_ne]; exact he
                          clear he lx
                          go_wp2
                          go_ret
                          exact ⟨ret_bo E1.out.symm, B3.out⟩
                      · rw [if_neg hu] at lx
                        by_cases he : (s[j].toNat : Int) = (y.toNat : Int)
                        · have E1 := hid (hyes.out (UInt8.toNat_inj.1 (by omega)))
                          have ht : ((s[j].toNat : Int) != (y.toNat : Int)) = false := by rw [bne_eq_false_iff_eq]; exact he
                          clear he lx
                          by_cases a1 : 65 ≤ (s[j].toNat : Int)
                          · have a2 : ¬ (s[j].toNat : Int) ≤ 90 := fun h => hu ⟨a1, h⟩
                            clear hu
                            go_wp2
                            go_round
                            case rel => exact ⟨j + 1, by omega, by go_num, E1.out⟩
                            case measure => simp [intOf]; omega
                          · clear hu
                            go_wp2
                            go_round
                            case rel => exact ⟨j + 1, by omega, by go_num, E1.out⟩
                            case measure => simp [intOf]; omega
                        · have E1 := hid (hno.out fun e => he (by rw [e]; omega))
                          have ht : ((s[j].toNat : Int) != (y.toNat : Int)) = true := by rw [bne_iff_ne]; exact he
                          clear he lx
                          by_cases a1 : 65 ≤ (s[j].toNat : Int)
                          · have a2 : ¬ (s[j].toNat : Int) ≤ 90 := fun h => hu ⟨a1, h⟩
                            clear hu
                            go_wp2
                            go_ret
                            exact ⟨ret_bo E1.out.symm, B3.out⟩
                          · clear hu
                            go_wp2
                            go_ret
                            exact ⟨ret_bo E1.out.symm, B3.out⟩
                    · obtain rfl : j = 10 := by omega
                      have E1 := hid (show r = false by rw [E.out, ← HJ.out, js_all HH.out hk HA2.out]; rfl)
                      go_wp2
                      go_ret
                      exact ⟨ret_bo E1.out.symm, B3.out⟩
              · have b10 : ((k : Int) != 10) = true := by rw [bne_iff_ne]; omega
                have E1 := hid (show r = true by rw [E.out, ← HJ.out, js_len HH.out hk h10]; rfl)
                clear h10
                rcases tests with t1 | ⟨hlt, t1⟩
                all_goals
                  go_wp2
                  go_ret
                  exact ⟨ret_bo E1.out.symm, B3.out⟩
end Go.Proofs.YtgpccjmkghpiiaaDoor
