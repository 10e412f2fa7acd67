/- The walks of tags.Tags and the reference's Tags. -/
import Derived.Test.YtapjlkiffgfbfaaDoorTagInts
import Derived.Test.YtapjlkiffgfbfaaDoorTagRef
namespace Go.Proofs.YtapjlkiffgfbfaaDoor
open Go.RowKit Go.Lib

/-- The tags ahead of t whose class is one of these. -/
def tagsL (xs : List Int) (t : Nat) : List Int := ((List.range t).filter fun u : Nat => xs.contains (classT (u : Int))).map fun u : Nat => (u : Int)
theorem tagsL_yes {xs : List Int} {t : Nat} (h : xs.contains (classT (t : Int)) = true) : tagsL xs (t + 1) = tagsL xs t ++ [(t : Int)] := by
  unfold tagsL; rw [List.range_succ, List.filter_append, List.map_append]; simp only [List.filter_cons, List.filter_nil, h]; rfl
theorem tagsL_no {xs : List Int} {t : Nat} (h : xs.contains (classT (t : Int)) = false) : tagsL xs (t + 1) = tagsL xs t := by
  unfold tagsL; rw [List.range_succ, List.filter_append, List.map_append]; simp only [List.filter_cons, List.filter_nil, h]; simp
theorem tagsL_len (xs : List Int) (t : Nat) : (tagsL xs t).length ≤ t := by
  unfold tagsL; rw [List.length_map]; exact Nat.le_trans (List.length_filter_le _ _) (by simp)
def RetInts (w : World) (l : List Int) (e : Ending) (w' : World) : Prop := ∃ v, e = .returned v ∧ Own encI 1 3 w' w.heap.size v l ∧ Below w.heap.size w w'

set_option maxRecDepth 100000 in
set_option maxHeartbeats 4000000 in
theorem tags_any (A : Option Addr) (xs : List Int) (n c B : Nat) (hn : n = xs.length) (w : World) (hA : SlAt encI 1 w B A xs) (hl : xs.length ≤ 1000000000) :
    Calls Tryd.prog 28 #[.slice A n c] w (RetInts w (tagsL xs 17)) := by
  subst hn
  have hS := hA.live (fun _ => by rw [encI_len]; omega)
  have HS := hid hS
  clear hS
  go_enter Tryd.func28, Tryd.ntmps28
  go_wp2_with (go_at_call 58; refine (table_any _).mono ?_; rintro e w1 ⟨rfl, hn1, hb1⟩; (have B1 := hid hb1); clear hn1 hb1)
  go_loopw [3, 7] (fun v i wr => ∃ t : Nat, t ≤ 17 ∧ i = .int .i64 t ∧ Own encI 1 3 wr w.heap.size v (tagsL xs t) ∧ Below w.heap.size w wr) (fun _ i _ => 17 - (intOf i).toNat)
  case atStart => exact ⟨0, by omega, rfl, Own.nil, B1.out⟩
  case round =>
    obtain ⟨t, ht, rfl, hown, hbw⟩ := hrel
    have HB := hid hbw
    have hsz := hbw.size
    clear hbw
    by_cases hlt : t < 17
    · have hi : ∀ W, (Instr.index 67 (.agg (tabC w.heap.size).toArray) (.int .i64 (t : Nat))).run Tryd.prog W = .ok (.agg #[rowV w.heap.size t, .int .i64 (classN t)]) W := fun W => index_tab _ W t (by omega)
      obtain ⟨A', hA', -⟩ := rowV_shape w.heap.size t
      rw [hA', ← classT_nat t (by omega)] at hi
      clear hA'
      obtain ⟨L, hL⟩ : ∃ L, (namesT t).length = L := ⟨_, rfl⟩
      obtain ⟨k, hk⟩ : ∃ k, classT (t : Int) = k := ⟨_, rfl⟩
      obtain ⟨r, hr⟩ : ∃ r, xs.contains k = r := ⟨_, rfl⟩
      rw [hL, hk] at hi
      have HK := hid hk
      have HR := hid hr
      have lenk : (tagsL xs t).length + 1 ≤ 1000000000000 := by have := tagsL_len xs t; omega
      clear hL hk
      cases r with
      | true =>
        have HT := hid (tagsL_yes (xs := xs) (t := t) (by rw [HK.out]; exact HR.out))
        clear hr
        go_wp2_with (first
          | (go_at_call 59; refine (contains_any A xs _ c _ rfl k _ ((HS.out.below HB.out).alloc HB.out.size _) hl).mono ?_; rintro e w2 ⟨rfl, rfl⟩; rw [HR.out])
          | (at_builtin; refine wpList_app1g Tryd.okI rfl (.tmp 15) (.tmp 17) 33 rfl Tryd.underlying33 w.heap.size _ (tagsL xs t) rfl (hown.alloc _) (t : Int) rfl (wr.heap.size + 1) rfl (by simp) lenk (by simp; omega) ?_; intro v' w1 hown' hb' _))
        go_roundw
        case rel => exact ⟨t + 1, by omega, by go_num, by rw [HT.out]; exact hown', (HB.out.alloc HB.out.size _).trans hb'⟩
        case measure => simp [intOf]; omega
      | false =>
        have HT := hid (tagsL_no (xs := xs) (t := t) (by rw [HK.out]; exact HR.out))
        clear hr
        go_wp2_with (go_at_call 59; refine (contains_any A xs _ c _ rfl k _ ((HS.out.below HB.out).alloc HB.out.size _) hl).mono ?_; rintro e w2 ⟨rfl, rfl⟩; rw [HR.out])
        go_roundw
        case rel => exact ⟨t + 1, by omega, by go_num, by rw [HT.out]; exact hown.alloc _, HB.out.alloc HB.out.size _⟩
        case measure => simp [intOf]; omega
    · obtain rfl : t = 17 := by omega
      go_wp2
      go_ret
      exact ⟨_, rfl, hown, HB.out⟩

theorem contains_snoc {xs : List Int} {j : Nat} {x k : Int} (h : xs[j]? = some x) : (xs.take (j + 1)).contains k = ((xs.take j).contains k || k == x) := by
  rw [take_snoc' h, List.contains_append]; congr 1; rw [List.contains_cons, List.contains_nil, Bool.or_false]
set_option maxRecDepth 100000 in
set_option maxHeartbeats 4000000 in
theorem refTags_any (A : Option Addr) (xs : List Int) (n c B : Nat) (hn : n = xs.length) (w : World) (hA : SlAt encI 1 w B A xs) (hl : xs.length ≤ 1000000000) :
    Calls Tryd.prog 30 #[.slice A n c] w (RetInts w (tagsL xs 17)) := by
  subst hn
  have hS := hA.live (fun _ => by rw [encI_len]; omega)
  have HS := hid hS
  clear hS
  go_enter Tryd.func30, Tryd.ntmps30
  go_wp2_with fail
  go_loopw [3, 4] (fun v i wr => ∃ t : Nat, t ≤ 17 ∧ i = .int .i64 t ∧ Own encI 1 3 wr w.heap.size v (tagsL xs t) ∧ Below w.heap.size w wr) (fun _ i _ => 17 - (intOf i).toNat)
  case atStart => exact ⟨0, by omega, rfl, Own.nil, Below.refl _ _⟩
  case round =>
    obtain ⟨t, ht, rfl, hown, hbw⟩ := hrel
    have HB := hid hbw
    have hsz := hbw.size
    have HO := hid hown
    clear hbw hown
    obtain ⟨wo, ho⟩ : ∃ wo : World, wo = wr := ⟨_, rfl⟩
    subst ho
    by_cases hlt : t ≤ 16
    · obtain ⟨k, hk⟩ : ∃ k, classT (t : Int) = k := ⟨_, rfl⟩
      have hC := fun W => refClass_any (t : Int) W
      rw [hk] at hC
      have HC := hid hC
      have HK := hid hk
      have lenk : (tagsL xs t).length + 1 ≤ 1000000000000 := by have := tagsL_len xs t; omega
      clear hk hC
      go_wp2_with fail
      go_loopw [5, 6] (fun bv i wx => ∃ (j : Nat) (b : Bool), j ≤ xs.length ∧ i = .int .i64 j ∧ bv = .bool b ∧ Hid (b = (xs.take j).contains k) ∧ ∃ q, wx = wo.drewN q) (fun _ i _ => xs.length - (intOf i).toNat)
      case atStart => exact ⟨0, false, by omega, rfl, rfl, rfl, 0, rfl⟩
      case round =>
        obtain ⟨j, b, hj, rfl, rfl, hb, q, rfl⟩ := hrel
        by_cases hjl : j < xs.length
        · obtain ⟨ad, x, rfl, -, hx, x0⟩ := (HS.out.below HB.out).atI hjl
          have hi1 : (j : Int) < (xs.length : Int) := by omega
          have HX := hid (contains_snoc (k := k) hx)
          clear hx
          cases b with
          | true =>
            have HT : Hid (true = (xs.take (j + 1)).contains k) := hid (by rw [HX.out, ← hb.out]; rfl)
            go_wp2_with fail
            go_quiet (fail)
            go_wp2_with fail
            go_roundw
            case rel => exact ⟨j + 1, true, by omega, by go_num, rfl, HT, _, by first | rfl | exact World.drewN_drewN _ _ _⟩
            case measure => simp [intOf]; omega
          | false =>
            have HT : Hid ((x == k) = (xs.take (j + 1)).contains k) := hid (by rw [HX.out, ← hb.out, Bool.false_or]; exact BEq.comm)
            go_wp2_with fail
            go_quiet ((go_at_call 25; exact (HC.out _).mono fun _ _ ⟨he, hw⟩ => ⟨he, _, hw.symm⟩))
            go_wp2_with fail
            go_roundw
            case rel => exact ⟨j + 1, _, by omega, by go_num, rfl, HT, _, by first | rfl | exact World.drewN_drewN _ _ _⟩
            case measure => simp [intOf]; omega
        · have hb2 : b = xs.contains k := by rw [hb.out, List.take_of_length_le (by omega)]
          cases b with
          | true =>
            have HT := hid (tagsL_yes (xs := xs) (t := t) (by rw [HK.out]; exact hb2.symm))
            clear hb2
            go_wp2_with (at_builtin; refine wpList_app1g Tryd.okI rfl (.tmp 28) (.tmp 30) 33 rfl Tryd.underlying33 w.heap.size _ (tagsL xs t) rfl (HO.out.drewN q) (t : Int) rfl wo.heap.size rfl (by simp) lenk (by simp; omega) ?_; intro v' w1 hown' hb' _)
            go_roundw
            case rel => exact ⟨t + 1, by omega, by go_num, by rw [HT.out]; exact hown', (below_drewN HB.out q).trans hb'⟩
            case measure => simp [intOf]; omega
          | false =>
            have HT := hid (tagsL_no (xs := xs) (t := t) (by rw [HK.out]; exact hb2.symm))
            clear hb2
            go_wp2_with fail
            go_roundw
            case rel => exact ⟨t + 1, by omega, by go_num, by rw [HT.out]; exact HO.out.drewN q, below_drewN HB.out q⟩
            case measure => simp [intOf]; omega
    · obtain rfl : t = 17 := by omega
      go_wp2_with fail
      go_ret
      exact ⟨_, rfl, HO.out, HB.out⟩
end Go.Proofs.YtapjlkiffgfbfaaDoor
