/- The walks of slices.Equal on cells, cells.Same, the reference's Insert and Cut, the law's spoil. -/
import Derived.Test.YtgpccjmkghpiiaaCuts1
import Derived.Laws.OwnMore
namespace Go.Proofs.Ytgpccjmkghpiiaa
open Go.RowKit

set_option maxHeartbeats 2000000 in
theorem equal_any (A B : Option Addr) (xs ys : List Cl) (n m c d C D : Nat) (hn : n = xs.length) (hm : m = ys.length) (w : World) (hA : SlAt encC 3 w C A xs) (hB : SlAt encC 3 w D B ys) (hx : xs.length ≤ 1000000000) :
    Calls Try.prog 41 #[.slice A n c, .slice B m d] w (RetQuiet (.bool (decide (xs = ys))) w) := by
  subst hn hm
  by_cases hl : xs.length = ys.length
  · have hb0 : ((xs.length : Int) != (ys.length : Int)) = false := by rw [bne_eq_false_iff_eq]; omega
    go_enter Try.func41, Try.ntmps41
    go_wp2
    go_loopw [13] (fun i wr => ∃ k : Nat, k ≤ xs.length ∧ i = .int .i64 k ∧ Hid (xs.take k = ys.take k) ∧ ∃ q, wr = w.drewN q) (fun i _ => xs.length - (intOf i).toNat)
    case atStart => exact ⟨0, Nat.zero_le _, rfl, rfl, 0, rfl⟩
    case round =>
      obtain ⟨k, hk, rfl, ht, q, rfl⟩ := hrel
      by_cases hlt : k < xs.length
      · obtain ⟨ad, x, rfl, -, hx, x0, x1, x2⟩ := hA.atC hlt
        obtain ⟨bd, y, rfl, -, hy, y0, y1, y2⟩ := hB.atC (show k < ys.length by omega)
        have hi1 : (k : Int) < (xs.length : Int) := by omega
        have hi2 : (k : Int) < (ys.length : Int) := by omega
        have HX := hid hx
        have HY := hid hy
        clear hx hy
        by_cases hxy : x = y
        · subst hxy
          have HT : Hid (xs.take (k + 1) = ys.take (k + 1)) := by
            show _ = _
            rw [take_snoc' HX.out, take_snoc' HY.out, ht.out]
          go_wp2
          go_quiet (fail)
          go_wp2
          go_roundw
          case rel => exact ⟨k + 1, by omega, by go_num, HT, _, rfl⟩
          case measure => simp [intOf]; omega
        · have hne : decide (xs = ys) = false := decide_eq_false fun e => hxy (by
            have h1 := HX.out
            rw [e, HY.out] at h1
            injection h1 with h1
            exact h1.symm)
          have HN := hid hne
          clear hne
          rcases (show (¬ x.r = y.r) ∨ (x.r = y.r ∧ ¬ x.b = y.b) ∨ (x.r = y.r ∧ x.b = y.b ∧ ¬ x.h.toList = y.h.toList) from by
            by_cases h1 : x.r = y.r
            · by_cases h2 : x.b = y.b
              · exact .inr (.inr ⟨h1, h2, fun h3 => hxy (Cl.ext' h1 h2 (toList_inj h3))⟩)
              · exact .inr (.inl ⟨h1, h2⟩)
            · exact .inl h1) with h1 | ⟨h1, h2⟩ | ⟨h1, h2, h3⟩
          · have b1 : (x.r == y.r) = false := beq_eq_false_iff_ne.2 h1
            clear h1
            go_wp2
            go_quiet (fail)
            go_wp2
            go_ret
            exact ⟨ret_bool HN.out.symm, _, by first | rfl | exact World.drewN_drewN _ _ _⟩
          · have b1 : (x.r == y.r) = true := beq_iff_eq.2 h1
            have b2 : (x.b == y.b) = false := beq_eq_false_iff_ne.2 h2
            clear h1 h2
            go_wp2
            go_quiet (fail)
            go_wp2
            go_ret
            exact ⟨ret_bool HN.out.symm, _, by first | rfl | exact World.drewN_drewN _ _ _⟩
          · have b1 : (x.r == y.r) = true := beq_iff_eq.2 h1
            have b2 : (x.b == y.b) = true := beq_iff_eq.2 h2
            have b3 : (x.h.toList == y.h.toList) = false := beq_eq_false_iff_ne.2 h3
            clear h1 h2 h3
            go_wp2
            go_quiet (fail)
            go_wp2
            go_ret
            exact ⟨ret_bool HN.out.symm, _, by first | rfl | exact World.drewN_drewN _ _ _⟩
      · have he : decide (xs = ys) = true := decide_eq_true (by
          have h1 := ht.out
          rwa [List.take_of_length_le (by omega), List.take_of_length_le (by omega)] at h1)
        have HN := hid he
        clear he
        have hi1 : ¬ ((k : Int) < (xs.length : Int)) := by omega
        go_wp2
        go_ret
        exact ⟨ret_bool HN.out.symm, q, rfl⟩
  · have hb0 : ((xs.length : Int) != (ys.length : Int)) = true := by rw [bne_iff_ne]; omega
    have hne : decide (xs = ys) = false := decide_eq_false fun e => hl (by rw [e])
    have HN := hid hne
    clear hne
    go_enter Try.func41, Try.ntmps41
    go_wp2
    go_ret
    exact ⟨ret_bool HN.out.symm, 0, rfl⟩

set_option maxHeartbeats 400000 in
theorem same_any (A B : Option Addr) (xs ys : List Cl) (n m c d C D : Nat) (hn : n = xs.length) (hm : m = ys.length) (w : World) (hA : SlAt encC 3 w C A xs) (hB : SlAt encC 3 w D B ys) (hx : xs.length ≤ 1000000000) :
    Calls Try.prog 28 #[.slice A n c, .slice B m d] w (RetQuiet (.bool (decide (xs = ys))) w) := by
  have HE := hid (equal_any A B xs ys n m c d C D hn hm w hA hB hx)
  obtain ⟨b, hb⟩ : ∃ b, b = decide (xs = ys) := ⟨_, rfl⟩
  rw [← hb] at HE ⊢
  clear hb hA hB hn hm hx
  go_enter Try.func28, Try.ntmps28
  go_wp2_with (go_at_call 41; refine HE.out.mono ?_; rintro e w' ⟨rfl, q, rfl⟩)
  go_ret
  exact ⟨rfl, q, rfl⟩

set_option maxHeartbeats 2000000 in
theorem refInsert_yes (A M : Option Addr) (cs ms : List Cl) (n c B m cm D : Nat) (hn : n = cs.length) (hm : m = ms.length) (f : Int) (w : World) (hA : SlAt encC 3 w B A cs) (hM : SlAt encC 3 w D M ms) (hl : cs.length ≤ 300000000) (hl2 : ms.length ≤ 300000000) (hc : cs.length ≤ c) (h : spanOk cs.length f f) :
    Calls Try.prog 18 #[.slice A n c, .int .i64 f, .slice M m cm] w
      (fun e w' => ∃ v, e = .returned (.tuple #[v, .int .i64 0]) ∧ Own encC 3 33 w' w.heap.size v (cs.take f.toNat ++ (ms ++ cs.drop f.toNat)) ∧ Below w.heap.size w w') := by
  subst hn hm
  obtain ⟨hf0, hft, htn⟩ := h
  obtain ⟨F, rfl⟩ := Int.eq_ofNat_of_zero_le hf0
  have hFT : F ≤ cs.length := by omega
  simp only [Int.toNat_natCast]
  have hFc : F ≤ c := by omega
  have hS := hA.live (fun _ => by rw [encC_len]; omega)
  have hMS := hM.live (fun _ => by rw [encC_len]; omega)
  have hX := hS.cut (k := F) hc
  have hlenF : (cs.take F).length = F := by simp; omega
  have hlenD : (cs.drop F).length = cs.length - F := by simp
  have HL := hid hlenF
  have HD := hid hlenD
  clear hA hM hlenF hlenD
  by_cases hcT : c = F
  · rw [if_pos hcT] at hX
    subst hcT
    have h0 : cs.length - c = 0 := by omega
    go_enter Try.func18, Try.ntmps18
    go_wp2_with (first
      | (go_at_call 37; refine (refSpan_yes _ _ _ _ _ _ ⟨by omega, by omega, by omega⟩).mono ?_; rintro e w' ⟨rfl, rfl⟩)
      | (go_at_call 16; refine (refOwn_any _ (cs.take c) _ _ _ HL.out.symm _ (hS.take c) (by have := HL.out; omega)).mono ?_; rintro e W1 ⟨v1, rfl, ho1, hb1⟩)
      | (at_builtin; refine wpList_appS Try.okC rfl (.tmp 17) (.tmp 18) 24 rfl Try.underlying24 w.heap.size _ (cs.take c) rfl ho1 _ M ms cm rfl (hMS.below hb1) (by have := HL.out; omega) hb1.size ?_; intro v2 w2 ho2 hg2 _ _; have hb2 := hb1.grown hg2 hb1.size fun g hg => (ho1.lt g hg).1)
      | (at_builtin; refine wpList_appS Try.okC rfl (.tmp 20) (.tmp 23) 24 rfl Try.underlying24 w.heap.size _ (cs.take c ++ ms) rfl ho2 _ _ (cs.drop c) _ (by first | rfl | (rw [HD.out]; first | rfl | (rw [h0]; rfl))) (hX.below hb2) (by have := HL.out; have := HD.out; rw [List.length_append]; omega) hb2.size ?_; intro v3 w3 ho3 hg3 _ _))
    go_ret2
    rw [List.append_assoc] at ho3
    exact ⟨_, rfl, ho3, hb2.grown hg3 hb2.size fun g hg => (ho2.lt g hg).1⟩
  · rw [if_neg hcT] at hX
    go_enter Try.func18, Try.ntmps18
    go_wp2_with (first
      | (go_at_call 37; refine (refSpan_yes _ _ _ _ _ _ ⟨by omega, by omega, by omega⟩).mono ?_; rintro e w' ⟨rfl, rfl⟩)
      | (go_at_call 16; refine (refOwn_any _ (cs.take F) _ _ _ HL.out.symm _ (hS.take F) (by have := HL.out; omega)).mono ?_; rintro e W1 ⟨v1, rfl, ho1, hb1⟩)
      | (at_builtin; refine wpList_appS Try.okC rfl (.tmp 17) (.tmp 18) 24 rfl Try.underlying24 w.heap.size _ (cs.take F) rfl ho1 _ M ms cm rfl (hMS.below hb1) (by have := HL.out; omega) hb1.size ?_; intro v2 w2 ho2 hg2 _ _; have hb2 := hb1.grown hg2 hb1.size fun g hg => (ho1.lt g hg).1)
      | (at_builtin; refine wpList_appS Try.okC rfl (.tmp 20) (.tmp 23) 24 rfl Try.underlying24 w.heap.size _ (cs.take F ++ ms) rfl ho2 _ _ (cs.drop F) _ (by first | rfl | (rw [HD.out]; first | rfl | (rw [h0]; rfl))) (hX.below hb2) (by have := HL.out; have := HD.out; rw [List.length_append]; omega) hb2.size ?_; intro v3 w3 ho3 hg3 _ _))
    go_ret2
    rw [List.append_assoc] at ho3
    exact ⟨_, rfl, ho3, hb2.grown hg3 hb2.size fun g hg => (ho2.lt g hg).1⟩

end Go.Proofs.Ytgpccjmkghpiiaa
