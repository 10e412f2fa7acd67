/- The walks of the package cells and of its reference: the cells of a text, whether two rows are the same. -/
import Derived.Test.YtgpccjmkghpiiaaDoorChars4
import Derived.Test.YtgpccjmkghpiiaaDoorCell
import Derived.BigQuiet
import Derived.Deep.QuietTactic
namespace Go.Proofs.YtgpccjmkghpiiaaDoor
open Go.RowKit

theorem Tryd.okC : ElemOk Tryd.prog encC 3 37 := ElemOk.mk' (z := .agg #[.int .i32 0, .int .i64 0, .string .empty]) (bytes := 32) encC_len encC_one (by omega) (by kernel_rfl) rfl (by omega)

set_option maxHeartbeats 400000 in
theorem of_any (s : ByteArray) (b : Int) (h : ByteArray) (w : World) (hs : s.size ≤ 1000000000) :
    Calls Tryd.prog 24 #[.string s, .int .i64 b, .string h] w (RetOwn encC 3 37 w ((clean s).map (mkc b h))) := by
  have hcl : (clean s).length ≤ 1000000000 := Nat.le_trans (List.length_filterMap_le _ _) (Nat.le_trans (length_runes s) hs)
  go_enter Tryd.func24, Tryd.ntmps24
  go_wp2_with (go_at_call 44; refine (clean_any s _ hs).mono ?_; rintro e W1 ⟨v, rfl, ho, hb1⟩; obtain ⟨A, cp, rfl, -, -, -, hS⟩ := ho.form encR_len)
  go_loopw [7, 13] (fun l i wr => ∃ k : Nat, k ≤ (clean s).length ∧ i = .int .i64 k ∧ Own encC 3 37 wr W1.heap.size l (((clean s).take k).map (mkc b h)) ∧ Below W1.heap.size W1 wr) (fun _ i _ => (clean s).length - (intOf i).toNat)
  case atStart => exact ⟨0, Nat.zero_le _, rfl, Own.nil, Below.refl _ _⟩
  case round =>
    obtain ⟨k, hk, rfl, hown, hbr⟩ := hrel
    have hsz := hbr.size
    by_cases hlt : k < (clean s).length
    · obtain ⟨ad, c, rfl, -, hx, hc⟩ := (hS.below hbr).atR hlt
      have hi1 : (k : Int) < ((clean s).length : Int) := by omega
      have htk : (((clean s).take k).map (mkc b h)).length ≤ k := by rw [List.length_map]; exact List.length_take_le _ _
      have HT : Hid (((clean s).take (k + 1)).map (mkc b h) = ((clean s).take k).map (mkc b h) ++ [mkc b h c]) := by
        show _ = _
        rw [take_snoc' hx, List.map_append]; rfl
      clear hx
      go_wp2_with (at_builtin; refine wpList_app1 Tryd.okC rfl (.tmp 17) (.tmp 22) 22 rfl Tryd.underlying22 W1.heap.size _ (((clean s).take k).map (mkc b h)) rfl hown (mkc b h c) rfl rfl (by omega) (by omega) ?_; intro v' w1 hown' hb' _)
      go_wp2
      go_roundw
      case rel => exact ⟨k + 1, by omega, by go_num, by rw [HT.out]; exact hown', hbr.trans hb'⟩
      case measure => simp [intOf]; omega
    · go_wp2
      go_ret
      refine ⟨_, rfl, ?_, hb1.trans (hbr.mono hb1.size)⟩
      rw [List.take_of_length_le (by omega)] at hown
      exact hown.based hb1.size

/-- What a call hands back that only reads, and may draw. -/
def RetQuiet (v : Value) (w : World) (e : Ending) (w' : World) : Prop := e = .returned v ∧ ∃ q, w' = w.drewN q

set_option maxHeartbeats 1000000 in
/-- quillworkref05.Same: are the two rows one? -/
theorem refSame_any (A B : Option Addr) (xs ys : List Cl) (n m c d C D : Nat) (hn : n = xs.length) (hm : m = ys.length) (w : World) (hA : SlAt encC 3 w C A xs) (hB : SlAt encC 3 w D B ys) (hx : xs.length ≤ 1000000000) :
    Calls Tryd.prog 13 #[.slice A n c, .slice B m d] w (RetQuiet (.bool (decide (xs = ys))) w) := by
  subst hn hm
  by_cases hl : xs.length = ys.length
  · have hb0 : ((xs.length : Int) != (ys.length : Int)) = false := by rw [bne_eq_false_iff_eq]; omega
    go_enter Tryd.func13, Tryd.ntmps13
    go_wp2
    go_loopw [5] (fun i wr => ∃ k : Nat, k ≤ xs.length ∧ i = .int .i64 k ∧ Hid (xs.take k = ys.take k) ∧ ∃ q, wr = w.drewN q) (fun i _ => xs.length - (intOf i).toNat)
    case atStart => exact ⟨0, Nat.zero_le _, rfl, rfl, 0, rfl⟩
    case round =>
      obtain ⟨k, hk, rfl, ht, q, rfl⟩ := hrel
      by_cases hlt : k < xs.length
      · obtain ⟨ad, x, rfl, -, hx, x0, x1, x2⟩ := hA.atC hlt
        obtain ⟨bd, y, rfl, -, hy, y0, y1, y2⟩ := hB.atC (show k < ys.length by omega)
        have hi1 : (k : Int) < (xs.length : Int) := by omega
        have hi2 : (k : Int) < (ys.length : Int) := by omega
        have HX := hid hx
        have HY := hid hy
        clear hx hy
        by_cases hxy : x = y
        · subst hxy
          have HT : Hid (xs.take (k + 1) = ys.take (k + 1)) := by
            show _ = _
            rw [take_snoc' HX.out, take_snoc' HY.out, ht.out]
          go_wp2
          go_quiet (fail)
          go_wp2
          go_roundw
          case rel => exact ⟨k + 1, by omega, by go_num, HT, _, rfl⟩
          case measure => simp [intOf]; omega
        · have hne : decide (xs = ys) = false := decide_eq_false fun e => hxy (by
            have h1 := HX.out
            rw [e, HY.out] at h1
            injection h1 with h1
            exact h1.symm)
          have HN := hid hne
          clear hne
          rcases (show (¬ x.r = y.r) ∨ (x.r = y.r ∧ ¬ x.b = y.b) ∨ (x.r = y.r ∧ x.b = y.b ∧ ¬ x.h.toList = y.h.toList) from by
            by_cases h1 : x.r = y.r
            · by_cases h2 : x.b = y.b
              · exact .inr (.inr ⟨h1, h2, fun h3 => hxy (Cl.ext' h1 h2 (toList_inj h3))⟩)
              · exact .inr (.inl ⟨h1, h2⟩)
            · exact .inl h1) with h1 | ⟨h1, h2⟩ | ⟨h1, h2, h3⟩
          · have b1 : (x.r != y.r) = true := bne_iff_ne.2 h1
            clear h1
            go_wp2
            go_quiet (fail)
            go_wp2
            go_ret
            exact ⟨ret_bool HN.out.symm, _, by first | rfl | exact World.drewN_drewN _ _ _⟩
          · have b1 : (x.r != y.r) = false := bne_eq_false_iff_eq.2 h1
            have b2 : (x.b != y.b) = true := bne_iff_ne.2 h2
            clear h1 h2
            go_wp2
            go_quiet (fail)
            go_wp2
            go_ret
            exact ⟨ret_bool HN.out.symm, _, by first | rfl | exact World.drewN_drewN _ _ _⟩
          · have b1 : (x.r != y.r) = false := bne_eq_false_iff_eq.2 h1
            have b2 : (x.b != y.b) = false := bne_eq_false_iff_eq.2 h2
            have b3 : (x.h.toList == y.h.toList) = false := beq_eq_false_iff_ne.2 h3
            clear h1 h2 h3
            go_wp2
            go_quiet (fail)
            go_wp2
            go_ret
            exact ⟨ret_bool HN.out.symm, _, by first | rfl | exact World.drewN_drewN _ _ _⟩
      · have he : decide (xs = ys) = true := decide_eq_true (by
          have := ht.out
          rwa [List.take_of_length_le (by omega), List.take_of_length_le (by omega)] at this)
        have HE := hid he
        clear he
        go_wp2
        go_ret
        exact ⟨ret_bool HE.out.symm, _, rfl⟩
  · have hb0 : ((xs.length : Int) != (ys.length : Int)) = true := by rw [bne_iff_ne]; omega
    have hne : decide (xs = ys) = false := decide_eq_false fun e => hl (by rw [e])
    have HN := hid hne
    clear hne
    go_enter Tryd.func13, Tryd.ntmps13
    go_wp2
    go_ret
    exact ⟨ret_bool HN.out.symm, 0, rfl⟩
end Go.Proofs.YtgpccjmkghpiiaaDoor
