/- The walks of the package cells and of its reference: what is around a place. -/
import Derived.Test.YtoagikkjomobgaaDoorCells2
namespace Go.Proofs.YtoagikkjomobgaaDoor
open Go.RowKit

def aheadP (A : Option Addr) (p : Nat) : Option Addr := if 0 < p then A.map (·.add ((p - 1) * 3)) else none
def behindP (A : Option Addr) (n p : Nat) : Option Addr := if p < n then A.map (·.add (p * 3)) else none
theorem ret_sides {p q : Int} {a b c d : Option Addr} (h1 : p = q) (h2 : a = b) (h3 : c = d) : Ending.returned (.tuple #[.int .i64 p, .pointer a, .pointer c]) = .returned (.tuple #[.int .i64 q, .pointer b, .pointer d]) := by rw [h1, h2, h3]
theorem place_lo {n : Nat} {a : Int} (h : a ≤ 0) : place n a = 0 := by unfold place; omega
theorem place_mid {n p : Nat} (h : p ≤ n) : place n (p : Int) = p := by unfold place; omega
theorem place_hi {n : Nat} {a : Int} (h : (n : Int) ≤ a) : place n a = n := by unfold place; omega

set_option maxHeartbeats 1000000 in
theorem sides_any (A : Option Addr) (n c : Nat) (at_ : Int) (w : World) (hn : n ≤ 1000000000) (hA : 0 < n → ∃ ad, A = some ad) :
    Calls Tryd.prog 30 #[.slice A n c, .int .i64 at_] w fun e w' => e = .returned (.tuple #[.int .i64 (place n at_), .pointer (aheadP A (place n at_)), .pointer (behindP A n (place n at_))]) ∧ w = w' := by
  rcases (show n = 0 ∨ 0 < n from by omega) with rfl | hpos
  · have hp : place 0 at_ = 0 := by unfold place; omega
    rw [hp]
    rcases (show at_ < 0 ∨ at_ = 0 ∨ 0 < at_ from by omega) with h | rfl | h
    all_goals
      clear hA
      go_enter Tryd.func30, Tryd.ntmps30
      go_wp2
      go_ret3
      exact ⟨ret_sides rfl rfl rfl, rfl⟩
  · obtain ⟨ad, rfl⟩ := hA hpos
    rcases (show at_ < 0 ∨ at_ = 0 ∨ (∃ p : Nat, at_ = p ∧ 0 < p ∧ p < n) ∨ (∃ p : Nat, at_ = p ∧ p = n) ∨ (n : Int) < at_ from by
      rcases (show at_ < 0 ∨ at_ = 0 ∨ (0 < at_ ∧ at_ < n) ∨ at_ = n ∨ (n : Int) < at_ from by omega) with h | h | ⟨h, h'⟩ | h | h
      · exact .inl h
      · exact .inr (.inl h)
      · exact .inr (.inr (.inl ⟨at_.toNat, by omega, by omega, by omega⟩))
      · exact .inr (.inr (.inr (.inl ⟨n, h, rfl⟩)))
      · exact .inr (.inr (.inr (.inr h)))) with h | rfl | ⟨p, rfl, hp1, hp2⟩ | ⟨p, rfl, rfl⟩ | h
    · rw [place_lo (by omega)]
      go_enter Tryd.func30, Tryd.ntmps30
      go_wp2
      go_ret3
      exact ⟨ret_sides rfl rfl (by simp [behindP, hpos, add_zero']), rfl⟩
    · rw [place_lo (by omega)]
      go_enter Tryd.func30, Tryd.ntmps30
      go_wp2
      go_ret3
      exact ⟨ret_sides rfl rfl (by simp [behindP, hpos, add_zero']), rfl⟩
    · rw [place_mid (by omega)]
      go_enter Tryd.func30, Tryd.ntmps30
      go_wp2
      go_ret3
      exact ⟨ret_sides rfl (by simp [aheadP, hp1]) (by simp [behindP, hp2]), rfl⟩
    · rw [place_mid (by omega)]
      go_enter Tryd.func30, Tryd.ntmps30
      go_wp2
      go_ret3
      exact ⟨ret_sides rfl (by simp [aheadP, hpos]) (by simp [behindP]), rfl⟩
    · rw [place_hi (by omega)]
      go_enter Tryd.func30, Tryd.ntmps30
      go_wp2
      go_ret3
      exact ⟨ret_sides rfl (by simp [aheadP, hpos]) (by simp [behindP]), rfl⟩


theorem linkAt_ahead {cs : List Cl} {p : Nat} {x : Cl} (hx : cs[p - 1]? = some x) (hp : 0 < p) (hne : x.h ≠ .empty) : linkAt cs p = x.h := by
  unfold linkAt; rw [hrefAt_some hx, if_pos ⟨hp, hne⟩]
theorem linkAt_behind {cs : List Cl} {p : Nat} (h : ∀ x, cs[p - 1]? = some x → 0 < p → x.h = .empty) : linkAt cs p = hrefAt cs p := by
  unfold linkAt
  rw [if_neg]
  rintro ⟨hp, hne⟩
  apply hne
  unfold hrefAt
  split
  · rename_i c hc; exact h c hc hp
  · rfl
theorem empty_isEmpty : ByteArray.empty.toList.isEmpty = true := by rw [(toList_nil_iff_emptyBytes _).2 rfl]; rfl
theorem hrefAt_none {cs : List Cl} {p : Nat} (h : cs.length ≤ p) : hrefAt cs p = .empty := by unfold hrefAt; rw [List.getElem?_eq_none h]

/-- The frame of Within behind its tests: h is the link, p the place: the two loops. -/
theorem backTo_step {cs : List Cl} {h : ByteArray} {k : Nat} {x : Cl} (hx : cs[k]? = some x) (he : x.h = h) : backTo cs h (k + 1) = backTo cs h k := by
  rw [backTo, if_pos (by rw [hrefAt_some hx]; exact he)]
theorem backTo_stop {cs : List Cl} {h : ByteArray} {k : Nat} {x : Cl} (hx : cs[k]? = some x) (he : ¬ x.h = h) : backTo cs h (k + 1) = k + 1 := by
  rw [backTo, if_neg (by rw [hrefAt_some hx]; exact he)]
theorem ret_pair {p q r s : Int} (h1 : p = q) (h2 : r = s) : Ending.returned (.tuple #[.int .i64 p, .int .i64 r]) = .returned (.tuple #[.int .i64 q, .int .i64 s]) := by rw [h1, h2]

set_option maxHeartbeats 4000000 in
theorem within_any (A : Option Addr) (cs : List Cl) (n c B : Nat) (hn : n = cs.length) (at_ : Int) (w : World) (hA : SlAt encC 3 w B A cs) (hl : cs.length ≤ 1000000000) :
    Calls Tryd.prog 14 #[.slice A n c, .int .i64 at_] w fun e w' => e = .returned (.tuple #[.int .i64 (withinL cs at_).1, .int .i64 (withinL cs at_).2]) ∧ w = w' := by
  subst hn
  have hple := place_le cs.length at_
  unfold withinL
  have hsd := sides_any A cs.length c at_ w hl (fun h => by obtain ⟨ad, _, e, _⟩ := hA.at_ h; exact ⟨ad, e⟩)
  generalize place cs.length at_ = p at *
  simp only
  -- the two pointers, and the link that comes of them
  have key : ∃ (pa pb : Option Addr) (h h1 : ByteArray), aheadP A p = pa ∧ behindP A cs.length p = pb ∧ linkAt cs p = h ∧
      (pb = none ∧ h1 = .empty ∨ ∃ b, pb = some b ∧ w.cell? ⟨b.block, b.off + 2, none⟩ = some (.string h1)) ∧
      (pa = none ∧ h = h1 ∨ ∃ a ha, pa = some a ∧ w.cell? ⟨a.block, a.off + 2, none⟩ = some (.string ha) ∧ (ha.toList.isEmpty = true ∧ h = h1 ∨ ha.toList.isEmpty = false ∧ h = ha)) := by
    have hb : ∃ pb h1, behindP A cs.length p = pb ∧ hrefAt cs p = h1 ∧ (pb = none ∧ h1 = .empty ∨ ∃ b, pb = some b ∧ w.cell? ⟨b.block, b.off + 2, none⟩ = some (.string h1)) := by
      by_cases hp : p < cs.length
      · obtain ⟨ad, x, rfl, -, hx, -, -, x2⟩ := hA.atC hp
        exact ⟨_, _, rfl, hrefAt_some hx, .inr ⟨ad.add (p * 3), by simp [behindP, hp], x2⟩⟩
      · exact ⟨_, _, rfl, rfl, .inl ⟨by simp [behindP, hp], hrefAt_none (by omega)⟩⟩
    obtain ⟨pb, h1, e1, e2, hb⟩ := hb
    by_cases hp : 0 < p
    · obtain ⟨ad, x, rfl, -, hx, -, -, x2⟩ := hA.atC (show p - 1 < cs.length by omega)
      by_cases he : x.h.toList = []
      · exact ⟨_, pb, _, h1, rfl, e1, rfl, hb, .inr ⟨ad.add ((p - 1) * 3), x.h, by simp [aheadP, hp], x2, .inl ⟨by rw [he]; rfl, by
          rw [← e2]; exact linkAt_behind fun y hy _ => by rw [hx] at hy; injection hy with hy; subst hy; exact (toList_nil_iff_emptyBytes _).1 he⟩⟩⟩
      · exact ⟨_, pb, _, h1, rfl, e1, rfl, hb, .inr ⟨ad.add ((p - 1) * 3), x.h, by simp [aheadP, hp], x2, .inr ⟨by simpa using he, linkAt_ahead hx hp fun e => he ((toList_nil_iff_emptyBytes _).2 e)⟩⟩⟩
    · exact ⟨_, pb, _, h1, rfl, e1, rfl, hb, .inl ⟨by simp [aheadP, hp], by rw [← e2]; exact linkAt_behind fun y _ h0 => absurd h0 hp⟩⟩
  obtain ⟨pa, pb, h, h1, e1, e2, e3, hb, ha⟩ := key
  rw [e1, e2] at hsd
  have HS := hid hsd
  rw [e3]
  clear hsd e1 e2 e3
  have HA := hid hA
  clear hA
  have fin : ∃ f t : Nat, (if h = .empty then (p, p) else (backTo cs h p, onTo cs h cs.length p)) = (f, t) ∧ (h.toList.isEmpty = true ∧ f = p ∧ t = p ∨ h.toList.isEmpty = false ∧ f = backTo cs h p ∧ t = onTo cs h cs.length p) := by
    by_cases he : h = .empty
    · exact ⟨p, p, by rw [if_pos he], .inl ⟨by rw [he]; exact empty_isEmpty, rfl, rfl⟩⟩
    · exact ⟨_, _, by rw [if_neg he], .inr ⟨by simpa using fun e => he ((toList_nil_iff_emptyBytes _).1 e), rfl, rfl⟩⟩
  obtain ⟨f, t, ef, hft⟩ := fin
  rw [ef]
  clear ef
  rcases hft with ⟨he, rfl, rfl⟩ | ⟨he, Ef, Et⟩
  · rcases hb with ⟨rfl, rfl⟩ | ⟨b, rfl, hbc⟩ <;> rcases ha with ⟨rfl, rfl⟩ | ⟨a, ha, rfl, hac, ⟨hne, rfl⟩ | ⟨hne, rfl⟩⟩
    all_goals first
      | (exfalso; rw [he] at hne; cases hne; done)
      | (go_enter Tryd.func14, Tryd.ntmps14
         go_wp2_with (go_at_call 30; refine HS.out.mono ?_; rintro e w' ⟨rfl, rfl⟩)
         go_ret2
         exact ⟨rfl, rfl⟩)
  · have EF := hid Ef
    have ET := hid Et
    clear Ef Et
    rcases hb with ⟨rfl, rfl⟩ | ⟨b, rfl, hbc⟩ <;> rcases ha with ⟨rfl, rfl⟩ | ⟨a, ha, rfl, hac, ⟨hne, rfl⟩ | ⟨hne, rfl⟩⟩
    all_goals first
      | (exfalso; rw [empty_isEmpty] at he; cases he; done)
      | skip
    all_goals
      go_enter Tryd.func14, Tryd.ntmps14
      go_wp2_with (go_at_call 30; refine HS.out.mono ?_; rintro e w' ⟨rfl, rfl⟩)
      go_loop [4] (fun s => ∃ k : Nat, k ≤ p ∧ s = .int .i64 k ∧ Hid (f = backTo cs h k)) (fun s => (intOf s).toNat)
      case atStart => exact ⟨p, Nat.le_refl _, rfl, EF⟩
      case round =>
        obtain ⟨k, hk, rfl, hf⟩ := hrel
        rcases (show k = 0 ∨ ∃ j, k = j + 1 from by cases k with | zero => exact .inl rfl | succ j => exact .inr ⟨j, rfl⟩) with rfl | ⟨j, rfl⟩
        · have HF : Hid (f = 0) := hf.out
          go_wp2
          go_loop [5] (fun s => ∃ q : Nat, q ≤ cs.length ∧ s = .int .i64 q ∧ Hid (t = onTo cs h cs.length q)) (fun s => cs.length - (intOf s).toNat)
          case atStart => exact ⟨p, by omega, rfl, ET⟩
          case round =>
            obtain ⟨q, hq, rfl, ht⟩ := hrel
            by_cases hlt : q < cs.length
            · obtain ⟨ad2, y, e2, -, hy, -, -, y2⟩ := HA.out.atC hlt
              first | (injection e2 with e2; subst e2) | subst e2
              have hi1 : (q : Int) < (cs.length : Int) := by omega
              by_cases hye : y.h.toList = h.toList
              · have b2 : (y.h.toList == h.toList) = true := beq_iff_eq.2 hye
                have HT : Hid (t = onTo cs h cs.length (q + 1)) := ht.out.trans (onTo_step cs h q hlt (by rw [hrefAt_some hy]; exact toList_inj hye))
                clear hye hy
                go_wp2
                go_round
                case rel => exact ⟨q + 1, by omega, by go_num, HT⟩
                case measure => simp [intOf]; omega
              · have b2 : (y.h.toList == h.toList) = false := beq_eq_false_iff_ne.2 hye
                have HT : Hid (t = q) := ht.out.trans (onTo_stop cs h q (fun e => hye (by rw [← e.2, hrefAt_some hy])) _)
                clear hye hy
                go_wp2
                go_ret2
                exact ⟨ret_pair (by have := HF.out; omega) (by have := HT.out; omega), rfl⟩
            · have HT : Hid (t = q) := ht.out.trans (onTo_stop cs h q (fun e => hlt e.1) _)
              go_wp2
              go_ret2
              exact ⟨ret_pair (by have := HF.out; omega) (by have := HT.out; omega), rfl⟩
        · obtain ⟨ad, x, rfl, -, hx, -, -, x2⟩ := HA.out.atC (show j < cs.length by omega)
          by_cases hxe : x.h.toList = h.toList
          · have b1 : (x.h.toList == h.toList) = true := beq_iff_eq.2 hxe
            have HF : Hid (f = backTo cs h j) := hf.out.trans (backTo_step hx (toList_inj hxe))
            clear hxe hx
            go_wp2
            go_round
            case rel => exact ⟨j, by omega, by go_num, HF⟩
            case measure => simp [intOf]
          · have b1 : (x.h.toList == h.toList) = false := beq_eq_false_iff_ne.2 hxe
            have HF : Hid (f = j + 1) := hf.out.trans (backTo_stop hx fun e => hxe (by rw [e]))
            clear hxe hx
            go_wp2
            go_loop [5] (fun s => ∃ q : Nat, q ≤ cs.length ∧ s = .int .i64 q ∧ Hid (t = onTo cs h cs.length q)) (fun s => cs.length - (intOf s).toNat)
            case atStart => exact ⟨p, by omega, rfl, ET⟩
            case round =>
              obtain ⟨q, hq, rfl, ht⟩ := hrel
              by_cases hlt : q < cs.length
              · obtain ⟨ad2, y, e2, -, hy, -, -, y2⟩ := HA.out.atC hlt
                first | (injection e2 with e2; subst e2) | subst e2
                have hi1 : (q : Int) < (cs.length : Int) := by omega
                by_cases hye : y.h.toList = h.toList
                · have b2 : (y.h.toList == h.toList) = true := beq_iff_eq.2 hye
                  have HT : Hid (t = onTo cs h cs.length (q + 1)) := ht.out.trans (onTo_step cs h q hlt (by rw [hrefAt_some hy]; exact toList_inj hye))
                  clear hye hy
                  go_wp2
                  go_round
                  case rel => exact ⟨q + 1, by omega, by go_num, HT⟩
                  case measure => simp [intOf]; omega
                · have b2 : (y.h.toList == h.toList) = false := beq_eq_false_iff_ne.2 hye
                  have HT : Hid (t = q) := ht.out.trans (onTo_stop cs h q (fun e => hye (by rw [← e.2, hrefAt_some hy])) _)
                  clear hye hy
                  go_wp2
                  go_ret2
                  exact ⟨ret_pair (by have := HF.out; omega) (by have := HT.out; omega), rfl⟩
              · have HT : Hid (t = q) := ht.out.trans (onTo_stop cs h q (fun e => hlt e.1) _)
                go_wp2
                go_ret2
                exact ⟨ret_pair (by have := HF.out; omega) (by have := HT.out; omega), rfl⟩
end Go.Proofs.YtoagikkjomobgaaDoor
