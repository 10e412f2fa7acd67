/- The walks of the reference of cells, and of cells: Within, Around. -/
import Derived.Test.YtgpccjmkghpiiaaCells3
namespace Go.Proofs.Ytgpccjmkghpiiaa
open Go.RowKit

set_option maxHeartbeats 4000000 in
theorem refWithin_any (A : Option Addr) (cs : List Cl) (n c B : Nat) (hn : n = cs.length) (at_ : Int) (w : World) (hA : SlAt encC 3 w B A cs) (hl : cs.length ≤ 1000000000) :
    Calls Try.prog 27 #[.slice A n c, .int .i64 at_] w fun e w' => e = .returned (.tuple #[.int .i64 (withinL cs at_).1, .int .i64 (withinL cs at_).2]) ∧ w = w' := by
  subst hn
  have hple := place_le cs.length at_
  unfold withinL
  have hsd := refPlace_any A cs.length c at_ w hl
  generalize place cs.length at_ = p at *
  simp only
  have key : ∃ (h : ByteArray), linkAt cs p = h ∧
      ((∃ j ad ha, p = j + 1 ∧ A = some ad ∧ w.cell? ⟨(ad.add (j * 3)).block, (ad.add (j * 3)).off + 2, none⟩ = some (.string ha) ∧ ha.toList.isEmpty = false ∧ h = ha) ∨
       (∃ j ad ha, p = j + 1 ∧ A = some ad ∧ w.cell? ⟨(ad.add (j * 3)).block, (ad.add (j * 3)).off + 2, none⟩ = some (.string ha) ∧ ha.toList.isEmpty = true ∧
          (p < cs.length ∧ w.cell? ⟨(ad.add (p * 3)).block, (ad.add (p * 3)).off + 2, none⟩ = some (.string h) ∨ p = cs.length ∧ h = .empty)) ∨
       (p = 0 ∧ 0 < cs.length ∧ ∃ ad, A = some ad ∧ w.cell? ⟨ad.block, ad.off + 2, none⟩ = some (.string h)) ∨ (p = 0 ∧ cs.length = 0 ∧ h = .empty)) := by
    refine ⟨_, rfl, ?_⟩
    cases p with
    | zero =>
      have e0 : linkAt cs 0 = hrefAt cs 0 := linkAt_behind fun y _ h0 => absurd h0 (by omega)
      rw [e0]
      by_cases hp : 0 < cs.length
      · obtain ⟨ad, x, rfl, -, hx, -, -, x2⟩ := hA.atC hp
        rw [Nat.zero_mul, add_zero'] at x2
        exact .inr (.inr (.inl ⟨rfl, hp, ad, rfl, by rw [hrefAt_some hx]; exact x2⟩))
      · exact .inr (.inr (.inr ⟨rfl, by omega, hrefAt_none (by omega)⟩))
    | succ j =>
      obtain ⟨ad, x, rfl, -, hx, -, -, x2⟩ := hA.atC (show j < cs.length by omega)
      by_cases he : x.h.toList = []
      · have e0 : linkAt cs (j + 1) = hrefAt cs (j + 1) := linkAt_behind fun y hy _ => by
          rw [show j + 1 - 1 = j by omega, hx] at hy; injection hy with hy; subst hy; exact (toList_nil_iff_emptyBytes _).1 he
        rw [e0]
        refine .inr (.inl ⟨j, ad, x.h, rfl, rfl, x2, by rw [he]; rfl, ?_⟩)
        by_cases hp : j + 1 < cs.length
        · obtain ⟨ad', y, e', -, hy, -, -, y2⟩ := hA.atC hp
          injection e' with e'
          subst e'
          exact .inl ⟨hp, by rw [hrefAt_some hy]; exact y2⟩
        · exact .inr ⟨by omega, hrefAt_none (by omega)⟩
      · exact .inl ⟨j, ad, x.h, rfl, rfl, x2, by simpa using he, linkAt_ahead (by rw [show j + 1 - 1 = j by omega]; exact hx) (by omega) fun e => he ((toList_nil_iff_emptyBytes _).2 e)⟩
  obtain ⟨h, e3, hc⟩ := key
  have HS := hid hsd
  rw [e3]
  clear hsd e3
  have HA := hid hA
  clear hA
  have fin : ∃ f t : Nat, (if h = .empty then (p, p) else (backTo cs h p, onTo cs h cs.length p)) = (f, t) ∧ (h.toList.isEmpty = true ∧ f = p ∧ t = p ∨ h.toList.isEmpty = false ∧ f = backTo cs h p ∧ t = onTo cs h cs.length p) := by
    by_cases he : h = .empty
    · exact ⟨p, p, by rw [if_pos he], .inl ⟨by rw [he]; exact empty_isEmpty, rfl, rfl⟩⟩
    · exact ⟨_, _, by rw [if_neg he], .inr ⟨by simpa using fun e => he ((toList_nil_iff_emptyBytes _).1 e), rfl, rfl⟩⟩
  obtain ⟨f, t, ef, hft⟩ := fin
  rw [ef]
  clear ef
  have hcl : ∀ {q : Nat}, q < cs.length → (q : Int) < (cs.length : Int) := fun h => by omega
  rcases hft with ⟨he, Ef, Et⟩ | ⟨he, Ef, Et⟩
  · subst Ef
    subst Et
    rcases hc with ⟨j, ad, ha, rfl, rfl, hac, hne, rfl⟩ | ⟨j, ad, ha, rfl, rfl, hac, hne, ⟨hlt, hbc⟩ | ⟨hlt, rfl⟩⟩ | ⟨rfl, hlt, ad, rfl, hbc⟩ | ⟨rfl, hlt, rfl⟩
    · exfalso; rw [he] at hne; cases hne
    · have hlt' := hcl hlt
      clear hcl
      go_enter Try.func27, Try.ntmps27
      go_wp2_with (go_at_call 40; refine HS.out.mono ?_; rintro e w' ⟨rfl, rfl⟩)
      go_ret2
      exact ⟨rfl, rfl⟩
    · have hlt' : ¬ ((j : Int) + 1 < (cs.length : Int)) := by omega
      have HL := hid hlt
      clear hcl hlt
      go_enter Try.func27, Try.ntmps27
      go_wp2_with (go_at_call 40; refine HS.out.mono ?_; rintro e w' ⟨rfl, rfl⟩)
      go_ret2
      exact ⟨rfl, rfl⟩
    · have hlt' : (0 : Int) < (cs.length : Int) := by omega
      clear hcl
      go_enter Try.func27, Try.ntmps27
      go_wp2_with (go_at_call 40; refine HS.out.mono ?_; rintro e w' ⟨rfl, rfl⟩)
      go_ret2
      exact ⟨rfl, rfl⟩
    · have hlt' : ¬ ((0 : Int) < (cs.length : Int)) := by omega
      have HL := hid hlt
      clear hcl hlt
      go_enter Try.func27, Try.ntmps27
      go_wp2_with (go_at_call 40; refine HS.out.mono ?_; rintro e w' ⟨rfl, rfl⟩)
      go_ret2
      exact ⟨rfl, rfl⟩
  · have EF := hid Ef
    have ET := hid Et
    clear Ef Et
    rcases hc with ⟨j, ad, ha, rfl, rfl, hac, hne, rfl⟩ | ⟨j, ad, ha, rfl, rfl, hac, hne, ⟨hlt, hbc⟩ | ⟨hlt, rfl⟩⟩ | ⟨rfl, hlt, ad, rfl, hbc⟩ | ⟨rfl, hlt, rfl⟩
    case inr.inl.inr => exfalso; rw [empty_isEmpty] at he; cases he
    case inr.inr.inr => exfalso; rw [empty_isEmpty] at he; cases he
    all_goals
      try have hlt' := hcl hlt
      clear hcl
      go_enter Try.func27, Try.ntmps27
      go_wp2_with (go_at_call 40; refine HS.out.mono ?_; rintro e w' ⟨rfl, rfl⟩)
      go_loop [7] (fun s => ∃ k : Nat, k ≤ cs.length ∧ s = .int .i64 k ∧ Hid (f = backTo cs h k)) (fun s => (intOf s).toNat)
      case atStart => exact ⟨_, hple, by first | rfl | go_num, EF⟩
      case round =>
        obtain ⟨k, hk, rfl, hf⟩ := hrel
        rcases (show k = 0 ∨ ∃ j, k = j + 1 from by cases k with | zero => exact .inl rfl | succ j => exact .inr ⟨j, rfl⟩) with rfl | ⟨i, rfl⟩
        · have HF : Hid (f = 0) := hf.out
          go_wp2
          go_loop [8] (fun s => ∃ q : Nat, q ≤ cs.length ∧ s = .int .i64 q ∧ Hid (t = onTo cs h cs.length q)) (fun s => cs.length - (intOf s).toNat)
          case atStart => exact ⟨_, hple, by first | rfl | go_num, ET⟩
          case round =>
            obtain ⟨q, hq, rfl, ht⟩ := hrel
            by_cases hlq : q < cs.length
            · obtain ⟨ad2, y, e2, -, hy, -, -, y2⟩ := HA.out.atC hlq
              injection e2 with e2
              subst e2
              have hi1 : (q : Int) < (cs.length : Int) := by omega
              by_cases hye : y.h.toList = h.toList
              · have b2 : (y.h.toList == h.toList) = true := beq_iff_eq.2 hye
                have HT : Hid (t = onTo cs h cs.length (q + 1)) := ht.out.trans (onTo_step cs h q hlq (by rw [hrefAt_some hy]; exact toList_inj hye))
                clear hye hy
                go_wp2
                go_round
                case rel => exact ⟨q + 1, by omega, by go_num, HT⟩
                case measure => simp [intOf]; omega
              · have b2 : (y.h.toList == h.toList) = false := beq_eq_false_iff_ne.2 hye
                have HT : Hid (t = q) := ht.out.trans (onTo_stop cs h q (fun e => hye (by rw [← e.2, hrefAt_some hy])) _)
                clear hye hy
                go_wp2
                go_ret2
                exact ⟨ret_pair (by have := HF.out; omega) (by have := HT.out; omega), rfl⟩
            · have HT : Hid (t = q) := ht.out.trans (onTo_stop cs h q (fun e => hlq e.1) _)
              go_wp2
              go_ret2
              exact ⟨ret_pair (by have := HF.out; omega) (by have := HT.out; omega), rfl⟩
        · obtain ⟨ad1, x, e1, -, hx, -, -, x2⟩ := HA.out.atC (show i < cs.length by omega)
          injection e1 with e1
          subst e1
          by_cases hxe : x.h.toList = h.toList
          · have b1 : (x.h.toList == h.toList) = true := beq_iff_eq.2 hxe
            have HF : Hid (f = backTo cs h i) := hf.out.trans (backTo_step hx (toList_inj hxe))
            clear hxe hx
            go_wp2
            go_round
            case rel => exact ⟨i, by omega, by go_num, HF⟩
            case measure => simp [intOf]
          · have b1 : (x.h.toList == h.toList) = false := beq_eq_false_iff_ne.2 hxe
            have HF : Hid (f = i + 1) := hf.out.trans (backTo_stop hx fun e => hxe (by rw [e]))
            clear hxe hx
            go_wp2
            go_loop [8] (fun s => ∃ q : Nat, q ≤ cs.length ∧ s = .int .i64 q ∧ Hid (t = onTo cs h cs.length q)) (fun s => cs.length - (intOf s).toNat)
            case atStart => exact ⟨_, hple, by first | rfl | go_num, ET⟩
            case round =>
              obtain ⟨q, hq, rfl, ht⟩ := hrel
              by_cases hlq : q < cs.length
              · obtain ⟨ad2, y, e2, -, hy, -, -, y2⟩ := HA.out.atC hlq
                injection e2 with e2
                subst e2
                have hi1 : (q : Int) < (cs.length : Int) := by omega
                by_cases hye : y.h.toList = h.toList
                · have b2 : (y.h.toList == h.toList) = true := beq_iff_eq.2 hye
                  have HT : Hid (t = onTo cs h cs.length (q + 1)) := ht.out.trans (onTo_step cs h q hlq (by rw [hrefAt_some hy]; exact toList_inj hye))
                  clear hye hy
                  go_wp2
                  go_round
                  case rel => exact ⟨q + 1, by omega, by go_num, HT⟩
                  case measure => simp [intOf]; omega
                · have b2 : (y.h.toList == h.toList) = false := beq_eq_false_iff_ne.2 hye
                  have HT : Hid (t = q) := ht.out.trans (onTo_stop cs h q (fun e => hye (by rw [← e.2, hrefAt_some hy])) _)
                  clear hye hy
                  go_wp2
                  go_ret2
                  exact ⟨ret_pair (by have := HF.out; omega) (by have := HT.out; omega), rfl⟩
              · have HT : Hid (t = q) := ht.out.trans (onTo_stop cs h q (fun e => hlq e.1) _)
                go_wp2
                go_ret2
                exact ⟨ret_pair (by have := HF.out; omega) (by have := HT.out; omega), rfl⟩
end Go.Proofs.Ytgpccjmkghpiiaa
