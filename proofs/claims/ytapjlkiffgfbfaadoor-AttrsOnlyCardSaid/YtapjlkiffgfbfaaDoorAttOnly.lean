/- The walks of attrs.Only, the reference's Only, the law's long and spoil. -/
import Derived.Test.YtapjlkiffgfbfaaDoorAttDropR
import Derived.Lib.LaidU8
namespace Go.Proofs.YtapjlkiffgfbfaaDoor
open Go.RowKit Go.Lib

def encS (s : ByteArray) : List Value := [.string s]
theorem encS_len (s : ByteArray) : (encS s).length = 1 := rfl
theorem SlAt.atS {w : World} {B : Nat} {A : Option Addr} {xs : List ByteArray} (h : SlAt encS 1 w B A xs) {k : Nat} (hk : k < xs.length) : ∃ ad x, A = some ad ∧ ad.block < B ∧ xs[k]? = some x ∧ w.cell? (ad.add k) = some (.string x) := by
  obtain ⟨ad, x, e, hb, hx, hc⟩ := h.at_ hk
  have := hc 0 _ rfl
  rw [add_zero', Nat.mul_one] at this
  exact ⟨ad, x, e, hb, hx, this⟩
def inB (ns : List ByteArray) (m : ByteArray) : Bool := Lib.containsS ns m
theorem contains_in (xs : List ByteArray) (x : ByteArray) : Lib.containsS xs x = inB xs x := rfl
theorem containsS_any (A : Option Addr) (xs : List ByteArray) (n c B : Nat) (hn : n = xs.length) (x : ByteArray) (w : World) (hA : SlAt encS 1 w B A xs) (hl : xs.length ≤ 1000000000) :
    Calls Tryd.prog 71 #[.slice A n c, .string x] w fun e w' => e = .returned (.bool (inB xs x)) ∧ w = w' := by
  subst hn
  cases xs with
  | nil => exact (Tryd.slices_Contains_string_empty A c x w).mono fun e w' ⟨he, hw⟩ => ⟨by rw [he]; rfl, hw.symm⟩
  | cons y ys =>
    obtain ⟨ad, rfl, _, hc⟩ := hA (by simp)
    have hcell : ∀ j, j < (y :: ys).length → w.cell? (ad.add j) = some (.string ((y :: ys).getD j ByteArray.empty)) := fun j hj => by
      have := hc j _ (List.getElem?_eq_getElem hj) 0 _ rfl
      rw [add_zero', Nat.mul_one] at this
      rw [this, List.getD, List.getElem?_eq_getElem hj]; rfl
    obtain ⟨b, o, sp⟩ := ad
    have h0 := hcell 0 (by simp)
    rw [add_zero'] at h0
    obtain rfl := cell_spot h0
    refine (Tryd.slices_Contains_string b o (y :: ys).length c (y :: ys) x w (Nat.le_refl _) (by omega) (fun j hj => by rw [← hcell j hj, Addr.add_mid])).mono fun e w' ⟨he, hw⟩ => ⟨by rw [he, List.take_of_length_le (Nat.le_refl _), contains_in], hw.symm⟩

def onlyL (xs : List At) (ns : List ByteArray) : List At := xs.filter fun a => inB ns a.n
theorem only_yes {xs : List At} {ns : List ByteArray} {k : Nat} {x : At} (hx : xs[k]? = some x) (h : inB ns x.n = true) : onlyL (xs.take (k + 1)) ns = onlyL (xs.take k) ns ++ [x] := by
  unfold onlyL; rw [take_snoc3 hx, List.filter_append]; simp only [List.filter_cons, List.filter_nil, h]; rfl
theorem only_no {xs : List At} {ns : List ByteArray} {k : Nat} {x : At} (hx : xs[k]? = some x) (h : inB ns x.n = false) : onlyL (xs.take (k + 1)) ns = onlyL (xs.take k) ns := by
  unfold onlyL; rw [take_snoc3 hx, List.filter_append]; simp only [List.filter_cons, List.filter_nil, h]; simp
theorem only_len (xs : List At) (ns : List ByteArray) (k : Nat) : (onlyL (xs.take k) ns).length ≤ k := by
  unfold onlyL; exact Nat.le_trans (List.length_filter_le _ _) (List.length_take_le _ _)

set_option maxRecDepth 100000 in
set_option maxHeartbeats 4000000 in
theorem only_any (A : Option Addr) (xs : List At) (n c B : Nat) (hn : n = xs.length) (N : Option Addr) (ns : List ByteArray) (m cm D : Nat) (hm : m = ns.length) (w : World) (hA : SlAt encA 2 w B A xs) (hN : SlAt encS 1 w D N ns) (hl : xs.length ≤ 1000000000) (hl2 : ns.length ≤ 1000000000) :
    Calls Tryd.prog 50 #[.slice A n c, .slice N m cm] w (RowA w (onlyL xs ns)) := by
  subst hn hm
  have HS := hid (hA.live (fun _ => by rw [encA_len]; omega))
  have HN := hid (hN.live (fun _ => by rw [encS_len]; omega))
  clear hA hN
  go_enter Tryd.func50, Tryd.ntmps50
  go_wp2_with fail
  go_loopw [5, 10] (fun v i wr => ∃ k : Nat, k ≤ xs.length ∧ i = .int .i64 k ∧ Own encA 2 52 wr w.heap.size v (onlyL (xs.take k) ns) ∧ Below w.heap.size w wr) (fun _ i _ => xs.length - (intOf i).toNat)
  case atStart => exact ⟨0, Nat.zero_le _, rfl, Own.nil, Below.refl _ _⟩
  case round =>
    obtain ⟨k, hk, rfl, hown, hbr⟩ := hrel
    have HB := hid hbr
    have hsz := hbr.size
    by_cases hlt : k < xs.length
    · obtain ⟨ad, x, rfl, -, hx, x0, x1⟩ := (HS.out.below hbr).atA hlt
      have hi1 : (k : Int) < (xs.length : Int) := by omega
      have lenk : (onlyL (xs.take k) ns).length + 1 ≤ 1000000000000 := by have := only_len xs ns k; omega
      obtain ⟨r, hr⟩ : ∃ r, inB ns x.n = r := ⟨_, rfl⟩
      have HR := hid hr
      clear hbr
      cases r with
      | true =>
        have HT := hid (only_yes hx hr)
        clear hx hr
        go_wp2_with (first
          | (go_at_call 71; refine (containsS_any N ns _ cm _ rfl x.n _ ((HN.out.below HB.out).alloc HB.out.size _) hl2).mono ?_; rintro e w2 ⟨rfl, rfl⟩; rw [HR.out])
          | (at_builtin; refine wpList_app1g Tryd.okA rfl (.tmp 18) (.tmp 20) 39 rfl Tryd.underlying39 w.heap.size _ (onlyL (xs.take k) ns) rfl (hown.alloc _) x rfl (wr.heap.size + 1) rfl (by simp) lenk (by simp; omega) ?_; intro v' w1 hown' hb' _))
        go_roundw
        case rel => exact ⟨k + 1, by omega, by go_num, by rw [HT.out]; exact hown', (HB.out.alloc HB.out.size _).trans hb'⟩
        case measure => simp [intOf]; omega
      | false =>
        have HT := hid (only_no hx hr)
        clear hx hr
        go_wp2_with (go_at_call 71; refine (containsS_any N ns _ cm _ rfl x.n _ ((HN.out.below HB.out).alloc HB.out.size _) hl2).mono ?_; rintro e w2 ⟨rfl, rfl⟩; rw [HR.out])
        go_roundw
        case rel => exact ⟨k + 1, by omega, by go_num, by rw [HT.out]; exact hown.alloc _, HB.out.alloc HB.out.size _⟩
        case measure => simp [intOf]; omega
    · have hown2 := hown
      rw [List.take_of_length_le (by omega)] at hown2
      have HO := hid hown2
      clear hown hown2 hbr
      go_wp2_with fail
      go_ret
      exact ⟨_, rfl, HO.out, HB.out⟩

theorem inB_snoc {ns : List ByteArray} {j : Nat} {x m : ByteArray} (h : ns[j]? = some x) : inB (ns.take (j + 1)) m = (inB (ns.take j) m || decide (x = m)) := by
  unfold inB
  rw [take_snoc3 h, Bool.eq_iff_iff, containsS_iff]
  by_cases e : x = m
  · subst e; simp
  · have e2 : ¬ m = x := fun h => e h.symm
    simp only [List.mem_append, List.mem_singleton, e2, or_false, decide_eq_false e, Bool.or_false, containsS_iff]
set_option maxRecDepth 100000 in
set_option maxHeartbeats 4000000 in
theorem refOnly_any (A : Option Addr) (xs : List At) (n c B : Nat) (hn : n = xs.length) (N : Option Addr) (ns : List ByteArray) (m cm D : Nat) (hm : m = ns.length) (w : World) (hA : SlAt encA 2 w B A xs) (hN : SlAt encS 1 w D N ns) (hl : xs.length ≤ 1000000000) (hl2 : ns.length ≤ 1000000000) :
    Calls Tryd.prog 51 #[.slice A n c, .slice N m cm] w (RowA w (onlyL xs ns)) := by
  subst hn hm
  have HS := hid (hA.live (fun _ => by rw [encA_len]; omega))
  have HN := hid (hN.live (fun _ => by rw [encS_len]; omega))
  clear hA hN
  go_enter Tryd.func51, Tryd.ntmps51
  go_wp2_with fail
  go_loopw [5, 6] (fun v i wr => ∃ k : Nat, k ≤ xs.length ∧ i = .int .i64 k ∧ Own encA 2 52 wr w.heap.size v (onlyL (xs.take k) ns) ∧ Below w.heap.size w wr) (fun _ i _ => xs.length - (intOf i).toNat)
  case atStart => exact ⟨0, Nat.zero_le _, rfl, Own.nil, Below.refl _ _⟩
  case round =>
    obtain ⟨k, hk, rfl, hown, hbr⟩ := hrel
    have HB := hid hbr
    have hsz := hbr.size
    have HO := hid hown
    obtain ⟨wo, ho⟩ : ∃ wo : World, wo = wr := ⟨_, rfl⟩
    subst ho
    by_cases hlt : k < xs.length
    · obtain ⟨ad, x, rfl, -, hx, x0, x1⟩ := (HS.out.below hbr).atA hlt
      have hi1 : (k : Int) < (xs.length : Int) := by omega
      have lenk : (onlyL (xs.take k) ns).length + 1 ≤ 1000000000000 := by have := only_len xs ns k; omega
      have HX := hid hx
      clear hx hown hbr
      go_wp2_with fail
      go_loopw [7, 8] (fun bv i wx => ∃ (j : Nat) (b : Bool), j ≤ ns.length ∧ i = .int .i64 j ∧ bv = .bool b ∧ Hid (b = inB (ns.take j) x.n) ∧ ∃ q, wx = wo.drewN q) (fun _ i _ => ns.length - (intOf i).toNat)
      case atStart => exact ⟨0, false, by omega, rfl, rfl, rfl, 0, rfl⟩
      case round =>
        obtain ⟨j, b, hj, rfl, rfl, hb, q, rfl⟩ := hrel
        by_cases hjl : j < ns.length
        · obtain ⟨nd, y, rfl, -, hy, y0⟩ := (HN.out.below HB.out).atS hjl
          have hj1 : (j : Int) < (ns.length : Int) := by omega
          have HY := hid (inB_snoc (m := x.n) hy)
          clear hy
          cases b with
          | true =>
            have HT : Hid (true = inB (ns.take (j + 1)) x.n) := hid (by rw [HY.out, ← hb.out]; rfl)
            go_wp2_with fail
            go_quiet (fail)
            go_wp2_with fail
            go_roundw
            case rel => exact ⟨j + 1, true, by omega, by go_num, rfl, HT, _, by first | rfl | exact World.drewN_drewN _ _ _⟩
            case measure => simp [intOf]; omega
          | false =>
            by_cases he : y = x.n
            · have HT : Hid (true = inB (ns.take (j + 1)) x.n) := hid (by rw [HY.out, ← hb.out, decide_eq_true he]; rfl)
              have bq := str_eq he
              clear he
              go_wp2_with fail
              go_quiet (fail)
              go_wp2_with fail
              go_roundw
              case rel => exact ⟨j + 1, true, by omega, by go_num, rfl, HT, _, by first | rfl | exact World.drewN_drewN _ _ _⟩
              case measure => simp [intOf]; omega
            · have HT : Hid (false = inB (ns.take (j + 1)) x.n) := hid (by rw [HY.out, ← hb.out, decide_eq_false he]; rfl)
              have bq := str_ne he
              clear he
              go_wp2_with fail
              go_quiet (fail)
              go_wp2_with fail
              go_roundw
              case rel => exact ⟨j + 1, false, by omega, by go_num, rfl, HT, _, by first | rfl | exact World.drewN_drewN _ _ _⟩
              case measure => simp [intOf]; omega
        · have hb2 : b = inB ns x.n := by rw [hb.out, List.take_of_length_le (by omega)]
          cases b with
          | true =>
            have HT := hid (only_yes HX.out hb2.symm)
            clear hb2
            go_wp2_with (at_builtin; refine wpList_app1g Tryd.okA rfl (.tmp 35) (.tmp 40) 39 rfl Tryd.underlying39 w.heap.size _ (onlyL (xs.take k) ns) rfl (HO.out.drewN q) x rfl wo.heap.size rfl (by simp) lenk (by simp; omega) ?_; intro v' w1 hown' hb' _)
            go_roundw
            case rel => exact ⟨k + 1, by omega, by go_num, by rw [HT.out]; exact hown', (below_drewN HB.out q).trans hb'⟩
            case measure => simp [intOf]; omega
          | false =>
            have HT := hid (only_no HX.out hb2.symm)
            clear hb2
            go_wp2_with fail
            go_roundw
            case rel => exact ⟨k + 1, by omega, by go_num, by rw [HT.out]; exact HO.out.drewN q, below_drewN HB.out q⟩
            case measure => simp [intOf]; omega
    · rw [List.take_of_length_le (by omega)] at hown
      have HO2 := hid hown
      clear hown hbr HO
      go_wp2_with fail
      go_ret
      exact ⟨_, rfl, HO2.out, HB.out⟩
end Go.Proofs.YtapjlkiffgfbfaaDoor
