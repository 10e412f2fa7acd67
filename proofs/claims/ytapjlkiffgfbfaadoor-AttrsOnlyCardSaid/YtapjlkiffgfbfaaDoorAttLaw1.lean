/- The walks of law03's awake, of the laws AttrsTell, AttrsSame: each answers true. -/
import Derived.Test.YtapjlkiffgfbfaaDoorAttLong
import Derived.Test.YtapjlkiffgfbfaaDoorOpenA
namespace Go.Proofs.YtapjlkiffgfbfaaDoor
open Go.RowKit Go.Lib

def aA : At := ⟨⟨#[97]⟩, ⟨#[49]⟩⟩
def bA : At := ⟨⟨#[98]⟩, ⟨#[50]⟩⟩
def cA : At := ⟨⟨#[97]⟩, ⟨#[51]⟩⟩
theorem litA1 (w : World) (x : At) (t : TypeId) : SlAt encA 2 (w.alloc (.cells #[.string x.n, .string x.v] t)) (w.heap.size + 1) (some ⟨w.heap.size, 0, none⟩) [x] := by
  have h : Own encA 2 t (w.alloc (.cells #[.string x.n, .string x.v] t)) w.heap.size (.slice (some ⟨w.heap.size, 0, none⟩) 1 1) [x] := World.ownsRow_lit w #[.string x.n, .string x.v] 1 (Nat.le_refl _) (by unfold maxLen; omega) rfl
  have := h.sl encA_len
  exact this.more (by simp)

theorem quiet_below {B : Nat} {a w w' : World} (h : Below B a w) (k : ∃ q, w' = w.drewN q) : Below B a w' := by
  obtain ⟨q, rfl⟩ := k
  exact below_drewN h q
set_option maxRecDepth 100000 in
set_option maxHeartbeats 4000000 in
theorem awake3_any (w : World) (hT : Lib.Utf8Tabs 0 1 w) : Calls Tryd.prog 32 #[] w fun e w' => e = .returned (.bool true) ∧ Below w.heap.size w w' := by
  have T := hid hT
  obtain ⟨l1, hl1⟩ : ∃ l, [aA] = l := ⟨_, rfl⟩
  obtain ⟨l2, hl2⟩ : ∃ l, [aA, bA] = l := ⟨_, rfl⟩
  obtain ⟨l3, hl3⟩ : ∃ l, [cA, bA] = l := ⟨_, rfl⟩
  have p1 := hid (show putL l1 ⟨#[98]⟩ ⟨#[50]⟩ = l2 from by subst hl1 hl2; decide +kernel)
  have e1 := hid (show putE ⟨#[98]⟩ ⟨#[50]⟩ = 0 from by decide +kernel)
  have p2 := hid (show putL l2 ⟨#[97]⟩ ⟨#[51]⟩ = l3 from by subst hl2 hl3; decide +kernel)
  have e2 := hid (show putE ⟨#[97]⟩ ⟨#[51]⟩ = 0 from by decide +kernel)
  have n1' := hid (show 1 = l1.length from by subst hl1; rfl)
  have n2' : l2.length ≤ 100000000 := by subst hl2; decide
  have n3' : l3.length ≤ 1000000000 := by subst hl3; decide
  have n3 : ((l3.length : Int) == 2) = true := by subst hl3; rfl
  have e3 := hid (show dropE l2 ⟨#[99]⟩ = 2 from by subst hl2; decide +kernel)
  have g1 := hid (show getV l3 ⟨#[97]⟩ = ⟨#[51]⟩ from by subst hl3; decide +kernel)
  have g2 := hid (show getB l3 ⟨#[97]⟩ = true from by subst hl3; decide +kernel)
  have n1 := hid (show nameB (ByteArray.mk #[100, 97, 116, 97, 45, 120]).data.toList = true from by decide +kernel)
  have n2 := hid (show nameB (ByteArray.mk #[49, 97]).data.toList = false from by decide +kernel)
  have t1 := hid (show targetB (ByteArray.mk #[74, 97, 118, 97, 83, 99, 114, 105, 112, 116, 58, 120]) = false from by decide +kernel)
  have t2 := hid (show targetB (ByteArray.mk #[104, 116, 116, 112, 58, 47, 47, 120]) = true from by decide +kernel)
  have L0 : Hid (SlAt encA 2 (w.alloc (.cells #[.string ⟨#[97]⟩, .string ⟨#[49]⟩] 52)) (w.heap.size + 1) (some ⟨w.heap.size, 0, none⟩) l1) := hid (by subst hl1; exact litA1 w aA 52)
  have B0 := hid ((Below.refl w.heap.size w).alloc (Nat.le_refl _) (.cells #[.string ⟨#[97]⟩, .string ⟨#[49]⟩] 52))
  have Z0 := hid (show (w.alloc (.cells #[.string ⟨#[97]⟩, .string ⟨#[49]⟩] 52)).heap.size = w.heap.size + 1 from by simp)
  clear hT hl1 hl2 hl3
  go_enter Tryd.func32, Tryd.ntmps32
  go_wp2_with (first
    | (go_at_call 41; (with_reducible refine (put_any (some ⟨w.heap.size, 0, none⟩) l1 1 1 _ n1'.out ⟨#[98]⟩ ⟨#[50]⟩ _ L0.out (by have := n1'.out; omega) (by decide) (by decide) (Utf8Tabs_below T.out B0.out)).mono ?_); rintro e w1 ⟨v1, rfl, ho1, hb1⟩; rw [p1.out] at ho1; rw [e1.out]; obtain ⟨A1, c1, rfl, -, -, -, hS1⟩ := ho1.form encA_len; (have S1 := hid hS1); (have B1 := hid (B0.out.trans (hb1.mono B0.out.size))); clear ho1 hb1 hS1)
    | (go_at_call 41; (with_reducible refine (put_any A1 l2 _ c1 _ rfl ⟨#[97]⟩ ⟨#[51]⟩ _ S1.out n2' (by decide) (by decide) (Utf8Tabs_below T.out B1.out)).mono ?_); rintro e w2 ⟨v2, rfl, ho2, hb2⟩; rw [p2.out] at ho2; rw [e2.out]; obtain ⟨A2, c2, rfl, -, -, -, hS2⟩ := ho2.form encA_len; (have S2 := hid hS2); (have B2 := hid (B1.out.trans (hb2.mono B1.out.size))); (have S12 := hid (S1.out.below hb2)); clear ho2 hb2 hS2)
    | (go_at_call 44; refine (drop_any A1 l2 _ c1 _ rfl ⟨#[99]⟩ _ S12.out (by omega)).mono ?_; rintro e w3 ⟨v3, rfl, ho3, hb3⟩; rw [e3.out]; (have B3 := hid (B2.out.trans (hb3.mono B2.out.size))); (have S23 := hid (S2.out.below hb3)); clear ho3 hb3)
    | (go_at_call 42; refine (get_any A2 l3 _ c2 _ rfl ⟨#[97]⟩ _ S23.out n3').mono ?_; rintro e w4 ⟨rfl, hb4⟩; rw [g1.out, g2.out]; (have Bx := hid (B3.out.trans (hb4.mono B3.out.size))); clear hb4)
    | (go_at_call 33; refine (attName_any _ _ (by decide)).mono ?_; rintro e w5 ⟨rfl, hb5⟩; (first | rw [n1.out] | rw [n2.out]); (have By := hid (Bx.out.trans (hb5.mono Bx.out.size))); clear hb5 Bx; (have Bx := By); clear By)
    | (go_at_call 37; refine (target_any _ _ (by decide) (Utf8Tabs_below T.out Bx.out)).mono ?_; rintro e w6 ⟨rfl, hb6⟩; (first | rw [t1.out] | rw [t2.out]); (have By := hid (Bx.out.trans (hb6.mono Bx.out.size))); clear hb6 Bx; (have Bx := By); clear By))
  go_ret
  exact ⟨rfl, Bx.out⟩

set_option maxRecDepth 100000 in
set_option maxHeartbeats 4000000 in
theorem attrsTell_walk (w : World) (s : ByteArray) (hs : s.size ≤ 1000000000000000) (hT : Lib.Utf8Tabs 0 1 w) : Calls Tryd.prog 9 #[.string s] w fun e w' => e = .returned (.bool true) ∧ Below w.heap.size w w' := by
  have T := hid hT
  have L0 := hid (litS1 w s 9)
  have B0 := hid ((Below.refl w.heap.size w).alloc (Nat.le_refl _) (.cells #[.string s] 9))
  have z1 : sizesS [s] ≤ 4000000000000000000 := by unfold sizesS; simp; omega
  cases hb : longB [] [s] with
  | true =>
    have HL := hid hb
    clear hT hb
    go_enter Tryd.func9, Tryd.ntmps9
    go_wp2_with (first
      | (go_at_call 31; refine (longA_any none [] 0 0 0 rfl (some ⟨w.heap.size, 0, none⟩) [s] 1 1 _ rfl _ SlAt.nil L0.out (by simp) (fun _ h => by cases h) (by simp) z1).mono ?_; rintro e w1 ⟨rfl, q, rfl⟩; rw [HL.out]; (have Bx := hid (below_drewN B0.out q)))
      | (go_at_call 32; refine (awake3_any _ (Utf8Tabs_below T.out Bx.out)).mono ?_; rintro e w3 ⟨rfl, hb3⟩; (have B3 := hid hb3); clear hb3))
    go_ret
    exact ⟨rfl, Bx.out.trans (B3.out.mono Bx.out.size)⟩
  | false =>
    have HL := hid hb
    have hs2 : s.size ≤ 1000000000 := by have := (longB_no hb).2.2; unfold sizesS at this; simp at this; omega
    obtain ⟨b1, h1⟩ : ∃ b, nameB s.data.toList = b := ⟨_, rfl⟩
    obtain ⟨b2, h2⟩ : ∃ b, valueB s = b := ⟨_, rfl⟩
    obtain ⟨b3, h3⟩ : ∃ b, targetB s = b := ⟨_, rfl⟩
    have H1 := hid h1
    have H2 := hid h2
    have H3 := hid h3
    have q1 : (b1 == b1) = true := by simp
    have q2 : (b2 == b2) = true := by simp
    have q3 : (b3 == b3) = true := by simp
    clear hT hb h1 h2 h3
    go_enter Tryd.func9, Tryd.ntmps9
    go_wp2_with (first
      | (go_at_call 31; refine (longA_any none [] 0 0 0 rfl (some ⟨w.heap.size, 0, none⟩) [s] 1 1 _ rfl _ SlAt.nil L0.out (by simp) (fun _ h => by cases h) (by simp) z1).mono ?_; rintro e w1 ⟨rfl, q, rfl⟩; rw [HL.out]; (have Bx := hid (below_drewN B0.out q)))
      | (go_at_call 33; refine (attName_any _ _ hs2).mono ?_; rintro e w5 ⟨rfl, hb5⟩; rw [H1.out]; (have By := hid (Bx.out.trans (hb5.mono Bx.out.size))); clear hb5 Bx; (have Bx := By); clear By)
      | (go_at_call 34; refine (refName3_any _ _ hs2).mono ?_; rintro e w1 ⟨rfl, rfl⟩; rw [H1.out])
      | (go_at_call 35; refine (value_any _ _ hs2 (Utf8Tabs_below T.out Bx.out)).mono ?_; rintro e w5 ⟨rfl, hb5⟩; rw [H2.out]; (have By := hid (Bx.out.trans (hb5.mono Bx.out.size))); clear hb5 Bx; (have Bx := By); clear By)
      | (go_at_call 36; refine (refValue_any _ _ hs2).mono ?_; rintro e w5 ⟨rfl, hb5⟩; rw [H2.out]; (have By := hid (Bx.out.trans (hb5.mono Bx.out.size))); clear hb5 Bx; (have Bx := By); clear By)
      | (go_at_call 37; refine (target_any _ _ hs2 (Utf8Tabs_below T.out Bx.out)).mono ?_; rintro e w5 ⟨rfl, hb5⟩; rw [H3.out]; (have By := hid (Bx.out.trans (hb5.mono Bx.out.size))); clear hb5 Bx; (have Bx := By); clear By)
      | (go_at_call 38; refine (refTarget_any _ _ hs2).mono ?_; rintro e w5 ⟨rfl, hb5⟩; rw [H3.out]; (have By := hid (Bx.out.trans (hb5.mono Bx.out.size))); clear hb5 Bx; (have Bx := By); clear By)
      | (go_at_call 32; refine (awake3_any _ (Utf8Tabs_below T.out Bx.out)).mono ?_; rintro e w3 ⟨rfl, hb3⟩; (have B3 := hid hb3); clear hb3))
    go_ret
    exact ⟨rfl, Bx.out.trans (B3.out.mono Bx.out.size)⟩

set_option maxRecDepth 100000 in
set_option maxHeartbeats 4000000 in
theorem attrsSame_walk (w : World) {A : Option Addr} {n c : Nat} {xs : List At} (hA : AttrsIn w A n c xs) {C : Option Addr} {m d : Nat} {ys : List At} (hC : AttrsIn w C m d ys) (hT : Lib.Utf8Tabs 0 1 w) :
    Calls Tryd.prog 10 #[.slice A n c, .slice C m d] w fun e w' => e = .returned (.bool true) ∧ Below w.heap.size w w' := by
  have T := hid hT
  obtain ⟨rfl, -, hle, hat, hsz⟩ := hA
  obtain ⟨rfl, -, hle2, hat2, hsz2⟩ := hC
  have HA := hid hat
  have HC := hid hat2
  have Z1 := hid hsz
  have Z2 := hid hsz2
  have Bx := hid (Below.refl w.heap.size w)
  clear hT hat hat2 hsz hsz2
  cases hb : longB xs [] with
  | true =>
    have HL := hid hb
    clear hb
    go_enter Tryd.func10, Tryd.ntmps10
    go_wp2_with (first
      | (go_at_call 31; refine (longA_any A xs _ c _ rfl none [] 0 0 0 rfl _ (HA.out.below Bx.out) SlAt.nil hle Z1.out (by decide) (by decide)).mono ?_; rintro e w1 ⟨rfl, hq⟩; rw [HL.out]; (have By := hid (quiet_below Bx.out hq)); clear hq Bx; (have Bx := By); clear By)
      | (go_at_call 32; refine (awake3_any _ (Utf8Tabs_below T.out Bx.out)).mono ?_; rintro e w3 ⟨rfl, hb3⟩; (have By := hid (Bx.out.trans (hb3.mono Bx.out.size))); clear hb3 Bx; (have Bx := By); clear By))
    go_ret
    exact ⟨rfl, Bx.out⟩
  | false =>
    have HL := hid hb
    have l1 := (longB_no hb).1
    have l9 : xs.length ≤ 1000000000 := by omega
    clear hb
    cases hb2 : longB ys [] with
    | true =>
      have HL2 := hid hb2
      clear hb2
      go_enter Tryd.func10, Tryd.ntmps10
      go_wp2_with (first
        | (go_at_call 31; (with_reducible refine (longA_any A xs _ c _ rfl none [] 0 0 0 rfl _ (HA.out.below Bx.out) SlAt.nil hle Z1.out (by decide) (by decide)).mono ?_); rintro e w1 ⟨rfl, hq⟩; rw [HL.out]; (have By := hid (quiet_below Bx.out hq)); clear hq Bx; (have Bx := By); clear By)
        | (go_at_call 31; refine (longA_any C ys _ d _ rfl none [] 0 0 0 rfl _ (HC.out.below Bx.out) SlAt.nil hle2 Z2.out (by decide) (by decide)).mono ?_; rintro e w1 ⟨rfl, hq⟩; rw [HL2.out]; (have By := hid (quiet_below Bx.out hq)); clear hq Bx; (have Bx := By); clear By)
        | (go_at_call 32; refine (awake3_any _ (Utf8Tabs_below T.out Bx.out)).mono ?_; rintro e w3 ⟨rfl, hb3⟩; (have By := hid (Bx.out.trans (hb3.mono Bx.out.size))); clear hb3 Bx; (have Bx := By); clear By))
      go_ret
      exact ⟨rfl, Bx.out⟩
    | false =>
      have HL2 := hid hb2
      have l2 := (longB_no hb2).1
      have l99 : ys.length ≤ 1000000000 := by omega
      obtain ⟨r, hr⟩ : ∃ r, decide (xs = ys) = r := ⟨_, rfl⟩
      have HR := hid hr
      have HR2 := hid (show decide (ys = xs) = r from by rw [← hr]; exact decide_eq_decide.2 eq_comm)
      have q1 : (r == r) = true := by simp
      clear hb2 hr
      go_enter Tryd.func10, Tryd.ntmps10
      go_wp2_with (first
        | (go_at_call 31; (with_reducible refine (longA_any A xs _ c _ rfl none [] 0 0 0 rfl _ (HA.out.below Bx.out) SlAt.nil hle Z1.out (by decide) (by decide)).mono ?_); rintro e w1 ⟨rfl, hq⟩; rw [HL.out]; (have By := hid (quiet_below Bx.out hq)); clear hq Bx; (have Bx := By); clear By)
        | (go_at_call 31; refine (longA_any C ys _ d _ rfl none [] 0 0 0 rfl _ (HC.out.below Bx.out) SlAt.nil hle2 Z2.out (by decide) (by decide)).mono ?_; rintro e w1 ⟨rfl, hq⟩; rw [HL2.out]; (have By := hid (quiet_below Bx.out hq)); clear hq Bx; (have Bx := By); clear By)
        | (go_at_call 39; (with_reducible refine (sameA_any A C xs ys _ _ c d _ _ rfl rfl _ (HA.out.below Bx.out) (HC.out.below Bx.out) l9).mono ?_); rintro e w1 ⟨rfl, hq⟩; rw [HR.out]; (have By := hid (quiet_below Bx.out hq)); clear hq Bx; (have Bx := By); clear By)
        | (go_at_call 40; (with_reducible refine (refSameA_any A C xs ys _ _ c d _ _ rfl rfl _ (HA.out.below Bx.out) (HC.out.below Bx.out) l9).mono ?_); rintro e w1 ⟨rfl, hq⟩; rw [HR.out]; (have By := hid (quiet_below Bx.out hq)); clear hq Bx; (have Bx := By); clear By)
        | (go_at_call 39; (with_reducible refine (sameA_any C A ys xs _ _ d c _ _ rfl rfl _ (HC.out.below Bx.out) (HA.out.below Bx.out) l99).mono ?_); rintro e w1 ⟨rfl, hq⟩; rw [HR2.out]; (have By := hid (quiet_below Bx.out hq)); clear hq Bx; (have Bx := By); clear By)
        | (go_at_call 39; (with_reducible refine (sameA_any A A xs xs _ _ c c _ _ rfl rfl _ (HA.out.below Bx.out) (HA.out.below Bx.out) l9).mono ?_); rintro e w1 ⟨rfl, hq⟩; rw [decide_eq_true (rfl : xs = xs)]; (have By := hid (quiet_below Bx.out hq)); clear hq Bx; (have Bx := By); clear By)
        | (go_at_call 32; refine (awake3_any _ (Utf8Tabs_below T.out Bx.out)).mono ?_; rintro e w3 ⟨rfl, hb3⟩; (have By := hid (Bx.out.trans (hb3.mono Bx.out.size))); clear hb3 Bx; (have Bx := By); clear By))
      go_ret
      exact ⟨rfl, Bx.out⟩
end Go.Proofs.YtapjlkiffgfbfaaDoor
