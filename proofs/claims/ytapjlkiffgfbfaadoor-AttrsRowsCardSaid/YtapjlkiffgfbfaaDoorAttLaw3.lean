/- The walk of the law AttrsRows: it answers true. (Printed by wip/attlaw3.py.) -/
import Derived.Test.YtapjlkiffgfbfaaDoorAttKeep
namespace Go.Proofs.YtapjlkiffgfbfaaDoor
open Go.RowKit Go.Lib

def RowsTrue (w : World) (e : Ending) (w' : World) : Prop := e = .returned (.bool true) ∧ Below w.heap.size w w'
theorem size2 {a b : ByteArray} (h : sizesS [a, b] ≤ 20000) : a.size ≤ 1000000000 ∧ b.size ≤ 1000000000 := by
  unfold sizesS at h; simp at h; omega

set_option maxRecDepth 100000 in
set_option maxHeartbeats 8000000 in
theorem attrsRows_long (w : World) (A : Option Addr) (c : Nat) (xs : List At) (hat : SlAt encA 2 w w.heap.size A xs) (hle : xs.length ≤ 1000000000000000) (hsz : ∀ x ∈ xs, x.n.size ≤ 1000000000000000 ∧ x.v.size ≤ 1000000000000000) (name value : ByteArray) (z1 : sizesS [name, value] ≤ 4000000000000000000) (hT : Lib.Utf8Tabs 0 1 w) (hl : longB xs [name, value] = true) :
    Calls Tryd.prog 12 #[.slice A xs.length c, .string name, .string value] w (RowsTrue w) := by
  have T := hid hT
  have HA := hid hat
  have Z := hid hsz
  have L0 := hid (litS2 w name value 9)
  have K := hid ((Kp.start w).alloc (.cells #[.string name, .string value] 9))
  clear hT hat hsz
  have HL := hid hl
  clear hl
  go_enter Tryd.func12, Tryd.ntmps12
  go_wp2_with (first
    | (go_at_call 31; refine (longA_any A xs _ c _ rfl (some ⟨w.heap.size, 0, none⟩) [name, value] 2 2 _ rfl _ (HA.out.below K.out.b) L0.out hle Z.out (by simp) z1).mono ?_; rintro e w1 ⟨rfl, hq⟩; rw [HL.out]; (have K2 := hid (K.out.quiet hq)); clear hq K; (have K := K2); clear K2)
    | (go_at_call 32; refine (awake3_any _ (Utf8Tabs_below T.out K.out.b)).mono ?_; rintro e w2 ⟨rfl, hb⟩; (have K2 := hid (K.out.later hb)); clear hb K; (have K := K2); clear K2))
  go_ret
  exact ⟨rfl, K.out.b⟩

set_option maxRecDepth 100000 in
set_option maxHeartbeats 8000000 in
theorem attrsRows_rest (w : World) (A : Option Addr) (c : Nat) (xs : List At) (hat : SlAt encA 2 w w.heap.size A xs) (hle : xs.length ≤ 1000000000000000) (hsz : ∀ x ∈ xs, x.n.size ≤ 1000000000000000 ∧ x.v.size ≤ 1000000000000000) (name value : ByteArray) (z1 : sizesS [name, value] ≤ 4000000000000000000) (hT : Lib.Utf8Tabs 0 1 w) (hl : longB xs [name, value] = false) :
    Calls Tryd.prog 12 #[.slice A xs.length c, .string name, .string value] w (RowsTrue w) := by
  have T := hid hT
  have HA := hid hat
  have Z := hid hsz
  have L0 := hid (litS2 w name value 9)
  have K := hid ((Kp.start w).alloc (.cells #[.string name, .string value] 9))
  clear hT hat hsz
  have HL := hid hl
  obtain ⟨l200, hsm, hs3⟩ := longB_no hl
  obtain ⟨hn9, hv9⟩ := size2 hs3
  have l9 : xs.length ≤ 1000000000 := by omega
  have l8 : xs.length ≤ 100000000 := by omega
  have l7 : xs.length ≤ 300000000 := by omega
  have SM := hid hsm
  clear hl hsm hs3
  obtain ⟨la, hla⟩ : ∃ l, putL xs name value = l := ⟨_, rfl⟩
  have PL := hid hla
  have lla : la.length ≤ 1000000000 := by rw [← hla]; have := @putL_len xs name value; omega
  obtain ⟨ld, hld⟩ : ∃ l, dropL xs name = l := ⟨_, rfl⟩
  have DL := hid hld
  have lld : ld.length ≤ 1000000000 := by rw [← hld]; have := @dropL_len xs name; omega
  obtain ⟨lo, hlo⟩ : ∃ l, onlyL xs [name, ⟨#[104, 114, 101, 102]⟩] = l := ⟨_, rfl⟩
  have OL := hid hlo
  have llo : lo.length ≤ 1000000000 := by rw [← hlo]; have := @onlyL_len xs [name, ⟨#[104, 114, 101, 102]⟩]; omega
  obtain ⟨pe, hpe⟩ : ∃ l, putE name value = l := ⟨_, rfl⟩
  have PE := hid hpe
  obtain ⟨de, hde⟩ : ∃ l, dropE xs name = l := ⟨_, rfl⟩
  have DE := hid hde
  obtain ⟨mb, hmb⟩ : ∃ b, mayL xs = b := ⟨_, rfl⟩
  have MB := hid hmb
  have q1 : (mb != mb) = false := by simp
  have q2 : (pe != pe) = false := by simp
  have q3 : (de != de) = false := by simp
  clear hla hld hlo hpe hde hmb
  cases hf : findN xs name with
  | none =>
    have FK := hid (findK_no hf)
    have GV := hid (show getV xs name = ⟨#[]⟩ by unfold getV; rw [hf])
    have GB := hid (show getB xs name = false by unfold getB; rw [hf]; rfl)
    clear hf
    go_enter Tryd.func12, Tryd.ntmps12
    go_wp2_with (first
      | (go_at_call 31; refine (longA_any A xs _ c _ rfl (some ⟨w.heap.size, 0, none⟩) [name, value] 2 2 _ rfl _ (HA.out.below K.out.b) L0.out hle Z.out (by simp) z1).mono ?_; rintro e w1 ⟨rfl, hq⟩; rw [HL.out]; (have K2 := hid (K.out.quiet hq)); clear hq K; (have K := K2); clear K2)
      | (go_at_call 45; refine (refOwnA_any A xs _ c _ rfl _ (HA.out.below K.out.b) l9).mono ?_; rintro e w3 ⟨v0, rfl, ho0, hb0⟩; obtain ⟨A0, c0, rfl, cc0, -, -, -⟩ := ho0.form encA_len; (have K2 := hid (K.out.add hb0 ho0)); clear ho0 hb0 K; (have K := K2); clear K2)
      | (go_at_call 46; refine (refFindA_any _ xs _ c0 _ rfl name _ (K.out.sl (n := xs.length) (c := c0) (by simp)) l9).mono ?_; rintro e w4 ⟨rfl, rfl⟩; rw [FK.out])
      | (go_at_call 42; refine (get_any A xs _ c _ rfl name _ (HA.out.below K.out.b) l9).mono ?_; rintro e w5 ⟨rfl, hb⟩; rw [GV.out, GB.out]; (have K2 := hid (K.out.later hb)); clear hb K; (have K := K2); clear K2)
      | (go_at_call 43; refine (mayA_any A xs _ c _ rfl _ (HA.out.below K.out.b) l9 SM.out (Utf8Tabs_below T.out K.out.b)).mono ?_; rintro e w6 ⟨rfl, hb⟩; rw [MB.out]; (have K2 := hid (K.out.later hb)); clear hb K; (have K := K2); clear K2)
      | (go_at_call 47; refine (refMayA_any _ xs _ c0 _ rfl _ (K.out.sl (n := xs.length) (c := c0) (by simp)) l9 SM.out).mono ?_; rintro e w7 ⟨rfl, hb⟩; rw [MB.out]; (have K2 := hid (K.out.later hb)); clear hb K; (have K := K2); clear K2)
      | (go_at_call 41; refine (put_any A xs _ c _ rfl name value _ (HA.out.below K.out.b) l8 hn9 hv9 (Utf8Tabs_below T.out K.out.b)).mono ?_; rintro e w8 ⟨v1, rfl, ho1, hb1⟩; rw [PL.out] at ho1; rw [PE.out]; obtain ⟨A1, c1, rfl, -, -, -, -⟩ := ho1.form encA_len; (have K2 := hid (K.out.add hb1 ho1)); clear ho1 hb1 K; (have K := K2); clear K2)
      | (go_at_call 48; refine (refPut_any _ xs _ c0 _ rfl name value _ (K.out.sl (n := xs.length) (c := c0) (by simp)) l8 hn9 hv9).mono ?_; rintro e w9 ⟨v2, rfl, ho2, hb2⟩; rw [PL.out] at ho2; rw [PE.out]; obtain ⟨A2, c2, rfl, -, -, -, -⟩ := ho2.form encA_len; (have K2 := hid (K.out.add hb2 ho2)); clear ho2 hb2 K; (have K := K2); clear K2)
      | (go_at_call 44; refine (drop_any A xs _ c _ rfl name _ (HA.out.below K.out.b) l9).mono ?_; rintro e wa ⟨v3, rfl, ho3, hb3⟩; rw [DL.out] at ho3; rw [DE.out]; obtain ⟨A3, c3, rfl, -, -, -, -⟩ := ho3.form encA_len; (have K2 := hid (K.out.add hb3 ho3)); clear ho3 hb3 K; (have K := K2); clear K2)
      | (go_at_call 49; refine (refDrop_any _ xs _ c0 _ rfl name _ (K.out.sl (n := xs.length) (c := c0) (by simp)) l7 cc0).mono ?_; rintro e wb ⟨v4, rfl, ho4, hb4⟩; rw [DL.out] at ho4; rw [DE.out]; obtain ⟨A4, c4, rfl, -, -, -, -⟩ := ho4.form encA_len; (have K2 := hid ((K.out.add hb4 ho4).alloc (.cells #[.string name, .string ⟨#[104, 114, 101, 102]⟩] 9))); clear ho4 hb4 K; (have K := K2); clear K2)
      | (go_at_call 50; refine (only_any A xs _ c _ rfl (some ⟨wb.heap.size, 0, none⟩) [name, ⟨#[104, 114, 101, 102]⟩] 2 2 _ rfl _ (HA.out.below K.out.b) (litS2 wb name ⟨#[104, 114, 101, 102]⟩ 9) l9 (by simp)).mono ?_; rintro e wc ⟨v5, rfl, ho5, hb5⟩; rw [OL.out] at ho5; obtain ⟨A5, c5, rfl, -, -, -, -⟩ := ho5.form encA_len; (have K2 := hid ((K.out.add hb5 ho5).alloc (.cells #[.string name, .string ⟨#[104, 114, 101, 102]⟩] 9))); clear ho5 hb5 K; (have K := K2); clear K2)
      | (go_at_call 51; refine (refOnly_any _ xs _ c0 _ rfl (some ⟨wc.heap.size, 0, none⟩) [name, ⟨#[104, 114, 101, 102]⟩] 2 2 _ rfl _ (K.out.sl (n := xs.length) (c := c0) (by simp)) (litS2 wc name ⟨#[104, 114, 101, 102]⟩ 9) l9 (by simp)).mono ?_; rintro e wd ⟨v6, rfl, ho6, hb6⟩; rw [OL.out] at ho6; obtain ⟨A6, c6, rfl, -, -, -, -⟩ := ho6.form encA_len; (have K2 := hid (K.out.add hb6 ho6)); clear ho6 hb6 K; (have K := K2); clear K2)
      | (go_at_call 40; (with_reducible refine (refSameA_any A1 A2 la la _ _ c1 c2 _ _ rfl rfl _ (K.out.sl (n := la.length) (c := c1) (by simp)) (K.out.sl (n := la.length) (c := c2) (by simp)) lla).mono ?_); rintro e we ⟨rfl, hq⟩; rw [decide_eq_true (rfl : la = la)]; (have K2 := hid (K.out.quiet hq)); clear hq K; (have K := K2); clear K2)
      | (go_at_call 40; (with_reducible refine (refSameA_any A3 A4 ld ld _ _ c3 c4 _ _ rfl rfl _ (K.out.sl (n := ld.length) (c := c3) (by simp)) (K.out.sl (n := ld.length) (c := c4) (by simp)) lld).mono ?_); rintro e we ⟨rfl, hq⟩; rw [decide_eq_true (rfl : ld = ld)]; (have K2 := hid (K.out.quiet hq)); clear hq K; (have K := K2); clear K2)
      | (go_at_call 40; (with_reducible refine (refSameA_any A5 A6 lo lo _ _ c5 c6 _ _ rfl rfl _ (K.out.sl (n := lo.length) (c := c5) (by simp)) (K.out.sl (n := lo.length) (c := c6) (by simp)) llo).mono ?_); rintro e we ⟨rfl, hq⟩; rw [decide_eq_true (rfl : lo = lo)]; (have K2 := hid (K.out.quiet hq)); clear hq K; (have K := K2); clear K2)
      | (go_at_call 52; (with_reducible refine (spoilA_any A1 _ c1 _ la _ (K.out.o (.slice A1 la.length c1, la) (by simp)) rfl lla).mono ?_); rintro e wf ⟨rfl, hg⟩; (have K2 := hid (Kp.spoil (t := (.slice A1 la.length c1, la)) (O1 := [(Value.slice A6 lo.length c6, lo), (Value.slice A5 lo.length c5, lo), (Value.slice A4 ld.length c4, ld), (Value.slice A3 ld.length c3, ld), (Value.slice A2 la.length c2, la)]) (O2 := [(Value.slice A0 xs.length c0, xs)]) K.out hg)); clear hg K; (have K := K2); clear K2)
      | (go_at_call 52; (with_reducible refine (spoilA_any A3 _ c3 _ ld _ (K.out.o (.slice A3 ld.length c3, ld) (by simp)) rfl lld).mono ?_); rintro e wf ⟨rfl, hg⟩; (have K2 := hid (Kp.spoil (t := (.slice A3 ld.length c3, ld)) (O1 := [(Value.slice A6 lo.length c6, lo), (Value.slice A5 lo.length c5, lo), (Value.slice A4 ld.length c4, ld)]) (O2 := [(Value.slice A2 la.length c2, la), (Value.slice A0 xs.length c0, xs)]) K.out hg)); clear hg K; (have K := K2); clear K2)
      | (go_at_call 52; (with_reducible refine (spoilA_any A5 _ c5 _ lo _ (K.out.o (.slice A5 lo.length c5, lo) (by simp)) rfl llo).mono ?_); rintro e wf ⟨rfl, hg⟩; (have K2 := hid (Kp.spoil (t := (.slice A5 lo.length c5, lo)) (O1 := [(Value.slice A6 lo.length c6, lo)]) (O2 := [(Value.slice A4 ld.length c4, ld), (Value.slice A2 la.length c2, la), (Value.slice A0 xs.length c0, xs)]) K.out hg)); clear hg K; (have K := K2); clear K2)
      | (go_at_call 40; (with_reducible refine (refSameA_any A A0 xs xs _ _ c c0 _ _ rfl rfl _ (HA.out.below K.out.b) (K.out.sl (n := xs.length) (c := c0) (by simp)) l9).mono ?_); rintro e we ⟨rfl, hq⟩; rw [decide_eq_true (rfl : xs = xs)]; (have K2 := hid (K.out.quiet hq)); clear hq K; (have K := K2); clear K2)
      | (go_at_call 32; refine (awake3_any _ (Utf8Tabs_below T.out K.out.b)).mono ?_; rintro e w2 ⟨rfl, hb⟩; (have K2 := hid (K.out.later hb)); clear hb K; (have K := K2); clear K2))
    go_ret
    exact ⟨rfl, K.out.b⟩
  | some i =>
    obtain ⟨x, hx, -, -⟩ := findN_spec hf
    have FK := hid (findK_some hf)
    have GV := hid (show getV xs name = x.v by unfold getV; rw [hf]; simp only [hx])
    have GB := hid (show getB xs name = true by unfold getB; rw [hf]; rfl)
    have hlt := findN_lt hf
    have HX := hid hx
    have hi1 : (i : Int) < (xs.length : Int) := by omega
    have hi0 : (0 : Int) ≤ (i : Int) := by omega
    have qx1 : (x.v.toList == x.v.toList) = true := by simp
    have qx2 : (x.v.toList != x.v.toList) = false := by simp
    clear hf hx
    go_enter Tryd.func12, Tryd.ntmps12
    go_wp2_with (first
      | (go_at_call 31; refine (longA_any A xs _ c _ rfl (some ⟨w.heap.size, 0, none⟩) [name, value] 2 2 _ rfl _ (HA.out.below K.out.b) L0.out hle Z.out (by simp) z1).mono ?_; rintro e w1 ⟨rfl, hq⟩; rw [HL.out]; (have K2 := hid (K.out.quiet hq)); clear hq K; (have K := K2); clear K2)
      | (go_at_call 45; refine (refOwnA_any A xs _ c _ rfl _ (HA.out.below K.out.b) l9).mono ?_; rintro e w3 ⟨v0, rfl, ho0, hb0⟩; obtain ⟨A0, c0, rfl, cc0, -, -, -⟩ := ho0.form encA_len; (have K2 := hid (K.out.add hb0 ho0)); clear ho0 hb0 K; (have K := K2); clear K2)
      | (go_at_call 46; refine (refFindA_any _ xs _ c0 _ rfl name _ (K.out.sl (n := xs.length) (c := c0) (by simp)) l9).mono ?_; rintro e w4 ⟨rfl, rfl⟩; rw [FK.out])
      | (go_at_call 42; refine (get_any A xs _ c _ rfl name _ (HA.out.below K.out.b) l9).mono ?_; rintro e w5 ⟨rfl, hb⟩; rw [GV.out, GB.out]; (have K2 := hid (K.out.later hb)); clear hb K; (have K := K2); clear K2)
      | (go_at_call 43; refine (mayA_any A xs _ c _ rfl _ (HA.out.below K.out.b) l9 SM.out (Utf8Tabs_below T.out K.out.b)).mono ?_; rintro e w6 ⟨rfl, hb⟩; rw [MB.out]; (have K2 := hid (K.out.later hb)); clear hb K; (have K := K2); clear K2)
      | (go_at_call 47; refine (refMayA_any _ xs _ c0 _ rfl _ (K.out.sl (n := xs.length) (c := c0) (by simp)) l9 SM.out).mono ?_; rintro e w7 ⟨rfl, hb⟩; rw [MB.out]; (have K2 := hid (K.out.later hb)); clear hb K; (have K := K2); clear K2; obtain ⟨ad, x', rfl, -, hx', x0, x1⟩ := (K.out.sl (A := A0) (n := xs.length) (c := c0) (ys := xs) (by simp)).atA hlt; obtain rfl : x = x' := (by (have := HX.out.symm.trans hx'); injection this); clear hx')
      | (go_at_call 41; refine (put_any A xs _ c _ rfl name value _ (HA.out.below K.out.b) l8 hn9 hv9 (Utf8Tabs_below T.out K.out.b)).mono ?_; rintro e w8 ⟨v1, rfl, ho1, hb1⟩; rw [PL.out] at ho1; rw [PE.out]; obtain ⟨A1, c1, rfl, -, -, -, -⟩ := ho1.form encA_len; (have K2 := hid (K.out.add hb1 ho1)); clear ho1 hb1 K; (have K := K2); clear K2)
      | (go_at_call 48; refine (refPut_any _ xs _ c0 _ rfl name value _ (K.out.sl (n := xs.length) (c := c0) (by simp)) l8 hn9 hv9).mono ?_; rintro e w9 ⟨v2, rfl, ho2, hb2⟩; rw [PL.out] at ho2; rw [PE.out]; obtain ⟨A2, c2, rfl, -, -, -, -⟩ := ho2.form encA_len; (have K2 := hid (K.out.add hb2 ho2)); clear ho2 hb2 K; (have K := K2); clear K2)
      | (go_at_call 44; refine (drop_any A xs _ c _ rfl name _ (HA.out.below K.out.b) l9).mono ?_; rintro e wa ⟨v3, rfl, ho3, hb3⟩; rw [DL.out] at ho3; rw [DE.out]; obtain ⟨A3, c3, rfl, -, -, -, -⟩ := ho3.form encA_len; (have K2 := hid (K.out.add hb3 ho3)); clear ho3 hb3 K; (have K := K2); clear K2)
      | (go_at_call 49; refine (refDrop_any _ xs _ c0 _ rfl name _ (K.out.sl (n := xs.length) (c := c0) (by simp)) l7 cc0).mono ?_; rintro e wb ⟨v4, rfl, ho4, hb4⟩; rw [DL.out] at ho4; rw [DE.out]; obtain ⟨A4, c4, rfl, -, -, -, -⟩ := ho4.form encA_len; (have K2 := hid ((K.out.add hb4 ho4).alloc (.cells #[.string name, .string ⟨#[104, 114, 101, 102]⟩] 9))); clear ho4 hb4 K; (have K := K2); clear K2)
      | (go_at_call 50; refine (only_any A xs _ c _ rfl (some ⟨wb.heap.size, 0, none⟩) [name, ⟨#[104, 114, 101, 102]⟩] 2 2 _ rfl _ (HA.out.below K.out.b) (litS2 wb name ⟨#[104, 114, 101, 102]⟩ 9) l9 (by simp)).mono ?_; rintro e wc ⟨v5, rfl, ho5, hb5⟩; rw [OL.out] at ho5; obtain ⟨A5, c5, rfl, -, -, -, -⟩ := ho5.form encA_len; (have K2 := hid ((K.out.add hb5 ho5).alloc (.cells #[.string name, .string ⟨#[104, 114, 101, 102]⟩] 9))); clear ho5 hb5 K; (have K := K2); clear K2)
      | (go_at_call 51; refine (refOnly_any _ xs _ c0 _ rfl (some ⟨wc.heap.size, 0, none⟩) [name, ⟨#[104, 114, 101, 102]⟩] 2 2 _ rfl _ (K.out.sl (n := xs.length) (c := c0) (by simp)) (litS2 wc name ⟨#[104, 114, 101, 102]⟩ 9) l9 (by simp)).mono ?_; rintro e wd ⟨v6, rfl, ho6, hb6⟩; rw [OL.out] at ho6; obtain ⟨A6, c6, rfl, -, -, -, -⟩ := ho6.form encA_len; (have K2 := hid (K.out.add hb6 ho6)); clear ho6 hb6 K; (have K := K2); clear K2)
      | (go_at_call 40; (with_reducible refine (refSameA_any A1 A2 la la _ _ c1 c2 _ _ rfl rfl _ (K.out.sl (n := la.length) (c := c1) (by simp)) (K.out.sl (n := la.length) (c := c2) (by simp)) lla).mono ?_); rintro e we ⟨rfl, hq⟩; rw [decide_eq_true (rfl : la = la)]; (have K2 := hid (K.out.quiet hq)); clear hq K; (have K := K2); clear K2)
      | (go_at_call 40; (with_reducible refine (refSameA_any A3 A4 ld ld _ _ c3 c4 _ _ rfl rfl _ (K.out.sl (n := ld.length) (c := c3) (by simp)) (K.out.sl (n := ld.length) (c := c4) (by simp)) lld).mono ?_); rintro e we ⟨rfl, hq⟩; rw [decide_eq_true (rfl : ld = ld)]; (have K2 := hid (K.out.quiet hq)); clear hq K; (have K := K2); clear K2)
      | (go_at_call 40; (with_reducible refine (refSameA_any A5 A6 lo lo _ _ c5 c6 _ _ rfl rfl _ (K.out.sl (n := lo.length) (c := c5) (by simp)) (K.out.sl (n := lo.length) (c := c6) (by simp)) llo).mono ?_); rintro e we ⟨rfl, hq⟩; rw [decide_eq_true (rfl : lo = lo)]; (have K2 := hid (K.out.quiet hq)); clear hq K; (have K := K2); clear K2)
      | (go_at_call 52; (with_reducible refine (spoilA_any A1 _ c1 _ la _ (K.out.o (.slice A1 la.length c1, la) (by simp)) rfl lla).mono ?_); rintro e wf ⟨rfl, hg⟩; (have K2 := hid (Kp.spoil (t := (.slice A1 la.length c1, la)) (O1 := [(Value.slice A6 lo.length c6, lo), (Value.slice A5 lo.length c5, lo), (Value.slice A4 ld.length c4, ld), (Value.slice A3 ld.length c3, ld), (Value.slice A2 la.length c2, la)]) (O2 := [(Value.slice (some ad) xs.length c0, xs)]) K.out hg)); clear hg K; (have K := K2); clear K2)
      | (go_at_call 52; (with_reducible refine (spoilA_any A3 _ c3 _ ld _ (K.out.o (.slice A3 ld.length c3, ld) (by simp)) rfl lld).mono ?_); rintro e wf ⟨rfl, hg⟩; (have K2 := hid (Kp.spoil (t := (.slice A3 ld.length c3, ld)) (O1 := [(Value.slice A6 lo.length c6, lo), (Value.slice A5 lo.length c5, lo), (Value.slice A4 ld.length c4, ld)]) (O2 := [(Value.slice A2 la.length c2, la), (Value.slice (some ad) xs.length c0, xs)]) K.out hg)); clear hg K; (have K := K2); clear K2)
      | (go_at_call 52; (with_reducible refine (spoilA_any A5 _ c5 _ lo _ (K.out.o (.slice A5 lo.length c5, lo) (by simp)) rfl llo).mono ?_); rintro e wf ⟨rfl, hg⟩; (have K2 := hid (Kp.spoil (t := (.slice A5 lo.length c5, lo)) (O1 := [(Value.slice A6 lo.length c6, lo)]) (O2 := [(Value.slice A4 ld.length c4, ld), (Value.slice A2 la.length c2, la), (Value.slice (some ad) xs.length c0, xs)]) K.out hg)); clear hg K; (have K := K2); clear K2)
      | (go_at_call 40; (with_reducible refine (refSameA_any A (some ad) xs xs _ _ c c0 _ _ rfl rfl _ (HA.out.below K.out.b) (K.out.sl (n := xs.length) (c := c0) (by simp)) l9).mono ?_); rintro e we ⟨rfl, hq⟩; rw [decide_eq_true (rfl : xs = xs)]; (have K2 := hid (K.out.quiet hq)); clear hq K; (have K := K2); clear K2)
      | (go_at_call 32; refine (awake3_any _ (Utf8Tabs_below T.out K.out.b)).mono ?_; rintro e w2 ⟨rfl, hb⟩; (have K2 := hid (K.out.later hb)); clear hb K; (have K := K2); clear K2))
    go_ret
    exact ⟨rfl, K.out.b⟩

theorem attrsRows_walk (w : World) {A : Option Addr} {n c : Nat} {xs : List At} (hA : AttrsIn w A n c xs) (name : ByteArray) (h1 : name.size ≤ 1000000000000000) (value : ByteArray) (h2 : value.size ≤ 1000000000000000) (hT : Lib.Utf8Tabs 0 1 w) :
    Calls Tryd.prog 12 #[.slice A n c, .string name, .string value] w fun e w' => e = .returned (.bool true) ∧ Below w.heap.size w w' := by
  obtain ⟨rfl, -, hle, hat, hsz⟩ := hA
  have z1 : sizesS [name, value] ≤ 4000000000000000000 := by unfold sizesS; simp; omega
  show Calls _ _ _ w (RowsTrue w)
  cases hl : longB xs [name, value] with
  | true => exact attrsRows_long w A c xs hat hle hsz name value z1 hT hl
  | false => exact attrsRows_rest w A c xs hat hle hsz name value z1 hT hl
end Go.Proofs.YtapjlkiffgfbfaaDoor
