/- The walk of the law AttrsPut: it answers true. (Printed by wip/attlaw2.py.) -/
import Derived.Test.YtapjlkiffgfbfaaDoorAttKeep
namespace Go.Proofs.YtapjlkiffgfbfaaDoor
open Go.RowKit Go.Lib

def AllTrue (w : World) (e : Ending) (w' : World) : Prop := e = .returned (.bool true) ∧ Below w.heap.size w w'
theorem size3 {a b c : ByteArray} (h : sizesS [a, b, c] ≤ 20000) : a.size ≤ 1000000000 ∧ b.size ≤ 1000000000 ∧ c.size ≤ 1000000000 := by
  unfold sizesS at h; simp at h; omega

set_option maxRecDepth 100000 in
set_option maxHeartbeats 4000000 in
theorem attrsPut_long (w : World) (A : Option Addr) (c : Nat) (xs : List At) (hat : SlAt encA 2 w w.heap.size A xs) (hle : xs.length ≤ 1000000000000000) (hsz : ∀ x ∈ xs, x.n.size ≤ 1000000000000000 ∧ x.v.size ≤ 1000000000000000) (name value other : ByteArray) (z1 : sizesS [name, value, other] ≤ 4000000000000000000) (hT : Lib.Utf8Tabs 0 1 w) (hl : longB xs [name, value, other] = true) :
    Calls Tryd.prog 11 #[.slice A xs.length c, .string name, .string value, .string other] w (AllTrue w) := by
  have T := hid hT
  have HA := hid hat
  have Z := hid hsz
  have L0 := hid (litS3 w name value other 9)
  have K := hid ((Kp.start w).alloc (.cells #[.string name, .string value, .string other] 9))
  clear hT hat hsz
  have HL := hid hl
  clear hl
  go_enter Tryd.func11, Tryd.ntmps11
  go_wp2_with (first
    | (go_at_call 31; refine (longA_any A xs _ c _ rfl (some ⟨w.heap.size, 0, none⟩) [name, value, other] 3 3 _ rfl _ (HA.out.below K.out.b) L0.out hle Z.out (by simp) z1).mono ?_; rintro e w1 ⟨rfl, hq⟩; rw [HL.out]; (have K2 := hid (K.out.quiet hq)); clear hq K; (have K := K2); clear K2)
    | (go_at_call 32; refine (awake3_any _ (Utf8Tabs_below T.out K.out.b)).mono ?_; rintro e w2 ⟨rfl, hb⟩; (have K2 := hid (K.out.later hb)); clear hb K; (have K := K2); clear K2))
  go_ret
  exact ⟨rfl, K.out.b⟩

set_option maxRecDepth 100000 in
set_option maxHeartbeats 4000000 in
theorem attrsPut_bad (w : World) (A : Option Addr) (c : Nat) (xs : List At) (hat : SlAt encA 2 w w.heap.size A xs) (hle : xs.length ≤ 1000000000000000) (hsz : ∀ x ∈ xs, x.n.size ≤ 1000000000000000 ∧ x.v.size ≤ 1000000000000000) (name value other : ByteArray) (z1 : sizesS [name, value, other] ≤ 4000000000000000000) (hT : Lib.Utf8Tabs 0 1 w) (hl : longB xs [name, value, other] = false) (hbad : (nameB name.data.toList && valueB value) = false) :
    Calls Tryd.prog 11 #[.slice A xs.length c, .string name, .string value, .string other] w (AllTrue w) := by
  have T := hid hT
  have HA := hid hat
  have Z := hid hsz
  have L0 := hid (litS3 w name value other 9)
  have K := hid ((Kp.start w).alloc (.cells #[.string name, .string value, .string other] 9))
  clear hT hat hsz
  have HL := hid hl
  obtain ⟨l200, hsm, hs3⟩ := longB_no hl
  obtain ⟨hn9, hv9, -⟩ := size3 hs3
  have l9 : xs.length ≤ 1000000000 := by omega
  have l8 : xs.length ≤ 100000000 := by omega
  have SM := hid hsm
  clear hl hsm hs3
  obtain ⟨la, hla⟩ : ∃ l, putL xs name value = l := ⟨_, rfl⟩
  have PL := hid hla
  have lla : la.length ≤ 1000000000 := by rw [← hla]; have := @putL_len xs name value; omega
  have PE := hid (show putE name value = 1 by unfold putE; rw [hbad]; rfl)
  have h0 : ((la.length : Int) == 0) = true := by rw [← hla]; unfold putL; rw [hbad]; rfl
  clear hla
  cases hnb : nameB name.data.toList with
  | false =>
    have NB := hid hnb
    clear hnb hbad
    go_enter Tryd.func11, Tryd.ntmps11
    go_wp2_with (first
      | (go_at_call 31; refine (longA_any A xs _ c _ rfl (some ⟨w.heap.size, 0, none⟩) [name, value, other] 3 3 _ rfl _ (HA.out.below K.out.b) L0.out hle Z.out (by simp) z1).mono ?_; rintro e w1 ⟨rfl, hq⟩; rw [HL.out]; (have K2 := hid (K.out.quiet hq)); clear hq K; (have K := K2); clear K2)
      | (go_at_call 41; refine (put_any A xs _ c _ rfl name value _ (HA.out.below K.out.b) l8 hn9 hv9 (Utf8Tabs_below T.out K.out.b)).mono ?_; rintro e w3 ⟨v1, rfl, ho1, hb1⟩; rw [PL.out] at ho1; rw [PE.out]; obtain ⟨A1, c1, rfl, -, -, -, -⟩ := ho1.form encA_len; (have K2 := hid (K.out.add hb1 ho1)); clear ho1 hb1 K; (have K := K2); clear K2)
      | (go_at_call 33; refine (attName_any _ _ hn9).mono ?_; rintro e w4 ⟨rfl, hb⟩; rw [NB.out]; (have K2 := hid (K.out.later hb)); clear hb K; (have K := K2); clear K2)
      | (go_at_call 32; refine (awake3_any _ (Utf8Tabs_below T.out K.out.b)).mono ?_; rintro e w2 ⟨rfl, hb⟩; (have K2 := hid (K.out.later hb)); clear hb K; (have K := K2); clear K2))
    go_ret
    exact ⟨rfl, K.out.b⟩
  | true =>
    have NB := hid hnb
    have VB := hid (show valueB value = false by rw [hnb] at hbad; simpa using hbad)
    clear hnb hbad
    go_enter Tryd.func11, Tryd.ntmps11
    go_wp2_with (first
      | (go_at_call 31; refine (longA_any A xs _ c _ rfl (some ⟨w.heap.size, 0, none⟩) [name, value, other] 3 3 _ rfl _ (HA.out.below K.out.b) L0.out hle Z.out (by simp) z1).mono ?_; rintro e w1 ⟨rfl, hq⟩; rw [HL.out]; (have K2 := hid (K.out.quiet hq)); clear hq K; (have K := K2); clear K2)
      | (go_at_call 41; refine (put_any A xs _ c _ rfl name value _ (HA.out.below K.out.b) l8 hn9 hv9 (Utf8Tabs_below T.out K.out.b)).mono ?_; rintro e w3 ⟨v1, rfl, ho1, hb1⟩; rw [PL.out] at ho1; rw [PE.out]; obtain ⟨A1, c1, rfl, -, -, -, -⟩ := ho1.form encA_len; (have K2 := hid (K.out.add hb1 ho1)); clear ho1 hb1 K; (have K := K2); clear K2)
      | (go_at_call 33; refine (attName_any _ _ hn9).mono ?_; rintro e w4 ⟨rfl, hb⟩; rw [NB.out]; (have K2 := hid (K.out.later hb)); clear hb K; (have K := K2); clear K2)
      | (go_at_call 35; refine (value_any _ _ hv9 (Utf8Tabs_below T.out K.out.b)).mono ?_; rintro e w4 ⟨rfl, hb⟩; rw [VB.out]; (have K2 := hid (K.out.later hb)); clear hb K; (have K := K2); clear K2)
      | (go_at_call 32; refine (awake3_any _ (Utf8Tabs_below T.out K.out.b)).mono ?_; rintro e w2 ⟨rfl, hb⟩; (have K2 := hid (K.out.later hb)); clear hb K; (have K := K2); clear K2))
    go_ret
    exact ⟨rfl, K.out.b⟩

set_option maxRecDepth 100000 in
set_option maxHeartbeats 4000000 in
theorem attrsPut_ok_same (w : World) (A : Option Addr) (c : Nat) (xs : List At) (hat : SlAt encA 2 w w.heap.size A xs) (hle : xs.length ≤ 1000000000000000) (hsz : ∀ x ∈ xs, x.n.size ≤ 1000000000000000 ∧ x.v.size ≤ 1000000000000000) (name value other : ByteArray) (z1 : sizesS [name, value, other] ≤ 4000000000000000000) (hT : Lib.Utf8Tabs 0 1 w) (hl : longB xs [name, value, other] = false) (ok : okP name value) (heq : other = name) :
    Calls Tryd.prog 11 #[.slice A xs.length c, .string name, .string value, .string other] w (AllTrue w) := by
  have T := hid hT
  have HA := hid hat
  have Z := hid hsz
  have L0 := hid (litS3 w name value other 9)
  have K := hid ((Kp.start w).alloc (.cells #[.string name, .string value, .string other] 9))
  clear hT hat hsz
  have HL := hid hl
  obtain ⟨l200, hsm, hs3⟩ := longB_no hl
  obtain ⟨hn9, hv9, -⟩ := size3 hs3
  have l9 : xs.length ≤ 1000000000 := by omega
  have l8 : xs.length ≤ 100000000 := by omega
  have SM := hid hsm
  clear hl hsm hs3
  obtain ⟨la, hla⟩ : ∃ l, putL xs name value = l := ⟨_, rfl⟩
  have PL := hid hla
  have lla : la.length ≤ 1000000000 := by rw [← hla]; have := @putL_len xs name value; omega
  have PE := hid (show putE name value = 0 by unfold putE; rw [ok.1, ok.2]; rfl)
  have G1v := hid (show getV la name = value by rw [← hla]; exact (put_get ok).1)
  have G1b := hid (show getB la name = true by rw [← hla]; exact (put_get ok).2)
  have SM2 := hid (show Small la by rw [← hla]; exact putL_small SM.out hn9 hv9)
  have HM2 : mayL xs = true → mayL la = true := fun h => by rw [← hla]; exact put_may ok h
  have DE := hid (show dropE la name = 0 by rw [← hla]; exact (put_drop ok).1)
  obtain ⟨ld, hld⟩ : ∃ l, dropL la name = l := ⟨_, rfl⟩
  have DL := hid hld
  have d1 : ld.length = la.length - 1 := by rw [← hld, ← hla]; exact (put_drop ok).2.1
  have d2 : 0 < la.length := by rw [← hla]; exact (put_drop ok).2.2
  have lld : ld.length ≤ 1000000000 := by omega
  have d3 : ((ld.length : Int) != (la.length : Int) - 1) = false := by rw [bne_eq_false_iff_eq]; omega
  clear d1
  have qv1 : (value.toList == value.toList) = true := by simp
  have qv2 : (value.toList != value.toList) = false := by simp
  obtain ⟨mb, hmb⟩ : ∃ b, mayL xs = b := ⟨_, rfl⟩
  have MB := hid hmb
  subst heq
  have qo1 : (other.toList == other.toList) = true := by simp
  have qo2 : (other.toList != other.toList) = false := by simp
  obtain ⟨gw, hgw⟩ : ∃ v, getV xs other = v := ⟨_, rfl⟩
  have G4v := hid hgw
  clear hgw
  cases hf : findN xs other with
  | none =>
    have G4b := hid (show getB xs other = false by unfold getB; rw [hf]; rfl)
    have SX := hid (show decide (ld = xs) = true from decide_eq_true (by rw [← hld, ← hla]; exact put_back ok hf))
    clear hf hla hld
    cases mb with
    | false =>
      clear hmb HM2 ok
      go_enter Tryd.func11, Tryd.ntmps11
      go_wp2_with (first
        | (go_at_call 31; refine (longA_any A xs _ c _ rfl (some ⟨w.heap.size, 0, none⟩) [other, value, other] 3 3 _ rfl _ (HA.out.below K.out.b) L0.out hle Z.out (by simp) z1).mono ?_; rintro e w1 ⟨rfl, hq⟩; rw [HL.out]; (have K2 := hid (K.out.quiet hq)); clear hq K; (have K := K2); clear K2)
        | (go_at_call 41; refine (put_any A xs _ c _ rfl other value _ (HA.out.below K.out.b) l8 hn9 hv9 (Utf8Tabs_below T.out K.out.b)).mono ?_; rintro e w3 ⟨v1, rfl, ho1, hb1⟩; rw [PL.out] at ho1; rw [PE.out]; obtain ⟨A1, c1, rfl, -, -, -, -⟩ := ho1.form encA_len; (have K2 := hid (K.out.add hb1 ho1)); clear ho1 hb1 K; (have K := K2); clear K2)
        | (go_at_call 42; (with_reducible refine (get_any A1 la _ c1 _ rfl other _ (K.out.sl (n := la.length) (c := c1) (by simp)) lla).mono ?_); rintro e w5 ⟨rfl, hb⟩; rw [G1v.out, G1b.out]; (have K2 := hid (K.out.later hb)); clear hb K; (have K := K2); clear K2)
        | (go_at_call 42; (with_reducible refine (get_any A xs _ c _ rfl other _ (HA.out.below K.out.b) l9).mono ?_); rintro e w5 ⟨rfl, hb⟩; rw [G4v.out, G4b.out]; (have K2 := hid (K.out.later hb)); clear hb K; (have K := K2); clear K2)
        | (go_at_call 43; (with_reducible refine (mayA_any A xs _ c _ rfl _ (HA.out.below K.out.b) l9 SM.out (Utf8Tabs_below T.out K.out.b)).mono ?_); rintro e w6 ⟨rfl, hb⟩; rw [MB.out]; (have K2 := hid (K.out.later hb)); clear hb K; (have K := K2); clear K2)
        | (go_at_call 44; refine (drop_any A1 la _ c1 _ rfl other _ (K.out.sl (n := la.length) (c := c1) (by simp)) lla).mono ?_; rintro e w7 ⟨v2, rfl, ho2, hb2⟩; rw [DL.out] at ho2; rw [DE.out]; obtain ⟨A2, c2, rfl, -, -, -, -⟩ := ho2.form encA_len; (have K2 := hid (K.out.add hb2 ho2)); clear ho2 hb2 K; (have K := K2); clear K2)
        | (go_at_call 39; refine (sameA_any A2 A ld xs _ _ c2 c _ _ rfl rfl _ (K.out.sl (n := ld.length) (c := c2) (by simp)) (HA.out.below K.out.b) lld).mono ?_; rintro e w8 ⟨rfl, hq⟩; rw [SX.out]; (have K2 := hid (K.out.quiet hq)); clear hq K; (have K := K2); clear K2)
        | (go_at_call 32; refine (awake3_any _ (Utf8Tabs_below T.out K.out.b)).mono ?_; rintro e w2 ⟨rfl, hb⟩; (have K2 := hid (K.out.later hb)); clear hb K; (have K := K2); clear K2))
      go_ret
      exact ⟨rfl, K.out.b⟩
    | true =>
      have MB2 := hid (HM2 hmb)
      clear hmb HM2 ok
      go_enter Tryd.func11, Tryd.ntmps11
      go_wp2_with (first
        | (go_at_call 31; refine (longA_any A xs _ c _ rfl (some ⟨w.heap.size, 0, none⟩) [other, value, other] 3 3 _ rfl _ (HA.out.below K.out.b) L0.out hle Z.out (by simp) z1).mono ?_; rintro e w1 ⟨rfl, hq⟩; rw [HL.out]; (have K2 := hid (K.out.quiet hq)); clear hq K; (have K := K2); clear K2)
        | (go_at_call 41; refine (put_any A xs _ c _ rfl other value _ (HA.out.below K.out.b) l8 hn9 hv9 (Utf8Tabs_below T.out K.out.b)).mono ?_; rintro e w3 ⟨v1, rfl, ho1, hb1⟩; rw [PL.out] at ho1; rw [PE.out]; obtain ⟨A1, c1, rfl, -, -, -, -⟩ := ho1.form encA_len; (have K2 := hid (K.out.add hb1 ho1)); clear ho1 hb1 K; (have K := K2); clear K2)
        | (go_at_call 42; (with_reducible refine (get_any A1 la _ c1 _ rfl other _ (K.out.sl (n := la.length) (c := c1) (by simp)) lla).mono ?_); rintro e w5 ⟨rfl, hb⟩; rw [G1v.out, G1b.out]; (have K2 := hid (K.out.later hb)); clear hb K; (have K := K2); clear K2)
        | (go_at_call 42; (with_reducible refine (get_any A xs _ c _ rfl other _ (HA.out.below K.out.b) l9).mono ?_); rintro e w5 ⟨rfl, hb⟩; rw [G4v.out, G4b.out]; (have K2 := hid (K.out.later hb)); clear hb K; (have K := K2); clear K2)
        | (go_at_call 43; (with_reducible refine (mayA_any A xs _ c _ rfl _ (HA.out.below K.out.b) l9 SM.out (Utf8Tabs_below T.out K.out.b)).mono ?_); rintro e w6 ⟨rfl, hb⟩; rw [MB.out]; (have K2 := hid (K.out.later hb)); clear hb K; (have K := K2); clear K2)
        | (go_at_call 43; (with_reducible refine (mayA_any A1 la _ c1 _ rfl _ (K.out.sl (n := la.length) (c := c1) (by simp)) lla SM2.out (Utf8Tabs_below T.out K.out.b)).mono ?_); rintro e w6 ⟨rfl, hb⟩; rw [MB2.out]; (have K2 := hid (K.out.later hb)); clear hb K; (have K := K2); clear K2)
        | (go_at_call 44; refine (drop_any A1 la _ c1 _ rfl other _ (K.out.sl (n := la.length) (c := c1) (by simp)) lla).mono ?_; rintro e w7 ⟨v2, rfl, ho2, hb2⟩; rw [DL.out] at ho2; rw [DE.out]; obtain ⟨A2, c2, rfl, -, -, -, -⟩ := ho2.form encA_len; (have K2 := hid (K.out.add hb2 ho2)); clear ho2 hb2 K; (have K := K2); clear K2)
        | (go_at_call 39; refine (sameA_any A2 A ld xs _ _ c2 c _ _ rfl rfl _ (K.out.sl (n := ld.length) (c := c2) (by simp)) (HA.out.below K.out.b) lld).mono ?_; rintro e w8 ⟨rfl, hq⟩; rw [SX.out]; (have K2 := hid (K.out.quiet hq)); clear hq K; (have K := K2); clear K2)
        | (go_at_call 32; refine (awake3_any _ (Utf8Tabs_below T.out K.out.b)).mono ?_; rintro e w2 ⟨rfl, hb⟩; (have K2 := hid (K.out.later hb)); clear hb K; (have K := K2); clear K2))
      go_ret
      exact ⟨rfl, K.out.b⟩
  | some i =>
    have G4b := hid (show getB xs other = true by unfold getB; rw [hf]; rfl)
    have e5 : ((la.length : Int) == (xs.length : Int)) = true := by rw [← hla, putL_some ok hf, List.length_set]; simp
    have e6 : (la.length : Int) = (xs.length : Int) := by simpa using e5
    clear hf hla hld
    cases mb with
    | false =>
      clear hmb HM2 ok
      go_enter Tryd.func11, Tryd.ntmps11
      go_wp2_with (first
        | (go_at_call 31; refine (longA_any A xs _ c _ rfl (some ⟨w.heap.size, 0, none⟩) [other, value, other] 3 3 _ rfl _ (HA.out.below K.out.b) L0.out hle Z.out (by simp) z1).mono ?_; rintro e w1 ⟨rfl, hq⟩; rw [HL.out]; (have K2 := hid (K.out.quiet hq)); clear hq K; (have K := K2); clear K2)
        | (go_at_call 41; refine (put_any A xs _ c _ rfl other value _ (HA.out.below K.out.b) l8 hn9 hv9 (Utf8Tabs_below T.out K.out.b)).mono ?_; rintro e w3 ⟨v1, rfl, ho1, hb1⟩; rw [PL.out] at ho1; rw [PE.out]; obtain ⟨A1, c1, rfl, -, -, -, -⟩ := ho1.form encA_len; (have K2 := hid (K.out.add hb1 ho1)); clear ho1 hb1 K; (have K := K2); clear K2)
        | (go_at_call 42; (with_reducible refine (get_any A1 la _ c1 _ rfl other _ (K.out.sl (n := la.length) (c := c1) (by simp)) lla).mono ?_); rintro e w5 ⟨rfl, hb⟩; rw [G1v.out, G1b.out]; (have K2 := hid (K.out.later hb)); clear hb K; (have K := K2); clear K2)
        | (go_at_call 42; (with_reducible refine (get_any A xs _ c _ rfl other _ (HA.out.below K.out.b) l9).mono ?_); rintro e w5 ⟨rfl, hb⟩; rw [G4v.out, G4b.out]; (have K2 := hid (K.out.later hb)); clear hb K; (have K := K2); clear K2)
        | (go_at_call 43; (with_reducible refine (mayA_any A xs _ c _ rfl _ (HA.out.below K.out.b) l9 SM.out (Utf8Tabs_below T.out K.out.b)).mono ?_); rintro e w6 ⟨rfl, hb⟩; rw [MB.out]; (have K2 := hid (K.out.later hb)); clear hb K; (have K := K2); clear K2)
        | (go_at_call 44; refine (drop_any A1 la _ c1 _ rfl other _ (K.out.sl (n := la.length) (c := c1) (by simp)) lla).mono ?_; rintro e w7 ⟨v2, rfl, ho2, hb2⟩; rw [DL.out] at ho2; rw [DE.out]; obtain ⟨A2, c2, rfl, -, -, -, -⟩ := ho2.form encA_len; (have K2 := hid (K.out.add hb2 ho2)); clear ho2 hb2 K; (have K := K2); clear K2)
        | (go_at_call 32; refine (awake3_any _ (Utf8Tabs_below T.out K.out.b)).mono ?_; rintro e w2 ⟨rfl, hb⟩; (have K2 := hid (K.out.later hb)); clear hb K; (have K := K2); clear K2))
      go_ret
      exact ⟨rfl, K.out.b⟩
    | true =>
      have MB2 := hid (HM2 hmb)
      clear hmb HM2 ok
      go_enter Tryd.func11, Tryd.ntmps11
      go_wp2_with (first
        | (go_at_call 31; refine (longA_any A xs _ c _ rfl (some ⟨w.heap.size, 0, none⟩) [other, value, other] 3 3 _ rfl _ (HA.out.below K.out.b) L0.out hle Z.out (by simp) z1).mono ?_; rintro e w1 ⟨rfl, hq⟩; rw [HL.out]; (have K2 := hid (K.out.quiet hq)); clear hq K; (have K := K2); clear K2)
        | (go_at_call 41; refine (put_any A xs _ c _ rfl other value _ (HA.out.below K.out.b) l8 hn9 hv9 (Utf8Tabs_below T.out K.out.b)).mono ?_; rintro e w3 ⟨v1, rfl, ho1, hb1⟩; rw [PL.out] at ho1; rw [PE.out]; obtain ⟨A1, c1, rfl, -, -, -, -⟩ := ho1.form encA_len; (have K2 := hid (K.out.add hb1 ho1)); clear ho1 hb1 K; (have K := K2); clear K2)
        | (go_at_call 42; (with_reducible refine (get_any A1 la _ c1 _ rfl other _ (K.out.sl (n := la.length) (c := c1) (by simp)) lla).mono ?_); rintro e w5 ⟨rfl, hb⟩; rw [G1v.out, G1b.out]; (have K2 := hid (K.out.later hb)); clear hb K; (have K := K2); clear K2)
        | (go_at_call 42; (with_reducible refine (get_any A xs _ c _ rfl other _ (HA.out.below K.out.b) l9).mono ?_); rintro e w5 ⟨rfl, hb⟩; rw [G4v.out, G4b.out]; (have K2 := hid (K.out.later hb)); clear hb K; (have K := K2); clear K2)
        | (go_at_call 43; (with_reducible refine (mayA_any A xs _ c _ rfl _ (HA.out.below K.out.b) l9 SM.out (Utf8Tabs_below T.out K.out.b)).mono ?_); rintro e w6 ⟨rfl, hb⟩; rw [MB.out]; (have K2 := hid (K.out.later hb)); clear hb K; (have K := K2); clear K2)
        | (go_at_call 43; (with_reducible refine (mayA_any A1 la _ c1 _ rfl _ (K.out.sl (n := la.length) (c := c1) (by simp)) lla SM2.out (Utf8Tabs_below T.out K.out.b)).mono ?_); rintro e w6 ⟨rfl, hb⟩; rw [MB2.out]; (have K2 := hid (K.out.later hb)); clear hb K; (have K := K2); clear K2)
        | (go_at_call 44; refine (drop_any A1 la _ c1 _ rfl other _ (K.out.sl (n := la.length) (c := c1) (by simp)) lla).mono ?_; rintro e w7 ⟨v2, rfl, ho2, hb2⟩; rw [DL.out] at ho2; rw [DE.out]; obtain ⟨A2, c2, rfl, -, -, -, -⟩ := ho2.form encA_len; (have K2 := hid (K.out.add hb2 ho2)); clear ho2 hb2 K; (have K := K2); clear K2)
        | (go_at_call 32; refine (awake3_any _ (Utf8Tabs_below T.out K.out.b)).mono ?_; rintro e w2 ⟨rfl, hb⟩; (have K2 := hid (K.out.later hb)); clear hb K; (have K := K2); clear K2))
      go_ret
      exact ⟨rfl, K.out.b⟩

set_option maxRecDepth 100000 in
set_option maxHeartbeats 4000000 in
theorem attrsPut_ok_else (w : World) (A : Option Addr) (c : Nat) (xs : List At) (hat : SlAt encA 2 w w.heap.size A xs) (hle : xs.length ≤ 1000000000000000) (hsz : ∀ x ∈ xs, x.n.size ≤ 1000000000000000 ∧ x.v.size ≤ 1000000000000000) (name value other : ByteArray) (z1 : sizesS [name, value, other] ≤ 4000000000000000000) (hT : Lib.Utf8Tabs 0 1 w) (hl : longB xs [name, value, other] = false) (ok : okP name value) (hne : other ≠ name) :
    Calls Tryd.prog 11 #[.slice A xs.length c, .string name, .string value, .string other] w (AllTrue w) := by
  have T := hid hT
  have HA := hid hat
  have Z := hid hsz
  have L0 := hid (litS3 w name value other 9)
  have K := hid ((Kp.start w).alloc (.cells #[.string name, .string value, .string other] 9))
  clear hT hat hsz
  have HL := hid hl
  obtain ⟨l200, hsm, hs3⟩ := longB_no hl
  obtain ⟨hn9, hv9, -⟩ := size3 hs3
  have l9 : xs.length ≤ 1000000000 := by omega
  have l8 : xs.length ≤ 100000000 := by omega
  have SM := hid hsm
  clear hl hsm hs3
  obtain ⟨la, hla⟩ : ∃ l, putL xs name value = l := ⟨_, rfl⟩
  have PL := hid hla
  have lla : la.length ≤ 1000000000 := by rw [← hla]; have := @putL_len xs name value; omega
  have PE := hid (show putE name value = 0 by unfold putE; rw [ok.1, ok.2]; rfl)
  have G1v := hid (show getV la name = value by rw [← hla]; exact (put_get ok).1)
  have G1b := hid (show getB la name = true by rw [← hla]; exact (put_get ok).2)
  have SM2 := hid (show Small la by rw [← hla]; exact putL_small SM.out hn9 hv9)
  have HM2 : mayL xs = true → mayL la = true := fun h => by rw [← hla]; exact put_may ok h
  have DE := hid (show dropE la name = 0 by rw [← hla]; exact (put_drop ok).1)
  obtain ⟨ld, hld⟩ : ∃ l, dropL la name = l := ⟨_, rfl⟩
  have DL := hid hld
  have d1 : ld.length = la.length - 1 := by rw [← hld, ← hla]; exact (put_drop ok).2.1
  have d2 : 0 < la.length := by rw [← hla]; exact (put_drop ok).2.2
  have lld : ld.length ≤ 1000000000 := by omega
  have d3 : ((ld.length : Int) != (la.length : Int) - 1) = false := by rw [bne_eq_false_iff_eq]; omega
  clear d1
  have qv1 : (value.toList == value.toList) = true := by simp
  have qv2 : (value.toList != value.toList) = false := by simp
  obtain ⟨mb, hmb⟩ : ∃ b, mayL xs = b := ⟨_, rfl⟩
  have MB := hid hmb
  have qo1 : (other.toList == name.toList) = false := str_ne hne
  have qo2 : (other.toList != name.toList) = true := by unfold bne; rw [qo1]; rfl
  obtain ⟨ga, hga⟩ : ∃ v, getV xs other = v := ⟨_, rfl⟩
  obtain ⟨gb, hgb⟩ : ∃ v, getB xs other = v := ⟨_, rfl⟩
  have G2v := hid hga
  have G2b := hid hgb
  have G3v := hid (show getV la other = ga by rw [← hla, ← hga]; exact (put_other ok hne).1)
  have G3b := hid (show getB la other = gb by rw [← hla, ← hgb]; exact (put_other ok hne).2)
  have qa1 : (ga.toList == ga.toList) = true := by simp
  have qa2 : (ga.toList != ga.toList) = false := by simp
  have qb1 : (gb == gb) = true := by simp
  have qb2 : (gb != gb) = false := by simp
  clear hga hgb hne
  obtain ⟨gw, hgw⟩ : ∃ v, getV xs name = v := ⟨_, rfl⟩
  have G4v := hid hgw
  clear hgw
  cases hf : findN xs name with
  | none =>
    have G4b := hid (show getB xs name = false by unfold getB; rw [hf]; rfl)
    have SX := hid (show decide (ld = xs) = true from decide_eq_true (by rw [← hld, ← hla]; exact put_back ok hf))
    clear hf hla hld
    cases mb with
    | false =>
      clear hmb HM2 ok
      go_enter Tryd.func11, Tryd.ntmps11
      go_wp2_with (first
        | (go_at_call 31; refine (longA_any A xs _ c _ rfl (some ⟨w.heap.size, 0, none⟩) [name, value, other] 3 3 _ rfl _ (HA.out.below K.out.b) L0.out hle Z.out (by simp) z1).mono ?_; rintro e w1 ⟨rfl, hq⟩; rw [HL.out]; (have K2 := hid (K.out.quiet hq)); clear hq K; (have K := K2); clear K2)
        | (go_at_call 41; refine (put_any A xs _ c _ rfl name value _ (HA.out.below K.out.b) l8 hn9 hv9 (Utf8Tabs_below T.out K.out.b)).mono ?_; rintro e w3 ⟨v1, rfl, ho1, hb1⟩; rw [PL.out] at ho1; rw [PE.out]; obtain ⟨A1, c1, rfl, -, -, -, -⟩ := ho1.form encA_len; (have K2 := hid (K.out.add hb1 ho1)); clear ho1 hb1 K; (have K := K2); clear K2)
        | (go_at_call 42; (with_reducible refine (get_any A1 la _ c1 _ rfl name _ (K.out.sl (n := la.length) (c := c1) (by simp)) lla).mono ?_); rintro e w5 ⟨rfl, hb⟩; rw [G1v.out, G1b.out]; (have K2 := hid (K.out.later hb)); clear hb K; (have K := K2); clear K2)
        | (go_at_call 42; (with_reducible refine (get_any A xs _ c _ rfl name _ (HA.out.below K.out.b) l9).mono ?_); rintro e w5 ⟨rfl, hb⟩; rw [G4v.out, G4b.out]; (have K2 := hid (K.out.later hb)); clear hb K; (have K := K2); clear K2)
        | (go_at_call 42; (with_reducible refine (get_any A xs _ c _ rfl other _ (HA.out.below K.out.b) l9).mono ?_); rintro e w5 ⟨rfl, hb⟩; rw [G2v.out, G2b.out]; (have K2 := hid (K.out.later hb)); clear hb K; (have K := K2); clear K2)
        | (go_at_call 42; (with_reducible refine (get_any A1 la _ c1 _ rfl other _ (K.out.sl (n := la.length) (c := c1) (by simp)) lla).mono ?_); rintro e w5 ⟨rfl, hb⟩; rw [G3v.out, G3b.out]; (have K2 := hid (K.out.later hb)); clear hb K; (have K := K2); clear K2)
        | (go_at_call 43; (with_reducible refine (mayA_any A xs _ c _ rfl _ (HA.out.below K.out.b) l9 SM.out (Utf8Tabs_below T.out K.out.b)).mono ?_); rintro e w6 ⟨rfl, hb⟩; rw [MB.out]; (have K2 := hid (K.out.later hb)); clear hb K; (have K := K2); clear K2)
        | (go_at_call 44; refine (drop_any A1 la _ c1 _ rfl name _ (K.out.sl (n := la.length) (c := c1) (by simp)) lla).mono ?_; rintro e w7 ⟨v2, rfl, ho2, hb2⟩; rw [DL.out] at ho2; rw [DE.out]; obtain ⟨A2, c2, rfl, -, -, -, -⟩ := ho2.form encA_len; (have K2 := hid (K.out.add hb2 ho2)); clear ho2 hb2 K; (have K := K2); clear K2)
        | (go_at_call 39; refine (sameA_any A2 A ld xs _ _ c2 c _ _ rfl rfl _ (K.out.sl (n := ld.length) (c := c2) (by simp)) (HA.out.below K.out.b) lld).mono ?_; rintro e w8 ⟨rfl, hq⟩; rw [SX.out]; (have K2 := hid (K.out.quiet hq)); clear hq K; (have K := K2); clear K2)
        | (go_at_call 32; refine (awake3_any _ (Utf8Tabs_below T.out K.out.b)).mono ?_; rintro e w2 ⟨rfl, hb⟩; (have K2 := hid (K.out.later hb)); clear hb K; (have K := K2); clear K2))
      go_ret
      exact ⟨rfl, K.out.b⟩
    | true =>
      have MB2 := hid (HM2 hmb)
      clear hmb HM2 ok
      go_enter Tryd.func11, Tryd.ntmps11
      go_wp2_with (first
        | (go_at_call 31; refine (longA_any A xs _ c _ rfl (some ⟨w.heap.size, 0, none⟩) [name, value, other] 3 3 _ rfl _ (HA.out.below K.out.b) L0.out hle Z.out (by simp) z1).mono ?_; rintro e w1 ⟨rfl, hq⟩; rw [HL.out]; (have K2 := hid (K.out.quiet hq)); clear hq K; (have K := K2); clear K2)
        | (go_at_call 41; refine (put_any A xs _ c _ rfl name value _ (HA.out.below K.out.b) l8 hn9 hv9 (Utf8Tabs_below T.out K.out.b)).mono ?_; rintro e w3 ⟨v1, rfl, ho1, hb1⟩; rw [PL.out] at ho1; rw [PE.out]; obtain ⟨A1, c1, rfl, -, -, -, -⟩ := ho1.form encA_len; (have K2 := hid (K.out.add hb1 ho1)); clear ho1 hb1 K; (have K := K2); clear K2)
        | (go_at_call 42; (with_reducible refine (get_any A1 la _ c1 _ rfl name _ (K.out.sl (n := la.length) (c := c1) (by simp)) lla).mono ?_); rintro e w5 ⟨rfl, hb⟩; rw [G1v.out, G1b.out]; (have K2 := hid (K.out.later hb)); clear hb K; (have K := K2); clear K2)
        | (go_at_call 42; (with_reducible refine (get_any A xs _ c _ rfl name _ (HA.out.below K.out.b) l9).mono ?_); rintro e w5 ⟨rfl, hb⟩; rw [G4v.out, G4b.out]; (have K2 := hid (K.out.later hb)); clear hb K; (have K := K2); clear K2)
        | (go_at_call 42; (with_reducible refine (get_any A xs _ c _ rfl other _ (HA.out.below K.out.b) l9).mono ?_); rintro e w5 ⟨rfl, hb⟩; rw [G2v.out, G2b.out]; (have K2 := hid (K.out.later hb)); clear hb K; (have K := K2); clear K2)
        | (go_at_call 42; (with_reducible refine (get_any A1 la _ c1 _ rfl other _ (K.out.sl (n := la.length) (c := c1) (by simp)) lla).mono ?_); rintro e w5 ⟨rfl, hb⟩; rw [G3v.out, G3b.out]; (have K2 := hid (K.out.later hb)); clear hb K; (have K := K2); clear K2)
        | (go_at_call 43; (with_reducible refine (mayA_any A xs _ c _ rfl _ (HA.out.below K.out.b) l9 SM.out (Utf8Tabs_below T.out K.out.b)).mono ?_); rintro e w6 ⟨rfl, hb⟩; rw [MB.out]; (have K2 := hid (K.out.later hb)); clear hb K; (have K := K2); clear K2)
        | (go_at_call 43; (with_reducible refine (mayA_any A1 la _ c1 _ rfl _ (K.out.sl (n := la.length) (c := c1) (by simp)) lla SM2.out (Utf8Tabs_below T.out K.out.b)).mono ?_); rintro e w6 ⟨rfl, hb⟩; rw [MB2.out]; (have K2 := hid (K.out.later hb)); clear hb K; (have K := K2); clear K2)
        | (go_at_call 44; refine (drop_any A1 la _ c1 _ rfl name _ (K.out.sl (n := la.length) (c := c1) (by simp)) lla).mono ?_; rintro e w7 ⟨v2, rfl, ho2, hb2⟩; rw [DL.out] at ho2; rw [DE.out]; obtain ⟨A2, c2, rfl, -, -, -, -⟩ := ho2.form encA_len; (have K2 := hid (K.out.add hb2 ho2)); clear ho2 hb2 K; (have K := K2); clear K2)
        | (go_at_call 39; refine (sameA_any A2 A ld xs _ _ c2 c _ _ rfl rfl _ (K.out.sl (n := ld.length) (c := c2) (by simp)) (HA.out.below K.out.b) lld).mono ?_; rintro e w8 ⟨rfl, hq⟩; rw [SX.out]; (have K2 := hid (K.out.quiet hq)); clear hq K; (have K := K2); clear K2)
        | (go_at_call 32; refine (awake3_any _ (Utf8Tabs_below T.out K.out.b)).mono ?_; rintro e w2 ⟨rfl, hb⟩; (have K2 := hid (K.out.later hb)); clear hb K; (have K := K2); clear K2))
      go_ret
      exact ⟨rfl, K.out.b⟩
  | some i =>
    have G4b := hid (show getB xs name = true by unfold getB; rw [hf]; rfl)
    have e5 : ((la.length : Int) == (xs.length : Int)) = true := by rw [← hla, putL_some ok hf, List.length_set]; simp
    have e6 : (la.length : Int) = (xs.length : Int) := by simpa using e5
    clear hf hla hld
    cases mb with
    | false =>
      clear hmb HM2 ok
      go_enter Tryd.func11, Tryd.ntmps11
      go_wp2_with (first
        | (go_at_call 31; refine (longA_any A xs _ c _ rfl (some ⟨w.heap.size, 0, none⟩) [name, value, other] 3 3 _ rfl _ (HA.out.below K.out.b) L0.out hle Z.out (by simp) z1).mono ?_; rintro e w1 ⟨rfl, hq⟩; rw [HL.out]; (have K2 := hid (K.out.quiet hq)); clear hq K; (have K := K2); clear K2)
        | (go_at_call 41; refine (put_any A xs _ c _ rfl name value _ (HA.out.below K.out.b) l8 hn9 hv9 (Utf8Tabs_below T.out K.out.b)).mono ?_; rintro e w3 ⟨v1, rfl, ho1, hb1⟩; rw [PL.out] at ho1; rw [PE.out]; obtain ⟨A1, c1, rfl, -, -, -, -⟩ := ho1.form encA_len; (have K2 := hid (K.out.add hb1 ho1)); clear ho1 hb1 K; (have K := K2); clear K2)
        | (go_at_call 42; (with_reducible refine (get_any A1 la _ c1 _ rfl name _ (K.out.sl (n := la.length) (c := c1) (by simp)) lla).mono ?_); rintro e w5 ⟨rfl, hb⟩; rw [G1v.out, G1b.out]; (have K2 := hid (K.out.later hb)); clear hb K; (have K := K2); clear K2)
        | (go_at_call 42; (with_reducible refine (get_any A xs _ c _ rfl name _ (HA.out.below K.out.b) l9).mono ?_); rintro e w5 ⟨rfl, hb⟩; rw [G4v.out, G4b.out]; (have K2 := hid (K.out.later hb)); clear hb K; (have K := K2); clear K2)
        | (go_at_call 42; (with_reducible refine (get_any A xs _ c _ rfl other _ (HA.out.below K.out.b) l9).mono ?_); rintro e w5 ⟨rfl, hb⟩; rw [G2v.out, G2b.out]; (have K2 := hid (K.out.later hb)); clear hb K; (have K := K2); clear K2)
        | (go_at_call 42; (with_reducible refine (get_any A1 la _ c1 _ rfl other _ (K.out.sl (n := la.length) (c := c1) (by simp)) lla).mono ?_); rintro e w5 ⟨rfl, hb⟩; rw [G3v.out, G3b.out]; (have K2 := hid (K.out.later hb)); clear hb K; (have K := K2); clear K2)
        | (go_at_call 43; (with_reducible refine (mayA_any A xs _ c _ rfl _ (HA.out.below K.out.b) l9 SM.out (Utf8Tabs_below T.out K.out.b)).mono ?_); rintro e w6 ⟨rfl, hb⟩; rw [MB.out]; (have K2 := hid (K.out.later hb)); clear hb K; (have K := K2); clear K2)
        | (go_at_call 44; refine (drop_any A1 la _ c1 _ rfl name _ (K.out.sl (n := la.length) (c := c1) (by simp)) lla).mono ?_; rintro e w7 ⟨v2, rfl, ho2, hb2⟩; rw [DL.out] at ho2; rw [DE.out]; obtain ⟨A2, c2, rfl, -, -, -, -⟩ := ho2.form encA_len; (have K2 := hid (K.out.add hb2 ho2)); clear ho2 hb2 K; (have K := K2); clear K2)
        | (go_at_call 32; refine (awake3_any _ (Utf8Tabs_below T.out K.out.b)).mono ?_; rintro e w2 ⟨rfl, hb⟩; (have K2 := hid (K.out.later hb)); clear hb K; (have K := K2); clear K2))
      go_ret
      exact ⟨rfl, K.out.b⟩
    | true =>
      have MB2 := hid (HM2 hmb)
      clear hmb HM2 ok
      go_enter Tryd.func11, Tryd.ntmps11
      go_wp2_with (first
        | (go_at_call 31; refine (longA_any A xs _ c _ rfl (some ⟨w.heap.size, 0, none⟩) [name, value, other] 3 3 _ rfl _ (HA.out.below K.out.b) L0.out hle Z.out (by simp) z1).mono ?_; rintro e w1 ⟨rfl, hq⟩; rw [HL.out]; (have K2 := hid (K.out.quiet hq)); clear hq K; (have K := K2); clear K2)
        | (go_at_call 41; refine (put_any A xs _ c _ rfl name value _ (HA.out.below K.out.b) l8 hn9 hv9 (Utf8Tabs_below T.out K.out.b)).mono ?_; rintro e w3 ⟨v1, rfl, ho1, hb1⟩; rw [PL.out] at ho1; rw [PE.out]; obtain ⟨A1, c1, rfl, -, -, -, -⟩ := ho1.form encA_len; (have K2 := hid (K.out.add hb1 ho1)); clear ho1 hb1 K; (have K := K2); clear K2)
        | (go_at_call 42; (with_reducible refine (get_any A1 la _ c1 _ rfl name _ (K.out.sl (n := la.length) (c := c1) (by simp)) lla).mono ?_); rintro e w5 ⟨rfl, hb⟩; rw [G1v.out, G1b.out]; (have K2 := hid (K.out.later hb)); clear hb K; (have K := K2); clear K2)
        | (go_at_call 42; (with_reducible refine (get_any A xs _ c _ rfl name _ (HA.out.below K.out.b) l9).mono ?_); rintro e w5 ⟨rfl, hb⟩; rw [G4v.out, G4b.out]; (have K2 := hid (K.out.later hb)); clear hb K; (have K := K2); clear K2)
        | (go_at_call 42; (with_reducible refine (get_any A xs _ c _ rfl other _ (HA.out.below K.out.b) l9).mono ?_); rintro e w5 ⟨rfl, hb⟩; rw [G2v.out, G2b.out]; (have K2 := hid (K.out.later hb)); clear hb K; (have K := K2); clear K2)
        | (go_at_call 42; (with_reducible refine (get_any A1 la _ c1 _ rfl other _ (K.out.sl (n := la.length) (c := c1) (by simp)) lla).mono ?_); rintro e w5 ⟨rfl, hb⟩; rw [G3v.out, G3b.out]; (have K2 := hid (K.out.later hb)); clear hb K; (have K := K2); clear K2)
        | (go_at_call 43; (with_reducible refine (mayA_any A xs _ c _ rfl _ (HA.out.below K.out.b) l9 SM.out (Utf8Tabs_below T.out K.out.b)).mono ?_); rintro e w6 ⟨rfl, hb⟩; rw [MB.out]; (have K2 := hid (K.out.later hb)); clear hb K; (have K := K2); clear K2)
        | (go_at_call 43; (with_reducible refine (mayA_any A1 la _ c1 _ rfl _ (K.out.sl (n := la.length) (c := c1) (by simp)) lla SM2.out (Utf8Tabs_below T.out K.out.b)).mono ?_); rintro e w6 ⟨rfl, hb⟩; rw [MB2.out]; (have K2 := hid (K.out.later hb)); clear hb K; (have K := K2); clear K2)
        | (go_at_call 44; refine (drop_any A1 la _ c1 _ rfl name _ (K.out.sl (n := la.length) (c := c1) (by simp)) lla).mono ?_; rintro e w7 ⟨v2, rfl, ho2, hb2⟩; rw [DL.out] at ho2; rw [DE.out]; obtain ⟨A2, c2, rfl, -, -, -, -⟩ := ho2.form encA_len; (have K2 := hid (K.out.add hb2 ho2)); clear ho2 hb2 K; (have K := K2); clear K2)
        | (go_at_call 32; refine (awake3_any _ (Utf8Tabs_below T.out K.out.b)).mono ?_; rintro e w2 ⟨rfl, hb⟩; (have K2 := hid (K.out.later hb)); clear hb K; (have K := K2); clear K2))
      go_ret
      exact ⟨rfl, K.out.b⟩

theorem attrsPut_walk (w : World) {A : Option Addr} {n c : Nat} {xs : List At} (hA : AttrsIn w A n c xs) (name : ByteArray) (h1 : name.size ≤ 1000000000000000) (value : ByteArray) (h2 : value.size ≤ 1000000000000000) (other : ByteArray) (h3 : other.size ≤ 1000000000000000) (hT : Lib.Utf8Tabs 0 1 w) :
    Calls Tryd.prog 11 #[.slice A n c, .string name, .string value, .string other] w fun e w' => e = .returned (.bool true) ∧ Below w.heap.size w w' := by
  obtain ⟨rfl, -, hle, hat, hsz⟩ := hA
  have z1 : sizesS [name, value, other] ≤ 4000000000000000000 := by unfold sizesS; simp; omega
  show Calls _ _ _ w (AllTrue w)
  cases hl : longB xs [name, value, other] with
  | true => exact attrsPut_long w A c xs hat hle hsz name value other z1 hT hl
  | false =>
    cases hb : (nameB name.data.toList && valueB value) with
    | false => exact attrsPut_bad w A c xs hat hle hsz name value other z1 hT hl hb
    | true =>
      have ok : okP name value := by unfold okP; simpa using hb
      by_cases he : other = name
      · exact attrsPut_ok_same w A c xs hat hle hsz name value other z1 hT hl ok he
      · exact attrsPut_ok_else w A c xs hat hle hsz name value other z1 hT hl ok he
end Go.Proofs.YtapjlkiffgfbfaaDoor
