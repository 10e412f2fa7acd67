/- The walk of the law AttrsOnly: it answers true. -/
import Derived.Test.YtapjlkiffgfbfaaDoorAttKeep
namespace Go.Proofs.YtapjlkiffgfbfaaDoor
open Go.RowKit Go.Lib

def OnlyTrue (w : World) (e : Ending) (w' : World) : Prop := e = .returned (.bool true) ∧ Below w.heap.size w w'
theorem inB_two {a b m : ByteArray} : inB [a, b] m = (decide (m = a) || decide (m = b)) := by
  unfold inB
  rw [Bool.eq_iff_iff, containsS_iff]
  simp

set_option maxRecDepth 100000 in
set_option maxHeartbeats 4000000 in
theorem attrsOnly_long (w : World) (A : Option Addr) (c : Nat) (xs : List At) (hat : SlAt encA 2 w w.heap.size A xs) (hle : xs.length ≤ 1000000000000000) (hsz : ∀ x ∈ xs, x.n.size ≤ 1000000000000000 ∧ x.v.size ≤ 1000000000000000) (a b : ByteArray) (z1 : sizesS [a, b] ≤ 4000000000000000000) (hT : Lib.Utf8Tabs 0 1 w) (hl : longB xs [a, b] = true) :
    Calls Tryd.prog 13 #[.slice A xs.length c, .string a, .string b] w (OnlyTrue w) := by
  have T := hid hT
  have HA := hid hat
  have Z := hid hsz
  have L0 := hid (litS2 w a b 9)
  have K := hid ((Kp.start w).alloc (.cells #[.string a, .string b] 9))
  have HL := hid hl
  clear hT hat hsz hl
  go_enter Tryd.func13, Tryd.ntmps13
  go_wp2_with (first
    | (go_at_call 31; refine (longA_any A xs _ c _ rfl (some ⟨w.heap.size, 0, none⟩) [a, b] 2 2 _ rfl _ (HA.out.below K.out.b) L0.out hle Z.out (by simp) z1).mono ?_; rintro e w1 ⟨rfl, hq⟩; rw [HL.out]; (have K2 := hid (K.out.quiet hq)); clear hq K; (have K := K2); clear K2)
    | (go_at_call 32; refine (awake3_any _ (Utf8Tabs_below T.out K.out.b)).mono ?_; rintro e w2 ⟨rfl, hb⟩; (have K2 := hid (K.out.later hb)); clear hb K; (have K := K2); clear K2))
  go_ret
  exact ⟨rfl, K.out.b⟩

set_option maxRecDepth 100000 in
set_option maxHeartbeats 8000000 in
theorem attrsOnly_rest (w : World) (A : Option Addr) (c : Nat) (xs : List At) (hat : SlAt encA 2 w w.heap.size A xs) (hle : xs.length ≤ 1000000000000000) (hsz : ∀ x ∈ xs, x.n.size ≤ 1000000000000000 ∧ x.v.size ≤ 1000000000000000) (a b : ByteArray) (z1 : sizesS [a, b] ≤ 4000000000000000000) (hT : Lib.Utf8Tabs 0 1 w) (hl : longB xs [a, b] = false) :
    Calls Tryd.prog 13 #[.slice A xs.length c, .string a, .string b] w (OnlyTrue w) := by
  have T := hid hT
  have HA := hid hat
  have Z := hid hsz
  have L0 := hid (litS2 w a b 9)
  have K := hid ((Kp.start w).alloc (.cells #[.string a, .string b] 9))
  have HL := hid hl
  obtain ⟨l200, hsm, -⟩ := longB_no hl
  have l9 : xs.length ≤ 1000000000 := by omega
  have SM := hid hsm
  obtain ⟨lo, hlo⟩ : ∃ l, onlyL xs [a, b] = l := ⟨_, rfl⟩
  have OL := hid hlo
  have llo : lo.length ≤ 200 := by rw [← hlo]; have := @onlyL_len xs [a, b]; omega
  obtain ⟨ln, hln⟩ : ∃ l, onlyL xs [] = l := ⟨_, rfl⟩
  have NL := hid hln
  have ln0 : ((ln.length : Int) == 0) = true := by rw [← hln, only_nil]; rfl
  obtain ⟨l1, hl1⟩ : ∃ l, onlyL xs [a] = l := ⟨_, rfl⟩
  have L1 := hid hl1
  have HO := hid (fun h : mayL xs = true => (show l1.length ≤ 1 by rw [← hl1]; exact only_one h))
  obtain ⟨mb, hmb⟩ : ∃ b, mayL xs = b := ⟨_, rfl⟩
  have MB := hid hmb
  clear hT hat hsz hl hsm hlo hln hl1 hmb
  go_enter Tryd.func13, Tryd.ntmps13
  go_wp2_with (first
    | (go_at_call 31; refine (longA_any A xs _ c _ rfl (some ⟨w.heap.size, 0, none⟩) [a, b] 2 2 _ rfl _ (HA.out.below K.out.b) L0.out hle Z.out (by simp) z1).mono ?_; rintro e w1 ⟨rfl, hq⟩; rw [HL.out]; (have K2 := hid ((K.out.quiet hq).alloc (.cells #[.string a, .string b] 9))); clear hq K; (have K := K2); clear K2)
    | (go_at_call 50; refine (only_any A xs _ c _ rfl (some ⟨w1.heap.size, 0, none⟩) [a, b] 2 2 _ rfl _ (HA.out.below K.out.b) (litS2 w1 a b 9) l9 (by simp)).mono ?_; rintro e wc ⟨v5, rfl, ho5, hb5⟩; rw [OL.out] at ho5; obtain ⟨A5, c5, rfl, -, -, -, -⟩ := ho5.form encA_len; (have K2 := hid (K.out.add hb5 ho5)); clear ho5 hb5 K; (have K := K2); clear K2))
  go_loopw [8, 9] (fun kv i wr => ∃ (k : Nat), k ≤ xs.length ∧ i = .int .i64 k ∧ kv = .int .i64 ((onlyL (xs.take k) [a, b]).length : Nat) ∧ ∃ q, wr = wc.drewN q) (fun _ i _ => xs.length - (intOf i).toNat)
  case atStart => exact ⟨0, Nat.zero_le _, rfl, rfl, 0, rfl⟩
  case round =>
    obtain ⟨k, hk, rfl, rfl, q, rfl⟩ := hrel
    have HQ := hid (K.out.quiet ⟨q, rfl⟩)
    by_cases hlt : k < xs.length
    · obtain ⟨ad, x, rfl, -, hx, x0, x1⟩ := (HA.out.below K.out.b).atA hlt
      have hi1 : (k : Int) < (xs.length : Int) := by omega
      obtain ⟨p, hp⟩ : ∃ p, (onlyL (xs.take k) [a, b]).length = p := ⟨_, rfl⟩
      have HP := hid hp
      rw [hp]
      have hmem : inB [a, b] x.n = true → p < lo.length ∧ lo[p]? = some x := fun h => by
        have := only_at hx h
        rw [OL.out, hp] at this
        exact ⟨(List.getElem?_eq_some_iff.1 this).1, this⟩
      have hT : inB [a, b] x.n = true → (onlyL (xs.take (k + 1)) [a, b]).length = p + 1 := fun h => by rw [only_yes hx h, List.length_append, hp]; rfl
      have hF : inB [a, b] x.n = false → (onlyL (xs.take (k + 1)) [a, b]).length = p := fun h => by rw [only_no hx h, hp]
      by_cases ha : x.n = a
      · have hin : inB [a, b] x.n = true := by rw [inB_two, decide_eq_true ha]; rfl
        have qa := str_eq ha
        obtain ⟨p1, hpx⟩ := hmem hin
        have HT := hid (hT hin)
        obtain ⟨ad5, y, rfl, -, hy, y0, y1⟩ := (K.out.sl (A := A5) (n := lo.length) (c := c5) (ys := lo) (by simp)).atA p1
        obtain rfl : x = y := by rw [hpx] at hy; injection hy
        have p2 : ¬ lo.length ≤ p := by omega
        have p6 : decide (lo.length ≤ p) = false := decide_eq_false p2
        have p3 : (p : Int) < (lo.length : Int) := by omega
        have p4 : (0 : Int) ≤ (p : Int) := by omega
        have p5 : (0 : Int) ≤ (k : Int) := by omega
        have qn : (x.n.toList == x.n.toList) = true := by simp
        have qv : (x.v.toList == x.v.toList) = true := by simp
        have qn' : (x.n.toList != x.n.toList) = false := by simp
        have qv' : (x.v.toList != x.v.toList) = false := by simp
        clear hmem hT hF hx hy hpx hin ha hp
        go_wp2_with fail
        go_quiet (fail)
        go_wp2_with fail
        go_roundw
        case rel => exact ⟨k + 1, by omega, by go_num, by rw [HT.out]; go_num, _, by first | rfl | exact World.drewN_drewN _ _ _⟩
        case measure => simp [intOf]; omega
      · by_cases hbb : x.n = b
        · have hin : inB [a, b] x.n = true := by rw [inB_two, decide_eq_true hbb, Bool.or_true]
          have qa := str_ne ha
          have qb := str_eq hbb
          obtain ⟨p1, hpx⟩ := hmem hin
          have HT := hid (hT hin)
          obtain ⟨ad5, y, rfl, -, hy, y0, y1⟩ := (K.out.sl (A := A5) (n := lo.length) (c := c5) (ys := lo) (by simp)).atA p1
          obtain rfl : x = y := by rw [hpx] at hy; injection hy
          have p2 : ¬ lo.length ≤ p := by omega
          have p6 : decide (lo.length ≤ p) = false := decide_eq_false p2
          have p3 : (p : Int) < (lo.length : Int) := by omega
          have p4 : (0 : Int) ≤ (p : Int) := by omega
          have p5 : (0 : Int) ≤ (k : Int) := by omega
          have qn : (x.n.toList == x.n.toList) = true := by simp
          have qv : (x.v.toList == x.v.toList) = true := by simp
          have qn' : (x.n.toList != x.n.toList) = false := by simp
          have qv' : (x.v.toList != x.v.toList) = false := by simp
          clear hmem hT hF hx hy hpx hin ha hp hbb
          go_wp2_with fail
          go_quiet (fail)
          go_wp2_with fail
          go_roundw
          case rel => exact ⟨k + 1, by omega, by go_num, by rw [HT.out]; go_num, _, by first | rfl | exact World.drewN_drewN _ _ _⟩
          case measure => simp [intOf]; omega
        · have hin : inB [a, b] x.n = false := by rw [inB_two, decide_eq_false ha, decide_eq_false hbb]; rfl
          have qa := str_ne ha
          have qb := str_ne hbb
          have HF := hid (hF hin)
          clear hmem hT hF hx hin ha hp hbb
          go_wp2_with fail
          go_roundw
          case rel => exact ⟨k + 1, by omega, by go_num, by rw [HF.out], _, rfl⟩
          case measure => simp [intOf]; omega
    · have hi1 : ¬ ((k : Int) < (xs.length : Int)) := by omega
      have e0 : (onlyL (xs.take k) [a, b]).length = lo.length := by rw [List.take_of_length_le (by omega), OL.out]
      rw [e0]
      have qe : ((lo.length : Int) == (lo.length : Int)) = true := by simp
      clear K e0
      have K := HQ
      clear HQ
      cases mb with
      | false =>
        go_wp2_with (first
          | (go_at_call 50; (with_reducible refine (only_any A xs _ c _ rfl none [] 0 0 0 rfl _ (HA.out.below K.out.b) SlAt.nil l9 (by simp)).mono ?_); rintro e wd ⟨v6, rfl, ho6, hb6⟩; rw [NL.out] at ho6; obtain ⟨A6, c6, rfl, -, -, -, -⟩ := ho6.form encA_len; (have K2 := hid (K.out.add hb6 ho6)); clear ho6 hb6 K; (have K := K2); clear K2)
          | (go_at_call 43; refine (mayA_any A xs _ c _ rfl _ (HA.out.below K.out.b) l9 SM.out (Utf8Tabs_below T.out K.out.b)).mono ?_; rintro e we ⟨rfl, hb⟩; rw [MB.out]; (have K2 := hid (K.out.later hb)); clear hb K; (have K := K2); clear K2)
          | (go_at_call 32; refine (awake3_any _ (Utf8Tabs_below T.out K.out.b)).mono ?_; rintro e w2 ⟨rfl, hb⟩; (have K2 := hid (K.out.later hb)); clear hb K; (have K := K2); clear K2))
        go_ret
        exact ⟨rfl, K.out.b⟩
      | true =>
        have l11 : l1.length ≤ 1 := HO.out MB.out
        have l12 : (l1.length : Int) ≤ 1 := by omega
        clear l11
        go_wp2_with (first
          | (go_at_call 50; (with_reducible refine (only_any A xs _ c _ rfl none [] 0 0 0 rfl _ (HA.out.below K.out.b) SlAt.nil l9 (by simp)).mono ?_); rintro e wd ⟨v6, rfl, ho6, hb6⟩; rw [NL.out] at ho6; obtain ⟨A6, c6, rfl, -, -, -, -⟩ := ho6.form encA_len; (have K2 := hid (K.out.add hb6 ho6)); clear ho6 hb6 K; (have K := K2); clear K2)
          | (go_at_call 43; refine (mayA_any A xs _ c _ rfl _ (HA.out.below K.out.b) l9 SM.out (Utf8Tabs_below T.out K.out.b)).mono ?_; rintro e we ⟨rfl, hb⟩; rw [MB.out]; (have K2 := hid ((K.out.later hb).alloc (.cells #[.string a] 9))); clear hb K; (have K := K2); clear K2)
          | (go_at_call 50; refine (only_any A xs _ c _ rfl (some ⟨we.heap.size, 0, none⟩) [a] 1 1 _ rfl _ (HA.out.below K.out.b) (litS1 we a 9) l9 (by simp)).mono ?_; rintro e wf ⟨v7, rfl, ho7, hb7⟩; rw [L1.out] at ho7; obtain ⟨A7, c7, rfl, -, -, -, -⟩ := ho7.form encA_len; (have K2 := hid (K.out.add hb7 ho7)); clear ho7 hb7 K; (have K := K2); clear K2)
          | (go_at_call 32; refine (awake3_any _ (Utf8Tabs_below T.out K.out.b)).mono ?_; rintro e w2 ⟨rfl, hb⟩; (have K2 := hid (K.out.later hb)); clear hb K; (have K := K2); clear K2))
        go_ret
        exact ⟨rfl, K.out.b⟩

theorem attrsOnly_walk (w : World) {A : Option Addr} {n c : Nat} {xs : List At} (hA : AttrsIn w A n c xs) (a : ByteArray) (h1 : a.size ≤ 1000000000000000) (b : ByteArray) (h2 : b.size ≤ 1000000000000000) (hT : Lib.Utf8Tabs 0 1 w) :
    Calls Tryd.prog 13 #[.slice A n c, .string a, .string b] w fun e w' => e = .returned (.bool true) ∧ Below w.heap.size w w' := by
  obtain ⟨rfl, -, hle, hat, hsz⟩ := hA
  have z1 : sizesS [a, b] ≤ 4000000000000000000 := by unfold sizesS; simp; omega
  show Calls _ _ _ w (OnlyTrue w)
  cases hl : longB xs [a, b] with
  | true => exact attrsOnly_long w A c xs hat hle hsz a b z1 hT hl
  | false => exact attrsOnly_rest w A c xs hat hle hsz a b z1 hT hl
end Go.Proofs.YtapjlkiffgfbfaaDoor
