/- The walk of the law CellsSets: it answers true. (Printed by wip/cellsets.py.) -/
import Derived.Test.YtgpccjmkghpiiaaDoorCellSets
namespace Go.Proofs.YtgpccjmkghpiiaaDoor
open Go.RowKit Go.Lib

set_option maxRecDepth 100000 in
set_option maxHeartbeats 8000000 in
theorem cellsSets_walk (w : World) {A : Option Addr} {n c : Nat} {cs : List Cl} (hA : CellsIn w A n cs) (hc : n ≤ c) (f : Int) (_ : (Lit.int .i64 f).wf = true) (t : Int) (_ : (Lit.int .i64 t).wf = true) (s : Int) (_ : (Lit.int .i64 s).wf = true) (cl : Int) (_ : (Lit.int .i64 cl).wf = true) (h : ByteArray) (_ : h.size ≤ maxLen) (hT : Lib.Utf8Tabs 0 1 w) :
    Calls Tryd.prog 3 #[.slice A n c, .int .i64 f, .int .i64 t, .int .i64 s, .int .i64 cl, .string h] w fun e w' => e = .returned (.bool true) ∧ Below w.heap.size w w' := by
  have T := hid hT
  obtain ⟨rfl, hle, hat, hwf, hsz⟩ := hA
  have HA := hid hat
  have Z := hid hsz
  have K := hid (KpC.start w)
  clear hT hat hsz hwf
  cases hb : decide (20000 < heft cs) with
  | true =>
    have HL := hid hb
    clear hb
    go_enter Tryd.func3, Tryd.ntmps3
    go_wp2_with (first
      | (go_at_call 6; refine (long_any A cs _ c _ rfl _ HA.out hle Z.out).mono ?_; rintro e w1 ⟨rfl, rfl⟩; rw [HL.out])
      | (go_at_call 7; refine (awake5_any _).mono ?_; rintro e w3 ⟨rfl, hb⟩; (have K2 := hid (K.out.later hb)); clear hb K; (have K := K2); clear K2))
    go_ret
    exact ⟨rfl, K.out.b⟩
  | false =>
    have HL := hid hb
    have l9 : cs.length ≤ 1000000000 := by have := of_decide_eq_false hb; have := @heft_len cs; omega
    clear hb
    by_cases h1 : 1000 < h.size
    · have h1' : 1000 < (h.size : Int) := by omega
      go_enter Tryd.func3, Tryd.ntmps3
      go_wp2_with (first
        | (go_at_call 6; refine (long_any A cs _ c _ rfl _ HA.out hle Z.out).mono ?_; rintro e w1 ⟨rfl, rfl⟩; rw [HL.out])
        | (go_at_call 7; refine (awake5_any _).mono ?_; rintro e w3 ⟨rfl, hb⟩; (have K2 := hid (K.out.later hb)); clear hb K; (have K := K2); clear K2))
      go_ret
      exact ⟨rfl, K.out.b⟩
    · have h1' : ¬ 1000 < (h.size : Int) := by omega
      have h9 : h.size ≤ 1000000000 := by omega
      obtain ⟨ls, hls⟩ : ∃ l, setL s cl f t cs = l := ⟨_, rfl⟩
      have SL := hid hls
      have lls : ls.length ≤ 1000000000 := by rw [← hls]; have := @setL_len s cl f t cs; omega
      obtain ⟨lk, hlk⟩ : ∃ l, linkL h f t cs = l := ⟨_, rfl⟩
      have LL := hid hlk
      have llk : lk.length ≤ 1000000000 := by rw [← hlk]; have := @linkL_len h f t cs; omega
      obtain ⟨se, hse⟩ : ∃ l, setE f t cs = l := ⟨_, rfl⟩
      have SE := hid hse
      obtain ⟨le, hle2⟩ : ∃ l, linkE h f t cs = l := ⟨_, rfl⟩
      have LE := hid hle2
      obtain ⟨ab, hab⟩ : ∃ l, allB5 s f t cs = l := ⟨_, rfl⟩
      have AB := hid hab
      obtain ⟨sb, hsb⟩ : ∃ l, someB5 s f t cs = l := ⟨_, rfl⟩
      have SB := hid hsb
      have q1 : (se != se) = false := by simp
      have q2 : (le != le) = false := by simp
      have q3 : (ab == ab) = true := by simp
      have q4 : (sb == sb) = true := by simp
      clear hls hlk hse hle2 hab hsb
      go_enter Tryd.func3, Tryd.ntmps3
      go_wp2_with (first
        | (go_at_call 6; refine (long_any A cs _ c _ rfl _ HA.out hle Z.out).mono ?_; rintro e w1 ⟨rfl, rfl⟩; rw [HL.out])
        | (go_at_call 8; refine (refOwn_any A cs _ c _ rfl _ (HA.out.below K.out.b) l9).mono ?_; rintro e w4 ⟨v0, rfl, ho0, hb0⟩; obtain ⟨A0, c0, rfl, -, -, -, -⟩ := ho0.form encC_len; (have K2 := hid (K.out.add hb0 ho0)); clear ho0 hb0 K; (have K := K2); clear K2)
        | (go_at_call 9; refine (setC_any A cs _ c _ rfl f t s cl _ (HA.out.below K.out.b) l9).mono ?_; rintro e w5 ⟨v1, rfl, ho1, hb1⟩; rw [SL.out] at ho1; rw [SE.out]; obtain ⟨A1, c1, rfl, -, -, -, -⟩ := ho1.form encC_len; (have K2 := hid (K.out.add hb1 ho1)); clear ho1 hb1 K; (have K := K2); clear K2)
        | (go_at_call 10; refine (refSetC_any A0 cs _ c0 _ rfl f t s cl _ (K.out.sl (n := cs.length) (c := c0) (by simp)) l9).mono ?_; rintro e w5 ⟨v2, rfl, ho2, hb2⟩; rw [SL.out] at ho2; rw [SE.out]; obtain ⟨A2, c2, rfl, -, -, -, -⟩ := ho2.form encC_len; (have K2 := hid (K.out.add hb2 ho2)); clear ho2 hb2 K; (have K := K2); clear K2)
        | (go_at_call 11; refine (linkC_any A cs _ c _ rfl f t h _ (HA.out.below K.out.b) l9 h9 (Utf8Tabs_below T.out K.out.b)).mono ?_; rintro e w5 ⟨v3, rfl, ho3, hb3⟩; rw [LL.out] at ho3; rw [LE.out]; obtain ⟨A3, c3, rfl, -, -, -, -⟩ := ho3.form encC_len; (have K2 := hid (K.out.add hb3 ho3)); clear ho3 hb3 K; (have K := K2); clear K2)
        | (go_at_call 12; refine (refLinksC_any A0 cs _ c0 _ rfl f t h _ (K.out.sl (n := cs.length) (c := c0) (by simp)) l9 h9).mono ?_; rintro e w5 ⟨v4, rfl, ho4, hb4⟩; rw [LL.out] at ho4; rw [LE.out]; obtain ⟨A4, c4, rfl, -, -, -, -⟩ := ho4.form encC_len; (have K2 := hid (K.out.add hb4 ho4)); clear ho4 hb4 K; (have K := K2); clear K2)
        | (go_at_call 13; (with_reducible refine (refSame_any A1 A2 ls ls _ _ c1 c2 _ _ rfl rfl _ (K.out.sl (n := ls.length) (c := c1) (by simp)) (K.out.sl (n := ls.length) (c := c2) (by simp)) lls).mono ?_); rintro e we ⟨rfl, hq⟩; rw [decide_eq_true (rfl : ls = ls)]; (have K2 := hid (K.out.quiet hq)); clear hq K; (have K := K2); clear K2)
        | (go_at_call 13; (with_reducible refine (refSame_any A3 A4 lk lk _ _ c3 c4 _ _ rfl rfl _ (K.out.sl (n := lk.length) (c := c3) (by simp)) (K.out.sl (n := lk.length) (c := c4) (by simp)) llk).mono ?_); rintro e we ⟨rfl, hq⟩; rw [decide_eq_true (rfl : lk = lk)]; (have K2 := hid (K.out.quiet hq)); clear hq K; (have K := K2); clear K2)
        | (go_at_call 14; (with_reducible refine (spoil5_any A1 _ c1 _ ls _ (K.out.o (.slice A1 ls.length c1, ls) (by simp)) rfl lls).mono ?_); rintro e wf ⟨rfl, hg⟩; (have K2 := hid (KpC.spoil (t := (.slice A1 ls.length c1, ls)) (O1 := [(Value.slice A4 lk.length c4, lk), (Value.slice A3 lk.length c3, lk), (Value.slice A2 ls.length c2, ls)]) (O2 := [(Value.slice A0 cs.length c0, cs)]) K.out hg)); clear hg K; (have K := K2); clear K2)
        | (go_at_call 14; (with_reducible refine (spoil5_any A3 _ c3 _ lk _ (K.out.o (.slice A3 lk.length c3, lk) (by simp)) rfl llk).mono ?_); rintro e wf ⟨rfl, hg⟩; (have K2 := hid (KpC.spoil (t := (.slice A3 lk.length c3, lk)) (O1 := [(Value.slice A4 lk.length c4, lk)]) (O2 := [(Value.slice A2 ls.length c2, ls), (Value.slice A0 cs.length c0, cs)]) K.out hg)); clear hg K; (have K := K2); clear K2)
        | (go_at_call 15; refine (allC_any A cs _ c _ rfl f t s _ (HA.out.below K.out.b) l9 hc).mono ?_; rintro e w6 ⟨rfl, hb⟩; rw [AB.out]; (have K2 := hid (K.out.later hb)); clear hb K; (have K := K2); clear K2)
        | (go_at_call 16; refine (refAllC_any A0 cs _ c0 _ rfl f t s _ (K.out.sl (n := cs.length) (c := c0) (by simp)) l9).mono ?_; rintro e w6 ⟨rfl, hb⟩; rw [AB.out]; (have K2 := hid (K.out.later hb)); clear hb K; (have K := K2); clear K2)
        | (go_at_call 17; refine (someC_any A cs _ c _ rfl f t s _ (HA.out.below K.out.b) l9 hc).mono ?_; rintro e w6 ⟨rfl, hb⟩; rw [SB.out]; (have K2 := hid (K.out.later hb)); clear hb K; (have K := K2); clear K2)
        | (go_at_call 18; refine (refSomeC_any A0 cs _ c0 _ rfl f t s _ (K.out.sl (n := cs.length) (c := c0) (by simp)) l9).mono ?_; rintro e w6 ⟨rfl, hb⟩; rw [SB.out]; (have K2 := hid (K.out.later hb)); clear hb K; (have K := K2); clear K2)
        | (go_at_call 13; (with_reducible refine (refSame_any A A0 cs cs _ _ c c0 _ _ rfl rfl _ (HA.out.below K.out.b) (K.out.sl (n := cs.length) (c := c0) (by simp)) l9).mono ?_); rintro e we ⟨rfl, hq⟩; rw [decide_eq_true (rfl : cs = cs)]; (have K2 := hid (K.out.quiet hq)); clear hq K; (have K := K2); clear K2)
        | (go_at_call 7; refine (awake5_any _).mono ?_; rintro e w3 ⟨rfl, hb⟩; (have K2 := hid (K.out.later hb)); clear hb K; (have K := K2); clear K2))
      go_ret
      exact ⟨rfl, K.out.b⟩
end Go.Proofs.YtgpccjmkghpiiaaDoor
