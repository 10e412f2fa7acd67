/- The walk of the law LinesCuts: it answers true. (Printed by wip/lnlaw.py.) -/
import Derived.Test.YtpldmiencoolhaaDoorLnLaws
import Derived.Test.YtpldmiencoolhaaDoorLnAwake
import Derived.Test.YtpldmiencoolhaaDoorLnSplit
import Derived.Test.YtpldmiencoolhaaDoorLnJoin
import Derived.Test.YtpldmiencoolhaaDoorLnRSplit
import Derived.Test.YtpldmiencoolhaaDoorLnRJoin
import Derived.Test.YtpldmiencoolhaaDoorLnTwoQ
import Derived.Test.YtpldmiencoolhaaDoorLnROwn
import Derived.Test.YtpldmiencoolhaaDoorLnIs
import Derived.Test.YtpldmiencoolhaaDoorLnSame
import Derived.Test.YtpldmiencoolhaaDoorLnKit
import Derived.Test.YtpldmiencoolhaaDoorLnOpen
import Derived.BigQuiet
import Derived.Deep.QuietTactic
namespace Go.Proofs.YtpldmiencoolhaaDoor
open Go.RowKit Go.Lib

theorem splitA_le (l : Ln) (a : Int) : (splitA l a).ls.length ≤ l.ls.length ∧ (splitA l a).cs.length ≤ l.cs.length ∧ (splitB l a).ls.length ≤ l.ls.length ∧ (splitB l a).cs.length ≤ l.cs.length := by
  unfold splitA splitB
  split
  · refine ⟨Nat.le_refl _, by simp; omega, Nat.le_refl _, by simp⟩
  · exact ⟨Nat.zero_le _, Nat.zero_le _, Nat.zero_le _, Nat.zero_le _⟩
theorem joinL_le (l r : Ln) : (joinL l r).1.ls.length ≤ l.ls.length ∧ (joinL l r).1.cs.length ≤ l.cs.length + r.cs.length := by
  unfold joinL
  split
  · exact ⟨Nat.le_refl _, by simp⟩
  · exact ⟨Nat.zero_le _, Nat.zero_le _⟩
set_option maxRecDepth 100000 in
set_option maxHeartbeats 16000000 in
theorem linesCuts_walk (w : World) {l : Ln} {A : Option Addr} {n c : Nat} {B : Option Addr} {m d : Nat} (hA : LineIn w l A n c B m d) {r : Ln} {A' : Option Addr} {n' c' : Nat} {B' : Option Addr} {m' d' : Nat} (hA' : LineIn w r A' n' c' B' m' d') (at_ : Int) (_ : (Lit.int .i64 at_).wf = true) (hT : Tb w) :
    Calls Tryd.prog 3 #[.agg #[.int .i64 l.q, .slice A n c, .int .i64 l.k, .slice B m d], .agg #[.int .i64 r.q, .slice A' n' c', .int .i64 r.k, .slice B' m' d'], .int .i64 at_] w fun e w' => e = .returned (.bool true) ∧ Below w.heap.size w w' := by
  have T := hid hT
  obtain ⟨rfl, hc, rfl, hd, hat, b1, b2, wf, hz, wq, wk⟩ := hA
  obtain ⟨rfl, hc', rfl, hd', hat', b1', b2', wf', hz', wq', wk'⟩ := hA'
  have HZ := hid hz
  have HZ' := hid hz'
  have RL0 : Hid (∀ s ∈ [(⟨l, A, B⟩ : RowL), ⟨r, A', B'⟩], LnAt w w.heap.size s.l s.A s.B) := hid (by simpa using ⟨hat, hat'⟩)
  have K := hid (KL.start w [⟨l, A, B⟩, ⟨r, A', B'⟩] RL0.out)
  clear hT hc hd hat hz wq wk hc' hd' hat' hz' wq' wk'
  cases hb : longL l with
  | true =>
    have HL := hid hb
    clear hb wf wf'
    go_enter Tryd.func3, Tryd.ntmps3
    go_wp2_with (first
      | ((with_reducible show wpList _ _ _ _ _ _); refine Tryd.klBox (by rfl) _ (by rfl) (some 3) (by rfl) (by rfl) K ?_; intro g1 V1 K1; clear K; (have K := K1); clear K1)
      | ((with_reducible show wpList _ _ _ _ _ _); refine Tryd.klBox (by rfl) _ (by rfl) (some 4) (by rfl) (by rfl) K ?_; intro g2 V1 K1; clear K; (have K := K1); clear K1)
      | ((with_reducible show wpList _ _ _ _ _ _); refine Tryd.klLoad (by rfl) _ (by rfl) K (by rfl) (by repeat (first | exact List.mem_cons_self | refine List.mem_cons_of_mem _ ?_)) ?_)
      | (go_at_call 9; (with_reducible refine (lLong_any l A _ c B _ d _ rfl rfl _ (K.out.at_ (r := ⟨l, A, B⟩) (by simp)) b1 b2 HZ.out).mono ?_); rintro e W1 ⟨rfl, hb⟩; rw [HL.out]; (have K2 := hid (K.out.later hb)); clear hb K; (have K := K2); clear K2)
      | (go_at_call 10; (with_reducible refine (lAwake_any _ (Utf8Tabs_below T.out K.out.b)).mono ?_); rintro e W9 ⟨rfl, hb⟩; (have K2 := hid (K.out.later hb)); clear hb K; (have K := K2); clear K2))
    go_ret
    exact ⟨rfl, K.out.b⟩
  | false =>
    have HL := hid hb
    obtain ⟨l1, l2, fi⟩ := notLong hb wf
    have FI := hid fi
    have B9 : Hid (l.ls.length ≤ 1000000000) := hid (by omega)
    have C9 : Hid (l.cs.length ≤ 1000000000) := hid (by omega)
    clear hb wf fi
    cases hb : longL r with
    | true =>
      have HL2 := hid hb
      clear hb wf' l1 l2
      go_enter Tryd.func3, Tryd.ntmps3
      go_wp2_with (first
        | ((with_reducible show wpList _ _ _ _ _ _); refine Tryd.klBox (by rfl) _ (by rfl) (some 3) (by rfl) (by rfl) K ?_; intro g1 V1 K1; clear K; (have K := K1); clear K1)
        | ((with_reducible show wpList _ _ _ _ _ _); refine Tryd.klBox (by rfl) _ (by rfl) (some 4) (by rfl) (by rfl) K ?_; intro g2 V1 K1; clear K; (have K := K1); clear K1)
        | ((with_reducible show wpList _ _ _ _ _ _); refine Tryd.klLoad (by rfl) _ (by rfl) K (by rfl) (by repeat (first | exact List.mem_cons_self | refine List.mem_cons_of_mem _ ?_)) ?_)
        | (go_at_call 9; (with_reducible refine (lLong_any l A _ c B _ d _ rfl rfl _ (K.out.at_ (r := ⟨l, A, B⟩) (by simp)) b1 b2 HZ.out).mono ?_); rintro e W1 ⟨rfl, hb⟩; rw [HL.out]; (have K2 := hid (K.out.later hb)); clear hb K; (have K := K2); clear K2)
        | (go_at_call 9; (with_reducible refine (lLong_any r A' _ c' B' _ d' _ rfl rfl _ (K.out.at_ (r := ⟨r, A', B'⟩) (by simp)) b1' b2' HZ'.out).mono ?_); rintro e W1 ⟨rfl, hb⟩; rw [HL2.out]; (have K2 := hid (K.out.later hb)); clear hb K; (have K := K2); clear K2)
        | (go_at_call 10; (with_reducible refine (lAwake_any _ (Utf8Tabs_below T.out K.out.b)).mono ?_); rintro e W9 ⟨rfl, hb⟩; (have K2 := hid (K.out.later hb)); clear hb K; (have K := K2); clear K2))
      go_ret
      exact ⟨rfl, K.out.b⟩
    | false =>
      have HL2 := hid hb
      obtain ⟨r1, r2, fr⟩ := notLong hb wf'
      have FR := hid fr
      have R9 : Hid (r.ls.length ≤ 1000000000) := hid (by omega)
      have S9 : Hid (r.cs.length ≤ 1000000000) := hid (by omega)
      clear hb wf' fr
      obtain ⟨a, ha⟩ : ∃ x, splitA l at_ = x := ⟨_, rfl⟩
      obtain ⟨b, hb⟩ : ∃ x, splitB l at_ = x := ⟨_, rfl⟩
      obtain ⟨se, he⟩ : ∃ x, splitE l at_ = x := ⟨_, rfl⟩
      obtain ⟨⟨x, je⟩, hj⟩ : ∃ x, joinL l r = x := ⟨_, rfl⟩
      have q := splitA_le l at_
      rw [ha, hb] at q
      have q2 := joinL_le l r
      rw [hj] at q2
      dsimp only at q2
      have AL : Hid (a.ls.length ≤ 1000000000) := hid (by omega)
      have AC : Hid (a.cs.length ≤ 1000000000) := hid (by omega)
      have BL : Hid (b.ls.length ≤ 1000000000) := hid (by omega)
      have BC : Hid (b.cs.length ≤ 1000000000) := hid (by omega)
      have XL : Hid (x.ls.length ≤ 1000000000) := hid (by omega)
      have XC : Hid (x.cs.length ≤ 1000000000) := hid (by omega)
      have SA := hid ha
      have SB := hid hb
      have SE := hid he
      have JN := hid hj
      clear q q2 ha hb he hj l1 l2 r1 r2
      go_enter Tryd.func3, Tryd.ntmps3
      go_upto_region 3 with (first
        | ((with_reducible show wpList _ _ _ _ _ _); refine Tryd.klBox (by rfl) _ (by rfl) (some 3) (by rfl) (by rfl) K ?_; intro g1 V1 K1; clear K; (have K := K1); clear K1)
        | ((with_reducible show wpList _ _ _ _ _ _); refine Tryd.klBox (by rfl) _ (by rfl) (some 4) (by rfl) (by rfl) K ?_; intro g2 V1 K1; clear K; (have K := K1); clear K1)
        | ((with_reducible show wpList _ _ _ _ _ _); refine Tryd.klLoad (by rfl) _ (by rfl) K (by rfl) (by repeat (first | exact List.mem_cons_self | refine List.mem_cons_of_mem _ ?_)) ?_)
        | (go_at_call 9; (with_reducible refine (lLong_any l A _ c B _ d _ rfl rfl _ (K.out.at_ (r := ⟨l, A, B⟩) (by simp)) b1 b2 HZ.out).mono ?_); rintro e W1 ⟨rfl, hb⟩; rw [HL.out]; (have K2 := hid (K.out.later hb)); clear hb K; (have K := K2); clear K2)
        | (go_at_call 9; (with_reducible refine (lLong_any r A' _ c' B' _ d' _ rfl rfl _ (K.out.at_ (r := ⟨r, A', B'⟩) (by simp)) b1' b2' HZ'.out).mono ?_); rintro e W1 ⟨rfl, hb⟩; rw [HL2.out]; (have K2 := hid (K.out.later hb)); clear hb K; (have K := K2); clear K2))
      refine Tryd.own2_reg (l := l) (A := A) (c := c) (B := B) (d := d) (r := r) (A' := A') (c' := c') (B' := B') (d' := d') (g1 := g1) (g2 := g2) ⟨rfl, rfl, rfl⟩ ⟨rfl, rfl, rfl⟩ ⟨rfl, rfl, rfl⟩ ⟨rfl, rfl, rfl⟩ ⟨rfl, rfl, rfl⟩ ⟨rfl, rfl, rfl⟩ ⟨rfl, rfl, rfl⟩ ⟨rfl, rfl, rfl⟩ (by decide +kernel) (by decide +kernel) (by decide +kernel) (by decide +kernel) (by decide +kernel) (by simp) rfl rfl K.out (by repeat (first | exact List.mem_cons_self | refine List.mem_cons_of_mem _ ?_)) (by repeat (first | exact List.mem_cons_self | refine List.mem_cons_of_mem _ ?_)) (by simp) (by simp) (fun W h => refLOwn_any l A _ c B _ d _ rfl rfl W h B9.out C9.out) (fun W h => refLOwn_any r A' _ c' B' _ d' _ rfl rfl W h R9.out S9.out) (fun _ _ => by kernel_rfl) ?_
      intro A1 c1 B1 d1 A2 c2 B2 d2 xb yb V K1 o1 o2 ap
      obtain ⟨g7, hg7⟩ : ∃ g, xb.g = g := ⟨_, rfl⟩
      obtain ⟨g8, hg8⟩ : ∃ g, yb.g = g := ⟨_, rfl⟩
      rw [hg7, hg8] at K1
      have CAP := hid o1.caps.2
      clear K
      have K := hid (K1.rows2 (r := ⟨l, A1, B1⟩) (s := ⟨r, A2, B2⟩) o1.wr o2.wr ap)
      clear K1 o1 o2 ap
      simp only [upds, List.foldl_cons, List.foldl_nil, List.setIfInBounds_toArray, List.set_cons_succ, List.set_cons_zero, lnV, hg7, hg8]
      clear hg7 hg8 xb yb
      go_wp2_with (first
        | ((with_reducible show wpList _ _ _ _ _ _); refine Tryd.klLoad (by rfl) _ (by rfl) K (by rfl) (by repeat (first | exact List.mem_cons_self | refine List.mem_cons_of_mem _ ?_)) ?_)
        | (go_at_call 12; (with_reducible refine (lSplit_any l A _ c B _ d _ rfl rfl _ (K.out.at_ (r := ⟨l, A, B⟩) (by simp)) B9.out C9.out FI.out (Utf8Tabs_below T.out K.out.b) at_).mono ?_); rintro e W3 hc; unfold RetSplit at hc; rw [SA.out, SB.out, SE.out] at hc; obtain ⟨A91, c91, X91, d91, A92, c92, X92, d92, rfl, w1, w2, ap, -, hb3⟩ := hc; simp only [lnV]; (have K2 := hid (K.out.addW2 hb3 w1 w2 ap)); clear hb3 w1 w2 ap K; (have K := K2); clear K2)
        | ((with_reducible show wpList _ _ _ _ _ _); refine Tryd.klAlloc (by rfl) (by rfl) (some 9) (by rfl) K ?_; intro g9 V1 K1; clear K; (have K := K1); clear K1)
        | ((with_reducible show wpList _ _ _ _ _ _); refine Tryd.klAlloc (by rfl) (by rfl) (some 10) (by rfl) K ?_; intro g10 V1 K1; clear K; (have K := K1); clear K1)
        | ((with_reducible show wpList _ _ _ _ _ _); refine Tryd.klStore (by rfl) (.tmp 9) _ (by rfl) [_] (by exact K) (by rfl) (by rfl) (by exact ⟨rfl, rfl, rfl, rfl⟩) ?_; intro V2 K1; (dsimp only [List.cons_append, List.nil_append] at K1); clear K; (have K := K1); clear K1)
        | ((with_reducible show wpList _ _ _ _ _ _); refine Tryd.klStore (by rfl) (.tmp 10) _ (by rfl) [] (by exact K) (by rfl) (by rfl) (by exact ⟨rfl, rfl, rfl, rfl⟩) ?_; intro V2 K1; (dsimp only [List.cons_append, List.nil_append] at K1); clear K; (have K := K1); clear K1)
        | (go_at_call 13; (with_reducible refine (refLSplit_any l A1 _ c1 B1 _ d1 _ rfl rfl _ (K.out.atW (r := ⟨l, A1, B1⟩) (by simp)) B9.out C9.out FI.out CAP.out at_).mono ?_); rintro e W3 hc; unfold RetSplitR at hc; rw [SA.out, SB.out, SE.out] at hc; obtain ⟨A93, c93, X93, d93, A94, c94, X94, d94, rfl, w1, w2, ap, hb3⟩ := hc; simp only [lnV]; (have K2 := hid (K.out.addW2 hb3 w1 w2 ap)); clear hb3 w1 w2 ap K; (have K := K2); clear K2)
        | ((with_reducible show wpList _ _ _ _ _ _); refine Tryd.klAlloc (by rfl) (by rfl) (some 12) (by rfl) K ?_; intro g12 V1 K1; clear K; (have K := K1); clear K1)
        | ((with_reducible show wpList _ _ _ _ _ _); refine Tryd.klAlloc (by rfl) (by rfl) (some 13) (by rfl) K ?_; intro g13 V1 K1; clear K; (have K := K1); clear K1)
        | ((with_reducible show wpList _ _ _ _ _ _); refine Tryd.klStore (by rfl) (.tmp 12) _ (by rfl) [_] (by exact K) (by rfl) (by rfl) (by exact ⟨rfl, rfl, rfl, rfl⟩) ?_; intro V2 K1; (dsimp only [List.cons_append, List.nil_append] at K1); clear K; (have K := K1); clear K1)
        | ((with_reducible show wpList _ _ _ _ _ _); refine Tryd.klStore (by rfl) (.tmp 13) _ (by rfl) [] (by exact K) (by rfl) (by rfl) (by exact ⟨rfl, rfl, rfl, rfl⟩) ?_; intro V2 K1; (dsimp only [List.cons_append, List.nil_append] at K1); clear K; (have K := K1); clear K1)
        | (go_at_call 14; (with_reducible refine (is6_any a a A91 _ c91 X91 _ d91 A93 _ c93 X93 _ d93 w.heap.size _ se se rfl rfl rfl rfl _ (K.out.wr ⟨a, A91, X91⟩ (by simp)) (K.out.atW (r := ⟨a, A93, X93⟩) (by simp)) AL.out AC.out).mono ?_); rintro e W4 ⟨rfl, hw⟩; rw [decide_eq_true (⟨rfl, rfl⟩ : se = se ∧ a = a)]; (have K2 := hid (KL.spoil (O1 := [_, _]) (t := ⟨a, A91, X91⟩) K.out (fun s hs => (RL0.out s hs).below K.out.b) hw)); (dsimp only [List.cons_append, List.nil_append] at K2); clear hw K; (have K := K2); clear K2)
        | (go_at_call 14; (with_reducible refine (is6_any b b A92 _ c92 X92 _ d92 A94 _ c94 X94 _ d94 w.heap.size _ se se rfl rfl rfl rfl _ (K.out.wr ⟨b, A92, X92⟩ (by simp)) (K.out.atW (r := ⟨b, A94, X94⟩) (by simp)) BL.out BC.out).mono ?_); rintro e W4 ⟨rfl, hw⟩; rw [decide_eq_true (⟨rfl, rfl⟩ : se = se ∧ b = b)]; (have K2 := hid (KL.spoil (O1 := [_, _]) (t := ⟨b, A92, X92⟩) K.out (fun s hs => (RL0.out s hs).below K.out.b) hw)); (dsimp only [List.cons_append, List.nil_append] at K2); clear hw K; (have K := K2); clear K2)
        | (go_at_call 15; (with_reducible refine (lJoin_any l r A c B d _ A' c' B' d' _ _ (K.out.at_ (r := ⟨l, A, B⟩) (by simp)) (K.out.at_ (r := ⟨r, A', B'⟩) (by simp)) B9.out C9.out R9.out S9.out FI.out FR.out (Utf8Tabs_below T.out K.out.b)).mono ?_); rintro e W3 hc; unfold RetLnE at hc; rw [JN.out] at hc; dsimp only at hc; obtain ⟨A15, c15, X15, d15, rfl, -, -, wr3, hb3⟩ := hc; simp only [lnV]; (have K2 := hid (K.out.addW hb3 wr3)); clear hb3 wr3 K; (have K := K2); clear K2)
        | ((with_reducible show wpList _ _ _ _ _ _); refine Tryd.klAlloc (by rfl) (by rfl) (some 15) (by rfl) K ?_; intro g15 V1 K1; clear K; (have K := K1); clear K1)
        | ((with_reducible show wpList _ _ _ _ _ _); refine Tryd.klStore (by rfl) (.tmp 15) _ (by rfl) [] (by exact K) (by rfl) (by rfl) (by exact ⟨rfl, rfl, rfl, rfl⟩) ?_; intro V2 K1; (dsimp only [List.cons_append, List.nil_append] at K1); clear K; (have K := K1); clear K1)
        | (go_at_call 16; (with_reducible refine (refLJoin_any l r A1 c1 B1 d1 _ A2 c2 B2 d2 _ _ (K.out.atW (r := ⟨l, A1, B1⟩) (by simp)) (K.out.atW (r := ⟨r, A2, B2⟩) (by simp)) B9.out C9.out R9.out S9.out FI.out FR.out).mono ?_); rintro e W3 hc; unfold RetLnE at hc; rw [JN.out] at hc; dsimp only at hc; obtain ⟨A17, c17, X17, d17, rfl, -, -, wr3, hb3⟩ := hc; simp only [lnV]; (have K2 := hid (K.out.addW hb3 wr3)); clear hb3 wr3 K; (have K := K2); clear K2)
        | ((with_reducible show wpList _ _ _ _ _ _); refine Tryd.klAlloc (by rfl) (by rfl) (some 17) (by rfl) K ?_; intro g17 V1 K1; clear K; (have K := K1); clear K1)
        | ((with_reducible show wpList _ _ _ _ _ _); refine Tryd.klStore (by rfl) (.tmp 17) _ (by rfl) [] (by exact K) (by rfl) (by rfl) (by exact ⟨rfl, rfl, rfl, rfl⟩) ?_; intro V2 K1; (dsimp only [List.cons_append, List.nil_append] at K1); clear K; (have K := K1); clear K1)
        | (go_at_call 14; (with_reducible refine (is6_any x x A15 _ c15 X15 _ d15 A17 _ c17 X17 _ d17 w.heap.size _ je je rfl rfl rfl rfl _ (K.out.wr ⟨x, A15, X15⟩ (by simp)) (K.out.atW (r := ⟨x, A17, X17⟩) (by simp)) XL.out XC.out).mono ?_); rintro e W4 ⟨rfl, hw⟩; rw [decide_eq_true (⟨rfl, rfl⟩ : je = je ∧ x = x)]; (have K2 := hid (KL.spoil (O1 := [_]) (t := ⟨x, A15, X15⟩) K.out (fun s hs => (RL0.out s hs).below K.out.b) hw)); (dsimp only [List.cons_append, List.nil_append] at K2); clear hw K; (have K := K2); clear K2)
        | (go_at_call 17; (with_reducible refine (refLSame_any l l A _ c B _ d A1 _ c1 B1 _ d1 _ _ rfl rfl rfl rfl _ (K.out.at_ (r := ⟨l, A, B⟩) (by simp)) (K.out.atW (r := ⟨l, A1, B1⟩) (by simp)) B9.out C9.out).mono ?_); rintro e W4 ⟨rfl, hb⟩; rw [decide_eq_true (rfl : l = l)]; (have K2 := hid (K.out.later hb)); clear hb K; (have K := K2); clear K2)
        | (go_at_call 17; (with_reducible refine (refLSame_any r r A' _ c' B' _ d' A2 _ c2 B2 _ d2 _ _ rfl rfl rfl rfl _ (K.out.at_ (r := ⟨r, A', B'⟩) (by simp)) (K.out.atW (r := ⟨r, A2, B2⟩) (by simp)) R9.out S9.out).mono ?_); rintro e W4 ⟨rfl, hb⟩; rw [decide_eq_true (rfl : r = r)]; (have K2 := hid (K.out.later hb)); clear hb K; (have K := K2); clear K2)
        | (go_at_call 10; (with_reducible refine (lAwake_any _ (Utf8Tabs_below T.out K.out.b)).mono ?_); rintro e W9 ⟨rfl, hb⟩; (have K2 := hid (K.out.later hb)); clear hb K; (have K := K2); clear K2))
      go_ret
      exact ⟨rfl, K.out.b⟩
end Go.Proofs.YtpldmiencoolhaaDoor
