/- The walk of the law LinesMay: it answers true. (Printed by wip/lnlaw.py.) -/
import Derived.Test.YtpldmiencoolhaaDoorLnLaws
import Derived.Test.YtpldmiencoolhaaDoorLnAwake
import Derived.Test.YtpldmiencoolhaaDoorLnMayG
import Derived.Test.YtpldmiencoolhaaDoorLnIs
import Derived.Test.YtpldmiencoolhaaDoorLnSame
import Derived.Test.YtpldmiencoolhaaDoorLnMay
import Derived.Test.YtpldmiencoolhaaDoorLnMayR
import Derived.Test.YtpldmiencoolhaaDoorLnOwn
import Derived.Test.YtpldmiencoolhaaDoorLnROwn
import Derived.Test.YtpldmiencoolhaaDoorLnRFrm
import Derived.Test.YtpldmiencoolhaaDoorLnFrame
import Derived.Test.YtpldmiencoolhaaDoorLnKit
import Derived.Test.YtpldmiencoolhaaDoorLnOpen
import Derived.BigQuiet
import Derived.Deep.QuietTactic
namespace Go.Proofs.YtpldmiencoolhaaDoor
open Go.RowKit Go.Lib

set_option maxRecDepth 100000 in
set_option maxHeartbeats 16000000 in
theorem linesMay_walk (w : World) {l : Ln} {A : Option Addr} {n c : Nat} {B : Option Addr} {m d : Nat} (hA : LineIn w l A n c B m d) {r : Ln} {A' : Option Addr} {n' c' : Nat} {B' : Option Addr} {m' d' : Nat} (hA' : LineIn w r A' n' c' B' m' d') (hT : Tb w) :
    Calls Tryd.prog 4 #[.agg #[.int .i64 l.q, .slice A n c, .int .i64 l.k, .slice B m d], .agg #[.int .i64 r.q, .slice A' n' c', .int .i64 r.k, .slice B' m' d']] w fun e w' => e = .returned (.bool true) ∧ Below w.heap.size w w' := by
  have T := hid hT
  obtain ⟨rfl, hc, rfl, hd, hat, b1, b2, wf, hz, wq, wk⟩ := hA
  obtain ⟨rfl, hc', rfl, hd', hat', b1', b2', wf', hz', wq', wk'⟩ := hA'
  have HZ := hid hz
  have HZ' := hid hz'
  have RL0 : Hid (∀ s ∈ [(⟨l, A, B⟩ : RowL), ⟨r, A', B'⟩], LnAt w w.heap.size s.l s.A s.B) := hid (by simpa using ⟨hat, hat'⟩)
  have K := hid (KL.start w [⟨l, A, B⟩, ⟨r, A', B'⟩] RL0.out)
  clear hT hc hd hat hz wq wk hc' hd' hat' hz' wq' wk'
  cases hb : longL l with
  | true =>
    have HL := hid hb
    clear hb wf wf'
    go_enter Tryd.func4, Tryd.ntmps4
    go_wp2_with (first
      | ((with_reducible show wpList _ _ _ _ _ _); refine Tryd.klBox (by rfl) _ (by rfl) (some 2) (by rfl) (by rfl) K ?_; intro g1 V1 K1; clear K; (have K := K1); clear K1)
      | ((with_reducible show wpList _ _ _ _ _ _); refine Tryd.klBox (by rfl) _ (by rfl) (some 3) (by rfl) (by rfl) K ?_; intro g2 V1 K1; clear K; (have K := K1); clear K1)
      | ((with_reducible show wpList _ _ _ _ _ _); refine Tryd.klLoad (by rfl) _ (by rfl) K (by rfl) (by repeat (first | exact List.mem_cons_self | refine List.mem_cons_of_mem _ ?_)) ?_)
      | (go_at_call 9; (with_reducible refine (lLong_any l A _ c B _ d _ rfl rfl _ (K.out.at_ (r := ⟨l, A, B⟩) (by simp)) b1 b2 HZ.out).mono ?_); rintro e W1 ⟨rfl, hb⟩; rw [HL.out]; (have K2 := hid (K.out.later hb)); clear hb K; (have K := K2); clear K2)
      | (go_at_call 10; (with_reducible refine (lAwake_any _ (Utf8Tabs_below T.out K.out.b)).mono ?_); rintro e W9 ⟨rfl, hb⟩; (have K2 := hid (K.out.later hb)); clear hb K; (have K := K2); clear K2))
    go_ret
    exact ⟨rfl, K.out.b⟩
  | false =>
    have HL := hid hb
    obtain ⟨l1, l2, fi⟩ := notLong hb wf
    have FI := hid fi
    have B9 : Hid (l.ls.length ≤ 1000000000) := hid (by omega)
    have C9 : Hid (l.cs.length ≤ 1000000000) := hid (by omega)
    clear hb wf fi l1 l2
    cases hb : longL r with
    | true =>
      have HL2 := hid hb
      clear hb wf'
      go_enter Tryd.func4, Tryd.ntmps4
      go_wp2_with (first
        | ((with_reducible show wpList _ _ _ _ _ _); refine Tryd.klBox (by rfl) _ (by rfl) (some 2) (by rfl) (by rfl) K ?_; intro g1 V1 K1; clear K; (have K := K1); clear K1)
        | ((with_reducible show wpList _ _ _ _ _ _); refine Tryd.klBox (by rfl) _ (by rfl) (some 3) (by rfl) (by rfl) K ?_; intro g2 V1 K1; clear K; (have K := K1); clear K1)
        | ((with_reducible show wpList _ _ _ _ _ _); refine Tryd.klLoad (by rfl) _ (by rfl) K (by rfl) (by repeat (first | exact List.mem_cons_self | refine List.mem_cons_of_mem _ ?_)) ?_)
        | (go_at_call 9; (with_reducible refine (lLong_any l A _ c B _ d _ rfl rfl _ (K.out.at_ (r := ⟨l, A, B⟩) (by simp)) b1 b2 HZ.out).mono ?_); rintro e W1 ⟨rfl, hb⟩; rw [HL.out]; (have K2 := hid (K.out.later hb)); clear hb K; (have K := K2); clear K2)
        | (go_at_call 9; (with_reducible refine (lLong_any r A' _ c' B' _ d' _ rfl rfl _ (K.out.at_ (r := ⟨r, A', B'⟩) (by simp)) b1' b2' HZ'.out).mono ?_); rintro e W1 ⟨rfl, hb⟩; rw [HL2.out]; (have K2 := hid (K.out.later hb)); clear hb K; (have K := K2); clear K2)
        | (go_at_call 10; (with_reducible refine (lAwake_any _ (Utf8Tabs_below T.out K.out.b)).mono ?_); rintro e W9 ⟨rfl, hb⟩; (have K2 := hid (K.out.later hb)); clear hb K; (have K := K2); clear K2))
      go_ret
      exact ⟨rfl, K.out.b⟩
    | false =>
      have HL2 := hid hb
      clear hb wf'
      go_enter Tryd.func4, Tryd.ntmps4
      go_upto_region 4 with (first
        | ((with_reducible show wpList _ _ _ _ _ _); refine Tryd.klBox (by rfl) _ (by rfl) (some 2) (by rfl) (by rfl) K ?_; intro g1 V1 K1; clear K; (have K := K1); clear K1)
        | ((with_reducible show wpList _ _ _ _ _ _); refine Tryd.klBox (by rfl) _ (by rfl) (some 3) (by rfl) (by rfl) K ?_; intro g2 V1 K1; clear K; (have K := K1); clear K1)
        | ((with_reducible show wpList _ _ _ _ _ _); refine Tryd.klLoad (by rfl) _ (by rfl) K (by rfl) (by repeat (first | exact List.mem_cons_self | refine List.mem_cons_of_mem _ ?_)) ?_)
        | (go_at_call 9; (with_reducible refine (lLong_any l A _ c B _ d _ rfl rfl _ (K.out.at_ (r := ⟨l, A, B⟩) (by simp)) b1 b2 HZ.out).mono ?_); rintro e W1 ⟨rfl, hb⟩; rw [HL.out]; (have K2 := hid (K.out.later hb)); clear hb K; (have K := K2); clear K2)
        | (go_at_call 9; (with_reducible refine (lLong_any r A' _ c' B' _ d' _ rfl rfl _ (K.out.at_ (r := ⟨r, A', B'⟩) (by simp)) b1' b2' HZ'.out).mono ?_); rintro e W1 ⟨rfl, hb⟩; rw [HL2.out]; (have K2 := hid (K.out.later hb)); clear hb K; (have K := K2); clear K2)
        | (go_at_call 11; (with_reducible refine (refLOwn_any l A _ c B _ d _ rfl rfl _ (K.out.at_ (r := ⟨l, A, B⟩) (by simp)) B9.out C9.out).mono ?_); rintro e W2 ⟨A5, c5, B5, d5, rfl, ho, hb⟩; simp only [lnV]; (have wr := ho.wr); (have K2 := hid (K.out.addW hb wr)); clear hb wr ho K; (have K := K2); clear K2)
        | ((with_reducible show wpList _ _ _ _ _ _); refine Tryd.klAlloc (by rfl) (by rfl) (some 5) (by rfl) K ?_; intro g5 V1 K1; clear K; (have K := K1); clear K1)
        | ((with_reducible show wpList _ _ _ _ _ _); refine Tryd.klStore (by rfl) (.tmp 5) _ (by rfl) [] (by exact K) (by rfl) (by rfl) (by exact ⟨rfl, rfl, rfl, rfl⟩) ?_; intro V2 K1; (dsimp only [List.cons_append, List.nil_append] at K1); clear K; (have K := K1); clear K1))
      refine Tryd.may4_reg (l := l) (A := A) (c := c) (B := B) (d := d) (r := r) (A' := A') (c' := c') (B' := B') (d' := d') (A5 := A5) (c5 := c5) (B5 := B5) (d5 := d5) (g1 := g1) (g2 := g2) (g5 := g5) (mb := mayL l) (sb := decide (l = r)) ⟨rfl, rfl, rfl⟩ ⟨rfl, rfl, rfl⟩ ⟨rfl, rfl, rfl⟩ ⟨rfl, rfl, rfl⟩ ⟨rfl, rfl, rfl⟩ ⟨rfl, rfl, rfl⟩ ⟨rfl, rfl, rfl⟩ ⟨rfl, rfl, rfl⟩ ⟨rfl, rfl, rfl⟩ ⟨rfl, rfl, rfl⟩ ⟨rfl, rfl, rfl⟩ ⟨rfl, rfl, rfl⟩ ⟨rfl, rfl, rfl⟩ ⟨rfl, rfl, rfl⟩ ⟨rfl, rfl, rfl⟩ ⟨rfl, rfl, rfl⟩ ⟨rfl, rfl, rfl⟩ ⟨rfl, rfl, rfl⟩ ⟨rfl, rfl, rfl⟩ ⟨rfl, rfl, rfl⟩ (by decide +kernel) (by decide +kernel) (by decide +kernel) (by decide +kernel) (by decide +kernel) (by decide +kernel) (by decide +kernel) (by decide +kernel) (by decide +kernel) (by decide +kernel) (by decide +kernel) (by decide +kernel) (by decide +kernel) (by decide +kernel) (by decide +kernel) (by decide +kernel) (by decide +kernel) (by decide +kernel) (by decide +kernel) (by simp) rfl rfl rfl K.out (by repeat (first | exact List.mem_cons_self | refine List.mem_cons_of_mem _ ?_)) (by repeat (first | exact List.mem_cons_self | refine List.mem_cons_of_mem _ ?_)) (by repeat (first | exact List.mem_cons_self | refine List.mem_cons_of_mem _ ?_)) (by simp) (by simp) (fun W h hb => lMay_any l A _ c B _ d _ rfl rfl W h B9.out C9.out FI.out (Utf8Tabs_below T.out hb)) (fun W h hb => refLMay_any l A5 _ c5 B5 _ d5 _ rfl rfl W h B9.out C9.out FI.out) (fun W h h' hb => lSame_any l r A _ c B _ d A' _ c' B' _ d' _ _ rfl rfl rfl rfl W h h' B9.out C9.out) (fun W h h' hb => refLSame_any l r A _ c B _ d A' _ c' B' _ d' _ _ rfl rfl rfl rfl W h h' B9.out C9.out) (fun W h h' hb => by have := lSame_any l l A _ c B _ d A _ c B _ d _ _ rfl rfl rfl rfl W h h' B9.out C9.out; rw [decide_eq_true (rfl : l = l)] at this; exact this) (fun _ => by kernel_rfl) (fun _ => by kernel_rfl) (fun _ => by kernel_rfl) (fun _ => by kernel_rfl) (fun _ => by kernel_rfl) ?_
      intro V K1
      clear K
      have K := hid K1
      clear K1
      simp only [upds, List.foldl_cons, List.foldl_nil, List.setIfInBounds_toArray, List.set_cons_succ, List.set_cons_zero]
      go_upto_region 6 with (first
        | ((with_reducible show wpList _ _ _ _ _ _); refine Tryd.klLoad (by rfl) _ (by rfl) K (by rfl) (by repeat (first | exact List.mem_cons_self | refine List.mem_cons_of_mem _ ?_)) ?_))
      refine Tryd.may6_reg (l := l) (A := A) (c := c) (B := B) (d := d) (r := r) (A' := A') (c' := c') (B' := B') (d' := d') (A5 := A5) (c5 := c5) (B5 := B5) (d5 := d5) (g1 := g1) (g2 := g2) (g5 := g5) ⟨rfl, rfl, rfl⟩ ⟨rfl, rfl, rfl⟩ ⟨rfl, rfl, rfl⟩ ⟨rfl, rfl, rfl⟩ ⟨rfl, rfl, rfl⟩ ⟨rfl, rfl, rfl⟩ ⟨rfl, rfl, rfl⟩ ⟨rfl, rfl, rfl⟩ ⟨rfl, rfl, rfl⟩ ⟨rfl, rfl, rfl⟩ ⟨rfl, rfl, rfl⟩ ⟨rfl, rfl, rfl⟩ ⟨rfl, rfl, rfl⟩ ⟨rfl, rfl, rfl⟩ ⟨rfl, rfl, rfl⟩ ⟨rfl, rfl, rfl⟩ ⟨rfl, rfl, rfl⟩ ⟨rfl, rfl, rfl⟩ ⟨rfl, rfl, rfl⟩ ⟨rfl, rfl, rfl⟩ (by decide +kernel) (by decide +kernel) (by decide +kernel) (by decide +kernel) (by decide +kernel) (by decide +kernel) (by decide +kernel) (by decide +kernel) (by decide +kernel) (by decide +kernel) (by decide +kernel) (by decide +kernel) (by decide +kernel) (by decide +kernel) (by decide +kernel) (by decide +kernel) (by decide +kernel) (by decide +kernel) (by decide +kernel) (by simp) rfl rfl rfl K.out (by repeat (first | exact List.mem_cons_self | refine List.mem_cons_of_mem _ ?_)) (by repeat (first | exact List.mem_cons_self | refine List.mem_cons_of_mem _ ?_)) (by repeat (first | exact List.mem_cons_self | refine List.mem_cons_of_mem _ ?_)) (by simp) RL0.out (fun W h => lOwn_any l A _ c B _ d _ rfl rfl W h B9.out C9.out) (fun W h => lFrame_any l A _ c B _ d _ rfl rfl W h B9.out C9.out) (fun W h => refLFrame_any l A5 _ c5 B5 _ d5 _ rfl rfl W h B9.out C9.out) (fun W A1 c1 X1 d1 h h' => by have := is6_any l l A1 _ c1 X1 _ d1 A5 _ c5 B5 _ d5 _ _ 0 0 rfl rfl rfl rfl W h h' B9.out C9.out; rw [decide_eq_true (⟨rfl, rfl⟩ : (0 : Int) = 0 ∧ l = l)] at this; exact this) (fun W A2 c2 X2 d2 A3 c3 X3 d3 h h' => by have := is6_any ⟨l.q, l.ls, l.k, []⟩ ⟨l.q, l.ls, l.k, []⟩ A2 _ c2 X2 _ d2 A3 _ c3 X3 _ d3 _ _ 0 0 rfl rfl rfl rfl W h h' B9.out (by simp); rw [decide_eq_true (⟨rfl, rfl⟩ : (0 : Int) = 0 ∧ (⟨l.q, l.ls, l.k, []⟩ : Ln) = ⟨l.q, l.ls, l.k, []⟩)] at this; exact this) (fun W h h' => by have := refLSame_any l l A _ c B _ d A5 _ c5 B5 _ d5 _ _ rfl rfl rfl rfl W h h' B9.out C9.out; rw [decide_eq_true (rfl : l = l)] at this; exact this) (fun W hb => lAwake_any W (Utf8Tabs_below T.out hb)) (fun _ => by kernel_rfl) (fun _ => by kernel_rfl) (fun _ => by kernel_rfl) (fun _ => by kernel_rfl) (fun _ => by kernel_rfl) (fun _ _ _ => by kernel_rfl) (fun _ _ _ => by kernel_rfl) ?_
      intro V6 A61 c61 X61 d61 A62 c62 X62 d62 A63 c63 X63 d63 K1
      clear K
      have K := hid K1
      clear K1
      simp only [upds, List.foldl_cons, List.foldl_nil, List.setIfInBounds_toArray, List.set_cons_succ, List.set_cons_zero, lnV]
      go_wp2
      go_ret
      exact ⟨rfl, K.out.b⟩
end Go.Proofs.YtpldmiencoolhaaDoor
