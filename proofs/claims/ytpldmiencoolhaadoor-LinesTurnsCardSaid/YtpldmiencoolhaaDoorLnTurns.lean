/- The walk of the law LinesTurns: it answers true. (Printed by wip/lnlaw.py.) -/
import Derived.Test.YtpldmiencoolhaaDoorLnLaws
import Derived.Test.YtpldmiencoolhaaDoorLnAwake
import Derived.Test.YtpldmiencoolhaaDoorLnTIndent
import Derived.Test.YtpldmiencoolhaaDoorLnTOutdent
import Derived.Test.YtpldmiencoolhaaDoorLnTList
import Derived.Test.YtpldmiencoolhaaDoorLnTFormat
import Derived.Test.YtpldmiencoolhaaDoorLnTFree
import Derived.Test.YtpldmiencoolhaaDoorLnRIndent
import Derived.Test.YtpldmiencoolhaaDoorLnROutdent
import Derived.Test.YtpldmiencoolhaaDoorLnRList
import Derived.Test.YtpldmiencoolhaaDoorLnRFormat
import Derived.Test.YtpldmiencoolhaaDoorLnRFree
import Derived.Test.YtpldmiencoolhaaDoorLnROwn
import Derived.Test.YtpldmiencoolhaaDoorLnIs
import Derived.Test.YtpldmiencoolhaaDoorLnSame
import Derived.Test.YtpldmiencoolhaaDoorLnKit
import Derived.Test.YtpldmiencoolhaaDoorLnOpen
import Derived.BigQuiet
import Derived.Deep.QuietTactic
namespace Go.Proofs.YtpldmiencoolhaaDoor
open Go.RowKit Go.Lib

theorem indentL_le (l : Ln) : (indentL l).1.ls.length ≤ l.ls.length + 1 ∧ (indentL l).1.cs.length ≤ l.cs.length := by
  unfold indentL zL
  repeat' split
  all_goals simp
theorem outdentL_le (l : Ln) : (outdentL l).1.ls.length ≤ l.ls.length + 1 ∧ (outdentL l).1.cs.length ≤ l.cs.length := by
  unfold outdentL zL
  repeat' split
  all_goals simp
  all_goals omega
theorem listL_le (l : Ln) (kind : Int) : (listL l kind).1.ls.length ≤ l.ls.length + 1 ∧ (listL l kind).1.cs.length ≤ l.cs.length := by
  unfold listL zL
  repeat' split
  all_goals simp
  all_goals omega
theorem formatL_le (l : Ln) (kind : Int) : (formatL l kind).1.ls.length ≤ l.ls.length + 1 ∧ (formatL l kind).1.cs.length ≤ l.cs.length := by
  unfold formatL zL
  repeat' split
  all_goals simp
theorem freeL_le (l : Ln) : (freeL l).1.ls.length ≤ l.ls.length + 1 ∧ (freeL l).1.cs.length ≤ l.cs.length := by
  unfold freeL zL
  repeat' split
  all_goals simp
  all_goals omega
set_option maxRecDepth 100000 in
set_option maxHeartbeats 16000000 in
theorem linesTurns_walk (w : World) {l : Ln} {A : Option Addr} {n c : Nat} {B : Option Addr} {m d : Nat} (hA : LineIn w l A n c B m d) (kind : Int) (_ : (Lit.int .i64 kind).wf = true) (hT : Tb w) :
    Calls Tryd.prog 6 #[.agg #[.int .i64 l.q, .slice A n c, .int .i64 l.k, .slice B m d], .int .i64 kind] w fun e w' => e = .returned (.bool true) ∧ Below w.heap.size w w' := by
  have T := hid hT
  obtain ⟨rfl, hc, rfl, hd, hat, b1, b2, wf, hz, wq, wk⟩ := hA
  have HZ := hid hz
  have K := hid (KL.start w [⟨l, A, B⟩] (by simpa using hat))
  have RL0 : Hid (∀ s ∈ [(⟨l, A, B⟩ : RowL)], LnAt w w.heap.size s.l s.A s.B) := hid (by simpa using hat)
  clear hT hc hd hat hz wq wk
  cases hb : longL l with
  | true =>
    have HL := hid hb
    clear hb wf
    go_enter Tryd.func6, Tryd.ntmps6
    go_wp2_with (first
      | ((with_reducible show wpList _ _ _ _ _ _); refine Tryd.klBox (by rfl) _ (by rfl) (some 2) (by rfl) (by rfl) K ?_; intro g1 V1 K1; clear K; (have K := K1); clear K1)
      | ((with_reducible show wpList _ _ _ _ _ _); refine Tryd.klLoad (by rfl) _ (by rfl) K (by rfl) (by repeat (first | exact List.mem_cons_self | refine List.mem_cons_of_mem _ ?_)) ?_)
      | (go_at_call 9; (with_reducible refine (lLong_any l A _ c B _ d _ rfl rfl _ (K.out.at_ (r := ⟨l, A, B⟩) (by simp)) b1 b2 HZ.out).mono ?_); rintro e W1 ⟨rfl, hb⟩; rw [HL.out]; (have K2 := hid (K.out.later hb)); clear hb K; (have K := K2); clear K2)
      | (go_at_call 10; (with_reducible refine (lAwake_any _ (Utf8Tabs_below T.out K.out.b)).mono ?_); rintro e W9 ⟨rfl, hb⟩; (have K2 := hid (K.out.later hb)); clear hb K; (have K := K2); clear K2))
    go_ret
    exact ⟨rfl, K.out.b⟩
  | false =>
    have HL := hid hb
    obtain ⟨l1, l2, fi⟩ := notLong hb wf
    have FI := hid fi
    have B9 : Hid (l.ls.length ≤ 1000000000) := hid (by omega)
    have C9 : Hid (l.cs.length ≤ 1000000000) := hid (by omega)
    clear hb wf fi
    obtain ⟨⟨r0, e0⟩, h0⟩ : ∃ z, indentL l = z := ⟨_, rfl⟩
    have q0 := indentL_le l
    rw [h0] at q0
    dsimp only at q0
    have RL1 : Hid (r0.ls.length ≤ 1000000000) := hid (by omega)
    have RC1 : Hid (r0.cs.length ≤ 1000000000) := hid (by omega)
    have EQ0 := hid h0
    clear h0 q0
    obtain ⟨⟨r1, e1⟩, h1⟩ : ∃ z, outdentL l = z := ⟨_, rfl⟩
    have q1 := outdentL_le l
    rw [h1] at q1
    dsimp only at q1
    have RL2 : Hid (r1.ls.length ≤ 1000000000) := hid (by omega)
    have RC2 : Hid (r1.cs.length ≤ 1000000000) := hid (by omega)
    have EQ1 := hid h1
    clear h1 q1
    obtain ⟨⟨r2, e2⟩, h2⟩ : ∃ z, listL l kind = z := ⟨_, rfl⟩
    have q2 := listL_le l kind
    rw [h2] at q2
    dsimp only at q2
    have RL3 : Hid (r2.ls.length ≤ 1000000000) := hid (by omega)
    have RC3 : Hid (r2.cs.length ≤ 1000000000) := hid (by omega)
    have EQ2 := hid h2
    clear h2 q2
    obtain ⟨⟨r3, e3⟩, h3⟩ : ∃ z, formatL l kind = z := ⟨_, rfl⟩
    have q3 := formatL_le l kind
    rw [h3] at q3
    dsimp only at q3
    have RL4 : Hid (r3.ls.length ≤ 1000000000) := hid (by omega)
    have RC4 : Hid (r3.cs.length ≤ 1000000000) := hid (by omega)
    have EQ3 := hid h3
    clear h3 q3
    obtain ⟨⟨r4, e4⟩, h4⟩ : ∃ z, freeL l = z := ⟨_, rfl⟩
    have q4 := freeL_le l
    rw [h4] at q4
    dsimp only at q4
    have RL5 : Hid (r4.ls.length ≤ 1000000000) := hid (by omega)
    have RC5 : Hid (r4.cs.length ≤ 1000000000) := hid (by omega)
    have EQ4 := hid h4
    clear h4 q4
    clear l1 l2
    go_enter Tryd.func6, Tryd.ntmps6
    go_wp2_with (first
      | ((with_reducible show wpList _ _ _ _ _ _); refine Tryd.klBox (by rfl) _ (by rfl) (some 2) (by rfl) (by rfl) K ?_; intro g1 V1 K1; clear K; (have K := K1); clear K1)
      | ((with_reducible show wpList _ _ _ _ _ _); refine Tryd.klLoad (by rfl) _ (by rfl) K (by rfl) (by repeat (first | exact List.mem_cons_self | refine List.mem_cons_of_mem _ ?_)) ?_)
      | (go_at_call 9; (with_reducible refine (lLong_any l A _ c B _ d _ rfl rfl _ (K.out.at_ (r := ⟨l, A, B⟩) (by simp)) b1 b2 HZ.out).mono ?_); rintro e W1 ⟨rfl, hb⟩; rw [HL.out]; (have K2 := hid (K.out.later hb)); clear hb K; (have K := K2); clear K2)
      | (go_at_call 11; (with_reducible refine (refLOwn_any l A _ c B _ d _ rfl rfl _ (K.out.at_ (r := ⟨l, A, B⟩) (by simp)) B9.out C9.out).mono ?_); rintro e W2 ⟨A5, c5, B5, d5, rfl, ho, hb⟩; simp only [lnV]; (have CAP := hid ho.caps.1); (have wr := ho.wr); (have K2 := hid (K.out.addW hb wr)); clear hb wr ho K; (have K := K2); clear K2)
      | ((with_reducible show wpList _ _ _ _ _ _); refine Tryd.klAlloc (by rfl) (by rfl) (some 5) (by rfl) K ?_; intro g5 V1 K1; clear K; (have K := K1); clear K1)
      | ((with_reducible show wpList _ _ _ _ _ _); refine Tryd.klStore (by rfl) (.tmp 5) _ (by rfl) [] (by exact K) (by rfl) (by rfl) (by exact ⟨rfl, rfl, rfl, rfl⟩) ?_; intro V2 K1; (dsimp only [List.cons_append, List.nil_append] at K1); clear K; (have K := K1); clear K1)
      | (go_at_call 24; (with_reducible refine (lIndent_any l A _ c B _ d _ rfl rfl _ (K.out.at_ (r := ⟨l, A, B⟩) (by simp)) B9.out C9.out FI.out (Utf8Tabs_below T.out K.out.b)).mono ?_); rintro e W3 hc; unfold RetLnE at hc; rw [EQ0.out] at hc; dsimp only at hc; obtain ⟨A60, c60, X60, d60, rfl, -, -, wr3, hb3⟩ := hc; simp only [lnV]; (have K2 := hid (K.out.addW hb3 wr3)); clear hb3 wr3 K; (have K := K2); clear K2)
      | ((with_reducible show wpList _ _ _ _ _ _); refine Tryd.klAlloc (by rfl) (by rfl) (some 6) (by rfl) K ?_; intro g6 V1 K1; clear K; (have K := K1); clear K1)
      | ((with_reducible show wpList _ _ _ _ _ _); refine Tryd.klStore (by rfl) (.tmp 6) _ (by rfl) [] (by exact K) (by rfl) (by rfl) (by exact ⟨rfl, rfl, rfl, rfl⟩) ?_; intro V2 K1; (dsimp only [List.cons_append, List.nil_append] at K1); clear K; (have K := K1); clear K1)
      | (go_at_call 26; (with_reducible refine (refLIndent_any l A5 _ c5 B5 _ d5 _ rfl rfl _ (K.out.atW (r := ⟨l, A5, B5⟩) (by simp)) B9.out C9.out FI.out CAP.out).mono ?_); rintro e W3 hc; unfold RetLnE at hc; rw [EQ0.out] at hc; dsimp only at hc; obtain ⟨A80, c80, X80, d80, rfl, -, -, wr3, hb3⟩ := hc; simp only [lnV]; (have K2 := hid (K.out.addW hb3 wr3)); clear hb3 wr3 K; (have K := K2); clear K2)
      | ((with_reducible show wpList _ _ _ _ _ _); refine Tryd.klAlloc (by rfl) (by rfl) (some 8) (by rfl) K ?_; intro g8 V1 K1; clear K; (have K := K1); clear K1)
      | ((with_reducible show wpList _ _ _ _ _ _); refine Tryd.klStore (by rfl) (.tmp 8) _ (by rfl) [] (by exact K) (by rfl) (by rfl) (by exact ⟨rfl, rfl, rfl, rfl⟩) ?_; intro V2 K1; (dsimp only [List.cons_append, List.nil_append] at K1); clear K; (have K := K1); clear K1)
      | (go_at_call 14; (with_reducible refine (is6_any r0 r0 A60 _ c60 X60 _ d60 A80 _ c80 X80 _ d80 w.heap.size _ e0 e0 rfl rfl rfl rfl _ (K.out.wr ⟨r0, A60, X60⟩ (by simp)) (K.out.atW (r := ⟨r0, A80, X80⟩) (by simp)) RL1.out RC1.out).mono ?_); rintro e W4 ⟨rfl, hw⟩; rw [decide_eq_true (⟨rfl, rfl⟩ : e0 = e0 ∧ r0 = r0)]; (have K2 := hid (KL.spoil (O1 := [_]) (t := ⟨r0, A60, X60⟩) K.out (fun s hs => (RL0.out s hs).below K.out.b) hw)); (dsimp only [List.cons_append, List.nil_append] at K2); clear hw K; (have K := K2); clear K2)
      | (go_at_call 25; (with_reducible refine (lOutdent_any l A _ c B _ d _ rfl rfl _ (K.out.at_ (r := ⟨l, A, B⟩) (by simp)) B9.out C9.out FI.out (Utf8Tabs_below T.out K.out.b)).mono ?_); rintro e W3 hc; unfold RetLnE at hc; rw [EQ1.out] at hc; dsimp only at hc; obtain ⟨A61, c61, X61, d61, rfl, -, -, wr3, hb3⟩ := hc; simp only [lnV]; (have K2 := hid (K.out.addW hb3 wr3)); clear hb3 wr3 K; (have K := K2); clear K2)
      | ((with_reducible show wpList _ _ _ _ _ _); refine Tryd.klStore (by rfl) (.tmp 6) _ (by rfl) [_] (by exact K) (by rfl) (by rfl) (by exact ⟨rfl, rfl, rfl, rfl⟩) ?_; intro V2 K1; (dsimp only [List.cons_append, List.nil_append] at K1); clear K; (have K := K1); clear K1)
      | (go_at_call 27; (with_reducible refine (refLOutdent_any l A5 _ c5 B5 _ d5 _ rfl rfl _ (K.out.atW (r := ⟨l, A5, B5⟩) (by simp)) B9.out C9.out FI.out CAP.out).mono ?_); rintro e W3 hc; unfold RetLnE at hc; rw [EQ1.out] at hc; dsimp only at hc; obtain ⟨A81, c81, X81, d81, rfl, -, -, wr3, hb3⟩ := hc; simp only [lnV]; (have K2 := hid (K.out.addW hb3 wr3)); clear hb3 wr3 K; (have K := K2); clear K2)
      | (go_at_call 14; (with_reducible refine (is6_any r1 r1 A61 _ c61 X61 _ d61 A81 _ c81 X81 _ d81 w.heap.size _ e1 e1 rfl rfl rfl rfl _ (K.out.wr ⟨r1, A61, X61⟩ (by simp)) (K.out.atW (r := ⟨r1, A81, X81⟩) (by simp)) RL2.out RC2.out).mono ?_); rintro e W4 ⟨rfl, hw⟩; rw [decide_eq_true (⟨rfl, rfl⟩ : e1 = e1 ∧ r1 = r1)]; (have K2 := hid (KL.spoil (O1 := [_]) (t := ⟨r1, A61, X61⟩) K.out (fun s hs => (RL0.out s hs).below K.out.b) hw)); (dsimp only [List.cons_append, List.nil_append] at K2); clear hw K; (have K := K2); clear K2)
      | (go_at_call 28; (with_reducible refine (lList_any l A _ c B _ d _ rfl rfl _ (K.out.at_ (r := ⟨l, A, B⟩) (by simp)) B9.out C9.out FI.out (Utf8Tabs_below T.out K.out.b) kind).mono ?_); rintro e W3 hc; unfold RetLnE at hc; rw [EQ2.out] at hc; dsimp only at hc; obtain ⟨A62, c62, X62, d62, rfl, -, -, wr3, hb3⟩ := hc; simp only [lnV]; (have K2 := hid (K.out.addW hb3 wr3)); clear hb3 wr3 K; (have K := K2); clear K2)
      | (go_at_call 29; (with_reducible refine (refLList_any l A5 _ c5 B5 _ d5 _ rfl rfl _ (K.out.atW (r := ⟨l, A5, B5⟩) (by simp)) B9.out C9.out FI.out CAP.out kind).mono ?_); rintro e W3 hc; unfold RetLnE at hc; rw [EQ2.out] at hc; dsimp only at hc; obtain ⟨A82, c82, X82, d82, rfl, -, -, wr3, hb3⟩ := hc; simp only [lnV]; (have K2 := hid (K.out.addW hb3 wr3)); clear hb3 wr3 K; (have K := K2); clear K2)
      | (go_at_call 14; (with_reducible refine (is6_any r2 r2 A62 _ c62 X62 _ d62 A82 _ c82 X82 _ d82 w.heap.size _ e2 e2 rfl rfl rfl rfl _ (K.out.wr ⟨r2, A62, X62⟩ (by simp)) (K.out.atW (r := ⟨r2, A82, X82⟩) (by simp)) RL3.out RC3.out).mono ?_); rintro e W4 ⟨rfl, hw⟩; rw [decide_eq_true (⟨rfl, rfl⟩ : e2 = e2 ∧ r2 = r2)]; (have K2 := hid (KL.spoil (O1 := [_]) (t := ⟨r2, A62, X62⟩) K.out (fun s hs => (RL0.out s hs).below K.out.b) hw)); (dsimp only [List.cons_append, List.nil_append] at K2); clear hw K; (have K := K2); clear K2)
      | (go_at_call 30; (with_reducible refine (lFormat_any l A _ c B _ d _ rfl rfl _ (K.out.at_ (r := ⟨l, A, B⟩) (by simp)) B9.out C9.out FI.out (Utf8Tabs_below T.out K.out.b) kind).mono ?_); rintro e W3 hc; unfold RetLnE at hc; rw [EQ3.out] at hc; dsimp only at hc; obtain ⟨A63, c63, X63, d63, rfl, -, -, wr3, hb3⟩ := hc; simp only [lnV]; (have K2 := hid (K.out.addW hb3 wr3)); clear hb3 wr3 K; (have K := K2); clear K2)
      | (go_at_call 31; (with_reducible refine (refLFormat_any l A5 _ c5 B5 _ d5 _ rfl rfl _ (K.out.atW (r := ⟨l, A5, B5⟩) (by simp)) B9.out C9.out FI.out CAP.out kind).mono ?_); rintro e W3 hc; unfold RetLnE at hc; rw [EQ3.out] at hc; dsimp only at hc; obtain ⟨A83, c83, X83, d83, rfl, -, -, wr3, hb3⟩ := hc; simp only [lnV]; (have K2 := hid (K.out.addW hb3 wr3)); clear hb3 wr3 K; (have K := K2); clear K2)
      | (go_at_call 14; (with_reducible refine (is6_any r3 r3 A63 _ c63 X63 _ d63 A83 _ c83 X83 _ d83 w.heap.size _ e3 e3 rfl rfl rfl rfl _ (K.out.wr ⟨r3, A63, X63⟩ (by simp)) (K.out.atW (r := ⟨r3, A83, X83⟩) (by simp)) RL4.out RC4.out).mono ?_); rintro e W4 ⟨rfl, hw⟩; rw [decide_eq_true (⟨rfl, rfl⟩ : e3 = e3 ∧ r3 = r3)]; (have K2 := hid (KL.spoil (O1 := [_]) (t := ⟨r3, A63, X63⟩) K.out (fun s hs => (RL0.out s hs).below K.out.b) hw)); (dsimp only [List.cons_append, List.nil_append] at K2); clear hw K; (have K := K2); clear K2)
      | (go_at_call 32; (with_reducible refine (lFree_any l A _ c B _ d _ rfl rfl _ (K.out.at_ (r := ⟨l, A, B⟩) (by simp)) B9.out C9.out FI.out (Utf8Tabs_below T.out K.out.b)).mono ?_); rintro e W3 hc; unfold RetLnE at hc; rw [EQ4.out] at hc; dsimp only at hc; obtain ⟨A64, c64, X64, d64, rfl, -, -, wr3, hb3⟩ := hc; simp only [lnV]; (have K2 := hid (K.out.addW hb3 wr3)); clear hb3 wr3 K; (have K := K2); clear K2)
      | (go_at_call 33; (with_reducible refine (refLFree_any l A5 _ c5 B5 _ d5 _ rfl rfl _ (K.out.atW (r := ⟨l, A5, B5⟩) (by simp)) B9.out C9.out FI.out CAP.out).mono ?_); rintro e W3 hc; unfold RetLnE at hc; rw [EQ4.out] at hc; dsimp only at hc; obtain ⟨A84, c84, X84, d84, rfl, -, -, wr3, hb3⟩ := hc; simp only [lnV]; (have K2 := hid (K.out.addW hb3 wr3)); clear hb3 wr3 K; (have K := K2); clear K2)
      | (go_at_call 14; (with_reducible refine (is6_any r4 r4 A64 _ c64 X64 _ d64 A84 _ c84 X84 _ d84 w.heap.size _ e4 e4 rfl rfl rfl rfl _ (K.out.wr ⟨r4, A64, X64⟩ (by simp)) (K.out.atW (r := ⟨r4, A84, X84⟩) (by simp)) RL5.out RC5.out).mono ?_); rintro e W4 ⟨rfl, hw⟩; rw [decide_eq_true (⟨rfl, rfl⟩ : e4 = e4 ∧ r4 = r4)]; (have K2 := hid (KL.spoil (O1 := [_]) (t := ⟨r4, A64, X64⟩) K.out (fun s hs => (RL0.out s hs).below K.out.b) hw)); (dsimp only [List.cons_append, List.nil_append] at K2); clear hw K; (have K := K2); clear K2)
      | (go_at_call 17; (with_reducible refine (refLSame_any l l A _ c B _ d A5 _ c5 B5 _ d5 _ _ rfl rfl rfl rfl _ (K.out.at_ (r := ⟨l, A, B⟩) (by simp)) (K.out.atW (r := ⟨l, A5, B5⟩) (by simp)) B9.out C9.out).mono ?_); rintro e W4 ⟨rfl, hb⟩; rw [decide_eq_true (rfl : l = l)]; (have K2 := hid (K.out.later hb)); clear hb K; (have K := K2); clear K2)
      | (go_at_call 10; (with_reducible refine (lAwake_any _ (Utf8Tabs_below T.out K.out.b)).mono ?_); rintro e W9 ⟨rfl, hb⟩; (have K2 := hid (K.out.later hb)); clear hb K; (have K := K2); clear K2))
    go_ret
    exact ⟨rfl, K.out.b⟩
end Go.Proofs.YtpldmiencoolhaaDoor
