/- The walk of lines.Split. (Printed by wip/lnsplit.py.) -/
import Derived.Test.YtpldmiencoolhaaDoorLnTwos
import Derived.Test.YtpldmiencoolhaaDoorLnKit
import Derived.Test.YtpldmiencoolhaaDoorLnOwn
import Derived.Test.YtpldmiencoolhaaDoorLnMay
import Derived.Test.YtpldmiencoolhaaDoorLnFrame
import Derived.BigQuiet
import Derived.Deep.RegionHeld3
import Derived.Deep.RegionWith
import Derived.BigRegion
import Derived.Deep.QuietTactic
namespace Go.Proofs.YtpldmiencoolhaaDoor
open Go.RowKit Go.Lib

/-- What Split hands back: two lines in new rows that lie apart, and an error. -/
def RetSplit (l m : Ln) (er : Int) (w : World) (e : Ending) (w' : World) : Prop := ∃ A c B d A' c' B' d', e = .returned (.tuple #[lnV l A c B d, lnV m A' c' B' d', .int .i64 er]) ∧ LnWr w' w.heap.size l A B ∧ LnWr w' w.heap.size m A' B' ∧ (∀ g j, RL l A B g j → ¬ RL m A' B' g j) ∧ (l.ls.length ≤ c ∧ l.cs.length ≤ d ∧ m.ls.length ≤ c' ∧ m.cs.length ≤ d') ∧ Below w.heap.size w w'
set_option maxRecDepth 100000 in
set_option maxHeartbeats 8000000 in
theorem lSplit_any (l : Ln) (A : Option Addr) (n c : Nat) (B : Option Addr) (m d C : Nat) (hn : n = l.ls.length) (hm : m = l.cs.length) (w : World) (hl : LnAt w C l A B) (h1 : l.ls.length ≤ 1000000000) (h2 : l.cs.length ≤ 1000000000) (hf : FineC l.cs) (hT : Tb w) (at_ : Int) :
    Calls Tryd.prog 12 #[.agg #[.int .i64 l.q, .slice A n c, .int .i64 l.k, .slice B m d], .int .i64 at_] w (RetSplit (splitA l at_) (splitB l at_) (splitE l at_) w) := by
  subst hn hm
  have T := hid hT
  have FI := hid hf
  have B9 := hid h1
  have C9 := hid h2
  have K := hid (KL.start w [⟨l, A, B⟩] (by simpa using hl.live))
  clear hl hf hT h1 h2
  cases hb : mayL l with
  | false =>
    have MB := hid hb
    have SA := hid (show splitA l at_ = zL by unfold splitA; rw [if_neg (by unfold inL; simp [hb])])
    have SB := hid (show splitB l at_ = zL by unfold splitB; rw [if_neg (by unfold inL; simp [hb])])
    have SE := hid (show splitE l at_ = 1 by unfold splitE; rw [if_neg (by unfold inL; simp [hb])])
    clear hb
    go_enter Tryd.func12, Tryd.ntmps12
    go_wp2_with (first
      | ((with_reducible show wpList _ _ _ _ _ _); refine Tryd.klBox (by rfl) _ (by rfl) (some 2) (by rfl) (by rfl) K ?_; intro g1 V1 K1; clear K; (have K := K1); clear K1)
      | ((with_reducible show wpList _ _ _ _ _ _); refine Tryd.klAlloc (by rfl) (by rfl) (some 4) (by rfl) K ?_; intro g3 V1 K1; clear K; (have K := K1); clear K1)
      | ((with_reducible show wpList _ _ _ _ _ _); refine Tryd.klAlloc (by rfl) (by rfl) (some 5) (by rfl) K ?_; intro g4 V1 K1; clear K; (have K := K1); clear K1)
      | ((with_reducible show wpList _ _ _ _ _ _); refine Tryd.klLoad (by rfl) _ (by rfl) K (by rfl) (by repeat (first | exact List.mem_cons_self | refine List.mem_cons_of_mem _ ?_)) ?_)
      | (go_at_call 18; (with_reducible refine (lMay_any l A _ c B _ d _ rfl rfl _ (K.out.at_ (r := ⟨l, A, B⟩) (by simp)) B9.out C9.out FI.out (Utf8Tabs_below T.out K.out.b)).mono ?_); rintro e W2 ⟨rfl, hb⟩; rw [MB.out]; (have K2 := hid (K.out.later hb)); clear hb K; (have K := K2); clear K2; obtain ⟨⟨_, _, _, _⟩, _, _, _, _⟩ := K.out.cellsOf (g := g1) (by repeat (first | exact List.mem_cons_self | refine List.mem_cons_of_mem _ ?_)))
      | ((with_reducible show wpList _ _ _ _ _ _); refine Tryd.klStore (by rfl) (.tmp 4) _ (by rfl) [_] (by exact K) (by rfl) (by rfl) (by exact ⟨rfl, rfl, rfl, rfl⟩) ?_; intro V2 K1; (dsimp only [List.cons_append, List.nil_append] at K1); clear K; (have K := K1); clear K1)
      | ((with_reducible show wpList _ _ _ _ _ _); refine Tryd.klStore (by rfl) (.tmp 5) _ (by rfl) [] (by exact K) (by rfl) (by rfl) (by exact ⟨rfl, rfl, rfl, rfl⟩) ?_; intro V2 K1; (dsimp only [List.cons_append, List.nil_append] at K1); clear K; (have K := K1); clear K1))
    (try simp only [Exit.inBlock, Exit.then])
    rw [SA.out, SB.out, SE.out]
    refine Tryd.ret_line2E Tryd.results12 rfl g3 g4 _ _ _ _ _ _ _ _ _ rfl rfl rfl (K.out.bx ⟨g3, _, _, _, _⟩ (by repeat (first | exact List.mem_cons_self | refine List.mem_cons_of_mem _ ?_))).2 (K.out.bx ⟨g4, _, _, _, _⟩ (by repeat (first | exact List.mem_cons_self | refine List.mem_cons_of_mem _ ?_))).2 ?_
    exact ⟨none, 0, none, 0, none, 0, none, 0, rfl, LnWr.zero, LnWr.zero, (fun g j h => by rcases h with ⟨o, h, _⟩ | ⟨o, h, _⟩ <;> cases h), ⟨Nat.zero_le _, Nat.zero_le _, Nat.zero_le _, Nat.zero_le _⟩, K.out.b⟩
  | true =>
    have MB := hid hb
    by_cases h0 : at_ < 0
    · skip
      have SA := hid (show splitA l at_ = zL by unfold splitA; rw [if_neg (by unfold inL; simp [hb, h0])])
      have SB := hid (show splitB l at_ = zL by unfold splitB; rw [if_neg (by unfold inL; simp [hb, h0])])
      have SE := hid (show splitE l at_ = 1 by unfold splitE; rw [if_neg (by unfold inL; simp [hb, h0])])
      have e0 : decide (at_ < 0) = true := decide_eq_true h0
      clear hb h0
      go_enter Tryd.func12, Tryd.ntmps12
      go_wp2_with (first
        | ((with_reducible show wpList _ _ _ _ _ _); refine Tryd.klBox (by rfl) _ (by rfl) (some 2) (by rfl) (by rfl) K ?_; intro g1 V1 K1; clear K; (have K := K1); clear K1)
        | ((with_reducible show wpList _ _ _ _ _ _); refine Tryd.klAlloc (by rfl) (by rfl) (some 4) (by rfl) K ?_; intro g3 V1 K1; clear K; (have K := K1); clear K1)
        | ((with_reducible show wpList _ _ _ _ _ _); refine Tryd.klAlloc (by rfl) (by rfl) (some 5) (by rfl) K ?_; intro g4 V1 K1; clear K; (have K := K1); clear K1)
        | ((with_reducible show wpList _ _ _ _ _ _); refine Tryd.klLoad (by rfl) _ (by rfl) K (by rfl) (by repeat (first | exact List.mem_cons_self | refine List.mem_cons_of_mem _ ?_)) ?_)
        | (go_at_call 18; (with_reducible refine (lMay_any l A _ c B _ d _ rfl rfl _ (K.out.at_ (r := ⟨l, A, B⟩) (by simp)) B9.out C9.out FI.out (Utf8Tabs_below T.out K.out.b)).mono ?_); rintro e W2 ⟨rfl, hb⟩; rw [MB.out]; (have K2 := hid (K.out.later hb)); clear hb K; (have K := K2); clear K2; obtain ⟨⟨_, _, _, _⟩, _, _, _, _⟩ := K.out.cellsOf (g := g1) (by repeat (first | exact List.mem_cons_self | refine List.mem_cons_of_mem _ ?_)))
        | ((with_reducible show wpList _ _ _ _ _ _); refine Tryd.klStore (by rfl) (.tmp 4) _ (by rfl) [_] (by exact K) (by rfl) (by rfl) (by exact ⟨rfl, rfl, rfl, rfl⟩) ?_; intro V2 K1; (dsimp only [List.cons_append, List.nil_append] at K1); clear K; (have K := K1); clear K1)
        | ((with_reducible show wpList _ _ _ _ _ _); refine Tryd.klStore (by rfl) (.tmp 5) _ (by rfl) [] (by exact K) (by rfl) (by rfl) (by exact ⟨rfl, rfl, rfl, rfl⟩) ?_; intro V2 K1; (dsimp only [List.cons_append, List.nil_append] at K1); clear K; (have K := K1); clear K1))
      (try simp only [Exit.inBlock, Exit.then])
      rw [SA.out, SB.out, SE.out]
      refine Tryd.ret_line2E Tryd.results12 rfl g3 g4 _ _ _ _ _ _ _ _ _ rfl rfl rfl (K.out.bx ⟨g3, _, _, _, _⟩ (by repeat (first | exact List.mem_cons_self | refine List.mem_cons_of_mem _ ?_))).2 (K.out.bx ⟨g4, _, _, _, _⟩ (by repeat (first | exact List.mem_cons_self | refine List.mem_cons_of_mem _ ?_))).2 ?_
      exact ⟨none, 0, none, 0, none, 0, none, 0, rfl, LnWr.zero, LnWr.zero, (fun g j h => by rcases h with ⟨o, h, _⟩ | ⟨o, h, _⟩ <;> cases h), ⟨Nat.zero_le _, Nat.zero_le _, Nat.zero_le _, Nat.zero_le _⟩, K.out.b⟩
    · by_cases hN : (l.cs.length : Int) < at_
      · skip
        have SA := hid (show splitA l at_ = zL by unfold splitA; rw [if_neg (by unfold inL; simp [hb, h0, hN])])
        have SB := hid (show splitB l at_ = zL by unfold splitB; rw [if_neg (by unfold inL; simp [hb, h0, hN])])
        have SE := hid (show splitE l at_ = 1 by unfold splitE; rw [if_neg (by unfold inL; simp [hb, h0, hN])])
        have e0 : decide (at_ < 0) = false := decide_eq_false h0
        have e1 : decide ((l.cs.length : Int) < at_) = true := decide_eq_true hN
        clear hb h0 hN
        go_enter Tryd.func12, Tryd.ntmps12
        go_wp2_with (first
          | ((with_reducible show wpList _ _ _ _ _ _); refine Tryd.klBox (by rfl) _ (by rfl) (some 2) (by rfl) (by rfl) K ?_; intro g1 V1 K1; clear K; (have K := K1); clear K1)
          | ((with_reducible show wpList _ _ _ _ _ _); refine Tryd.klAlloc (by rfl) (by rfl) (some 4) (by rfl) K ?_; intro g3 V1 K1; clear K; (have K := K1); clear K1)
          | ((with_reducible show wpList _ _ _ _ _ _); refine Tryd.klAlloc (by rfl) (by rfl) (some 5) (by rfl) K ?_; intro g4 V1 K1; clear K; (have K := K1); clear K1)
          | ((with_reducible show wpList _ _ _ _ _ _); refine Tryd.klLoad (by rfl) _ (by rfl) K (by rfl) (by repeat (first | exact List.mem_cons_self | refine List.mem_cons_of_mem _ ?_)) ?_)
          | (go_at_call 18; (with_reducible refine (lMay_any l A _ c B _ d _ rfl rfl _ (K.out.at_ (r := ⟨l, A, B⟩) (by simp)) B9.out C9.out FI.out (Utf8Tabs_below T.out K.out.b)).mono ?_); rintro e W2 ⟨rfl, hb⟩; rw [MB.out]; (have K2 := hid (K.out.later hb)); clear hb K; (have K := K2); clear K2; obtain ⟨⟨_, _, _, _⟩, _, _, _, _⟩ := K.out.cellsOf (g := g1) (by repeat (first | exact List.mem_cons_self | refine List.mem_cons_of_mem _ ?_)))
          | ((with_reducible show wpList _ _ _ _ _ _); refine Tryd.klStore (by rfl) (.tmp 4) _ (by rfl) [_] (by exact K) (by rfl) (by rfl) (by exact ⟨rfl, rfl, rfl, rfl⟩) ?_; intro V2 K1; (dsimp only [List.cons_append, List.nil_append] at K1); clear K; (have K := K1); clear K1)
          | ((with_reducible show wpList _ _ _ _ _ _); refine Tryd.klStore (by rfl) (.tmp 5) _ (by rfl) [] (by exact K) (by rfl) (by rfl) (by exact ⟨rfl, rfl, rfl, rfl⟩) ?_; intro V2 K1; (dsimp only [List.cons_append, List.nil_append] at K1); clear K; (have K := K1); clear K1))
        (try simp only [Exit.inBlock, Exit.then])
        rw [SA.out, SB.out, SE.out]
        refine Tryd.ret_line2E Tryd.results12 rfl g3 g4 _ _ _ _ _ _ _ _ _ rfl rfl rfl (K.out.bx ⟨g3, _, _, _, _⟩ (by repeat (first | exact List.mem_cons_self | refine List.mem_cons_of_mem _ ?_))).2 (K.out.bx ⟨g4, _, _, _, _⟩ (by repeat (first | exact List.mem_cons_self | refine List.mem_cons_of_mem _ ?_))).2 ?_
        exact ⟨none, 0, none, 0, none, 0, none, 0, rfl, LnWr.zero, LnWr.zero, (fun g j h => by rcases h with ⟨o, h, _⟩ | ⟨o, h, _⟩ <;> cases h), ⟨Nat.zero_le _, Nat.zero_le _, Nat.zero_le _, Nat.zero_le _⟩, K.out.b⟩
      · skip
        have e0 : decide (at_ < 0) = false := decide_eq_false h0
        have e1 : decide ((l.cs.length : Int) < at_) = false := decide_eq_false hN
        obtain ⟨N, rfl⟩ : ∃ N : Nat, at_ = (N : Int) := ⟨at_.toNat, by omega⟩
        have hN2 : N ≤ l.cs.length := by omega
        have HI := hid (show inL l N = true by unfold inL; simp [hb, h0, hN])
        clear hb h0 hN
        go_enter Tryd.func12, Tryd.ntmps12
        go_upto_region 3 with (first
          | ((with_reducible show wpList _ _ _ _ _ _); refine Tryd.klBox (by rfl) _ (by rfl) (some 2) (by rfl) (by rfl) K ?_; intro g1 V1 K1; clear K; (have K := K1); clear K1)
          | ((with_reducible show wpList _ _ _ _ _ _); refine Tryd.klAlloc (by rfl) (by rfl) (some 4) (by rfl) K ?_; intro g3 V1 K1; clear K; (have K := K1); clear K1)
          | ((with_reducible show wpList _ _ _ _ _ _); refine Tryd.klAlloc (by rfl) (by rfl) (some 5) (by rfl) K ?_; intro g4 V1 K1; clear K; (have K := K1); clear K1)
          | ((with_reducible show wpList _ _ _ _ _ _); refine Tryd.klLoad (by rfl) _ (by rfl) K (by rfl) (by repeat (first | exact List.mem_cons_self | refine List.mem_cons_of_mem _ ?_)) ?_)
          | (go_at_call 18; (with_reducible refine (lMay_any l A _ c B _ d _ rfl rfl _ (K.out.at_ (r := ⟨l, A, B⟩) (by simp)) B9.out C9.out FI.out (Utf8Tabs_below T.out K.out.b)).mono ?_); rintro e W2 ⟨rfl, hb⟩; rw [MB.out]; (have K2 := hid (K.out.later hb)); clear hb K; (have K := K2); clear K2; obtain ⟨⟨_, _, _, _⟩, _, _, _, _⟩ := K.out.cellsOf (g := g1) (by repeat (first | exact List.mem_cons_self | refine List.mem_cons_of_mem _ ?_))))
        refine Tryd.two_callsT (l := l) (A := A) (c := c) (B := B) (d := d) (g1 := g1) (m1 := l) (m2 := ⟨l.q, l.ls, l.k, []⟩) ⟨rfl, rfl, rfl⟩ ⟨rfl, rfl, rfl⟩ ⟨rfl, rfl, rfl⟩ ⟨rfl, rfl, rfl⟩ ⟨rfl, rfl, rfl⟩ ⟨rfl, rfl, rfl⟩ ⟨rfl, rfl, rfl⟩ ⟨rfl, rfl, rfl⟩ (by simp) rfl (by decide +kernel) (by decide +kernel) K.out (by repeat (first | exact List.mem_cons_self | refine List.mem_cons_of_mem _ ?_)) (by simp) (fun W h => lOwn_any l A _ c B _ d _ rfl rfl W h B9.out C9.out) (fun _ _ => by kernel_rfl) (fun W h => lFrame_any l A _ c B _ d _ rfl rfl W h B9.out C9.out) (fun _ _ => by kernel_rfl) ?_
        intro g7 g8 A1 c1 B1 d1 A2 c2 B2 d2 V _ K1 o1 o2 ap
        clear K
        have K := hid K1
        have O1 := hid o1
        have O2 := hid o2
        have AP := hid ap
        have cap1 := o1.caps.2
        clear K1 o1 o2 ap
        simp only [upd6, List.setIfInBounds_toArray, List.set_cons_succ, List.set_cons_zero, lnV]
        have k1 : (0 : Int) ≤ (N : Int) := by omega
        have k2 : (N : Int) ≤ (l.cs.length : Int) := by omega
        have k3 : (N : Int) ≤ (d1 : Int) := by omega
        obtain ⟨⟨_, _, _, _⟩, _, _, _, _⟩ := K.out.cellsOf (g := g7) (by repeat (first | exact List.mem_cons_self | refine List.mem_cons_of_mem _ ?_))
        go_upto_region 6 with (first
          | ((with_reducible show wpList _ _ _ _ _ _); refine Tryd.klStoreF (by rfl) 23 (by kernel_rfl) (.tmp 33) _ (by rfl) [] (by exact K) 3 (by rfl) (by decide) (v := .slice _ _ _) (by rfl) (by rfl) ⟨_, _, _, _, _⟩ (by rfl) ?_; intro V2 X1 G1 K1; (dsimp only [List.cons_append, List.nil_append] at K1 X1 G1); clear K; (have K := K1); clear K1; (have O9 := hid (O1.out.og G1.out X1.out)); clear O1; (have O1 := O9); clear O9; (have O9 := hid (O2.out.og G1.out X1.out)); clear O2; (have O2 := O9); clear O9; clear X1 G1; obtain ⟨⟨_, _, _, _⟩, _, _, _, _⟩ := K.out.cellsOf (g := g7) (by repeat (first | exact List.mem_cons_self | refine List.mem_cons_of_mem _ ?_)))
          | ((with_reducible show wpList _ _ _ _ _ _); refine Tryd.klStoreF (by rfl) 23 (by kernel_rfl) (.tmp 39) _ (by rfl) [_] (by exact K) 3 (by rfl) (by decide) (v := .slice _ _ _) (by rfl) (by rfl) ⟨_, _, _, _, _⟩ (by rfl) ?_; intro V2 X1 G1 K1; (dsimp only [List.cons_append, List.nil_append] at K1 X1 G1); clear K; (have K := K1); clear K1; (have O9 := hid (O1.out.og G1.out X1.out)); clear O1; (have O1 := O9); clear O9; (have O9 := hid (O2.out.og G1.out X1.out)); clear O2; (have O2 := O9); clear O9; clear X1 G1; obtain ⟨⟨_, _, _, _⟩, _, _, _, _⟩ := K.out.cellsOf (g := g8) (by repeat (first | exact List.mem_cons_self | refine List.mem_cons_of_mem _ ?_))))
        generalize hR : l.cs.length - N = R at *
        have HR := hid hR
        clear hR
        have HN2 := hid hN2
        have CAP := hid cap1
        clear hN2 cap1 k1 k2 k3
        cases R with
        | zero =>
          have DN : Hid (l.cs.drop N = []) := hid (List.drop_eq_nil_of_le (by have := HR.out; omega))
          go_upto_region 8 with (first
            | ((with_reducible show wpList _ _ _ _ _ _); refine Tryd.klStoreF (by rfl) 3 (by kernel_rfl) (.tmp 44) _ (by rfl) [] (by exact K) 2 (by rfl) (by decide) (v := .int _ _) (by rfl) (by rfl) ⟨_, _, _, _, _⟩ (by rfl) ?_; intro V2 X1 G1 K1; (dsimp only [List.cons_append, List.nil_append] at K1 X1 G1); clear K; (have K := K1); clear K1; (have O9 := hid (O1.out.og G1.out X1.out)); clear O1; (have O1 := O9); clear O9; (have O9 := hid (O2.out.og G1.out X1.out)); clear O2; (have O2 := O9); clear O9; clear X1 G1)
            | ((with_reducible show wpList _ _ _ _ _ _); refine Tryd.klStoreF (by rfl) 23 (by kernel_rfl) (.tmp 45) _ (by rfl) [] (by exact K) 3 (by rfl) (by decide) (v := .slice _ _ _) (by rfl) (by rfl) ⟨_, _, _, _, _⟩ (by rfl) ?_; intro V2 X1 G1 K1; (dsimp only [List.cons_append, List.nil_append] at K1 X1 G1); clear K; (have K := K1); clear K1; (have O9 := hid (O1.out.og G1.out X1.out)); clear O1; (have O1 := O9); clear O9; (have O9 := hid (O2.out.og G1.out X1.out)); clear O2; (have O2 := O9); clear O9; clear X1 G1))
          refine Tryd.two_retsT (x := ⟨g7, .int .i64 l.q, .slice A1 l.ls.length c1, .int .i64 l.k, .slice B1 N N⟩) (y := ⟨g8, .int .i64 l.q, .slice A2 l.ls.length c2, .int .i64 0, .slice none 0 0⟩) (er := .int .i64 0) 4 5 6 46 47 7 8 ⟨rfl, rfl, rfl⟩ ⟨rfl, rfl, rfl⟩ ⟨rfl, rfl, rfl⟩ ⟨rfl, rfl, rfl⟩ ⟨rfl, rfl, rfl⟩ (by decide) (by decide) (by decide) (by simp) (by simp) (by simp) (by decide) rfl rfl rfl rfl (by decide +kernel) (by decide +kernel)
            ((K.out.perm (List.perm_append_comm (l₁ := [_, _]) (l₂ := [_, _, _]))).rows2 (r := ⟨⟨l.q, l.ls, l.k, l.cs.take N⟩, A1, B1⟩) (s := ⟨⟨l.q, l.ls, 0, l.cs.drop N⟩, A2, none⟩) ⟨O1.out.ls.wr, O1.out.cs.wr.take encC_len N⟩ ⟨O2.out.ls.wr, by rw [DN.out]; exact Wr.nil⟩ (split_apart O1.out AP.out (.inr rfl)))
            (by repeat (first | exact List.mem_cons_self | refine List.mem_cons_of_mem _ ?_)) (by repeat (first | exact List.mem_cons_self | refine List.mem_cons_of_mem _ ?_)) ⟨rfl, rfl, rfl, rfl⟩ ⟨rfl, rfl, rfl, rfl⟩ ?_
          intro W9 K9 b3 b4
          clear K
          have K := hid K9
          have B3 := hid b3
          have B4 := hid b4
          clear K9 b3 b4
          simp only [upd3, List.setIfInBounds_toArray, List.set_cons_succ, List.set_cons_zero]
          repeat go_step
          (try simp only [Exit.inBlock, Exit.then])
          have SA := hid (show splitA l N = ⟨l.q, l.ls, l.k, l.cs.take N⟩ by unfold splitA; rw [if_pos HI.out]; rfl)
          have SB := hid (show splitB l N = ⟨l.q, l.ls, 0, l.cs.drop N⟩ by unfold splitB; rw [if_pos HI.out, if_pos (by have := HR.out; have := HN2.out; omega)]; rfl)
          have SE := hid (show splitE l N = 0 by unfold splitE; rw [if_pos HI.out])
          rw [SA.out, SB.out, SE.out]
          refine Tryd.ret_line2E Tryd.results12 rfl g3 g4 _ _ _ _ _ _ _ _ _ rfl rfl rfl B3.out B4.out ?_
          have lt : (l.cs.take N).length = N := by rw [List.length_take]; have := HN2.out; omega
          have ld : (l.cs.drop N).length = 0 := by rw [List.length_drop]; have := HR.out; omega
          refine ⟨A1, c1, B1, N, A2, c2, none, 0, ?_, K.out.wr ⟨⟨l.q, l.ls, l.k, l.cs.take N⟩, A1, B1⟩ (by simp), K.out.wr ⟨⟨l.q, l.ls, 0, l.cs.drop N⟩, A2, none⟩ (by simp), (List.pairwise_cons.1 K.out.sep).1 ⟨⟨l.q, l.ls, 0, l.cs.drop N⟩, A2, none⟩ (by simp), ⟨O1.out.caps.1, by rw [lt]; exact Nat.le_refl _, O2.out.caps.1, by rw [ld]; exact Nat.le_refl _⟩, K.out.b⟩
          simp only [lnV, lt, ld]
          rfl
        | succ R =>
          have hz : (((R + 1 : Nat) : Int) == 0) = false := by rw [beq_eq_false_iff_ne]; omega
          go_upto_region 8 with (fail)
          refine Tryd.two_retsT (x := ⟨g7, .int .i64 l.q, .slice A1 l.ls.length c1, .int .i64 l.k, .slice B1 N N⟩) (y := ⟨g8, .int .i64 l.q, .slice A2 l.ls.length c2, .int .i64 l.k, .slice (dropAt B1 d1 N) (R + 1) (d1 - N)⟩) (er := .int .i64 0) 4 5 6 46 47 7 8 ⟨rfl, rfl, rfl⟩ ⟨rfl, rfl, rfl⟩ ⟨rfl, rfl, rfl⟩ ⟨rfl, rfl, rfl⟩ ⟨rfl, rfl, rfl⟩ (by decide) (by decide) (by decide) (by simp) (by simp) (by simp) (by decide) rfl rfl rfl rfl (by decide +kernel) (by decide +kernel)
            ((K.out.perm (List.perm_append_comm (l₁ := [_, _]) (l₂ := [_, _, _]))).rows2 (r := ⟨⟨l.q, l.ls, l.k, l.cs.take N⟩, A1, B1⟩) (s := ⟨⟨l.q, l.ls, l.k, l.cs.drop N⟩, A2, (dropAt B1 d1 N)⟩) ⟨O1.out.ls.wr, O1.out.cs.wr.take encC_len N⟩ ⟨O2.out.ls.wr, O1.out.cs.wr.drop encC_len CAP.out⟩ (split_apart O1.out AP.out (.inl rfl)))
            (by repeat (first | exact List.mem_cons_self | refine List.mem_cons_of_mem _ ?_)) (by repeat (first | exact List.mem_cons_self | refine List.mem_cons_of_mem _ ?_)) ⟨rfl, rfl, rfl, rfl⟩ ⟨rfl, rfl, rfl, rfl⟩ ?_
          intro W9 K9 b3 b4
          clear K
          have K := hid K9
          have B3 := hid b3
          have B4 := hid b4
          clear K9 b3 b4
          simp only [upd3, List.setIfInBounds_toArray, List.set_cons_succ, List.set_cons_zero]
          repeat go_step
          (try simp only [Exit.inBlock, Exit.then])
          have SA := hid (show splitA l N = ⟨l.q, l.ls, l.k, l.cs.take N⟩ by unfold splitA; rw [if_pos HI.out]; rfl)
          have SB := hid (show splitB l N = ⟨l.q, l.ls, l.k, l.cs.drop N⟩ by unfold splitB; rw [if_pos HI.out, if_neg (by have := HR.out; have := HN2.out; omega)]; rfl)
          have SE := hid (show splitE l N = 0 by unfold splitE; rw [if_pos HI.out])
          rw [SA.out, SB.out, SE.out]
          refine Tryd.ret_line2E Tryd.results12 rfl g3 g4 _ _ _ _ _ _ _ _ _ rfl rfl rfl B3.out B4.out ?_
          have lt : (l.cs.take N).length = N := by rw [List.length_take]; have := HN2.out; omega
          have ld : (l.cs.drop N).length = R + 1 := by rw [List.length_drop]; have := HR.out; omega
          refine ⟨A1, c1, B1, N, A2, c2, (dropAt B1 d1 N), (d1 - N), ?_, K.out.wr ⟨⟨l.q, l.ls, l.k, l.cs.take N⟩, A1, B1⟩ (by simp), K.out.wr ⟨⟨l.q, l.ls, l.k, l.cs.drop N⟩, A2, (dropAt B1 d1 N)⟩ (by simp), (List.pairwise_cons.1 K.out.sep).1 ⟨⟨l.q, l.ls, l.k, l.cs.drop N⟩, A2, (dropAt B1 d1 N)⟩ (by simp), ⟨O1.out.caps.1, by rw [lt]; exact Nat.le_refl _, O2.out.caps.1, by rw [ld]; have := HR.out; have := CAP.out; omega⟩, K.out.b⟩
          simp only [lnV, lt, ld]
          rfl
end Go.Proofs.YtpldmiencoolhaaDoor
