/- The walk of the reference's Format. (Printed by wip/lnrturn.py.) -/
import Derived.Test.YtpldmiencoolhaaDoorLnKit
import Derived.Test.YtpldmiencoolhaaDoorLnROwn
import Derived.Test.YtpldmiencoolhaaDoorLnMayR
import Derived.BigQuiet
import Derived.Deep.QuietTactic
namespace Go.Proofs.YtpldmiencoolhaaDoor
open Go.RowKit Go.Lib

set_option maxRecDepth 100000 in
set_option maxHeartbeats 8000000 in
theorem refLFormat_any (l : Ln) (A : Option Addr) (n c : Nat) (B : Option Addr) (m d C : Nat) (hn : n = l.ls.length) (hm : m = l.cs.length) (w : World) (hl : LnAt w C l A B) (h1 : l.ls.length ≤ 1000000000) (h2 : l.cs.length ≤ 1000000000) (hf : FineC l.cs) (hcl : n ≤ c) (kind : Int) :
    Calls Tryd.prog 31 #[.agg #[.int .i64 l.q, .slice A n c, .int .i64 l.k, .slice B m d], .int .i64 kind] w (RetLnE (formatL l kind) w) := by
  subst hn hm
  have FI := hid hf
  have B9 := hid h1
  have C9 := hid h2
  have HCL := hid hcl
  have RL0 : Hid (∀ s ∈ [(⟨l, A, B⟩ : RowL)], LnAt w w.heap.size s.l s.A s.B) := hid (by simpa using hl.live)
  have K := hid (KL.start w [⟨l, A, B⟩] RL0.out)
  clear hl hf h1 h2 hcl
  by_cases k0 : kind < 0
  · skip
    have e0 : decide (kind < 0) = true := decide_eq_true k0
    have TL := hid (show formatL l kind = (zL, 1) by unfold formatL; rw [if_neg (by rintro ⟨h, _⟩; omega)])
    clear k0
    go_enter Tryd.func31, Tryd.ntmps31
    go_wp2_with (first
      | ((with_reducible show wpList _ _ _ _ _ _); refine Tryd.klBox (by rfl) _ (by rfl) (some 2) (by rfl) (by rfl) K ?_; intro g1 V1 K1; clear K; (have K := K1); clear K1)
      | ((with_reducible show wpList _ _ _ _ _ _); refine Tryd.klAlloc (by rfl) (by rfl) (some 4) (by rfl) K ?_; intro g3 V1 K1; clear K; (have K := K1); clear K1)
      | ((with_reducible show wpList _ _ _ _ _ _); refine Tryd.klLoad (by rfl) _ (by rfl) K (by rfl) (by repeat (first | exact List.mem_cons_self | refine List.mem_cons_of_mem _ ?_)) ?_)
      | ((with_reducible show wpList _ _ _ _ _ _); refine Tryd.klStore (by rfl) (.tmp 4) _ (by rfl) [] (by exact K) (by rfl) (by rfl) (by exact ⟨rfl, rfl, rfl, rfl⟩) ?_; intro V2 K1; (dsimp only [List.cons_append, List.nil_append] at K1); clear K; (have K := K1); clear K1))
    (try simp only [Exit.inBlock, Exit.then])
    rw [TL.out]
    refine Tryd.ret_lineE Tryd.results31 rfl g3 _ _ _ _ _ rfl rfl (K.out.bx ⟨g3, _, _, _, _⟩ (by repeat (first | exact List.mem_cons_self | refine List.mem_cons_of_mem _ ?_))).2 ?_
    exact ⟨none, 0, none, 0, rfl, Nat.zero_le _, Nat.zero_le _, LnWr.zero, K.out.b⟩
  · have e0 : decide (kind < 0) = false := decide_eq_false k0
    by_cases k3 : 3 < kind
    · skip
      have e1 : decide (3 < kind) = true := decide_eq_true k3
      have TL := hid (show formatL l kind = (zL, 1) by unfold formatL; rw [if_neg (by rintro ⟨h, _⟩; omega)])
      clear k0 k3
      go_enter Tryd.func31, Tryd.ntmps31
      go_wp2_with (first
        | ((with_reducible show wpList _ _ _ _ _ _); refine Tryd.klBox (by rfl) _ (by rfl) (some 2) (by rfl) (by rfl) K ?_; intro g1 V1 K1; clear K; (have K := K1); clear K1)
        | ((with_reducible show wpList _ _ _ _ _ _); refine Tryd.klAlloc (by rfl) (by rfl) (some 4) (by rfl) K ?_; intro g3 V1 K1; clear K; (have K := K1); clear K1)
        | ((with_reducible show wpList _ _ _ _ _ _); refine Tryd.klLoad (by rfl) _ (by rfl) K (by rfl) (by repeat (first | exact List.mem_cons_self | refine List.mem_cons_of_mem _ ?_)) ?_)
        | ((with_reducible show wpList _ _ _ _ _ _); refine Tryd.klStore (by rfl) (.tmp 4) _ (by rfl) [] (by exact K) (by rfl) (by rfl) (by exact ⟨rfl, rfl, rfl, rfl⟩) ?_; intro V2 K1; (dsimp only [List.cons_append, List.nil_append] at K1); clear K; (have K := K1); clear K1))
      (try simp only [Exit.inBlock, Exit.then])
      rw [TL.out]
      refine Tryd.ret_lineE Tryd.results31 rfl g3 _ _ _ _ _ rfl rfl (K.out.bx ⟨g3, _, _, _, _⟩ (by repeat (first | exact List.mem_cons_self | refine List.mem_cons_of_mem _ ?_))).2 ?_
      exact ⟨none, 0, none, 0, rfl, Nat.zero_le _, Nat.zero_le _, LnWr.zero, K.out.b⟩
    · have e1 : decide (3 < kind) = false := decide_eq_false k3
      cases hb : mayL l with
      | false =>
        have MB := hid hb
        have TL := hid (show formatL l kind = (zL, 1) by unfold formatL; rw [if_neg (by rintro ⟨_, h⟩; rw [hb] at h; cases h)])
        clear k0 k3 hb
        go_enter Tryd.func31, Tryd.ntmps31
        go_wp2_with (first
          | ((with_reducible show wpList _ _ _ _ _ _); refine Tryd.klBox (by rfl) _ (by rfl) (some 2) (by rfl) (by rfl) K ?_; intro g1 V1 K1; clear K; (have K := K1); clear K1)
          | ((with_reducible show wpList _ _ _ _ _ _); refine Tryd.klAlloc (by rfl) (by rfl) (some 4) (by rfl) K ?_; intro g3 V1 K1; clear K; (have K := K1); clear K1)
          | ((with_reducible show wpList _ _ _ _ _ _); refine Tryd.klLoad (by rfl) _ (by rfl) K (by rfl) (by repeat (first | exact List.mem_cons_self | refine List.mem_cons_of_mem _ ?_)) ?_)
          | (go_at_call 19; (with_reducible refine (refLMay_any l A _ c B _ d _ rfl rfl _ (K.out.at_ (r := ⟨l, A, B⟩) (by simp)) B9.out C9.out FI.out).mono ?_); rintro e W2 ⟨rfl, hb⟩; rw [MB.out]; (have K2 := hid (K.out.later hb)); clear hb K; (have K := K2); clear K2; obtain ⟨⟨_, _, _, _⟩, _, _, _, _⟩ := K.out.cellsOf (g := g1) (by repeat (first | exact List.mem_cons_self | refine List.mem_cons_of_mem _ ?_)))
          | ((with_reducible show wpList _ _ _ _ _ _); refine Tryd.klStore (by rfl) (.tmp 4) _ (by rfl) [] (by exact K) (by rfl) (by rfl) (by exact ⟨rfl, rfl, rfl, rfl⟩) ?_; intro V2 K1; (dsimp only [List.cons_append, List.nil_append] at K1); clear K; (have K := K1); clear K1))
        (try simp only [Exit.inBlock, Exit.then])
        rw [TL.out]
        refine Tryd.ret_lineE Tryd.results31 rfl g3 _ _ _ _ _ rfl rfl (K.out.bx ⟨g3, _, _, _, _⟩ (by repeat (first | exact List.mem_cons_self | refine List.mem_cons_of_mem _ ?_))).2 ?_
        exact ⟨none, 0, none, 0, rfl, Nat.zero_le _, Nat.zero_le _, LnWr.zero, K.out.b⟩
      | true =>
        have MB := hid hb
        have hk0 : 0 ≤ kind ∧ kind ≤ 3 := by omega
        by_cases hl : l.ls = []
        · have d0 : decide (0 < l.ls.length) = false := by rw [hl]; rfl
          by_cases hk : l.k = kind
          · skip
            have q1 : (l.k == kind) = true := by simp [hk]
            have TL := hid (show formatL l kind = (zL, 7) by unfold formatL; rw [if_pos ⟨hk0, hb⟩, if_neg (by rintro ⟨_, h⟩; exact h hk)])
            clear k0 k3 hb hk0 hl hk
            go_enter Tryd.func31, Tryd.ntmps31
            go_wp2_with (first
              | ((with_reducible show wpList _ _ _ _ _ _); refine Tryd.klBox (by rfl) _ (by rfl) (some 2) (by rfl) (by rfl) K ?_; intro g1 V1 K1; clear K; (have K := K1); clear K1)
              | ((with_reducible show wpList _ _ _ _ _ _); refine Tryd.klAlloc (by rfl) (by rfl) (some 4) (by rfl) K ?_; intro g3 V1 K1; clear K; (have K := K1); clear K1)
              | ((with_reducible show wpList _ _ _ _ _ _); refine Tryd.klLoad (by rfl) _ (by rfl) K (by rfl) (by repeat (first | exact List.mem_cons_self | refine List.mem_cons_of_mem _ ?_)) ?_)
              | (go_at_call 19; (with_reducible refine (refLMay_any l A _ c B _ d _ rfl rfl _ (K.out.at_ (r := ⟨l, A, B⟩) (by simp)) B9.out C9.out FI.out).mono ?_); rintro e W2 ⟨rfl, hb⟩; rw [MB.out]; (have K2 := hid (K.out.later hb)); clear hb K; (have K := K2); clear K2; obtain ⟨⟨_, _, _, _⟩, _, _, _, _⟩ := K.out.cellsOf (g := g1) (by repeat (first | exact List.mem_cons_self | refine List.mem_cons_of_mem _ ?_)))
              | ((with_reducible show wpList _ _ _ _ _ _); refine Tryd.klStore (by rfl) (.tmp 4) _ (by rfl) [] (by exact K) (by rfl) (by rfl) (by exact ⟨rfl, rfl, rfl, rfl⟩) ?_; intro V2 K1; (dsimp only [List.cons_append, List.nil_append] at K1); clear K; (have K := K1); clear K1))
            (try simp only [Exit.inBlock, Exit.then])
            rw [TL.out]
            refine Tryd.ret_lineE Tryd.results31 rfl g3 _ _ _ _ _ rfl rfl (K.out.bx ⟨g3, _, _, _, _⟩ (by repeat (first | exact List.mem_cons_self | refine List.mem_cons_of_mem _ ?_))).2 ?_
            exact ⟨none, 0, none, 0, rfl, Nat.zero_le _, Nat.zero_le _, LnWr.zero, K.out.b⟩
          · skip
            have q1 : (l.k == kind) = false := by simp [hk]
            have TL := hid (show formatL l kind = (⟨l.q, l.ls, kind, l.cs⟩, 0) by unfold formatL; rw [if_pos ⟨hk0, hb⟩, if_pos ⟨hl, hk⟩])
            clear k0 k3 hb hk0 hl hk
            go_enter Tryd.func31, Tryd.ntmps31
            go_wp2_with (first
              | ((with_reducible show wpList _ _ _ _ _ _); refine Tryd.klBox (by rfl) _ (by rfl) (some 2) (by rfl) (by rfl) K ?_; intro g1 V1 K1; clear K; (have K := K1); clear K1)
              | ((with_reducible show wpList _ _ _ _ _ _); refine Tryd.klAlloc (by rfl) (by rfl) (some 4) (by rfl) K ?_; intro g3 V1 K1; clear K; (have K := K1); clear K1)
              | ((with_reducible show wpList _ _ _ _ _ _); refine Tryd.klLoad (by rfl) _ (by rfl) K (by rfl) (by repeat (first | exact List.mem_cons_self | refine List.mem_cons_of_mem _ ?_)) ?_)
              | (go_at_call 19; (with_reducible refine (refLMay_any l A _ c B _ d _ rfl rfl _ (K.out.at_ (r := ⟨l, A, B⟩) (by simp)) B9.out C9.out FI.out).mono ?_); rintro e W2 ⟨rfl, hb⟩; rw [MB.out]; (have K2 := hid (K.out.later hb)); clear hb K; (have K := K2); clear K2; obtain ⟨⟨_, _, _, _⟩, _, _, _, _⟩ := K.out.cellsOf (g := g1) (by repeat (first | exact List.mem_cons_self | refine List.mem_cons_of_mem _ ?_)))
              | (go_at_call 11; (with_reducible refine (refLOwn_any l A _ c B _ d _ rfl rfl _ (K.out.at_ (r := ⟨l, A, B⟩) (by simp)) B9.out C9.out).mono ?_); rintro e W2 ⟨A1, c1, B1, d1, rfl, ho, hb⟩; simp only [lnV]; (have O1 := hid (ho.based (base' := w.heap.size) K.out.b.size)); clear ho; (have K2 := hid (K.out.later hb)); clear hb K; (have K := K2); clear K2)
              | ((with_reducible show wpList _ _ _ _ _ _); refine Tryd.klAllocB (by rfl) (by rfl) (some 6) (by rfl) K ?_; intro g6 V1 X1 K1; clear K; (have K := K1); clear K1; (have O9 := hid (O1.out.later X1.out)); clear O1; (have O1 := O9); clear O9; clear X1)
              | ((with_reducible show wpList _ _ _ _ _ _); refine Tryd.klStoreO (by rfl) (.tmp 6) _ (by rfl) [] (by exact K) (by rfl) (by rfl) (by exact ⟨rfl, rfl, rfl, rfl⟩) ?_; intro V2 X1 G1 K1; (dsimp only [List.cons_append, List.nil_append] at K1 X1 G1); clear K; (have K := K1); clear K1; (have O9 := hid (O1.out.og G1.out X1.out)); clear O1; (have O1 := O9); clear O9; clear X1 G1)
              | ((with_reducible show wpList _ _ _ _ _ _); refine Tryd.klStoreF (by rfl) 3 (by kernel_rfl) (.tmp 33) _ (by rfl) [] (by exact K) 2 (by rfl) (by decide) (v := .int _ _) (by rfl) (by rfl) ⟨_, _, _, _, _⟩ (by rfl) ?_; intro V2 X1 G1 K1; (dsimp only [List.cons_append, List.nil_append] at K1 X1 G1); clear K; (have K := K1); clear K1; (have O9 := hid (O1.out.og G1.out X1.out)); clear O1; (have O1 := O9); clear O9; clear X1 G1)
              | ((with_reducible show wpList _ _ _ _ _ _); refine Tryd.klStoreO (by rfl) (.tmp 4) _ (by rfl) [_] (by exact K) (by rfl) (by rfl) (by exact ⟨rfl, rfl, rfl, rfl⟩) ?_; intro V2 X1 G1 K1; (dsimp only [List.cons_append, List.nil_append] at K1 X1 G1); clear K; (have K := K1); clear K1; (have O9 := hid (O1.out.og G1.out X1.out)); clear O1; (have O1 := O9); clear O9; clear X1 G1))
            (try simp only [Exit.inBlock, Exit.then])
            rw [TL.out]
            refine Tryd.ret_lineE Tryd.results31 rfl g3 _ _ _ _ _ rfl rfl (K.out.bx ⟨g3, _, _, _, _⟩ (by repeat (first | exact List.mem_cons_self | refine List.mem_cons_of_mem _ ?_))).2 ?_
            exact ⟨A1, c1, B1, d1, rfl, O1.out.caps.1, O1.out.caps.2, ⟨O1.out.ls.wr, O1.out.cs.wr⟩, K.out.b⟩
        · skip
          have d0 : decide (0 < l.ls.length) = true := decide_eq_true (List.length_pos_iff.2 hl)
          have TL := hid (show formatL l kind = (zL, 7) by unfold formatL; rw [if_pos ⟨hk0, hb⟩, if_neg (by rintro ⟨h, _⟩; exact hl h)])
          clear k0 k3 hb hk0 hl
          go_enter Tryd.func31, Tryd.ntmps31
          go_wp2_with (first
            | ((with_reducible show wpList _ _ _ _ _ _); refine Tryd.klBox (by rfl) _ (by rfl) (some 2) (by rfl) (by rfl) K ?_; intro g1 V1 K1; clear K; (have K := K1); clear K1)
            | ((with_reducible show wpList _ _ _ _ _ _); refine Tryd.klAlloc (by rfl) (by rfl) (some 4) (by rfl) K ?_; intro g3 V1 K1; clear K; (have K := K1); clear K1)
            | ((with_reducible show wpList _ _ _ _ _ _); refine Tryd.klLoad (by rfl) _ (by rfl) K (by rfl) (by repeat (first | exact List.mem_cons_self | refine List.mem_cons_of_mem _ ?_)) ?_)
            | (go_at_call 19; (with_reducible refine (refLMay_any l A _ c B _ d _ rfl rfl _ (K.out.at_ (r := ⟨l, A, B⟩) (by simp)) B9.out C9.out FI.out).mono ?_); rintro e W2 ⟨rfl, hb⟩; rw [MB.out]; (have K2 := hid (K.out.later hb)); clear hb K; (have K := K2); clear K2; obtain ⟨⟨_, _, _, _⟩, _, _, _, _⟩ := K.out.cellsOf (g := g1) (by repeat (first | exact List.mem_cons_self | refine List.mem_cons_of_mem _ ?_)))
            | ((with_reducible show wpList _ _ _ _ _ _); refine Tryd.klStore (by rfl) (.tmp 4) _ (by rfl) [] (by exact K) (by rfl) (by rfl) (by exact ⟨rfl, rfl, rfl, rfl⟩) ?_; intro V2 K1; (dsimp only [List.cons_append, List.nil_append] at K1); clear K; (have K := K1); clear K1))
          (try simp only [Exit.inBlock, Exit.then])
          rw [TL.out]
          refine Tryd.ret_lineE Tryd.results31 rfl g3 _ _ _ _ _ rfl rfl (K.out.bx ⟨g3, _, _, _, _⟩ (by repeat (first | exact List.mem_cons_self | refine List.mem_cons_of_mem _ ?_))).2 ?_
          exact ⟨none, 0, none, 0, rfl, Nat.zero_le _, Nat.zero_le _, LnWr.zero, K.out.b⟩
end Go.Proofs.YtpldmiencoolhaaDoor
