/- The walk of the reference's List. (Printed by wip/lnrturn.py.) -/
import Derived.Test.YtpldmiencoolhaaDoorLnKit
import Derived.Test.YtpldmiencoolhaaDoorLnROwn
import Derived.Test.YtpldmiencoolhaaDoorLnMayR
import Derived.Test.YtpldmiencoolhaaDoorLnRow
import Derived.BigQuiet
import Derived.Deep.QuietTactic
namespace Go.Proofs.YtpldmiencoolhaaDoor
open Go.RowKit Go.Lib

set_option maxRecDepth 100000 in
set_option maxHeartbeats 8000000 in
theorem refLList_any (l : Ln) (A : Option Addr) (n c : Nat) (B : Option Addr) (m d C : Nat) (hn : n = l.ls.length) (hm : m = l.cs.length) (w : World) (hl : LnAt w C l A B) (h1 : l.ls.length ≤ 1000000000) (h2 : l.cs.length ≤ 1000000000) (hf : FineC l.cs) (hcl : n ≤ c) (kind : Int) :
    Calls Tryd.prog 29 #[.agg #[.int .i64 l.q, .slice A n c, .int .i64 l.k, .slice B m d], .int .i64 kind] w (RetLnE (listL l kind) w) := by
  subst hn hm
  have FI := hid hf
  have B9 := hid h1
  have C9 := hid h2
  have HCL := hid hcl
  have RL0 : Hid (∀ s ∈ [(⟨l, A, B⟩ : RowL)], LnAt w w.heap.size s.l s.A s.B) := hid (by simpa using hl.live)
  have K := hid (KL.start w [⟨l, A, B⟩] RL0.out)
  clear hl hf h1 h2 hcl
  by_cases hk : kind = 0 ∨ kind = 1
  · obtain ⟨KB⟩ : Nonempty ((kind != 0) = false ∨ ((kind != 0) = true ∧ (kind != 1) = false)) := ⟨by rcases hk with h | h <;> simp [h]⟩
    cases hb : mayL l with
    | false =>
      have MB := hid hb
      have TL := hid (show listL l kind = (zL, 1) by unfold listL; rw [if_neg (by rintro ⟨_, h⟩; rw [hb] at h; cases h)])
      clear hb hk
      rcases KB with ke | ⟨ke, kf⟩
      · skip
        go_enter Tryd.func29, Tryd.ntmps29
        go_wp2_with (first
          | ((with_reducible show wpList _ _ _ _ _ _); refine Tryd.klBox (by rfl) _ (by rfl) (some 2) (by rfl) (by rfl) K ?_; intro g1 V1 K1; clear K; (have K := K1); clear K1)
          | ((with_reducible show wpList _ _ _ _ _ _); refine Tryd.klAlloc (by rfl) (by rfl) (some 4) (by rfl) K ?_; intro g3 V1 K1; clear K; (have K := K1); clear K1)
          | ((with_reducible show wpList _ _ _ _ _ _); refine Tryd.klLoad (by rfl) _ (by rfl) K (by rfl) (by repeat (first | exact List.mem_cons_self | refine List.mem_cons_of_mem _ ?_)) ?_)
          | (go_at_call 19; (with_reducible refine (refLMay_any l A _ c B _ d _ rfl rfl _ (K.out.at_ (r := ⟨l, A, B⟩) (by simp)) B9.out C9.out FI.out).mono ?_); rintro e W2 ⟨rfl, hb⟩; rw [MB.out]; (have K2 := hid (K.out.later hb)); clear hb K; (have K := K2); clear K2; obtain ⟨⟨_, _, _, _⟩, _, _, _, _⟩ := K.out.cellsOf (g := g1) (by repeat (first | exact List.mem_cons_self | refine List.mem_cons_of_mem _ ?_)))
          | ((with_reducible show wpList _ _ _ _ _ _); refine Tryd.klStore (by rfl) (.tmp 4) _ (by rfl) [] (by exact K) (by rfl) (by rfl) (by exact ⟨rfl, rfl, rfl, rfl⟩) ?_; intro V2 K1; (dsimp only [List.cons_append, List.nil_append] at K1); clear K; (have K := K1); clear K1))
        (try simp only [Exit.inBlock, Exit.then])
        rw [TL.out]
        refine Tryd.ret_lineE Tryd.results29 rfl g3 _ _ _ _ _ rfl rfl (K.out.bx ⟨g3, _, _, _, _⟩ (by repeat (first | exact List.mem_cons_self | refine List.mem_cons_of_mem _ ?_))).2 ?_
        exact ⟨none, 0, none, 0, rfl, Nat.zero_le _, Nat.zero_le _, LnWr.zero, K.out.b⟩
      · skip
        go_enter Tryd.func29, Tryd.ntmps29
        go_wp2_with (first
          | ((with_reducible show wpList _ _ _ _ _ _); refine Tryd.klBox (by rfl) _ (by rfl) (some 2) (by rfl) (by rfl) K ?_; intro g1 V1 K1; clear K; (have K := K1); clear K1)
          | ((with_reducible show wpList _ _ _ _ _ _); refine Tryd.klAlloc (by rfl) (by rfl) (some 4) (by rfl) K ?_; intro g3 V1 K1; clear K; (have K := K1); clear K1)
          | ((with_reducible show wpList _ _ _ _ _ _); refine Tryd.klLoad (by rfl) _ (by rfl) K (by rfl) (by repeat (first | exact List.mem_cons_self | refine List.mem_cons_of_mem _ ?_)) ?_)
          | (go_at_call 19; (with_reducible refine (refLMay_any l A _ c B _ d _ rfl rfl _ (K.out.at_ (r := ⟨l, A, B⟩) (by simp)) B9.out C9.out FI.out).mono ?_); rintro e W2 ⟨rfl, hb⟩; rw [MB.out]; (have K2 := hid (K.out.later hb)); clear hb K; (have K := K2); clear K2; obtain ⟨⟨_, _, _, _⟩, _, _, _, _⟩ := K.out.cellsOf (g := g1) (by repeat (first | exact List.mem_cons_self | refine List.mem_cons_of_mem _ ?_)))
          | ((with_reducible show wpList _ _ _ _ _ _); refine Tryd.klStore (by rfl) (.tmp 4) _ (by rfl) [] (by exact K) (by rfl) (by rfl) (by exact ⟨rfl, rfl, rfl, rfl⟩) ?_; intro V2 K1; (dsimp only [List.cons_append, List.nil_append] at K1); clear K; (have K := K1); clear K1))
        (try simp only [Exit.inBlock, Exit.then])
        rw [TL.out]
        refine Tryd.ret_lineE Tryd.results29 rfl g3 _ _ _ _ _ rfl rfl (K.out.bx ⟨g3, _, _, _, _⟩ (by repeat (first | exact List.mem_cons_self | refine List.mem_cons_of_mem _ ?_))).2 ?_
        exact ⟨none, 0, none, 0, rfl, Nat.zero_le _, Nat.zero_le _, LnWr.zero, K.out.b⟩
    | true =>
      have MB := hid hb
      by_cases hl : l.ls = []
      · have z0 : ((l.ls.length : Int) == 0) = true := by rw [hl]; rfl
        have TL := hid (show listL l kind = (⟨l.q, [kind], 0, l.cs⟩, 0) by unfold listL; rw [if_pos ⟨hk, hb⟩, if_pos hl])
        clear hb hk hl
        rcases KB with ke | ⟨ke, kf⟩
        · skip
          go_enter Tryd.func29, Tryd.ntmps29
          go_wp2_with (first
            | ((with_reducible show wpList _ _ _ _ _ _); refine Tryd.klBox (by rfl) _ (by rfl) (some 2) (by rfl) (by rfl) K ?_; intro g1 V1 K1; clear K; (have K := K1); clear K1)
            | ((with_reducible show wpList _ _ _ _ _ _); refine Tryd.klAlloc (by rfl) (by rfl) (some 4) (by rfl) K ?_; intro g3 V1 K1; clear K; (have K := K1); clear K1)
            | ((with_reducible show wpList _ _ _ _ _ _); refine Tryd.klLoad (by rfl) _ (by rfl) K (by rfl) (by repeat (first | exact List.mem_cons_self | refine List.mem_cons_of_mem _ ?_)) ?_)
            | (go_at_call 19; (with_reducible refine (refLMay_any l A _ c B _ d _ rfl rfl _ (K.out.at_ (r := ⟨l, A, B⟩) (by simp)) B9.out C9.out FI.out).mono ?_); rintro e W2 ⟨rfl, hb⟩; rw [MB.out]; (have K2 := hid (K.out.later hb)); clear hb K; (have K := K2); clear K2; obtain ⟨⟨_, _, _, _⟩, _, _, _, _⟩ := K.out.cellsOf (g := g1) (by repeat (first | exact List.mem_cons_self | refine List.mem_cons_of_mem _ ?_)))
            | (go_at_call 11; (with_reducible refine (refLOwn_any l A _ c B _ d _ rfl rfl _ (K.out.at_ (r := ⟨l, A, B⟩) (by simp)) B9.out C9.out).mono ?_); rintro e W2 ⟨A1, c1, B1, d1, rfl, ho, hb⟩; simp only [lnV]; (have O1 := hid (ho.based (base' := w.heap.size) K.out.b.size)); clear ho; (have K2 := hid (K.out.later hb)); clear hb K; (have K := K2); clear K2)
            | ((with_reducible show wpList _ _ _ _ _ _); refine Tryd.klAllocB (by rfl) (by rfl) (some 6) (by rfl) K ?_; intro g6 V1 X1 K1; clear K; (have K := K1); clear K1; (have O9 := hid (O1.out.later X1.out)); clear O1; (have O1 := O9); clear O9; clear X1)
            | ((with_reducible show wpList _ _ _ _ _ _); refine Tryd.klStoreO (by rfl) (.tmp 6) _ (by rfl) [] (by exact K) (by rfl) (by rfl) (by exact ⟨rfl, rfl, rfl, rfl⟩) ?_; intro V2 X1 G1 K1; (dsimp only [List.cons_append, List.nil_append] at K1 X1 G1); clear K; (have K := K1); clear K1; (have O9 := hid (O1.out.og G1.out X1.out)); clear O1; (have O1 := O9); clear O9; clear X1 G1; obtain ⟨⟨_, _, _, _⟩, _, _, _, _⟩ := K.out.cellsOf (g := g1) (by repeat (first | exact List.mem_cons_self | refine List.mem_cons_of_mem _ ?_)))
            | ((with_reducible show wpList _ _ _ _ _ _); refine Tryd.klStoreF (by rfl) 22 (by kernel_rfl) (.tmp 29) _ (by rfl) [] (by exact hid (K.out.later ((Below.refl _ _).alloc (Nat.le_refl _) (.cells #[.int .i64 kind] 3)))) 1 (by rfl) (by decide) (v := .slice _ _ _) (by rfl) (by rfl) ⟨_, _, _, _, _⟩ (by rfl) ?_; intro V2 X1 G1 K1; (have P1 := hid (show LnOw _ w.heap.size ⟨l.q, [kind], l.k, l.cs⟩ _ 1 B1 d1 from ⟨(own_lit1I _ kind).based K.out.b.size, (O1.out.later ((Below.refl _ _).alloc (Nat.le_refl _) (.cells #[.int .i64 kind] 3))).cs⟩)); (dsimp only [List.cons_append, List.nil_append] at K1 X1 G1); clear K O1; (have K := K1); clear K1; (have O1 := hid (P1.out.og G1.out X1.out)); clear P1 X1 G1)
            | ((with_reducible show wpList _ _ _ _ _ _); refine Tryd.klStoreF (by rfl) 3 (by kernel_rfl) (.tmp 30) _ (by rfl) [] (by exact K) 2 (by rfl) (by decide) (v := .int _ _) (by rfl) (by rfl) ⟨_, _, _, _, _⟩ (by rfl) ?_; intro V2 X1 G1 K1; (dsimp only [List.cons_append, List.nil_append] at K1 X1 G1); clear K; (have K := K1); clear K1; (have O9 := hid (O1.out.og G1.out X1.out)); clear O1; (have O1 := O9); clear O9; clear X1 G1)
            | ((with_reducible show wpList _ _ _ _ _ _); refine Tryd.klStoreO (by rfl) (.tmp 4) _ (by rfl) [_] (by exact K) (by rfl) (by rfl) (by exact ⟨rfl, rfl, rfl, rfl⟩) ?_; intro V2 X1 G1 K1; (dsimp only [List.cons_append, List.nil_append] at K1 X1 G1); clear K; (have K := K1); clear K1; (have O9 := hid (O1.out.og G1.out X1.out)); clear O1; (have O1 := O9); clear O9; clear X1 G1))
          (try simp only [Exit.inBlock, Exit.then])
          rw [TL.out]
          refine Tryd.ret_lineE Tryd.results29 rfl g3 _ _ _ _ _ rfl rfl (K.out.bx ⟨g3, _, _, _, _⟩ (by repeat (first | exact List.mem_cons_self | refine List.mem_cons_of_mem _ ?_))).2 ?_
          exact ⟨_, 1, B1, d1, rfl, O1.out.caps.1, O1.out.caps.2, ⟨O1.out.ls.wr, O1.out.cs.wr⟩, K.out.b⟩
        · skip
          go_enter Tryd.func29, Tryd.ntmps29
          go_wp2_with (first
            | ((with_reducible show wpList _ _ _ _ _ _); refine Tryd.klBox (by rfl) _ (by rfl) (some 2) (by rfl) (by rfl) K ?_; intro g1 V1 K1; clear K; (have K := K1); clear K1)
            | ((with_reducible show wpList _ _ _ _ _ _); refine Tryd.klAlloc (by rfl) (by rfl) (some 4) (by rfl) K ?_; intro g3 V1 K1; clear K; (have K := K1); clear K1)
            | ((with_reducible show wpList _ _ _ _ _ _); refine Tryd.klLoad (by rfl) _ (by rfl) K (by rfl) (by repeat (first | exact List.mem_cons_self | refine List.mem_cons_of_mem _ ?_)) ?_)
            | (go_at_call 19; (with_reducible refine (refLMay_any l A _ c B _ d _ rfl rfl _ (K.out.at_ (r := ⟨l, A, B⟩) (by simp)) B9.out C9.out FI.out).mono ?_); rintro e W2 ⟨rfl, hb⟩; rw [MB.out]; (have K2 := hid (K.out.later hb)); clear hb K; (have K := K2); clear K2; obtain ⟨⟨_, _, _, _⟩, _, _, _, _⟩ := K.out.cellsOf (g := g1) (by repeat (first | exact List.mem_cons_self | refine List.mem_cons_of_mem _ ?_)))
            | (go_at_call 11; (with_reducible refine (refLOwn_any l A _ c B _ d _ rfl rfl _ (K.out.at_ (r := ⟨l, A, B⟩) (by simp)) B9.out C9.out).mono ?_); rintro e W2 ⟨A1, c1, B1, d1, rfl, ho, hb⟩; simp only [lnV]; (have O1 := hid (ho.based (base' := w.heap.size) K.out.b.size)); clear ho; (have K2 := hid (K.out.later hb)); clear hb K; (have K := K2); clear K2)
            | ((with_reducible show wpList _ _ _ _ _ _); refine Tryd.klAllocB (by rfl) (by rfl) (some 6) (by rfl) K ?_; intro g6 V1 X1 K1; clear K; (have K := K1); clear K1; (have O9 := hid (O1.out.later X1.out)); clear O1; (have O1 := O9); clear O9; clear X1)
            | ((with_reducible show wpList _ _ _ _ _ _); refine Tryd.klStoreO (by rfl) (.tmp 6) _ (by rfl) [] (by exact K) (by rfl) (by rfl) (by exact ⟨rfl, rfl, rfl, rfl⟩) ?_; intro V2 X1 G1 K1; (dsimp only [List.cons_append, List.nil_append] at K1 X1 G1); clear K; (have K := K1); clear K1; (have O9 := hid (O1.out.og G1.out X1.out)); clear O1; (have O1 := O9); clear O9; clear X1 G1; obtain ⟨⟨_, _, _, _⟩, _, _, _, _⟩ := K.out.cellsOf (g := g1) (by repeat (first | exact List.mem_cons_self | refine List.mem_cons_of_mem _ ?_)))
            | ((with_reducible show wpList _ _ _ _ _ _); refine Tryd.klStoreF (by rfl) 22 (by kernel_rfl) (.tmp 29) _ (by rfl) [] (by exact hid (K.out.later ((Below.refl _ _).alloc (Nat.le_refl _) (.cells #[.int .i64 kind] 3)))) 1 (by rfl) (by decide) (v := .slice _ _ _) (by rfl) (by rfl) ⟨_, _, _, _, _⟩ (by rfl) ?_; intro V2 X1 G1 K1; (have P1 := hid (show LnOw _ w.heap.size ⟨l.q, [kind], l.k, l.cs⟩ _ 1 B1 d1 from ⟨(own_lit1I _ kind).based K.out.b.size, (O1.out.later ((Below.refl _ _).alloc (Nat.le_refl _) (.cells #[.int .i64 kind] 3))).cs⟩)); (dsimp only [List.cons_append, List.nil_append] at K1 X1 G1); clear K O1; (have K := K1); clear K1; (have O1 := hid (P1.out.og G1.out X1.out)); clear P1 X1 G1)
            | ((with_reducible show wpList _ _ _ _ _ _); refine Tryd.klStoreF (by rfl) 3 (by kernel_rfl) (.tmp 30) _ (by rfl) [] (by exact K) 2 (by rfl) (by decide) (v := .int _ _) (by rfl) (by rfl) ⟨_, _, _, _, _⟩ (by rfl) ?_; intro V2 X1 G1 K1; (dsimp only [List.cons_append, List.nil_append] at K1 X1 G1); clear K; (have K := K1); clear K1; (have O9 := hid (O1.out.og G1.out X1.out)); clear O1; (have O1 := O9); clear O9; clear X1 G1)
            | ((with_reducible show wpList _ _ _ _ _ _); refine Tryd.klStoreO (by rfl) (.tmp 4) _ (by rfl) [_] (by exact K) (by rfl) (by rfl) (by exact ⟨rfl, rfl, rfl, rfl⟩) ?_; intro V2 X1 G1 K1; (dsimp only [List.cons_append, List.nil_append] at K1 X1 G1); clear K; (have K := K1); clear K1; (have O9 := hid (O1.out.og G1.out X1.out)); clear O1; (have O1 := O9); clear O9; clear X1 G1))
          (try simp only [Exit.inBlock, Exit.then])
          rw [TL.out]
          refine Tryd.ret_lineE Tryd.results29 rfl g3 _ _ _ _ _ rfl rfl (K.out.bx ⟨g3, _, _, _, _⟩ (by repeat (first | exact List.mem_cons_self | refine List.mem_cons_of_mem _ ?_))).2 ?_
          exact ⟨_, 1, B1, d1, rfl, O1.out.caps.1, O1.out.caps.2, ⟨O1.out.ls.wr, O1.out.cs.wr⟩, K.out.b⟩
      · have z0 : ((l.ls.length : Int) == 0) = false := by rw [beq_eq_false_iff_ne]; have := List.length_pos_iff.2 hl; omega
        obtain ⟨n, hn⟩ : ∃ n, n + 1 = l.ls.length := ⟨l.ls.length - 1, by have := List.length_pos_iff.2 hl; omega⟩
        obtain ⟨ad, x, hA, -, hx, -⟩ := (RL0.out ⟨l, A, B⟩ (by simp)).ls.atI (k := n) (by show n < l.ls.length; omega)
        have hA' : A = some ad := hA
        subst hA'
        have hx' : l.ls[n]? = some x := hx
        have HX := hid hx'
        have HN := hid hn
        have HE := hid hl
        have HLT : Hid (n < l.ls.length) := hid (by omega)
        have k1 : IntKind.i64.wrap ((l.ls.length : Int) - 1) = (n : Int) := by rw [show (l.ls.length : Int) - 1 = (n : Int) from by omega]; exact IntWalk.i64_in _ (by have := B9.out; omega)
        have k2 : (0 : Int) ≤ (n : Int) := by omega
        have k3 : (n : Int) < (l.ls.length : Int) := by omega
        have hlast := lastI_at hx' hn
        by_cases hxk : x = kind
        · skip
          have qk : (x == kind) = true := by simp [hxk]
          have TL := hid (show listL l kind = (zL, 7) by unfold listL; rw [if_pos ⟨hk, hb⟩, if_neg hl, if_pos (hlast.trans hxk)])
          clear hb hk hl hn hx hx' hA hlast hxk
          rcases KB with ke | ⟨ke, kf⟩
          · skip
            go_enter Tryd.func29, Tryd.ntmps29
            go_wp2_with (first
              | ((with_reducible show wpList _ _ _ _ _ _); refine Tryd.klBox (by rfl) _ (by rfl) (some 2) (by rfl) (by rfl) K ?_; intro g1 V1 K1; clear K; (have K := K1); clear K1)
              | ((with_reducible show wpList _ _ _ _ _ _); refine Tryd.klAlloc (by rfl) (by rfl) (some 4) (by rfl) K ?_; intro g3 V1 K1; clear K; (have K := K1); clear K1)
              | ((with_reducible show wpList _ _ _ _ _ _); refine Tryd.klLoad (by rfl) _ (by rfl) K (by rfl) (by repeat (first | exact List.mem_cons_self | refine List.mem_cons_of_mem _ ?_)) ?_)
              | (go_at_call 19; (with_reducible refine (refLMay_any l (some ad) _ c B _ d _ rfl rfl _ (K.out.at_ (r := ⟨l, (some ad), B⟩) (by simp)) B9.out C9.out FI.out).mono ?_); rintro e W2 ⟨rfl, hb⟩; rw [MB.out]; (have K2 := hid (K.out.later hb)); clear hb K; (have K := K2); clear K2; obtain ⟨⟨_, _, _, _⟩, _, _, _, _⟩ := K.out.cellsOf (g := g1) (by repeat (first | exact List.mem_cons_self | refine List.mem_cons_of_mem _ ?_)))
              | (go_at_call 11; (with_reducible refine (refLOwn_any l (some ad) _ c B _ d _ rfl rfl _ (K.out.at_ (r := ⟨l, (some ad), B⟩) (by simp)) B9.out C9.out).mono ?_); rintro e W2 ⟨A1, c1, B1, d1, rfl, ho, hb⟩; simp only [lnV]; (have O1 := hid (ho.based (base' := w.heap.size) K.out.b.size)); clear ho; (have K2 := hid (K.out.later hb)); clear hb K; (have K := K2); clear K2; obtain ⟨gA, hgA⟩ := ownAddr O1.out HE.out; subst hgA)
              | ((with_reducible show wpList _ _ _ _ _ _); refine Tryd.klAllocB (by rfl) (by rfl) (some 6) (by rfl) K ?_; intro g6 V1 X1 K1; clear K; (have K := K1); clear K1; (have O9 := hid (O1.out.later X1.out)); clear O1; (have O1 := O9); clear O9; clear X1)
              | ((with_reducible show wpList _ _ _ _ _ _); refine Tryd.klStoreO (by rfl) (.tmp 6) _ (by rfl) [] (by exact K) (by rfl) (by rfl) (by exact ⟨rfl, rfl, rfl, rfl⟩) ?_; intro V2 X1 G1 K1; (dsimp only [List.cons_append, List.nil_append] at K1 X1 G1); clear K; (have K := K1); clear K1; (have O9 := hid (O1.out.og G1.out X1.out)); clear O1; (have O1 := O9); clear O9; clear X1 G1; obtain ⟨⟨_, _, _, _⟩, _, _, _, _⟩ := K.out.cellsOf (g := g1) (by repeat (first | exact List.mem_cons_self | refine List.mem_cons_of_mem _ ?_)); obtain ⟨⟨_, _, _, _⟩, _, _, _, _⟩ := K.out.cellsOf (g := g6) (by repeat (first | exact List.mem_cons_self | refine List.mem_cons_of_mem _ ?_)); (have x0 := rowCell (K.out.at_ (r := ⟨l, (some ad), B⟩) (by simp)).ls HX.out))
              | ((with_reducible show wpList _ _ _ _ _ _); refine Tryd.klStore (by rfl) (.tmp 4) _ (by rfl) [_] (by exact K) (by rfl) (by rfl) (by exact ⟨rfl, rfl, rfl, rfl⟩) ?_; intro V2 K1; (dsimp only [List.cons_append, List.nil_append] at K1); clear K; (have K := K1); clear K1))
            (try simp only [Exit.inBlock, Exit.then])
            rw [TL.out]
            refine Tryd.ret_lineE Tryd.results29 rfl g3 _ _ _ _ _ rfl rfl (K.out.bx ⟨g3, _, _, _, _⟩ (by repeat (first | exact List.mem_cons_self | refine List.mem_cons_of_mem _ ?_))).2 ?_
            exact ⟨none, 0, none, 0, rfl, Nat.zero_le _, Nat.zero_le _, LnWr.zero, K.out.b⟩
          · skip
            go_enter Tryd.func29, Tryd.ntmps29
            go_wp2_with (first
              | ((with_reducible show wpList _ _ _ _ _ _); refine Tryd.klBox (by rfl) _ (by rfl) (some 2) (by rfl) (by rfl) K ?_; intro g1 V1 K1; clear K; (have K := K1); clear K1)
              | ((with_reducible show wpList _ _ _ _ _ _); refine Tryd.klAlloc (by rfl) (by rfl) (some 4) (by rfl) K ?_; intro g3 V1 K1; clear K; (have K := K1); clear K1)
              | ((with_reducible show wpList _ _ _ _ _ _); refine Tryd.klLoad (by rfl) _ (by rfl) K (by rfl) (by repeat (first | exact List.mem_cons_self | refine List.mem_cons_of_mem _ ?_)) ?_)
              | (go_at_call 19; (with_reducible refine (refLMay_any l (some ad) _ c B _ d _ rfl rfl _ (K.out.at_ (r := ⟨l, (some ad), B⟩) (by simp)) B9.out C9.out FI.out).mono ?_); rintro e W2 ⟨rfl, hb⟩; rw [MB.out]; (have K2 := hid (K.out.later hb)); clear hb K; (have K := K2); clear K2; obtain ⟨⟨_, _, _, _⟩, _, _, _, _⟩ := K.out.cellsOf (g := g1) (by repeat (first | exact List.mem_cons_self | refine List.mem_cons_of_mem _ ?_)))
              | (go_at_call 11; (with_reducible refine (refLOwn_any l (some ad) _ c B _ d _ rfl rfl _ (K.out.at_ (r := ⟨l, (some ad), B⟩) (by simp)) B9.out C9.out).mono ?_); rintro e W2 ⟨A1, c1, B1, d1, rfl, ho, hb⟩; simp only [lnV]; (have O1 := hid (ho.based (base' := w.heap.size) K.out.b.size)); clear ho; (have K2 := hid (K.out.later hb)); clear hb K; (have K := K2); clear K2; obtain ⟨gA, hgA⟩ := ownAddr O1.out HE.out; subst hgA)
              | ((with_reducible show wpList _ _ _ _ _ _); refine Tryd.klAllocB (by rfl) (by rfl) (some 6) (by rfl) K ?_; intro g6 V1 X1 K1; clear K; (have K := K1); clear K1; (have O9 := hid (O1.out.later X1.out)); clear O1; (have O1 := O9); clear O9; clear X1)
              | ((with_reducible show wpList _ _ _ _ _ _); refine Tryd.klStoreO (by rfl) (.tmp 6) _ (by rfl) [] (by exact K) (by rfl) (by rfl) (by exact ⟨rfl, rfl, rfl, rfl⟩) ?_; intro V2 X1 G1 K1; (dsimp only [List.cons_append, List.nil_append] at K1 X1 G1); clear K; (have K := K1); clear K1; (have O9 := hid (O1.out.og G1.out X1.out)); clear O1; (have O1 := O9); clear O9; clear X1 G1; obtain ⟨⟨_, _, _, _⟩, _, _, _, _⟩ := K.out.cellsOf (g := g1) (by repeat (first | exact List.mem_cons_self | refine List.mem_cons_of_mem _ ?_)); obtain ⟨⟨_, _, _, _⟩, _, _, _, _⟩ := K.out.cellsOf (g := g6) (by repeat (first | exact List.mem_cons_self | refine List.mem_cons_of_mem _ ?_)); (have x0 := rowCell (K.out.at_ (r := ⟨l, (some ad), B⟩) (by simp)).ls HX.out))
              | ((with_reducible show wpList _ _ _ _ _ _); refine Tryd.klStore (by rfl) (.tmp 4) _ (by rfl) [_] (by exact K) (by rfl) (by rfl) (by exact ⟨rfl, rfl, rfl, rfl⟩) ?_; intro V2 K1; (dsimp only [List.cons_append, List.nil_append] at K1); clear K; (have K := K1); clear K1))
            (try simp only [Exit.inBlock, Exit.then])
            rw [TL.out]
            refine Tryd.ret_lineE Tryd.results29 rfl g3 _ _ _ _ _ rfl rfl (K.out.bx ⟨g3, _, _, _, _⟩ (by repeat (first | exact List.mem_cons_self | refine List.mem_cons_of_mem _ ?_))).2 ?_
            exact ⟨none, 0, none, 0, rfl, Nat.zero_le _, Nat.zero_le _, LnWr.zero, K.out.b⟩
        · skip
          have qk : (x == kind) = false := by simp [hxk]
          have TL := hid (show listL l kind = (⟨l.q, l.ls.set n kind, l.k, l.cs⟩, 0) by unfold listL; rw [if_pos ⟨hk, hb⟩, if_neg hl, if_neg (fun e => hxk (hlast.symm.trans e)), set_last hn, dropLast_at hn])
          clear hb hk hl hn hx hx' hA hlast hxk
          rcases KB with ke | ⟨ke, kf⟩
          · skip
            go_enter Tryd.func29, Tryd.ntmps29
            go_wp2_with (first
              | ((with_reducible show wpList _ _ _ _ _ _); refine Tryd.klBox (by rfl) _ (by rfl) (some 2) (by rfl) (by rfl) K ?_; intro g1 V1 K1; clear K; (have K := K1); clear K1)
              | ((with_reducible show wpList _ _ _ _ _ _); refine Tryd.klAlloc (by rfl) (by rfl) (some 4) (by rfl) K ?_; intro g3 V1 K1; clear K; (have K := K1); clear K1)
              | ((with_reducible show wpList _ _ _ _ _ _); refine Tryd.klLoad (by rfl) _ (by rfl) K (by rfl) (by repeat (first | exact List.mem_cons_self | refine List.mem_cons_of_mem _ ?_)) ?_)
              | (go_at_call 19; (with_reducible refine (refLMay_any l (some ad) _ c B _ d _ rfl rfl _ (K.out.at_ (r := ⟨l, (some ad), B⟩) (by simp)) B9.out C9.out FI.out).mono ?_); rintro e W2 ⟨rfl, hb⟩; rw [MB.out]; (have K2 := hid (K.out.later hb)); clear hb K; (have K := K2); clear K2; obtain ⟨⟨_, _, _, _⟩, _, _, _, _⟩ := K.out.cellsOf (g := g1) (by repeat (first | exact List.mem_cons_self | refine List.mem_cons_of_mem _ ?_)))
              | (go_at_call 11; (with_reducible refine (refLOwn_any l (some ad) _ c B _ d _ rfl rfl _ (K.out.at_ (r := ⟨l, (some ad), B⟩) (by simp)) B9.out C9.out).mono ?_); rintro e W2 ⟨A1, c1, B1, d1, rfl, ho, hb⟩; simp only [lnV]; (have O1 := hid (ho.based (base' := w.heap.size) K.out.b.size)); clear ho; (have K2 := hid (K.out.later hb)); clear hb K; (have K := K2); clear K2; obtain ⟨gA, hgA⟩ := ownAddr O1.out HE.out; subst hgA)
              | ((with_reducible show wpList _ _ _ _ _ _); refine Tryd.klAllocB (by rfl) (by rfl) (some 6) (by rfl) K ?_; intro g6 V1 X1 K1; clear K; (have K := K1); clear K1; (have O9 := hid (O1.out.later X1.out)); clear O1; (have O1 := O9); clear O9; clear X1)
              | ((with_reducible show wpList _ _ _ _ _ _); refine Tryd.klStoreO (by rfl) (.tmp 6) _ (by rfl) [] (by exact K) (by rfl) (by rfl) (by exact ⟨rfl, rfl, rfl, rfl⟩) ?_; intro V2 X1 G1 K1; (dsimp only [List.cons_append, List.nil_append] at K1 X1 G1); clear K; (have K := K1); clear K1; (have O9 := hid (O1.out.og G1.out X1.out)); clear O1; (have O1 := O9); clear O9; clear X1 G1; obtain ⟨⟨_, _, _, _⟩, _, _, _, _⟩ := K.out.cellsOf (g := g1) (by repeat (first | exact List.mem_cons_self | refine List.mem_cons_of_mem _ ?_)); obtain ⟨⟨_, _, _, _⟩, _, _, _, _⟩ := K.out.cellsOf (g := g6) (by repeat (first | exact List.mem_cons_self | refine List.mem_cons_of_mem _ ?_)); (have x0 := rowCell (K.out.at_ (r := ⟨l, (some ad), B⟩) (by simp)).ls HX.out))
              | ((with_reducible show wpList _ _ _ _ _ _); refine Tryd.klStoreI (by rfl) (.tmp 46) _ (by rfl) (by rfl) (by rfl) K RL0.out O1 HLT.out ?_; intro V2 K1 P1; clear K O1; (have K := K1); (have O1 := P1); clear K1 P1)
              | ((with_reducible show wpList _ _ _ _ _ _); refine Tryd.klStoreO (by rfl) (.tmp 4) _ (by rfl) [_] (by exact K) (by rfl) (by rfl) (by exact ⟨rfl, rfl, rfl, rfl⟩) ?_; intro V2 X1 G1 K1; (dsimp only [List.cons_append, List.nil_append] at K1 X1 G1); clear K; (have K := K1); clear K1; (have O9 := hid (O1.out.og G1.out X1.out)); clear O1; (have O1 := O9); clear O9; clear X1 G1))
            (try simp only [Exit.inBlock, Exit.then])
            rw [TL.out]
            refine Tryd.ret_lineE Tryd.results29 rfl g3 _ _ _ _ _ rfl rfl (K.out.bx ⟨g3, _, _, _, _⟩ (by repeat (first | exact List.mem_cons_self | refine List.mem_cons_of_mem _ ?_))).2 ?_
            exact ⟨some ⟨gA, 0, none⟩, c1, B1, d1, by simp only [lnV, List.length_set]; rfl, O1.out.caps.1, O1.out.caps.2, ⟨O1.out.ls.wr, O1.out.cs.wr⟩, K.out.b⟩
          · skip
            go_enter Tryd.func29, Tryd.ntmps29
            go_wp2_with (first
              | ((with_reducible show wpList _ _ _ _ _ _); refine Tryd.klBox (by rfl) _ (by rfl) (some 2) (by rfl) (by rfl) K ?_; intro g1 V1 K1; clear K; (have K := K1); clear K1)
              | ((with_reducible show wpList _ _ _ _ _ _); refine Tryd.klAlloc (by rfl) (by rfl) (some 4) (by rfl) K ?_; intro g3 V1 K1; clear K; (have K := K1); clear K1)
              | ((with_reducible show wpList _ _ _ _ _ _); refine Tryd.klLoad (by rfl) _ (by rfl) K (by rfl) (by repeat (first | exact List.mem_cons_self | refine List.mem_cons_of_mem _ ?_)) ?_)
              | (go_at_call 19; (with_reducible refine (refLMay_any l (some ad) _ c B _ d _ rfl rfl _ (K.out.at_ (r := ⟨l, (some ad), B⟩) (by simp)) B9.out C9.out FI.out).mono ?_); rintro e W2 ⟨rfl, hb⟩; rw [MB.out]; (have K2 := hid (K.out.later hb)); clear hb K; (have K := K2); clear K2; obtain ⟨⟨_, _, _, _⟩, _, _, _, _⟩ := K.out.cellsOf (g := g1) (by repeat (first | exact List.mem_cons_self | refine List.mem_cons_of_mem _ ?_)))
              | (go_at_call 11; (with_reducible refine (refLOwn_any l (some ad) _ c B _ d _ rfl rfl _ (K.out.at_ (r := ⟨l, (some ad), B⟩) (by simp)) B9.out C9.out).mono ?_); rintro e W2 ⟨A1, c1, B1, d1, rfl, ho, hb⟩; simp only [lnV]; (have O1 := hid (ho.based (base' := w.heap.size) K.out.b.size)); clear ho; (have K2 := hid (K.out.later hb)); clear hb K; (have K := K2); clear K2; obtain ⟨gA, hgA⟩ := ownAddr O1.out HE.out; subst hgA)
              | ((with_reducible show wpList _ _ _ _ _ _); refine Tryd.klAllocB (by rfl) (by rfl) (some 6) (by rfl) K ?_; intro g6 V1 X1 K1; clear K; (have K := K1); clear K1; (have O9 := hid (O1.out.later X1.out)); clear O1; (have O1 := O9); clear O9; clear X1)
              | ((with_reducible show wpList _ _ _ _ _ _); refine Tryd.klStoreO (by rfl) (.tmp 6) _ (by rfl) [] (by exact K) (by rfl) (by rfl) (by exact ⟨rfl, rfl, rfl, rfl⟩) ?_; intro V2 X1 G1 K1; (dsimp only [List.cons_append, List.nil_append] at K1 X1 G1); clear K; (have K := K1); clear K1; (have O9 := hid (O1.out.og G1.out X1.out)); clear O1; (have O1 := O9); clear O9; clear X1 G1; obtain ⟨⟨_, _, _, _⟩, _, _, _, _⟩ := K.out.cellsOf (g := g1) (by repeat (first | exact List.mem_cons_self | refine List.mem_cons_of_mem _ ?_)); obtain ⟨⟨_, _, _, _⟩, _, _, _, _⟩ := K.out.cellsOf (g := g6) (by repeat (first | exact List.mem_cons_self | refine List.mem_cons_of_mem _ ?_)); (have x0 := rowCell (K.out.at_ (r := ⟨l, (some ad), B⟩) (by simp)).ls HX.out))
              | ((with_reducible show wpList _ _ _ _ _ _); refine Tryd.klStoreI (by rfl) (.tmp 46) _ (by rfl) (by rfl) (by rfl) K RL0.out O1 HLT.out ?_; intro V2 K1 P1; clear K O1; (have K := K1); (have O1 := P1); clear K1 P1)
              | ((with_reducible show wpList _ _ _ _ _ _); refine Tryd.klStoreO (by rfl) (.tmp 4) _ (by rfl) [_] (by exact K) (by rfl) (by rfl) (by exact ⟨rfl, rfl, rfl, rfl⟩) ?_; intro V2 X1 G1 K1; (dsimp only [List.cons_append, List.nil_append] at K1 X1 G1); clear K; (have K := K1); clear K1; (have O9 := hid (O1.out.og G1.out X1.out)); clear O1; (have O1 := O9); clear O9; clear X1 G1))
            (try simp only [Exit.inBlock, Exit.then])
            rw [TL.out]
            refine Tryd.ret_lineE Tryd.results29 rfl g3 _ _ _ _ _ rfl rfl (K.out.bx ⟨g3, _, _, _, _⟩ (by repeat (first | exact List.mem_cons_self | refine List.mem_cons_of_mem _ ?_))).2 ?_
            exact ⟨some ⟨gA, 0, none⟩, c1, B1, d1, by simp only [lnV, List.length_set]; rfl, O1.out.caps.1, O1.out.caps.2, ⟨O1.out.ls.wr, O1.out.cs.wr⟩, K.out.b⟩
  · have e0 : (kind != 0) = true := by simp; exact fun h => hk (.inl h)
    have e1 : (kind != 1) = true := by simp; exact fun h => hk (.inr h)
    have TL := hid (show listL l kind = (zL, 1) by unfold listL; rw [if_neg (by rintro ⟨h, _⟩; exact hk h)])
    clear hk
    go_enter Tryd.func29, Tryd.ntmps29
    go_wp2_with (first
      | ((with_reducible show wpList _ _ _ _ _ _); refine Tryd.klBox (by rfl) _ (by rfl) (some 2) (by rfl) (by rfl) K ?_; intro g1 V1 K1; clear K; (have K := K1); clear K1)
      | ((with_reducible show wpList _ _ _ _ _ _); refine Tryd.klAlloc (by rfl) (by rfl) (some 4) (by rfl) K ?_; intro g3 V1 K1; clear K; (have K := K1); clear K1)
      | ((with_reducible show wpList _ _ _ _ _ _); refine Tryd.klLoad (by rfl) _ (by rfl) K (by rfl) (by repeat (first | exact List.mem_cons_self | refine List.mem_cons_of_mem _ ?_)) ?_)
      | ((with_reducible show wpList _ _ _ _ _ _); refine Tryd.klStore (by rfl) (.tmp 4) _ (by rfl) [] (by exact K) (by rfl) (by rfl) (by exact ⟨rfl, rfl, rfl, rfl⟩) ?_; intro V2 K1; (dsimp only [List.cons_append, List.nil_append] at K1); clear K; (have K := K1); clear K1))
    (try simp only [Exit.inBlock, Exit.then])
    rw [TL.out]
    refine Tryd.ret_lineE Tryd.results29 rfl g3 _ _ _ _ _ rfl rfl (K.out.bx ⟨g3, _, _, _, _⟩ (by repeat (first | exact List.mem_cons_self | refine List.mem_cons_of_mem _ ?_))).2 ?_
    exact ⟨none, 0, none, 0, rfl, Nat.zero_le _, Nat.zero_le _, LnWr.zero, K.out.b⟩
end Go.Proofs.YtpldmiencoolhaaDoor
