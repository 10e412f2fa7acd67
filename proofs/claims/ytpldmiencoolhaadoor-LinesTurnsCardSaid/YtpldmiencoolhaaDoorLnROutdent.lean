/- The walk of the reference's Outdent. (Printed by wip/lnrturn.py.) -/
import Derived.Test.YtpldmiencoolhaaDoorLnKit
import Derived.Test.YtpldmiencoolhaaDoorLnROwn
import Derived.Test.YtpldmiencoolhaaDoorLnMayR
import Derived.BigQuiet
import Derived.Deep.QuietTactic
namespace Go.Proofs.YtpldmiencoolhaaDoor
open Go.RowKit Go.Lib

/-- append behind a guard, its second part's length spelled. -/
theorem wpList_appG {P : Program} {α : Type} {enc : α → List Value} {sz : Nat} {e : TypeId} {ops : Array Oper} {rest : List Oper} {o : Oper} {a : Act} {Q : Exit → Act → World → Prop} {w : World} (ok : ElemOk P enc sz e) (hw : Region.wanted o (yielded ops a.tmps) = true) (s x : Operand) (t : TypeId)
    (ho : o.op = .call { callee := .builtin .append, args := #[s, x], argTypes := #[t, t] }) (ht : P.underlying t = some (.slice e)) (base : Nat) (v : Value) (xs : List α) (hs : a.eval s = v) (hown : Own enc sz e w base v xs)
    (B : Nat) (A : Option Addr) (ys : List α) (m c : Nat) (hm : m = ys.length) (hx : a.eval x = .slice A m c) (hsrc : SlAt enc sz w B A ys) (hlen : xs.length + ys.length ≤ 1000000000000) (hbase : base ≤ w.heap.size)
    (h : ∀ v' w', Own enc sz e w' base v' (xs ++ ys) → w.grownBy w' v.ownBlock → wpList P ops Q rest (a.put o.dst v') w') : wpList P ops Q (o :: rest) a w :=
  wpList_step fun K hK => by
    subst hm
    rw [if_pos hw]
    obtain ⟨v', w', hr, h2, h3, _⟩ := run_append_slice ok t o.type ht w base v xs hown B A ys c hsrc hlen hbase
    exact Lib.wp_append_run w s x t t ho _ _ hs hx v' w' hr (hK _ _ (h v' w' h2 h3))
set_option maxRecDepth 100000 in
set_option maxHeartbeats 8000000 in
theorem refLOutdent_any (l : Ln) (A : Option Addr) (n c : Nat) (B : Option Addr) (m d C : Nat) (hn : n = l.ls.length) (hm : m = l.cs.length) (w : World) (hl : LnAt w C l A B) (h1 : l.ls.length ≤ 1000000000) (h2 : l.cs.length ≤ 1000000000) (hf : FineC l.cs) (hcl : n ≤ c) :
    Calls Tryd.prog 27 #[.agg #[.int .i64 l.q, .slice A n c, .int .i64 l.k, .slice B m d]] w (RetLnE (outdentL l) w) := by
  subst hn hm
  have FI := hid hf
  have B9 := hid h1
  have C9 := hid h2
  have HCL := hid hcl
  have RL0 : Hid (∀ s ∈ [(⟨l, A, B⟩ : RowL)], LnAt w w.heap.size s.l s.A s.B) := hid (by simpa using hl.live)
  have K := hid (KL.start w [⟨l, A, B⟩] RL0.out)
  clear hl hf h1 h2 hcl
  cases hb : mayL l with
  | false =>
    have MB := hid hb
    have TL := hid (show outdentL l = (zL, 1) by unfold outdentL; rw [hb]; rfl)
    clear hb
    go_enter Tryd.func27, Tryd.ntmps27
    go_wp2_with (first
      | ((with_reducible show wpList _ _ _ _ _ _); refine Tryd.klBox (by rfl) _ (by rfl) (some 1) (by rfl) (by rfl) K ?_; intro g1 V1 K1; clear K; (have K := K1); clear K1)
      | ((with_reducible show wpList _ _ _ _ _ _); refine Tryd.klAlloc (by rfl) (by rfl) (some 2) (by rfl) K ?_; intro g3 V1 K1; clear K; (have K := K1); clear K1)
      | ((with_reducible show wpList _ _ _ _ _ _); refine Tryd.klLoad (by rfl) _ (by rfl) K (by rfl) (by repeat (first | exact List.mem_cons_self | refine List.mem_cons_of_mem _ ?_)) ?_)
      | (go_at_call 19; (with_reducible refine (refLMay_any l A _ c B _ d _ rfl rfl _ (K.out.at_ (r := ⟨l, A, B⟩) (by simp)) B9.out C9.out FI.out).mono ?_); rintro e W2 ⟨rfl, hb⟩; rw [MB.out]; (have K2 := hid (K.out.later hb)); clear hb K; (have K := K2); clear K2; obtain ⟨⟨_, _, _, _⟩, _, _, _, _⟩ := K.out.cellsOf (g := g1) (by repeat (first | exact List.mem_cons_self | refine List.mem_cons_of_mem _ ?_)))
      | ((with_reducible show wpList _ _ _ _ _ _); refine Tryd.klStore (by rfl) (.tmp 2) _ (by rfl) [] (by exact K) (by rfl) (by rfl) (by exact ⟨rfl, rfl, rfl, rfl⟩) ?_; intro V2 K1; (dsimp only [List.cons_append, List.nil_append] at K1); clear K; (have K := K1); clear K1))
    (try simp only [Exit.inBlock, Exit.then])
    rw [TL.out]
    refine Tryd.ret_lineE Tryd.results27 rfl g3 _ _ _ _ _ rfl rfl (K.out.bx ⟨g3, _, _, _, _⟩ (by repeat (first | exact List.mem_cons_self | refine List.mem_cons_of_mem _ ?_))).2 ?_
    exact ⟨none, 0, none, 0, rfl, Nat.zero_le _, Nat.zero_le _, LnWr.zero, K.out.b⟩
  | true =>
    have MB := hid hb
    obtain ⟨p1, p2, p3, p4, p5, p6, p7, p8⟩ := mayL_parts hb
    by_cases hl : l.ls = []
    · have z0 : ((l.ls.length : Int) == 0) = true := by rw [hl]; rfl
      have g0 : ¬ (0 : Int) < (l.ls.length : Int) := by rw [hl]; simp
      by_cases hq : l.q = 0
      · skip
        have q1 : (l.q == 0) = true := by simp [hq]
        have TL := hid (show outdentL l = (zL, 7) by unfold outdentL; rw [if_pos hb, if_pos hl, if_neg (by omega)])
        clear hb hl hq p1 p2 p3 p4 p5 p6 p7 p8
        go_enter Tryd.func27, Tryd.ntmps27
        go_wp2_with (first
          | ((with_reducible show wpList _ _ _ _ _ _); refine Tryd.klBox (by rfl) _ (by rfl) (some 1) (by rfl) (by rfl) K ?_; intro g1 V1 K1; clear K; (have K := K1); clear K1)
          | ((with_reducible show wpList _ _ _ _ _ _); refine Tryd.klAlloc (by rfl) (by rfl) (some 2) (by rfl) K ?_; intro g3 V1 K1; clear K; (have K := K1); clear K1)
          | ((with_reducible show wpList _ _ _ _ _ _); refine Tryd.klLoad (by rfl) _ (by rfl) K (by rfl) (by repeat (first | exact List.mem_cons_self | refine List.mem_cons_of_mem _ ?_)) ?_)
          | (go_at_call 19; (with_reducible refine (refLMay_any l A _ c B _ d _ rfl rfl _ (K.out.at_ (r := ⟨l, A, B⟩) (by simp)) B9.out C9.out FI.out).mono ?_); rintro e W2 ⟨rfl, hb⟩; rw [MB.out]; (have K2 := hid (K.out.later hb)); clear hb K; (have K := K2); clear K2; obtain ⟨⟨_, _, _, _⟩, _, _, _, _⟩ := K.out.cellsOf (g := g1) (by repeat (first | exact List.mem_cons_self | refine List.mem_cons_of_mem _ ?_)))
          | (go_at_call 11; (with_reducible refine (refLOwn_any l A _ c B _ d _ rfl rfl _ (K.out.at_ (r := ⟨l, A, B⟩) (by simp)) B9.out C9.out).mono ?_); rintro e W2 ⟨A1, c1, B1, d1, rfl, ho, hb⟩; simp only [lnV]; (have O1 := hid (ho.based (base' := w.heap.size) K.out.b.size)); clear ho; (have K2 := hid (K.out.later hb)); clear hb K; (have K := K2); clear K2)
          | ((with_reducible show wpList _ _ _ _ _ _); refine Tryd.klAllocB (by rfl) (by rfl) (some 4) (by rfl) K ?_; intro g4 V1 X1 K1; clear K; (have K := K1); clear K1; (have O9 := hid (O1.out.later X1.out)); clear O1; (have O1 := O9); clear O9; clear X1)
          | ((with_reducible show wpList _ _ _ _ _ _); refine Tryd.klStoreO (by rfl) (.tmp 4) _ (by rfl) [] (by exact K) (by rfl) (by rfl) (by exact ⟨rfl, rfl, rfl, rfl⟩) ?_; intro V2 X1 G1 K1; (dsimp only [List.cons_append, List.nil_append] at K1 X1 G1); clear K; (have K := K1); clear K1; (have O9 := hid (O1.out.og G1.out X1.out)); clear O1; (have O1 := O9); clear O9; clear X1 G1; obtain ⟨⟨_, _, _, _⟩, _, _, _, _⟩ := K.out.cellsOf (g := g1) (by repeat (first | exact List.mem_cons_self | refine List.mem_cons_of_mem _ ?_)); (have hlt1 := (K.out.bx ⟨g1, .int .i64 l.q, .slice A l.ls.length c, .int .i64 l.k, .slice B l.cs.length d⟩ (by repeat (first | exact List.mem_cons_self | refine List.mem_cons_of_mem _ ?_))).2.lt); (dsimp only at hlt1))
          | ((with_reducible show wpList _ _ _ _ _ _); refine Tryd.klStore (by rfl) (.tmp 2) _ (by rfl) [_] (by exact K) (by rfl) (by rfl) (by exact ⟨rfl, rfl, rfl, rfl⟩) ?_; intro V2 K1; (dsimp only [List.cons_append, List.nil_append] at K1); clear K; (have K := K1); clear K1))
        (try simp only [Exit.inBlock, Exit.then])
        rw [TL.out]
        refine Tryd.ret_lineE Tryd.results27 rfl g3 _ _ _ _ _ rfl rfl (K.out.bx ⟨g3, _, _, _, _⟩ (by repeat (first | exact List.mem_cons_self | refine List.mem_cons_of_mem _ ?_))).2 ?_
        exact ⟨none, 0, none, 0, rfl, Nat.zero_le _, Nat.zero_le _, LnWr.zero, K.out.b⟩
      · skip
        have q1 : (l.q == 0) = false := by simp [hq]
        have k1 : IntKind.i64.wrap (l.q - 1) = l.q - 1 := IntWalk.i64_in _ (by omega)
        have TL := hid (show outdentL l = (⟨l.q - 1, l.ls, l.k, l.cs⟩, 0) by unfold outdentL; rw [if_pos hb, if_pos hl, if_pos (by omega)])
        clear hb hl hq p1 p2 p3 p4 p5 p6 p7 p8
        go_enter Tryd.func27, Tryd.ntmps27
        go_wp2_with (first
          | ((with_reducible show wpList _ _ _ _ _ _); refine Tryd.klBox (by rfl) _ (by rfl) (some 1) (by rfl) (by rfl) K ?_; intro g1 V1 K1; clear K; (have K := K1); clear K1)
          | ((with_reducible show wpList _ _ _ _ _ _); refine Tryd.klAlloc (by rfl) (by rfl) (some 2) (by rfl) K ?_; intro g3 V1 K1; clear K; (have K := K1); clear K1)
          | ((with_reducible show wpList _ _ _ _ _ _); refine Tryd.klLoad (by rfl) _ (by rfl) K (by rfl) (by repeat (first | exact List.mem_cons_self | refine List.mem_cons_of_mem _ ?_)) ?_)
          | (go_at_call 19; (with_reducible refine (refLMay_any l A _ c B _ d _ rfl rfl _ (K.out.at_ (r := ⟨l, A, B⟩) (by simp)) B9.out C9.out FI.out).mono ?_); rintro e W2 ⟨rfl, hb⟩; rw [MB.out]; (have K2 := hid (K.out.later hb)); clear hb K; (have K := K2); clear K2; obtain ⟨⟨_, _, _, _⟩, _, _, _, _⟩ := K.out.cellsOf (g := g1) (by repeat (first | exact List.mem_cons_self | refine List.mem_cons_of_mem _ ?_)))
          | (go_at_call 11; (with_reducible refine (refLOwn_any l A _ c B _ d _ rfl rfl _ (K.out.at_ (r := ⟨l, A, B⟩) (by simp)) B9.out C9.out).mono ?_); rintro e W2 ⟨A1, c1, B1, d1, rfl, ho, hb⟩; simp only [lnV]; (have O1 := hid (ho.based (base' := w.heap.size) K.out.b.size)); clear ho; (have K2 := hid (K.out.later hb)); clear hb K; (have K := K2); clear K2)
          | ((with_reducible show wpList _ _ _ _ _ _); refine Tryd.klAllocB (by rfl) (by rfl) (some 4) (by rfl) K ?_; intro g4 V1 X1 K1; clear K; (have K := K1); clear K1; (have O9 := hid (O1.out.later X1.out)); clear O1; (have O1 := O9); clear O9; clear X1)
          | ((with_reducible show wpList _ _ _ _ _ _); refine Tryd.klStoreO (by rfl) (.tmp 4) _ (by rfl) [] (by exact K) (by rfl) (by rfl) (by exact ⟨rfl, rfl, rfl, rfl⟩) ?_; intro V2 X1 G1 K1; (dsimp only [List.cons_append, List.nil_append] at K1 X1 G1); clear K; (have K := K1); clear K1; (have O9 := hid (O1.out.og G1.out X1.out)); clear O1; (have O1 := O9); clear O9; clear X1 G1; obtain ⟨⟨_, _, _, _⟩, _, _, _, _⟩ := K.out.cellsOf (g := g1) (by repeat (first | exact List.mem_cons_self | refine List.mem_cons_of_mem _ ?_)); (have hlt1 := (K.out.bx ⟨g1, .int .i64 l.q, .slice A l.ls.length c, .int .i64 l.k, .slice B l.cs.length d⟩ (by repeat (first | exact List.mem_cons_self | refine List.mem_cons_of_mem _ ?_))).2.lt); (dsimp only at hlt1))
          | ((with_reducible show wpList _ _ _ _ _ _); refine Tryd.klStoreF (by rfl) 3 (by kernel_rfl) (.tmp 36) _ (by rfl) [] (by exact K) 0 (by rfl) (by decide) (v := .int _ _) (by rfl) (by rfl) ⟨_, _, _, _, _⟩ (by rfl) ?_; intro V2 X1 G1 K1; (dsimp only [List.cons_append, List.nil_append] at K1 X1 G1); clear K; (have K := K1); clear K1; (have O9 := hid (O1.out.og G1.out X1.out)); clear O1; (have O1 := O9); clear O9; clear X1 G1)
          | ((with_reducible show wpList _ _ _ _ _ _); refine Tryd.klStoreO (by rfl) (.tmp 2) _ (by rfl) [_] (by exact K) (by rfl) (by rfl) (by exact ⟨rfl, rfl, rfl, rfl⟩) ?_; intro V2 X1 G1 K1; (dsimp only [List.cons_append, List.nil_append] at K1 X1 G1); clear K; (have K := K1); clear K1; (have O9 := hid (O1.out.og G1.out X1.out)); clear O1; (have O1 := O9); clear O9; clear X1 G1))
        (try simp only [Exit.inBlock, Exit.then])
        rw [TL.out]
        refine Tryd.ret_lineE Tryd.results27 rfl g3 _ _ _ _ _ rfl rfl (K.out.bx ⟨g3, _, _, _, _⟩ (by repeat (first | exact List.mem_cons_self | refine List.mem_cons_of_mem _ ?_))).2 ?_
        exact ⟨A1, c1, B1, d1, rfl, O1.out.caps.1, O1.out.caps.2, ⟨O1.out.ls.wr, O1.out.cs.wr⟩, K.out.b⟩
    · have z0 : ((l.ls.length : Int) == 0) = false := by rw [beq_eq_false_iff_ne]; have := List.length_pos_iff.2 hl; omega
      have g0 : (0 : Int) < (l.ls.length : Int) := by have := List.length_pos_iff.2 hl; omega
      obtain ⟨n, hn⟩ : ∃ n, n + 1 = l.ls.length := ⟨l.ls.length - 1, by have := List.length_pos_iff.2 hl; omega⟩
      have k1 : IntKind.i64.wrap ((l.ls.length : Int) - 1) = (n : Int) := by rw [show (l.ls.length : Int) - 1 = (n : Int) from by omega]; exact IntWalk.i64_in _ (by omega)
      have k2 : (0 : Int) ≤ (n : Int) := by omega
      have k3 : (n : Int) ≤ (c : Int) := by have := HCL.out; omega
      have HN := hid hn
      have HLT : Hid (n = (l.ls.take n).length) := hid (by rw [List.length_take]; omega)
      have TL := hid (show outdentL l = (⟨l.q, l.ls.take n, l.k, l.cs⟩, 0) by unfold outdentL; rw [if_pos hb, if_neg hl, dropLast_at hn])
      clear hb hl hn p1 p2 p3 p4 p5 p6 p7 p8
      go_enter Tryd.func27, Tryd.ntmps27
      go_wp2_with (first
        | ((with_reducible show wpList _ _ _ _ _ _); refine Tryd.klBox (by rfl) _ (by rfl) (some 1) (by rfl) (by rfl) K ?_; intro g1 V1 K1; clear K; (have K := K1); clear K1)
        | ((with_reducible show wpList _ _ _ _ _ _); refine Tryd.klAlloc (by rfl) (by rfl) (some 2) (by rfl) K ?_; intro g3 V1 K1; clear K; (have K := K1); clear K1)
        | ((with_reducible show wpList _ _ _ _ _ _); refine Tryd.klLoad (by rfl) _ (by rfl) K (by rfl) (by repeat (first | exact List.mem_cons_self | refine List.mem_cons_of_mem _ ?_)) ?_)
        | (go_at_call 19; (with_reducible refine (refLMay_any l A _ c B _ d _ rfl rfl _ (K.out.at_ (r := ⟨l, A, B⟩) (by simp)) B9.out C9.out FI.out).mono ?_); rintro e W2 ⟨rfl, hb⟩; rw [MB.out]; (have K2 := hid (K.out.later hb)); clear hb K; (have K := K2); clear K2; obtain ⟨⟨_, _, _, _⟩, _, _, _, _⟩ := K.out.cellsOf (g := g1) (by repeat (first | exact List.mem_cons_self | refine List.mem_cons_of_mem _ ?_)))
        | (go_at_call 11; (with_reducible refine (refLOwn_any l A _ c B _ d _ rfl rfl _ (K.out.at_ (r := ⟨l, A, B⟩) (by simp)) B9.out C9.out).mono ?_); rintro e W2 ⟨A1, c1, B1, d1, rfl, ho, hb⟩; simp only [lnV]; (have O1 := hid (ho.based (base' := w.heap.size) K.out.b.size)); clear ho; (have K2 := hid (K.out.later hb)); clear hb K; (have K := K2); clear K2)
        | ((with_reducible show wpList _ _ _ _ _ _); refine Tryd.klAllocB (by rfl) (by rfl) (some 4) (by rfl) K ?_; intro g4 V1 X1 K1; clear K; (have K := K1); clear K1; (have O9 := hid (O1.out.later X1.out)); clear O1; (have O1 := O9); clear O9; clear X1)
        | ((with_reducible show wpList _ _ _ _ _ _); refine Tryd.klStoreO (by rfl) (.tmp 4) _ (by rfl) [] (by exact K) (by rfl) (by rfl) (by exact ⟨rfl, rfl, rfl, rfl⟩) ?_; intro V2 X1 G1 K1; (dsimp only [List.cons_append, List.nil_append] at K1 X1 G1); clear K; (have K := K1); clear K1; (have O9 := hid (O1.out.og G1.out X1.out)); clear O1; (have O1 := O9); clear O9; clear X1 G1; obtain ⟨⟨_, _, _, _⟩, _, _, _, _⟩ := K.out.cellsOf (g := g1) (by repeat (first | exact List.mem_cons_self | refine List.mem_cons_of_mem _ ?_)); (have hlt1 := (K.out.bx ⟨g1, .int .i64 l.q, .slice A l.ls.length c, .int .i64 l.k, .slice B l.cs.length d⟩ (by repeat (first | exact List.mem_cons_self | refine List.mem_cons_of_mem _ ?_))).2.lt); (dsimp only at hlt1))
        | (at_builtin; refine wpList_appG Tryd.okI rfl (.tmp 25) (.tmp 30) 22 rfl Tryd.underlying22 w.heap.size _ ([] : List Int) rfl ((own_lit0I _).based K.out.b.size) _ A (l.ls.take n) n c HLT.out rfl ((((K.out.at_ (r := ⟨l, A, B⟩) (by simp)).below ((Below.refl _ _).alloc (Nat.le_refl _) (.cells #[] 3))).ls).take n) (by have := HLT.out; have := HN.out; have := B9.out; simp; omega) (Nat.le_trans K.out.b.size ((Below.refl _ _).alloc (Nat.le_refl _) (.cells #[] 3)).size) ?_; intro v' W4 ho' hg'; (have K2 := hid ((K.out.later ((Below.refl _ _).alloc (Nat.le_refl _) (.cells #[] 3))).grownI ((own_lit0I _).based K.out.b.size) hg' RL0.out)); (have I1 := hid (Own.grownC ((own_lit0I _).based K.out.b.size) hg' (O1.out.later ((Below.refl _ _).alloc (Nat.le_refl _) (.cells #[] 3))).cs)); clear K; (have K := K2); clear K2 O1; obtain ⟨A2, n2, c2, rfl, hn2⟩ := ho'.shape; rw [List.nil_append] at ho' hn2; (have O1 : Hid (LnOw W4 w.heap.size ⟨l.q, l.ls.take n, l.k, l.cs⟩ A2 c2 B1 d1) := hid ⟨by rw [← hn2.out]; exact ho', I1.out⟩); clear ho' hg' I1)
        | ((with_reducible show wpList _ _ _ _ _ _); refine Tryd.klStoreF (by rfl) 22 (by kernel_rfl) (.tmp 32) _ (by rfl) [] (by exact K) 1 (by rfl) (by decide) (v := .slice _ _ _) (by rfl) (by rfl) ⟨_, _, _, _, _⟩ (by rfl) ?_; intro V2 X1 G1 K1; (dsimp only [List.cons_append, List.nil_append] at K1 X1 G1); clear K; (have K := K1); clear K1; (have O9 := hid (O1.out.og G1.out X1.out)); clear O1; (have O1 := O9); clear O9; clear X1 G1)
        | ((with_reducible show wpList _ _ _ _ _ _); refine Tryd.klStoreO (by rfl) (.tmp 2) _ (by rfl) [_] (by exact K) (by rfl) (by rfl) (by exact ⟨rfl, rfl, rfl, rfl⟩) ?_; intro V2 X1 G1 K1; (dsimp only [List.cons_append, List.nil_append] at K1 X1 G1); clear K; (have K := K1); clear K1; (have O9 := hid (O1.out.og G1.out X1.out)); clear O1; (have O1 := O9); clear O9; clear X1 G1))
      (try simp only [Exit.inBlock, Exit.then])
      have q2 := hn2.out
      subst q2
      rw [TL.out]
      refine Tryd.ret_lineE Tryd.results27 rfl g3 _ _ _ _ _ rfl rfl (K.out.bx ⟨g3, _, _, _, _⟩ (by repeat (first | exact List.mem_cons_self | refine List.mem_cons_of_mem _ ?_))).2 ?_
      exact ⟨A2, c2, B1, d1, rfl, O1.out.caps.1, O1.out.caps.2, ⟨O1.out.ls.wr, O1.out.cs.wr⟩, K.out.b⟩
end Go.Proofs.YtpldmiencoolhaaDoor
