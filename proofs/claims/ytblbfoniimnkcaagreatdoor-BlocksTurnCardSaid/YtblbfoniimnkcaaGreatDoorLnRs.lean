/- Texts on cells and lines, put together: LnRFormat, LnRInd, LnRIndent, LnROutdent, LnRList. -/
import Derived.Test.YtblbfoniimnkcaaGreatDoorLnKit
import Derived.Test.YtblbfoniimnkcaaGreatDoorLnROwn
import Derived.Test.YtblbfoniimnkcaaGreatDoorLnMayR
import Derived.BigQuiet
import Derived.Deep.QuietTactic
import Derived.Test.YtblbfoniimnkcaaGreatDoorLnRr
/- The walk of the reference's Format. (Printed by wip/lnrturn.py.) -/
namespace Go.Proofs.YtblbfoniimnkcaaGreatDoor
open Go.RowKit Go.Lib

set_option maxRecDepth 100000 in
set_option maxHeartbeats 8000000 in
theorem refLFormat_any (l : Ln) (A : Option Addr) (n c : Nat) (B : Option Addr) (m d C : Nat) (hn : n = l.ls.length) (hm : m = l.cs.length) (w : World) (hl : LnAt w C l A B) (h1 : l.ls.length ≤ 1000000000) (h2 : l.cs.length ≤ 1000000000) (hf : FineC l.cs) (hcl : n ≤ c) (kind : Int) :
    Calls Tryz.prog 47 #[.agg #[.int .i64 l.q, .slice A n c, .int .i64 l.k, .slice B m d], .int .i64 kind] w (RetLnE (formatL l kind) w) := by
  subst hn hm
  have FI := hid hf
  have B9 := hid h1
  have C9 := hid h2
  have HCL := hid hcl
  have RL0 : Hid (∀ s ∈ [(⟨l, A, B⟩ : RowL)], LnAt w w.heap.size s.l s.A s.B) := hid (by simpa using hl.live)
  have K := hid (KL.start w [⟨l, A, B⟩] RL0.out)
  clear hl hf h1 h2 hcl
  by_cases k0 : kind < 0
  · skip
    have e0 : decide (kind < 0) = true := decide_eq_true k0
    have TL := hid (show formatL l kind = (zL, 1) by unfold formatL; rw [if_neg (by rintro ⟨h, _⟩; omega)])
    clear k0
    go_enter Tryz.func47, Tryz.ntmps47
    go_wp2_with (first
      | ((with_reducible show wpList _ _ _ _ _ _); refine Tryz.klBox (by rfl) _ (by rfl) (some 2) (by rfl) (by rfl) K ?_; intro g1 V1 K1; clear K; (have K := K1); clear K1)
      | ((with_reducible show wpList _ _ _ _ _ _); refine Tryz.klAlloc (by rfl) (by rfl) (some 4) (by rfl) K ?_; intro g3 V1 K1; clear K; (have K := K1); clear K1)
      | ((with_reducible show wpList _ _ _ _ _ _); refine Tryz.klLoad (by rfl) _ (by rfl) K (by rfl) (by repeat (first | exact List.mem_cons_self | refine List.mem_cons_of_mem _ ?_)) ?_)
      | ((with_reducible show wpList _ _ _ _ _ _); refine Tryz.klStore (by rfl) (.tmp 4) _ (by rfl) [] (by exact K) (by rfl) (by rfl) (by exact ⟨rfl, rfl, rfl, rfl⟩) ?_; intro V2 K1; (dsimp only [List.cons_append, List.nil_append] at K1); clear K; (have K := K1); clear K1))
    (try simp only [Exit.inBlock, Exit.then])
    rw [TL.out]
    refine Tryz.ret_lineE Tryz.results47 rfl g3 _ _ _ _ _ rfl rfl (K.out.bx ⟨g3, _, _, _, _⟩ (by repeat (first | exact List.mem_cons_self | refine List.mem_cons_of_mem _ ?_))).2 ?_
    exact ⟨none, 0, none, 0, rfl, Nat.zero_le _, Nat.zero_le _, LnWr.zero, K.out.b⟩
  · have e0 : decide (kind < 0) = false := decide_eq_false k0
    by_cases k3 : 3 < kind
    · skip
      have e1 : decide (3 < kind) = true := decide_eq_true k3
      have TL := hid (show formatL l kind = (zL, 1) by unfold formatL; rw [if_neg (by rintro ⟨h, _⟩; omega)])
      clear k0 k3
      go_enter Tryz.func47, Tryz.ntmps47
      go_wp2_with (first
        | ((with_reducible show wpList _ _ _ _ _ _); refine Tryz.klBox (by rfl) _ (by rfl) (some 2) (by rfl) (by rfl) K ?_; intro g1 V1 K1; clear K; (have K := K1); clear K1)
        | ((with_reducible show wpList _ _ _ _ _ _); refine Tryz.klAlloc (by rfl) (by rfl) (some 4) (by rfl) K ?_; intro g3 V1 K1; clear K; (have K := K1); clear K1)
        | ((with_reducible show wpList _ _ _ _ _ _); refine Tryz.klLoad (by rfl) _ (by rfl) K (by rfl) (by repeat (first | exact List.mem_cons_self | refine List.mem_cons_of_mem _ ?_)) ?_)
        | ((with_reducible show wpList _ _ _ _ _ _); refine Tryz.klStore (by rfl) (.tmp 4) _ (by rfl) [] (by exact K) (by rfl) (by rfl) (by exact ⟨rfl, rfl, rfl, rfl⟩) ?_; intro V2 K1; (dsimp only [List.cons_append, List.nil_append] at K1); clear K; (have K := K1); clear K1))
      (try simp only [Exit.inBlock, Exit.then])
      rw [TL.out]
      refine Tryz.ret_lineE Tryz.results47 rfl g3 _ _ _ _ _ rfl rfl (K.out.bx ⟨g3, _, _, _, _⟩ (by repeat (first | exact List.mem_cons_self | refine List.mem_cons_of_mem _ ?_))).2 ?_
      exact ⟨none, 0, none, 0, rfl, Nat.zero_le _, Nat.zero_le _, LnWr.zero, K.out.b⟩
    · have e1 : decide (3 < kind) = false := decide_eq_false k3
      cases hb : mayL l with
      | false =>
        have MB := hid hb
        have TL := hid (show formatL l kind = (zL, 1) by unfold formatL; rw [if_neg (by rintro ⟨_, h⟩; rw [hb] at h; cases h)])
        clear k0 k3 hb
        go_enter Tryz.func47, Tryz.ntmps47
        go_wp2_with (first
          | ((with_reducible show wpList _ _ _ _ _ _); refine Tryz.klBox (by rfl) _ (by rfl) (some 2) (by rfl) (by rfl) K ?_; intro g1 V1 K1; clear K; (have K := K1); clear K1)
          | ((with_reducible show wpList _ _ _ _ _ _); refine Tryz.klAlloc (by rfl) (by rfl) (some 4) (by rfl) K ?_; intro g3 V1 K1; clear K; (have K := K1); clear K1)
          | ((with_reducible show wpList _ _ _ _ _ _); refine Tryz.klLoad (by rfl) _ (by rfl) K (by rfl) (by repeat (first | exact List.mem_cons_self | refine List.mem_cons_of_mem _ ?_)) ?_)
          | (go_at_call 63; (with_reducible refine (refLMay_any l A _ c B _ d _ rfl rfl _ (K.out.at_ (r := ⟨l, A, B⟩) (by simp)) B9.out C9.out FI.out).mono ?_); rintro e W2 ⟨rfl, hb⟩; rw [MB.out]; (have K2 := hid (K.out.later hb)); clear hb K; (have K := K2); clear K2; obtain ⟨⟨_, _, _, _⟩, _, _, _, _⟩ := K.out.cellsOf (g := g1) (by repeat (first | exact List.mem_cons_self | refine List.mem_cons_of_mem _ ?_)))
          | ((with_reducible show wpList _ _ _ _ _ _); refine Tryz.klStore (by rfl) (.tmp 4) _ (by rfl) [] (by exact K) (by rfl) (by rfl) (by exact ⟨rfl, rfl, rfl, rfl⟩) ?_; intro V2 K1; (dsimp only [List.cons_append, List.nil_append] at K1); clear K; (have K := K1); clear K1))
        (try simp only [Exit.inBlock, Exit.then])
        rw [TL.out]
        refine Tryz.ret_lineE Tryz.results47 rfl g3 _ _ _ _ _ rfl rfl (K.out.bx ⟨g3, _, _, _, _⟩ (by repeat (first | exact List.mem_cons_self | refine List.mem_cons_of_mem _ ?_))).2 ?_
        exact ⟨none, 0, none, 0, rfl, Nat.zero_le _, Nat.zero_le _, LnWr.zero, K.out.b⟩
      | true =>
        have MB := hid hb
        have hk0 : 0 ≤ kind ∧ kind ≤ 3 := by omega
        by_cases hl : l.ls = []
        · have d0 : decide (0 < l.ls.length) = false := by rw [hl]; rfl
          by_cases hk : l.k = kind
          · skip
            have q1 : (l.k == kind) = true := by simp [hk]
            have TL := hid (show formatL l kind = (zL, 7) by unfold formatL; rw [if_pos ⟨hk0, hb⟩, if_neg (by rintro ⟨_, h⟩; exact h hk)])
            clear k0 k3 hb hk0 hl hk
            go_enter Tryz.func47, Tryz.ntmps47
            go_wp2_with (first
              | ((with_reducible show wpList _ _ _ _ _ _); refine Tryz.klBox (by rfl) _ (by rfl) (some 2) (by rfl) (by rfl) K ?_; intro g1 V1 K1; clear K; (have K := K1); clear K1)
              | ((with_reducible show wpList _ _ _ _ _ _); refine Tryz.klAlloc (by rfl) (by rfl) (some 4) (by rfl) K ?_; intro g3 V1 K1; clear K; (have K := K1); clear K1)
              | ((with_reducible show wpList _ _ _ _ _ _); refine Tryz.klLoad (by rfl) _ (by rfl) K (by rfl) (by repeat (first | exact List.mem_cons_self | refine List.mem_cons_of_mem _ ?_)) ?_)
              | (go_at_call 63; (with_reducible refine (refLMay_any l A _ c B _ d _ rfl rfl _ (K.out.at_ (r := ⟨l, A, B⟩) (by simp)) B9.out C9.out FI.out).mono ?_); rintro e W2 ⟨rfl, hb⟩; rw [MB.out]; (have K2 := hid (K.out.later hb)); clear hb K; (have K := K2); clear K2; obtain ⟨⟨_, _, _, _⟩, _, _, _, _⟩ := K.out.cellsOf (g := g1) (by repeat (first | exact List.mem_cons_self | refine List.mem_cons_of_mem _ ?_)))
              | ((with_reducible show wpList _ _ _ _ _ _); refine Tryz.klStore (by rfl) (.tmp 4) _ (by rfl) [] (by exact K) (by rfl) (by rfl) (by exact ⟨rfl, rfl, rfl, rfl⟩) ?_; intro V2 K1; (dsimp only [List.cons_append, List.nil_append] at K1); clear K; (have K := K1); clear K1))
            (try simp only [Exit.inBlock, Exit.then])
            rw [TL.out]
            refine Tryz.ret_lineE Tryz.results47 rfl g3 _ _ _ _ _ rfl rfl (K.out.bx ⟨g3, _, _, _, _⟩ (by repeat (first | exact List.mem_cons_self | refine List.mem_cons_of_mem _ ?_))).2 ?_
            exact ⟨none, 0, none, 0, rfl, Nat.zero_le _, Nat.zero_le _, LnWr.zero, K.out.b⟩
          · skip
            have q1 : (l.k == kind) = false := by simp [hk]
            have TL := hid (show formatL l kind = (⟨l.q, l.ls, kind, l.cs⟩, 0) by unfold formatL; rw [if_pos ⟨hk0, hb⟩, if_pos ⟨hl, hk⟩])
            clear k0 k3 hb hk0 hl hk
            go_enter Tryz.func47, Tryz.ntmps47
            go_wp2_with (first
              | ((with_reducible show wpList _ _ _ _ _ _); refine Tryz.klBox (by rfl) _ (by rfl) (some 2) (by rfl) (by rfl) K ?_; intro g1 V1 K1; clear K; (have K := K1); clear K1)
              | ((with_reducible show wpList _ _ _ _ _ _); refine Tryz.klAlloc (by rfl) (by rfl) (some 4) (by rfl) K ?_; intro g3 V1 K1; clear K; (have K := K1); clear K1)
              | ((with_reducible show wpList _ _ _ _ _ _); refine Tryz.klLoad (by rfl) _ (by rfl) K (by rfl) (by repeat (first | exact List.mem_cons_self | refine List.mem_cons_of_mem _ ?_)) ?_)
              | (go_at_call 63; (with_reducible refine (refLMay_any l A _ c B _ d _ rfl rfl _ (K.out.at_ (r := ⟨l, A, B⟩) (by simp)) B9.out C9.out FI.out).mono ?_); rintro e W2 ⟨rfl, hb⟩; rw [MB.out]; (have K2 := hid (K.out.later hb)); clear hb K; (have K := K2); clear K2; obtain ⟨⟨_, _, _, _⟩, _, _, _, _⟩ := K.out.cellsOf (g := g1) (by repeat (first | exact List.mem_cons_self | refine List.mem_cons_of_mem _ ?_)))
              | (go_at_call 43; (with_reducible refine (refLOwn_any l A _ c B _ d _ rfl rfl _ (K.out.at_ (r := ⟨l, A, B⟩) (by simp)) B9.out C9.out).mono ?_); rintro e W2 ⟨A1, c1, B1, d1, rfl, ho, hb⟩; simp only [lnV]; (have O1 := hid (ho.based (base' := w.heap.size) K.out.b.size)); clear ho; (have K2 := hid (K.out.later hb)); clear hb K; (have K := K2); clear K2)
              | ((with_reducible show wpList _ _ _ _ _ _); refine Tryz.klAllocB (by rfl) (by rfl) (some 6) (by rfl) K ?_; intro g6 V1 X1 K1; clear K; (have K := K1); clear K1; (have O9 := hid (O1.out.later X1.out)); clear O1; (have O1 := O9); clear O9; clear X1)
              | ((with_reducible show wpList _ _ _ _ _ _); refine Tryz.klStoreO (by rfl) (.tmp 6) _ (by rfl) [] (by exact K) (by rfl) (by rfl) (by exact ⟨rfl, rfl, rfl, rfl⟩) ?_; intro V2 X1 G1 K1; (dsimp only [List.cons_append, List.nil_append] at K1 X1 G1); clear K; (have K := K1); clear K1; (have O9 := hid (O1.out.og G1.out X1.out)); clear O1; (have O1 := O9); clear O9; clear X1 G1)
              | ((with_reducible show wpList _ _ _ _ _ _); refine Tryz.klStoreF (by rfl) 3 (by kernel_rfl) (.tmp 33) _ (by rfl) [] (by exact K) 2 (by rfl) (by decide) (v := .int _ _) (by rfl) (by rfl) ⟨_, _, _, _, _⟩ (by rfl) ?_; intro V2 X1 G1 K1; (dsimp only [List.cons_append, List.nil_append] at K1 X1 G1); clear K; (have K := K1); clear K1; (have O9 := hid (O1.out.og G1.out X1.out)); clear O1; (have O1 := O9); clear O9; clear X1 G1)
              | ((with_reducible show wpList _ _ _ _ _ _); refine Tryz.klStoreO (by rfl) (.tmp 4) _ (by rfl) [_] (by exact K) (by rfl) (by rfl) (by exact ⟨rfl, rfl, rfl, rfl⟩) ?_; intro V2 X1 G1 K1; (dsimp only [List.cons_append, List.nil_append] at K1 X1 G1); clear K; (have K := K1); clear K1; (have O9 := hid (O1.out.og G1.out X1.out)); clear O1; (have O1 := O9); clear O9; clear X1 G1))
            (try simp only [Exit.inBlock, Exit.then])
            rw [TL.out]
            refine Tryz.ret_lineE Tryz.results47 rfl g3 _ _ _ _ _ rfl rfl (K.out.bx ⟨g3, _, _, _, _⟩ (by repeat (first | exact List.mem_cons_self | refine List.mem_cons_of_mem _ ?_))).2 ?_
            exact ⟨A1, c1, B1, d1, rfl, O1.out.caps.1, O1.out.caps.2, ⟨O1.out.ls.wr, O1.out.cs.wr⟩, K.out.b⟩
        · skip
          have d0 : decide (0 < l.ls.length) = true := decide_eq_true (List.length_pos_iff.2 hl)
          have TL := hid (show formatL l kind = (zL, 7) by unfold formatL; rw [if_pos ⟨hk0, hb⟩, if_neg (by rintro ⟨h, _⟩; exact hl h)])
          clear k0 k3 hb hk0 hl
          go_enter Tryz.func47, Tryz.ntmps47
          go_wp2_with (first
            | ((with_reducible show wpList _ _ _ _ _ _); refine Tryz.klBox (by rfl) _ (by rfl) (some 2) (by rfl) (by rfl) K ?_; intro g1 V1 K1; clear K; (have K := K1); clear K1)
            | ((with_reducible show wpList _ _ _ _ _ _); refine Tryz.klAlloc (by rfl) (by rfl) (some 4) (by rfl) K ?_; intro g3 V1 K1; clear K; (have K := K1); clear K1)
            | ((with_reducible show wpList _ _ _ _ _ _); refine Tryz.klLoad (by rfl) _ (by rfl) K (by rfl) (by repeat (first | exact List.mem_cons_self | refine List.mem_cons_of_mem _ ?_)) ?_)
            | (go_at_call 63; (with_reducible refine (refLMay_any l A _ c B _ d _ rfl rfl _ (K.out.at_ (r := ⟨l, A, B⟩) (by simp)) B9.out C9.out FI.out).mono ?_); rintro e W2 ⟨rfl, hb⟩; rw [MB.out]; (have K2 := hid (K.out.later hb)); clear hb K; (have K := K2); clear K2; obtain ⟨⟨_, _, _, _⟩, _, _, _, _⟩ := K.out.cellsOf (g := g1) (by repeat (first | exact List.mem_cons_self | refine List.mem_cons_of_mem _ ?_)))
            | ((with_reducible show wpList _ _ _ _ _ _); refine Tryz.klStore (by rfl) (.tmp 4) _ (by rfl) [] (by exact K) (by rfl) (by rfl) (by exact ⟨rfl, rfl, rfl, rfl⟩) ?_; intro V2 K1; (dsimp only [List.cons_append, List.nil_append] at K1); clear K; (have K := K1); clear K1))
          (try simp only [Exit.inBlock, Exit.then])
          rw [TL.out]
          refine Tryz.ret_lineE Tryz.results47 rfl g3 _ _ _ _ _ rfl rfl (K.out.bx ⟨g3, _, _, _, _⟩ (by repeat (first | exact List.mem_cons_self | refine List.mem_cons_of_mem _ ?_))).2 ?_
          exact ⟨none, 0, none, 0, rfl, Nat.zero_le _, Nat.zero_le _, LnWr.zero, K.out.b⟩
end Go.Proofs.YtblbfoniimnkcaaGreatDoor

/- The law of 'out.Lists = append(out.Lists, l.Lists[n-1])' for all its orders. (Printed by wip/lnrind.py.) -/
namespace Go.Proofs.YtblbfoniimnkcaaGreatDoor
open Go.RowKit Go.Lib Go.Great

structure RindI (T : Array Value) (l : Ln) (ad : Addr) (c : Nat) (n : Nat) (x : Int) (g1 g4 : Nat) (A1 : Option Addr) (c1 : Nat) (B1 : Option Addr) (d1 : Nat) (w0 : World) (bs : List BoxR) (rs : List RowL) (v37 : Value) (A2 : Option Addr) (c2 : Nat) (b : Nat → Bool) (a : Act) (w : World) : Prop where
  sz : a.tmps.size = T.size
  df : a.defers = []
  fr : ∀ k, k ∉ [29, 30, 31, 32, 33, 34, 35, 36, 37, 38, 39] → a.tmps.getD k undef = T.getD k undef
  kl : KL w0 w bs rs []
  e4 : b 11 = false → Bx w g4 (.int .i64 l.q) (.slice A1 l.ls.length c1) (.int .i64 l.k) (.slice B1 l.cs.length d1)
  e5 : ∃ p q r s, Bx w g4 p q r s
  o1 : b 9 = false → LnOw w w0.heap.size l A1 c1 B1 d1
  o2 : Own encC 3 60 w w0.heap.size (.slice B1 l.cs.length d1) l.cs
  f0 : b 0 = true → a.tmps.getD 29 undef = .pointer (some ⟨g4, 1, none⟩)
  f1 : b 1 = true → a.tmps.getD 30 undef = .slice A1 l.ls.length c1
  f2 : b 2 = true → a.tmps.getD 31 undef = .pointer (some ⟨g1, 1, none⟩)
  f3 : b 3 = true → a.tmps.getD 32 undef = .slice (some ad) l.ls.length c
  f4 : b 4 = true → a.tmps.getD 33 undef = .int .i64 (l.ls.length : Int)
  f5 : b 5 = true → a.tmps.getD 34 undef = .int .i64 (n : Int)
  f6 : b 6 = true → a.tmps.getD 35 undef = .pointer (some (ad.add n))
  f7 : b 7 = true → a.tmps.getD 36 undef = .int .i64 x
  f8 : b 8 = true → a.tmps.getD 37 undef = v37 ∧ (∃ g, v37 = .slice (some ⟨g, 0, none⟩) 1 1) ∧ (b 9 = false → Own encI 1 3 w w0.heap.size v37 [x])
  f9 : b 9 = true → a.tmps.getD 38 undef = .slice A2 (l.ls ++ [x]).length c2 ∧ Own encI 1 3 w w0.heap.size (.slice A2 (l.ls ++ [x]).length c2) (l.ls ++ [x])
  f10 : b 10 = true → a.tmps.getD 39 undef = .pointer (some ⟨g4, 1, none⟩)
  f11 : b 11 = true → Bx w g4 (.int .i64 l.q) (.slice A2 (l.ls ++ [x]).length c2) (.int .i64 l.k) (.slice B1 l.cs.length d1)
  w9 : b 9 = true → b 1 = true ∧ b 8 = true
  w11 : b 11 = true → b 9 = true
section
variable {o0 o1 o2 o3 o4 o5 o6 o7 o8 o9 o10 o11 : Oper}
set_option maxHeartbeats 4000000 in
theorem Tryz.rind_reg {id : Nat} {Q : Exit → Act → World → Prop} {T : Array Value} {l : Ln} {ad : Addr} {c : Nat} {B : Option Addr} {d n : Nat} {x : Int} {g1 g4 : Nat} {A1 : Option Addr} {c1 : Nat} {B1 : Option Addr} {d1 : Nat} {w0 w : World} {bs : List BoxR} {rs : List RowL}
    (F0 : o0.op = .fieldAddr 46 (.tmp 4) 1 ∧ o0.dst = some 29 ∧ o0.guard = none)
    (F1 : o1.op = .load 43 (.tmp 29) ∧ o1.dst = some 30 ∧ o1.guard = none)
    (F2 : o2.op = .fieldAddr 46 (.tmp 1) 1 ∧ o2.dst = some 31 ∧ o2.guard = none)
    (F3 : o3.op = .load 43 (.tmp 31) ∧ o3.dst = some 32 ∧ o3.guard = none)
    (F4 : o4.op = .move (.tmp 5) ∧ o4.dst = some 33 ∧ o4.guard = none)
    (F5 : o5.op = .binOp .sub 3 (.tmp 33) (.const (.int .i64 1)) 3 ∧ o5.dst = some 34 ∧ o5.guard = none)
    (F6 : o6.op = .indexAddr 43 (.tmp 32) (.tmp 34) ∧ o6.dst = some 35 ∧ o6.guard = none)
    (F7 : o7.op = .load 3 (.tmp 35) ∧ o7.dst = some 36 ∧ o7.guard = none)
    (F8 : o8.op = .buildSlice 43 1 #[(0, .tmp 36)] ∧ o8.dst = some 37 ∧ o8.guard = none)
    (F9 : o9.op = .call { callee := .builtin .append, args := #[.tmp 30, .tmp 37], argTypes := #[43, 43] } ∧ o9.dst = some 38 ∧ o9.guard = none)
    (F10 : o10.op = .fieldAddr 46 (.tmp 4) 1 ∧ o10.dst = some 39 ∧ o10.guard = none)
    (F11 : o11.op = .store 43 (.tmp 39) (.tmp 38) ∧ o11.dst = none ∧ o11.guard = none)
    (D1 : dep13 o1 0 = true)
    (D3 : dep13 o3 2 = true)
    (D5 : dep13 o5 4 = true)
    (D6 : dep13 o6 3 = true ∧ dep13 o6 5 = true)
    (D7 : dep13 o7 6 = true)
    (D8 : dep13 o8 7 = true)
    (D9 : dep13 o9 1 = true ∧ dep13 o9 8 = true)
    (D11 : dep13 o11 9 = true ∧ dep13 o11 10 = true)
    (down : edgesDown #[o0, o1, o2, o3, o4, o5, o6, o7, o8, o9, o10, o11] = true) (hsz : 39 < T.size) (p1 : T.getD 1 undef = .pointer (some ⟨g1, 0, none⟩)) (p4 : T.getD 4 undef = .pointer (some ⟨g4, 0, none⟩)) (p5 : T.getD 5 undef = .int .i64 (l.ls.length : Int))
    (I5 : ∀ (a : Act) (w : World), a.eval (.tmp 33) = .int .i64 (l.ls.length : Int) → (execOp a.eval o5).run Tryz.prog w = .ok (.value (.int .i64 (n : Int))) w)
    (I6 : ∀ (a : Act) (w : World), a.eval (.tmp 32) = .slice (some ad) l.ls.length c → a.eval (.tmp 34) = .int .i64 (n : Int) → (execOp a.eval o6).run Tryz.prog w = .ok (.value (.pointer (some (ad.add n)))) w)
    (K : KL w0 w (⟨g4, .int .i64 l.q, .slice A1 l.ls.length c1, .int .i64 l.k, .slice B1 l.cs.length d1⟩ :: bs) rs []) (hb1 : (⟨g1, .int .i64 l.q, .slice (some ad) l.ls.length c, .int .i64 l.k, .slice B l.cs.length d⟩ : BoxR) ∈ bs) (hl : (⟨l, some ad, B⟩ : RowL) ∈ rs) (hrs : ∀ r ∈ rs, LnAt w0 w0.heap.size r.l r.A r.B) (O1 : LnOw w w0.heap.size l A1 c1 B1 d1) (hx : l.ls[n]? = some x) (h9 : l.ls.length ≤ 1000000000)
    (hend : ∀ v37 A2 c2 w', KL w0 w' (⟨g4, .int .i64 l.q, .slice A2 (l.ls ++ [x]).length c2, .int .i64 l.k, .slice B1 l.cs.length d1⟩ :: bs) rs [] → LnOw w' w0.heap.size ⟨l.q, l.ls ++ [x], l.k, l.cs⟩ A2 c2 B1 d1 → Q .normal ⟨upds T [(29, .pointer (some ⟨g4, 1, none⟩)), (30, .slice A1 l.ls.length c1), (31, .pointer (some ⟨g1, 1, none⟩)), (32, .slice (some ad) l.ls.length c), (33, .int .i64 (l.ls.length : Int)), (34, .int .i64 (n : Int)), (35, .pointer (some (ad.add n))), (36, .int .i64 x), (37, v37), (38, .slice A2 (l.ls ++ [x]).length c2), (39, .pointer (some ⟨g4, 1, none⟩))], []⟩ w') :
    (Code.region id #[o0, o1, o2, o3, o4, o5, o6, o7, o8, o9, o10, o11] true).wp Tryz.prog Q ⟨T, []⟩ w := by
  have hb4 := K.bx _ (List.mem_cons_self)
  have hg4 : w0.heap.size ≤ g4 := hb4.1
  have out4 : ∀ u ∈ bs, u.g ≠ g4 := fun u hu e => (List.pairwise_cons.1 K.nd).1 u hu e.symm
  refine wp_region_any (by kernel_rfl) ?_
  refine wpAny_inv (fun b a w => b.size = 12 ∧ ∃ v37 A2 c2, RindI T l ad c n x g1 g4 A1 c1 B1 d1 w0 bs rs v37 A2 c2 (fun k => b.getD k false) a w) ?step ?fin _ _ _ _ ?start ?fuel
  case fuel => simp
  case start =>
    refine ⟨by simp, undef, none, 0, ?_⟩
    have no : ∀ k, (Array.replicate (#[o0, o1, o2, o3, o4, o5, o6, o7, o8, o9, o10, o11] : Array Oper).size false).getD k false = true → False := fun k h => by
      simp [Array.getD] at h
    exact { sz := rfl, df := rfl, fr := fun _ _ => rfl, kl := (K.less (by simp) (fun r h => h) (List.Sublist.refl _)).quiet ⟨1, rfl⟩, e4 := fun _ => hb4.2, e5 := ⟨_, _, _, _, hb4.2⟩, o1 := fun _ => O1.drewN 1, o2 := O1.cs.drewN 1, f0 := fun h => (no _ h).elim, f1 := fun h => (no _ h).elim, f2 := fun h => (no _ h).elim, f3 := fun h => (no _ h).elim, f4 := fun h => (no _ h).elim, f5 := fun h => (no _ h).elim, f6 := fun h => (no _ h).elim, f7 := fun h => (no _ h).elim, f8 := fun h => (no _ h).elim, f9 := fun h => (no _ h).elim, f10 := fun h => (no _ h).elim, f11 := fun h => (no _ h).elim, w9 := fun h => (no _ h).elim, w11 := fun h => (no _ h).elim }
  case fin =>
    rintro b a w' ⟨hs, v37, A2, c2, I⟩ hr
    have all : ∀ k, k < 12 → b.getD k false = true := fun k hk => ready_nil down hr hs 12 k hk hk
    have := hend v37 A2 c2 w' (I.kl.push (t := ⟨g4, _, _, _, _⟩) hg4 (I.f11 (all 11 (by decide))) out4) ⟨(I.f9 (all 9 (by decide))).2, I.o2⟩
    have ea : a = ⟨upds T [(29, .pointer (some ⟨g4, 1, none⟩)), (30, .slice A1 l.ls.length c1), (31, .pointer (some ⟨g1, 1, none⟩)), (32, .slice (some ad) l.ls.length c), (33, .int .i64 (l.ls.length : Int)), (34, .int .i64 (n : Int)), (35, .pointer (some (ad.add n))), (36, .int .i64 x), (37, v37), (38, .slice A2 (l.ls ++ [x]).length c2), (39, .pointer (some ⟨g4, 1, none⟩))], []⟩ := by
      obtain ⟨tm, df⟩ := a
      have hd : df = [] := I.df
      subst hd
      refine congrArg (fun z => (⟨z, []⟩ : Act)) (frame_eq [(29, .pointer (some ⟨g4, 1, none⟩)), (30, .slice A1 l.ls.length c1), (31, .pointer (some ⟨g1, 1, none⟩)), (32, .slice (some ad) l.ls.length c), (33, .int .i64 (l.ls.length : Int)), (34, .int .i64 (n : Int)), (35, .pointer (some (ad.add n))), (36, .int .i64 x), (37, v37), (38, .slice A2 (l.ls ++ [x]).length c2), (39, .pointer (some ⟨g4, 1, none⟩))] I.sz ?_ ?_ ?_ I.fr)
      · intro q hq; simp at hq; rcases hq with rfl | rfl | rfl | rfl | rfl | rfl | rfl | rfl | rfl | rfl | rfl <;> simp <;> omega
      · show ([29, 30, 31, 32, 33, 34, 35, 36, 37, 38, 39] : List Nat).Nodup; decide
      · intro q hq
        simp only [List.mem_cons, List.not_mem_nil, or_false] at hq
        rcases hq with rfl | rfl | rfl | rfl | rfl | rfl | rfl | rfl | rfl | rfl | rfl
        · exact (I.f0 (all 0 (by decide)))
        · exact (I.f1 (all 1 (by decide)))
        · exact (I.f2 (all 2 (by decide)))
        · exact (I.f3 (all 3 (by decide)))
        · exact (I.f4 (all 4 (by decide)))
        · exact (I.f5 (all 5 (by decide)))
        · exact (I.f6 (all 6 (by decide)))
        · exact (I.f7 (all 7 (by decide)))
        · exact (I.f8 (all 8 (by decide))).1
        · exact (I.f9 (all 9 (by decide))).1
        · exact (I.f10 (all 10 (by decide)))
    rw [ea]
    exact this
  case step =>
    rintro b a w' i' ⟨hs, v37, A2, c2, I⟩ hi
    have off := ready_mem hi
    have hlt : i' < 12 := by
      unfold Region.ready at hi
      rw [List.mem_filter] at hi
      exact List.mem_range.1 hi.1
    have off' : b.getD i' false = false := by
      simp only [Array.getD_eq_getD_getElem?] at off ⊢
      rw [Array.getElem?_eq_getElem (by omega)] at off ⊢
      simpa using off
    obtain ⟨hbig, hbx⟩ := I.kl.bx _ hb1
    obtain ⟨⟨k0, k1, k2, k3⟩, -⟩ := hbx.cells
    have rowat := I.kl.at_ hl
    have asz := I.sz
    have g1' : a.eval (.tmp 1) = .pointer (some ⟨g1, 0, none⟩) := (I.fr 1 (by decide)).trans p1
    have g4' : a.eval (.tmp 4) = .pointer (some ⟨g4, 0, none⟩) := (I.fr 4 (by decide)).trans p4
    have g5' : a.eval (.tmp 5) = .int .i64 (l.ls.length : Int) := (I.fr 5 (by decide)).trans p5
    have bi : (fun k => (b.setIfInBounds i' true).getD k false) = bitOn (fun k => b.getD k false) i' := bit_set (by omega)
    match i', hlt with
    | 0, _ =>
      refine wpOp_step (o := o0) rfl (fun K' hK => ?_)
      rw [if_pos (by simp [Region.wanted, F0.2.2])]
      refine wp_val (run_field1 F0.1 g4') ?_
      refine hK _ _ ⟨by rw [Array.size_setIfInBounds]; exact hs, v37, A2, c2, ?_⟩
      rw [bi]
      unfold Act.put
      rw [F0.2.1]
      exact { sz := (Array.size_setIfInBounds ..).trans I.sz, df := I.df, fr := fun k hk => (getD_set_ne (fun e => hk (by rw [← e]; decide))).trans (I.fr k hk), kl := I.kl, e4 := fun h => I.e4 (bit_off h), e5 := I.e5, o1 := fun h => I.o1 (bit_off h), o2 := I.o2, f0 := fun _ => getD_set_eq (by rw [asz]; omega), f1 := fun h => (getD_set_ne (by decide)).trans (I.f1 (bit_ne h (by decide))), f2 := fun h => (getD_set_ne (by decide)).trans (I.f2 (bit_ne h (by decide))), f3 := fun h => (getD_set_ne (by decide)).trans (I.f3 (bit_ne h (by decide))), f4 := fun h => (getD_set_ne (by decide)).trans (I.f4 (bit_ne h (by decide))), f5 := fun h => (getD_set_ne (by decide)).trans (I.f5 (bit_ne h (by decide))), f6 := fun h => (getD_set_ne (by decide)).trans (I.f6 (bit_ne h (by decide))), f7 := fun h => (getD_set_ne (by decide)).trans (I.f7 (bit_ne h (by decide))), f8 := fun h => ⟨(getD_set_ne (by decide)).trans ((I.f8 (bit_ne h (by decide))).1), (I.f8 (bit_ne h (by decide))).2.1, fun h9 => (I.f8 (bit_ne h (by decide))).2.2 (bit_off h9)⟩, f9 := fun h => ⟨(getD_set_ne (by decide)).trans ((I.f9 (bit_ne h (by decide))).1), (I.f9 (bit_ne h (by decide))).2⟩, f10 := fun h => (getD_set_ne (by decide)).trans (I.f10 (bit_ne h (by decide))), f11 := fun h => I.f11 (bit_ne h (by decide)), w9 := fun h => ⟨bit_on (I.w9 (bit_ne h (by decide))).1, bit_on (I.w9 (bit_ne h (by decide))).2⟩, w11 := fun h => bit_on (I.w11 (bit_ne h (by decide))) }
    | 1, _ =>
      refine wpOp_step (o := o1) rfl (fun K' hK => ?_)
      rw [if_pos (by simp [Region.wanted, F1.2.2])]
      have h0 := ready_waits hi rfl D1
      have n11 : b.getD 11 false = false := by
        cases hq : b.getD 11 false with
        | false => rfl
        | true => have z9 := I.w11 hq; have z1 := (I.w9 z9).1; exact absurd z1 (by show ¬ b.getD 1 false = true; rw [off']; decide)
      obtain ⟨⟨-, q1, -, -⟩, -⟩ := (I.e4 n11).cells
      refine wp_val (run_loadII F1.1 (I.f0 h0) q1) ?_
      refine hK _ _ ⟨by rw [Array.size_setIfInBounds]; exact hs, v37, A2, c2, ?_⟩
      rw [bi]
      unfold Act.put
      rw [F1.2.1]
      exact { sz := (Array.size_setIfInBounds ..).trans I.sz, df := I.df, fr := fun k hk => (getD_set_ne (fun e => hk (by rw [← e]; decide))).trans (I.fr k hk), kl := I.kl, e4 := fun h => I.e4 (bit_off h), e5 := I.e5, o1 := fun h => I.o1 (bit_off h), o2 := I.o2, f0 := fun h => (getD_set_ne (by decide)).trans (I.f0 (bit_ne h (by decide))), f1 := fun _ => getD_set_eq (by rw [asz]; omega), f2 := fun h => (getD_set_ne (by decide)).trans (I.f2 (bit_ne h (by decide))), f3 := fun h => (getD_set_ne (by decide)).trans (I.f3 (bit_ne h (by decide))), f4 := fun h => (getD_set_ne (by decide)).trans (I.f4 (bit_ne h (by decide))), f5 := fun h => (getD_set_ne (by decide)).trans (I.f5 (bit_ne h (by decide))), f6 := fun h => (getD_set_ne (by decide)).trans (I.f6 (bit_ne h (by decide))), f7 := fun h => (getD_set_ne (by decide)).trans (I.f7 (bit_ne h (by decide))), f8 := fun h => ⟨(getD_set_ne (by decide)).trans ((I.f8 (bit_ne h (by decide))).1), (I.f8 (bit_ne h (by decide))).2.1, fun h9 => (I.f8 (bit_ne h (by decide))).2.2 (bit_off h9)⟩, f9 := fun h => ⟨(getD_set_ne (by decide)).trans ((I.f9 (bit_ne h (by decide))).1), (I.f9 (bit_ne h (by decide))).2⟩, f10 := fun h => (getD_set_ne (by decide)).trans (I.f10 (bit_ne h (by decide))), f11 := fun h => I.f11 (bit_ne h (by decide)), w9 := fun h => ⟨bit_on (I.w9 (bit_ne h (by decide))).1, bit_on (I.w9 (bit_ne h (by decide))).2⟩, w11 := fun h => bit_on (I.w11 (bit_ne h (by decide))) }
    | 2, _ =>
      refine wpOp_step (o := o2) rfl (fun K' hK => ?_)
      rw [if_pos (by simp [Region.wanted, F2.2.2])]
      refine wp_val (run_field1 F2.1 g1') ?_
      refine hK _ _ ⟨by rw [Array.size_setIfInBounds]; exact hs, v37, A2, c2, ?_⟩
      rw [bi]
      unfold Act.put
      rw [F2.2.1]
      exact { sz := (Array.size_setIfInBounds ..).trans I.sz, df := I.df, fr := fun k hk => (getD_set_ne (fun e => hk (by rw [← e]; decide))).trans (I.fr k hk), kl := I.kl, e4 := fun h => I.e4 (bit_off h), e5 := I.e5, o1 := fun h => I.o1 (bit_off h), o2 := I.o2, f0 := fun h => (getD_set_ne (by decide)).trans (I.f0 (bit_ne h (by decide))), f1 := fun h => (getD_set_ne (by decide)).trans (I.f1 (bit_ne h (by decide))), f2 := fun _ => getD_set_eq (by rw [asz]; omega), f3 := fun h => (getD_set_ne (by decide)).trans (I.f3 (bit_ne h (by decide))), f4 := fun h => (getD_set_ne (by decide)).trans (I.f4 (bit_ne h (by decide))), f5 := fun h => (getD_set_ne (by decide)).trans (I.f5 (bit_ne h (by decide))), f6 := fun h => (getD_set_ne (by decide)).trans (I.f6 (bit_ne h (by decide))), f7 := fun h => (getD_set_ne (by decide)).trans (I.f7 (bit_ne h (by decide))), f8 := fun h => ⟨(getD_set_ne (by decide)).trans ((I.f8 (bit_ne h (by decide))).1), (I.f8 (bit_ne h (by decide))).2.1, fun h9 => (I.f8 (bit_ne h (by decide))).2.2 (bit_off h9)⟩, f9 := fun h => ⟨(getD_set_ne (by decide)).trans ((I.f9 (bit_ne h (by decide))).1), (I.f9 (bit_ne h (by decide))).2⟩, f10 := fun h => (getD_set_ne (by decide)).trans (I.f10 (bit_ne h (by decide))), f11 := fun h => I.f11 (bit_ne h (by decide)), w9 := fun h => ⟨bit_on (I.w9 (bit_ne h (by decide))).1, bit_on (I.w9 (bit_ne h (by decide))).2⟩, w11 := fun h => bit_on (I.w11 (bit_ne h (by decide))) }
    | 3, _ =>
      refine wpOp_step (o := o3) rfl (fun K' hK => ?_)
      rw [if_pos (by simp [Region.wanted, F3.2.2])]
      have h2 := ready_waits hi rfl D3
      refine wp_val (run_loadII F3.1 (I.f2 h2) k1) ?_
      refine hK _ _ ⟨by rw [Array.size_setIfInBounds]; exact hs, v37, A2, c2, ?_⟩
      rw [bi]
      unfold Act.put
      rw [F3.2.1]
      exact { sz := (Array.size_setIfInBounds ..).trans I.sz, df := I.df, fr := fun k hk => (getD_set_ne (fun e => hk (by rw [← e]; decide))).trans (I.fr k hk), kl := I.kl, e4 := fun h => I.e4 (bit_off h), e5 := I.e5, o1 := fun h => I.o1 (bit_off h), o2 := I.o2, f0 := fun h => (getD_set_ne (by decide)).trans (I.f0 (bit_ne h (by decide))), f1 := fun h => (getD_set_ne (by decide)).trans (I.f1 (bit_ne h (by decide))), f2 := fun h => (getD_set_ne (by decide)).trans (I.f2 (bit_ne h (by decide))), f3 := fun _ => getD_set_eq (by rw [asz]; omega), f4 := fun h => (getD_set_ne (by decide)).trans (I.f4 (bit_ne h (by decide))), f5 := fun h => (getD_set_ne (by decide)).trans (I.f5 (bit_ne h (by decide))), f6 := fun h => (getD_set_ne (by decide)).trans (I.f6 (bit_ne h (by decide))), f7 := fun h => (getD_set_ne (by decide)).trans (I.f7 (bit_ne h (by decide))), f8 := fun h => ⟨(getD_set_ne (by decide)).trans ((I.f8 (bit_ne h (by decide))).1), (I.f8 (bit_ne h (by decide))).2.1, fun h9 => (I.f8 (bit_ne h (by decide))).2.2 (bit_off h9)⟩, f9 := fun h => ⟨(getD_set_ne (by decide)).trans ((I.f9 (bit_ne h (by decide))).1), (I.f9 (bit_ne h (by decide))).2⟩, f10 := fun h => (getD_set_ne (by decide)).trans (I.f10 (bit_ne h (by decide))), f11 := fun h => I.f11 (bit_ne h (by decide)), w9 := fun h => ⟨bit_on (I.w9 (bit_ne h (by decide))).1, bit_on (I.w9 (bit_ne h (by decide))).2⟩, w11 := fun h => bit_on (I.w11 (bit_ne h (by decide))) }
    | 4, _ =>
      refine wpOp_step (o := o4) rfl (fun K' hK => ?_)
      rw [if_pos (by simp [Region.wanted, F4.2.2])]
      refine wp_val (v := .int .i64 (l.ls.length : Int)) (by unfold execOp; simp only [F4.1, Sem.run_pure, g5']) ?_
      refine hK _ _ ⟨by rw [Array.size_setIfInBounds]; exact hs, v37, A2, c2, ?_⟩
      rw [bi]
      unfold Act.put
      rw [F4.2.1]
      exact { sz := (Array.size_setIfInBounds ..).trans I.sz, df := I.df, fr := fun k hk => (getD_set_ne (fun e => hk (by rw [← e]; decide))).trans (I.fr k hk), kl := I.kl, e4 := fun h => I.e4 (bit_off h), e5 := I.e5, o1 := fun h => I.o1 (bit_off h), o2 := I.o2, f0 := fun h => (getD_set_ne (by decide)).trans (I.f0 (bit_ne h (by decide))), f1 := fun h => (getD_set_ne (by decide)).trans (I.f1 (bit_ne h (by decide))), f2 := fun h => (getD_set_ne (by decide)).trans (I.f2 (bit_ne h (by decide))), f3 := fun h => (getD_set_ne (by decide)).trans (I.f3 (bit_ne h (by decide))), f4 := fun _ => getD_set_eq (by rw [asz]; omega), f5 := fun h => (getD_set_ne (by decide)).trans (I.f5 (bit_ne h (by decide))), f6 := fun h => (getD_set_ne (by decide)).trans (I.f6 (bit_ne h (by decide))), f7 := fun h => (getD_set_ne (by decide)).trans (I.f7 (bit_ne h (by decide))), f8 := fun h => ⟨(getD_set_ne (by decide)).trans ((I.f8 (bit_ne h (by decide))).1), (I.f8 (bit_ne h (by decide))).2.1, fun h9 => (I.f8 (bit_ne h (by decide))).2.2 (bit_off h9)⟩, f9 := fun h => ⟨(getD_set_ne (by decide)).trans ((I.f9 (bit_ne h (by decide))).1), (I.f9 (bit_ne h (by decide))).2⟩, f10 := fun h => (getD_set_ne (by decide)).trans (I.f10 (bit_ne h (by decide))), f11 := fun h => I.f11 (bit_ne h (by decide)), w9 := fun h => ⟨bit_on (I.w9 (bit_ne h (by decide))).1, bit_on (I.w9 (bit_ne h (by decide))).2⟩, w11 := fun h => bit_on (I.w11 (bit_ne h (by decide))) }
    | 5, _ =>
      refine wpOp_step (o := o5) rfl (fun K' hK => ?_)
      rw [if_pos (by simp [Region.wanted, F5.2.2])]
      have h4 := ready_waits hi rfl D5
      refine wp_val (I5 a w' (I.f4 h4)) ?_
      refine hK _ _ ⟨by rw [Array.size_setIfInBounds]; exact hs, v37, A2, c2, ?_⟩
      rw [bi]
      unfold Act.put
      rw [F5.2.1]
      exact { sz := (Array.size_setIfInBounds ..).trans I.sz, df := I.df, fr := fun k hk => (getD_set_ne (fun e => hk (by rw [← e]; decide))).trans (I.fr k hk), kl := I.kl, e4 := fun h => I.e4 (bit_off h), e5 := I.e5, o1 := fun h => I.o1 (bit_off h), o2 := I.o2, f0 := fun h => (getD_set_ne (by decide)).trans (I.f0 (bit_ne h (by decide))), f1 := fun h => (getD_set_ne (by decide)).trans (I.f1 (bit_ne h (by decide))), f2 := fun h => (getD_set_ne (by decide)).trans (I.f2 (bit_ne h (by decide))), f3 := fun h => (getD_set_ne (by decide)).trans (I.f3 (bit_ne h (by decide))), f4 := fun h => (getD_set_ne (by decide)).trans (I.f4 (bit_ne h (by decide))), f5 := fun _ => getD_set_eq (by rw [asz]; omega), f6 := fun h => (getD_set_ne (by decide)).trans (I.f6 (bit_ne h (by decide))), f7 := fun h => (getD_set_ne (by decide)).trans (I.f7 (bit_ne h (by decide))), f8 := fun h => ⟨(getD_set_ne (by decide)).trans ((I.f8 (bit_ne h (by decide))).1), (I.f8 (bit_ne h (by decide))).2.1, fun h9 => (I.f8 (bit_ne h (by decide))).2.2 (bit_off h9)⟩, f9 := fun h => ⟨(getD_set_ne (by decide)).trans ((I.f9 (bit_ne h (by decide))).1), (I.f9 (bit_ne h (by decide))).2⟩, f10 := fun h => (getD_set_ne (by decide)).trans (I.f10 (bit_ne h (by decide))), f11 := fun h => I.f11 (bit_ne h (by decide)), w9 := fun h => ⟨bit_on (I.w9 (bit_ne h (by decide))).1, bit_on (I.w9 (bit_ne h (by decide))).2⟩, w11 := fun h => bit_on (I.w11 (bit_ne h (by decide))) }
    | 6, _ =>
      refine wpOp_step (o := o6) rfl (fun K' hK => ?_)
      rw [if_pos (by simp [Region.wanted, F6.2.2])]
      have h3 := ready_waits hi rfl D6.1
      have h5 := ready_waits hi rfl D6.2
      refine wp_val (I6 a w' (I.f3 h3) (I.f5 h5)) ?_
      refine hK _ _ ⟨by rw [Array.size_setIfInBounds]; exact hs, v37, A2, c2, ?_⟩
      rw [bi]
      unfold Act.put
      rw [F6.2.1]
      exact { sz := (Array.size_setIfInBounds ..).trans I.sz, df := I.df, fr := fun k hk => (getD_set_ne (fun e => hk (by rw [← e]; decide))).trans (I.fr k hk), kl := I.kl, e4 := fun h => I.e4 (bit_off h), e5 := I.e5, o1 := fun h => I.o1 (bit_off h), o2 := I.o2, f0 := fun h => (getD_set_ne (by decide)).trans (I.f0 (bit_ne h (by decide))), f1 := fun h => (getD_set_ne (by decide)).trans (I.f1 (bit_ne h (by decide))), f2 := fun h => (getD_set_ne (by decide)).trans (I.f2 (bit_ne h (by decide))), f3 := fun h => (getD_set_ne (by decide)).trans (I.f3 (bit_ne h (by decide))), f4 := fun h => (getD_set_ne (by decide)).trans (I.f4 (bit_ne h (by decide))), f5 := fun h => (getD_set_ne (by decide)).trans (I.f5 (bit_ne h (by decide))), f6 := fun _ => getD_set_eq (by rw [asz]; omega), f7 := fun h => (getD_set_ne (by decide)).trans (I.f7 (bit_ne h (by decide))), f8 := fun h => ⟨(getD_set_ne (by decide)).trans ((I.f8 (bit_ne h (by decide))).1), (I.f8 (bit_ne h (by decide))).2.1, fun h9 => (I.f8 (bit_ne h (by decide))).2.2 (bit_off h9)⟩, f9 := fun h => ⟨(getD_set_ne (by decide)).trans ((I.f9 (bit_ne h (by decide))).1), (I.f9 (bit_ne h (by decide))).2⟩, f10 := fun h => (getD_set_ne (by decide)).trans (I.f10 (bit_ne h (by decide))), f11 := fun h => I.f11 (bit_ne h (by decide)), w9 := fun h => ⟨bit_on (I.w9 (bit_ne h (by decide))).1, bit_on (I.w9 (bit_ne h (by decide))).2⟩, w11 := fun h => bit_on (I.w11 (bit_ne h (by decide))) }
    | 7, _ =>
      refine wpOp_step (o := o7) rfl (fun K' hK => ?_)
      rw [if_pos (by simp [Region.wanted, F7.2.2])]
      have h6 := ready_waits hi rfl D7
      refine wp_val (run_loadI F7.1 (I.f6 h6) (rowCell rowat.ls hx)) ?_
      refine hK _ _ ⟨by rw [Array.size_setIfInBounds]; exact hs, v37, A2, c2, ?_⟩
      rw [bi]
      unfold Act.put
      rw [F7.2.1]
      exact { sz := (Array.size_setIfInBounds ..).trans I.sz, df := I.df, fr := fun k hk => (getD_set_ne (fun e => hk (by rw [← e]; decide))).trans (I.fr k hk), kl := I.kl, e4 := fun h => I.e4 (bit_off h), e5 := I.e5, o1 := fun h => I.o1 (bit_off h), o2 := I.o2, f0 := fun h => (getD_set_ne (by decide)).trans (I.f0 (bit_ne h (by decide))), f1 := fun h => (getD_set_ne (by decide)).trans (I.f1 (bit_ne h (by decide))), f2 := fun h => (getD_set_ne (by decide)).trans (I.f2 (bit_ne h (by decide))), f3 := fun h => (getD_set_ne (by decide)).trans (I.f3 (bit_ne h (by decide))), f4 := fun h => (getD_set_ne (by decide)).trans (I.f4 (bit_ne h (by decide))), f5 := fun h => (getD_set_ne (by decide)).trans (I.f5 (bit_ne h (by decide))), f6 := fun h => (getD_set_ne (by decide)).trans (I.f6 (bit_ne h (by decide))), f7 := fun _ => getD_set_eq (by rw [asz]; omega), f8 := fun h => ⟨(getD_set_ne (by decide)).trans ((I.f8 (bit_ne h (by decide))).1), (I.f8 (bit_ne h (by decide))).2.1, fun h9 => (I.f8 (bit_ne h (by decide))).2.2 (bit_off h9)⟩, f9 := fun h => ⟨(getD_set_ne (by decide)).trans ((I.f9 (bit_ne h (by decide))).1), (I.f9 (bit_ne h (by decide))).2⟩, f10 := fun h => (getD_set_ne (by decide)).trans (I.f10 (bit_ne h (by decide))), f11 := fun h => I.f11 (bit_ne h (by decide)), w9 := fun h => ⟨bit_on (I.w9 (bit_ne h (by decide))).1, bit_on (I.w9 (bit_ne h (by decide))).2⟩, w11 := fun h => bit_on (I.w11 (bit_ne h (by decide))) }
    | 8, _ =>
      refine wpOp_step (o := o8) rfl (fun K' hK => ?_)
      rw [if_pos (by simp [Region.wanted, F8.2.2])]
      have h7 := ready_waits hi rfl D8
      unfold Oper.wp
      rw [run_lit1 F8.1 (I.f7 h7)]
      have hbw : Below w'.heap.size w' (w'.alloc (.cells #[.int .i64 x] 3)) := (Below.refl _ w').alloc (Nat.le_refl _) _
      refine hK _ _ ⟨by rw [Array.size_setIfInBounds]; exact hs, .slice (some ⟨w'.heap.size, 0, none⟩) 1 1, A2, c2, ?_⟩
      rw [bi]
      unfold Act.put
      rw [F8.2.1]
      exact { sz := (Array.size_setIfInBounds ..).trans I.sz, df := I.df, fr := fun k hk => (getD_set_ne (fun e => hk (by rw [← e]; decide))).trans (I.fr k hk), kl := (I.kl).later hbw, e4 := fun h => (I.e4 (bit_off h)).later hbw, e5 := (by obtain ⟨p, q, r, s, h⟩ := I.e5; exact ⟨p, q, r, s, h.later hbw⟩), o1 := fun h => (I.o1 (bit_off h)).later hbw, o2 := (I.o2).later hbw, f0 := fun h => (getD_set_ne (by decide)).trans (I.f0 (bit_ne h (by decide))), f1 := fun h => (getD_set_ne (by decide)).trans (I.f1 (bit_ne h (by decide))), f2 := fun h => (getD_set_ne (by decide)).trans (I.f2 (bit_ne h (by decide))), f3 := fun h => (getD_set_ne (by decide)).trans (I.f3 (bit_ne h (by decide))), f4 := fun h => (getD_set_ne (by decide)).trans (I.f4 (bit_ne h (by decide))), f5 := fun h => (getD_set_ne (by decide)).trans (I.f5 (bit_ne h (by decide))), f6 := fun h => (getD_set_ne (by decide)).trans (I.f6 (bit_ne h (by decide))), f7 := fun h => (getD_set_ne (by decide)).trans (I.f7 (bit_ne h (by decide))), f8 := fun _ => ⟨getD_set_eq (by rw [asz]; omega), ⟨_, rfl⟩, fun _ => (own_lit1I w' x).based I.kl.b.size⟩, f9 := fun h => ⟨(getD_set_ne (by decide)).trans ((I.f9 (bit_ne h (by decide))).1), ((I.f9 (bit_ne h (by decide))).2).later hbw⟩, f10 := fun h => (getD_set_ne (by decide)).trans (I.f10 (bit_ne h (by decide))), f11 := fun h => (I.f11 (bit_ne h (by decide))).later hbw, w9 := fun h => ⟨bit_on (I.w9 (bit_ne h (by decide))).1, bit_on (I.w9 (bit_ne h (by decide))).2⟩, w11 := fun h => bit_on (I.w11 (bit_ne h (by decide))) }
    | 9, _ =>
      refine wpOp_step (o := o9) rfl (fun K' hK => ?_)
      rw [if_pos (by simp [Region.wanted, F9.2.2])]
      have h1 := ready_waits hi rfl D9.1
      have h8 := ready_waits hi rfl D9.2
      obtain ⟨hv, ⟨gs, rfl⟩, hsrc⟩ := I.f8 h8
      have hsrc := (hsrc off').wr.sl encI_len
      have hown := (I.o1 off').ls
      obtain ⟨v', W2, hr, ho2, hg, _⟩ := run_append_slice Tryz.okI 43 o9.type Tryz.underlying43 w' w0.heap.size (.slice A1 l.ls.length c1) l.ls hown w'.heap.size (some ⟨gs, 0, none⟩) [x] 1 hsrc (by simp; omega) I.kl.b.size
      obtain ⟨A9, n9, c9, rfl, hn9⟩ := ho2.shape
      have hn9 : n9 = (l.ls ++ [x]).length := hn9.out
      subst hn9
      refine Lib.wp_append_run w' (.tmp 30) (.tmp 37) 43 43 F9.1 _ _ (I.f1 h1) hv _ W2 hr ?_
      refine hK _ _ ⟨by rw [Array.size_setIfInBounds]; exact hs, .slice (some ⟨gs, 0, none⟩) 1 1, A9, c9, ?_⟩
      rw [bi]
      unfold Act.put
      rw [F9.2.1]
      exact { sz := (Array.size_setIfInBounds ..).trans I.sz, df := I.df, fr := fun k hk => (getD_set_ne (fun e => hk (by rw [← e]; decide))).trans (I.fr k hk), kl := I.kl.grownI hown hg hrs, e4 := fun h => (I.e4 (bit_off h)).grownI hown hg, e5 := (by obtain ⟨p, q, r, s, h⟩ := I.e5; exact ⟨p, q, r, s, h.grownI hown hg⟩), o1 := fun h => by simp [bitOn] at h, o2 := Own.grownC hown hg I.o2, f0 := fun h => (getD_set_ne (by decide)).trans (I.f0 (bit_ne h (by decide))), f1 := fun h => (getD_set_ne (by decide)).trans (I.f1 (bit_ne h (by decide))), f2 := fun h => (getD_set_ne (by decide)).trans (I.f2 (bit_ne h (by decide))), f3 := fun h => (getD_set_ne (by decide)).trans (I.f3 (bit_ne h (by decide))), f4 := fun h => (getD_set_ne (by decide)).trans (I.f4 (bit_ne h (by decide))), f5 := fun h => (getD_set_ne (by decide)).trans (I.f5 (bit_ne h (by decide))), f6 := fun h => (getD_set_ne (by decide)).trans (I.f6 (bit_ne h (by decide))), f7 := fun h => (getD_set_ne (by decide)).trans (I.f7 (bit_ne h (by decide))), f8 := fun h => ⟨(getD_set_ne (by decide)).trans (I.f8 (bit_ne h (by decide))).1, (I.f8 (bit_ne h (by decide))).2.1, fun h9 => by simp [bitOn] at h9⟩, f9 := fun _ => ⟨getD_set_eq (by rw [asz]; omega), ho2⟩, f10 := fun h => (getD_set_ne (by decide)).trans (I.f10 (bit_ne h (by decide))), f11 := fun h => by have z := bit_ne h (by decide); have y9 := I.w11 z; simp [off'] at y9, w9 := fun _ => ⟨bit_on h1, bit_on h8⟩, w11 := fun h => bit_on (I.w11 (bit_ne h (by decide))) }
    | 10, _ =>
      refine wpOp_step (o := o10) rfl (fun K' hK => ?_)
      rw [if_pos (by simp [Region.wanted, F10.2.2])]
      refine wp_val (run_field1 F10.1 g4') ?_
      refine hK _ _ ⟨by rw [Array.size_setIfInBounds]; exact hs, v37, A2, c2, ?_⟩
      rw [bi]
      unfold Act.put
      rw [F10.2.1]
      exact { sz := (Array.size_setIfInBounds ..).trans I.sz, df := I.df, fr := fun k hk => (getD_set_ne (fun e => hk (by rw [← e]; decide))).trans (I.fr k hk), kl := I.kl, e4 := fun h => I.e4 (bit_off h), e5 := I.e5, o1 := fun h => I.o1 (bit_off h), o2 := I.o2, f0 := fun h => (getD_set_ne (by decide)).trans (I.f0 (bit_ne h (by decide))), f1 := fun h => (getD_set_ne (by decide)).trans (I.f1 (bit_ne h (by decide))), f2 := fun h => (getD_set_ne (by decide)).trans (I.f2 (bit_ne h (by decide))), f3 := fun h => (getD_set_ne (by decide)).trans (I.f3 (bit_ne h (by decide))), f4 := fun h => (getD_set_ne (by decide)).trans (I.f4 (bit_ne h (by decide))), f5 := fun h => (getD_set_ne (by decide)).trans (I.f5 (bit_ne h (by decide))), f6 := fun h => (getD_set_ne (by decide)).trans (I.f6 (bit_ne h (by decide))), f7 := fun h => (getD_set_ne (by decide)).trans (I.f7 (bit_ne h (by decide))), f8 := fun h => ⟨(getD_set_ne (by decide)).trans ((I.f8 (bit_ne h (by decide))).1), (I.f8 (bit_ne h (by decide))).2.1, fun h9 => (I.f8 (bit_ne h (by decide))).2.2 (bit_off h9)⟩, f9 := fun h => ⟨(getD_set_ne (by decide)).trans ((I.f9 (bit_ne h (by decide))).1), (I.f9 (bit_ne h (by decide))).2⟩, f10 := fun _ => getD_set_eq (by rw [asz]; omega), f11 := fun h => I.f11 (bit_ne h (by decide)), w9 := fun h => ⟨bit_on (I.w9 (bit_ne h (by decide))).1, bit_on (I.w9 (bit_ne h (by decide))).2⟩, w11 := fun h => bit_on (I.w11 (bit_ne h (by decide))) }
    | 11, _ =>
      refine wpOp_step (o := o11) rfl (fun K' hK => ?_)
      rw [if_pos (by simp [Region.wanted, F11.2.2])]
      have h9' := ready_waits hi rfl D11.1
      have h10 := ready_waits hi rfl D11.2
      have hold := I.e4 off'
      obtain ⟨⟨c0', c1', c2', c3'⟩, f0', f1', f2', f3'⟩ := hold.cells
      have og : Og g4 w' (w'.setCells g4 1 [.slice A2 (l.ls ++ [x]).length c2]) := Og.set _ _ Og.refl
      have hx4 : Bx (w'.setCells g4 1 [.slice A2 (l.ls ++ [x]).length c2]) g4 (.int .i64 l.q) (.slice A2 (l.ls ++ [x]).length c2) (.int .i64 l.k) (.slice B1 l.cs.length d1) := hold.set1 _
      have e39 : a.eval (.tmp 39) = .pointer (some ⟨g4, 1, none⟩) := I.f10 h10
      have e38 : a.eval (.tmp 38) = .slice A2 (l.ls ++ [x]).length c2 := (I.f9 h9').1
      unfold Oper.wp execOp
      simp only [F11.1, e39, e38, Instr.storeAt, Instr.sureAddr, Sem.run_bind, Sem.run_pure, Result.andThen_ok, run_storeVar_cell (P := Tryz.prog) w' g4 1 43 (.slice A2 (l.ls ++ [x]).length c2) (fun i hi => by
        obtain rfl : i = 0 := by omega
        exact ⟨by rw [c1']; rfl, f1'⟩) (by kernel_rfl) rfl]
      refine hK _ _ ⟨by rw [Array.size_setIfInBounds]; exact hs, v37, A2, c2, ?_⟩
      rw [bi]
      unfold Act.put
      rw [F11.2.1]
      exact { sz := I.sz, df := I.df, fr := fun k hk => I.fr k hk, kl := I.kl.setOut hg4 og hold out4, e4 := fun h => by simp [bitOn] at h, e5 := ⟨_, _, _, _, hx4⟩, o1 := fun h => (I.o1 (bit_off h)).og og hold, o2 := og.own hold (by decide) I.o2, f0 := fun h => I.f0 (bit_ne h (by decide)), f1 := fun h => I.f1 (bit_ne h (by decide)), f2 := fun h => I.f2 (bit_ne h (by decide)), f3 := fun h => I.f3 (bit_ne h (by decide)), f4 := fun h => I.f4 (bit_ne h (by decide)), f5 := fun h => I.f5 (bit_ne h (by decide)), f6 := fun h => I.f6 (bit_ne h (by decide)), f7 := fun h => I.f7 (bit_ne h (by decide)), f8 := fun h => ⟨(I.f8 (bit_ne h (by decide))).1, (I.f8 (bit_ne h (by decide))).2.1, fun h9 => og.own hold (by decide) ((I.f8 (bit_ne h (by decide))).2.2 (bit_off h9))⟩, f9 := fun h => ⟨(I.f9 (bit_ne h (by decide))).1, og.own hold (by decide) (I.f9 (bit_ne h (by decide))).2⟩, f10 := fun h => I.f10 (bit_ne h (by decide)), f11 := fun _ => hx4, w9 := fun h => ⟨bit_on (I.w9 (bit_ne h (by decide))).1, bit_on (I.w9 (bit_ne h (by decide))).2⟩, w11 := fun _ => bit_on h9' }
end
end Go.Proofs.YtblbfoniimnkcaaGreatDoor

/- The walk of the reference's Indent. (Printed by wip/lnrturn.py.) -/
namespace Go.Proofs.YtblbfoniimnkcaaGreatDoor
open Go.RowKit Go.Lib

theorem sub1_run (a : Act) (w : World) (o : Oper) {x : Operand} (ho : o.op = .binOp .sub 3 x (.const (.int .i64 1)) 3) {i k : Int} (h1 : a.eval x = .int .i64 i) (hk : IntKind.i64.wrap (i - 1) = k) : (execOp a.eval o).run Tryz.prog w = .ok (.value (.int .i64 k)) w := by
  unfold execOp
  simp only [ho, h1]
  simp [go_sem, Act.eval, hk]
theorem index_run6 (a : Act) (w : World) (o : Oper) {x y : Operand} (ho : o.op = .indexAddr 43 x y) {ad : Addr} {n c k : Nat} (h1 : a.eval x = .slice (some ad) n c) (h2 : a.eval y = .int .i64 (k : Int)) (hk : k < n) : (execOp a.eval o).run Tryz.prog w = .ok (.value (.pointer (some (ad.add k)))) w := by
  have hi1 : (k : Int) < (n : Int) := by omega
  have hi0 : (0 : Int) ≤ (k : Int) := by omega
  unfold execOp
  simp only [ho, h1, h2]
  simp [go_sem, hi1, hi0]
set_option maxRecDepth 100000 in
set_option maxHeartbeats 8000000 in
theorem refLIndent_any (l : Ln) (A : Option Addr) (n c : Nat) (B : Option Addr) (m d C : Nat) (hn : n = l.ls.length) (hm : m = l.cs.length) (w : World) (hl : LnAt w C l A B) (h1 : l.ls.length ≤ 1000000000) (h2 : l.cs.length ≤ 1000000000) (hf : FineC l.cs) (hcl : n ≤ c) :
    Calls Tryz.prog 48 #[.agg #[.int .i64 l.q, .slice A n c, .int .i64 l.k, .slice B m d]] w (RetLnE (indentL l) w) := by
  subst hn hm
  have FI := hid hf
  have B9 := hid h1
  have C9 := hid h2
  have HCL := hid hcl
  have RL0 : Hid (∀ s ∈ [(⟨l, A, B⟩ : RowL)], LnAt w w.heap.size s.l s.A s.B) := hid (by simpa using hl.live)
  have K := hid (KL.start w [⟨l, A, B⟩] RL0.out)
  clear hl hf h1 h2 hcl
  cases hb : mayL l with
  | false =>
    have MB := hid hb
    have TL := hid (show indentL l = (zL, 1) by unfold indentL; rw [hb]; rfl)
    clear hb
    go_enter Tryz.func48, Tryz.ntmps48
    go_wp2_with (first
      | ((with_reducible show wpList _ _ _ _ _ _); refine Tryz.klBox (by rfl) _ (by rfl) (some 1) (by rfl) (by rfl) K ?_; intro g1 V1 K1; clear K; (have K := K1); clear K1)
      | ((with_reducible show wpList _ _ _ _ _ _); refine Tryz.klAlloc (by rfl) (by rfl) (some 2) (by rfl) K ?_; intro g3 V1 K1; clear K; (have K := K1); clear K1)
      | ((with_reducible show wpList _ _ _ _ _ _); refine Tryz.klLoad (by rfl) _ (by rfl) K (by rfl) (by repeat (first | exact List.mem_cons_self | refine List.mem_cons_of_mem _ ?_)) ?_)
      | (go_at_call 63; (with_reducible refine (refLMay_any l A _ c B _ d _ rfl rfl _ (K.out.at_ (r := ⟨l, A, B⟩) (by simp)) B9.out C9.out FI.out).mono ?_); rintro e W2 ⟨rfl, hb⟩; rw [MB.out]; (have K2 := hid (K.out.later hb)); clear hb K; (have K := K2); clear K2; obtain ⟨⟨_, _, _, _⟩, _, _, _, _⟩ := K.out.cellsOf (g := g1) (by repeat (first | exact List.mem_cons_self | refine List.mem_cons_of_mem _ ?_)))
      | ((with_reducible show wpList _ _ _ _ _ _); refine Tryz.klStore (by rfl) (.tmp 2) _ (by rfl) [] (by exact K) (by rfl) (by rfl) (by exact ⟨rfl, rfl, rfl, rfl⟩) ?_; intro V2 K1; (dsimp only [List.cons_append, List.nil_append] at K1); clear K; (have K := K1); clear K1))
    (try simp only [Exit.inBlock, Exit.then])
    rw [TL.out]
    refine Tryz.ret_lineE Tryz.results48 rfl g3 _ _ _ _ _ rfl rfl (K.out.bx ⟨g3, _, _, _, _⟩ (by repeat (first | exact List.mem_cons_self | refine List.mem_cons_of_mem _ ?_))).2 ?_
    exact ⟨none, 0, none, 0, rfl, Nat.zero_le _, Nat.zero_le _, LnWr.zero, K.out.b⟩
  | true =>
    have MB := hid hb
    obtain ⟨p1, p2, p3, p4, p5, p6, p7, p8⟩ := mayL_parts hb
    by_cases hl : l.ls = []
    · have z6 : ((l.ls.length : Int) == 6) = false := by rw [hl]; rfl
      have z0 : ((l.ls.length : Int) == 0) = true := by rw [hl]; rfl
      have g0 : ¬ (0 : Int) < (l.ls.length : Int) := by rw [hl]; simp
      by_cases hq : l.q = 6
      · skip
        have q1 : (l.q == 6) = true := by simp [hq]
        have TL := hid (show indentL l = (zL, 7) by unfold indentL; rw [if_pos hb, if_pos hl, if_neg (by omega)])
        clear hb hl hq p1 p2 p3 p4 p5 p6 p7 p8
        go_enter Tryz.func48, Tryz.ntmps48
        go_wp2_with (first
          | ((with_reducible show wpList _ _ _ _ _ _); refine Tryz.klBox (by rfl) _ (by rfl) (some 1) (by rfl) (by rfl) K ?_; intro g1 V1 K1; clear K; (have K := K1); clear K1)
          | ((with_reducible show wpList _ _ _ _ _ _); refine Tryz.klAlloc (by rfl) (by rfl) (some 2) (by rfl) K ?_; intro g3 V1 K1; clear K; (have K := K1); clear K1)
          | ((with_reducible show wpList _ _ _ _ _ _); refine Tryz.klLoad (by rfl) _ (by rfl) K (by rfl) (by repeat (first | exact List.mem_cons_self | refine List.mem_cons_of_mem _ ?_)) ?_)
          | (go_at_call 63; (with_reducible refine (refLMay_any l A _ c B _ d _ rfl rfl _ (K.out.at_ (r := ⟨l, A, B⟩) (by simp)) B9.out C9.out FI.out).mono ?_); rintro e W2 ⟨rfl, hb⟩; rw [MB.out]; (have K2 := hid (K.out.later hb)); clear hb K; (have K := K2); clear K2; obtain ⟨⟨_, _, _, _⟩, _, _, _, _⟩ := K.out.cellsOf (g := g1) (by repeat (first | exact List.mem_cons_self | refine List.mem_cons_of_mem _ ?_)))
          | (go_at_call 43; (with_reducible refine (refLOwn_any l A _ c B _ d _ rfl rfl _ (K.out.at_ (r := ⟨l, A, B⟩) (by simp)) B9.out C9.out).mono ?_); rintro e W2 ⟨A1, c1, B1, d1, rfl, ho, hb⟩; simp only [lnV]; (have O1 := hid (ho.based (base' := w.heap.size) K.out.b.size)); clear ho; (have K2 := hid (K.out.later hb)); clear hb K; (have K := K2); clear K2)
          | ((with_reducible show wpList _ _ _ _ _ _); refine Tryz.klAllocB (by rfl) (by rfl) (some 4) (by rfl) K ?_; intro g4 V1 X1 K1; clear K; (have K := K1); clear K1; (have O9 := hid (O1.out.later X1.out)); clear O1; (have O1 := O9); clear O9; clear X1)
          | ((with_reducible show wpList _ _ _ _ _ _); refine Tryz.klStoreO (by rfl) (.tmp 4) _ (by rfl) [] (by exact K) (by rfl) (by rfl) (by exact ⟨rfl, rfl, rfl, rfl⟩) ?_; intro V2 X1 G1 K1; (dsimp only [List.cons_append, List.nil_append] at K1 X1 G1); clear K; (have K := K1); clear K1; (have O9 := hid (O1.out.og G1.out X1.out)); clear O1; (have O1 := O9); clear O9; clear X1 G1; obtain ⟨⟨_, _, _, _⟩, _, _, _, _⟩ := K.out.cellsOf (g := g1) (by repeat (first | exact List.mem_cons_self | refine List.mem_cons_of_mem _ ?_)))
          | ((with_reducible show wpList _ _ _ _ _ _); refine Tryz.klStore (by rfl) (.tmp 2) _ (by rfl) [_] (by exact K) (by rfl) (by rfl) (by exact ⟨rfl, rfl, rfl, rfl⟩) ?_; intro V2 K1; (dsimp only [List.cons_append, List.nil_append] at K1); clear K; (have K := K1); clear K1))
        (try simp only [Exit.inBlock, Exit.then])
        rw [TL.out]
        refine Tryz.ret_lineE Tryz.results48 rfl g3 _ _ _ _ _ rfl rfl (K.out.bx ⟨g3, _, _, _, _⟩ (by repeat (first | exact List.mem_cons_self | refine List.mem_cons_of_mem _ ?_))).2 ?_
        exact ⟨none, 0, none, 0, rfl, Nat.zero_le _, Nat.zero_le _, LnWr.zero, K.out.b⟩
      · skip
        have q1 : (l.q == 6) = false := by simp [hq]
        have k1 : IntKind.i64.wrap (l.q + 1) = l.q + 1 := IntWalk.i64_in _ (by omega)
        have TL := hid (show indentL l = (⟨l.q + 1, l.ls, l.k, l.cs⟩, 0) by unfold indentL; rw [if_pos hb, if_pos hl, if_pos (by omega)])
        clear hb hl hq p1 p2 p3 p4 p5 p6 p7 p8
        go_enter Tryz.func48, Tryz.ntmps48
        go_wp2_with (first
          | ((with_reducible show wpList _ _ _ _ _ _); refine Tryz.klBox (by rfl) _ (by rfl) (some 1) (by rfl) (by rfl) K ?_; intro g1 V1 K1; clear K; (have K := K1); clear K1)
          | ((with_reducible show wpList _ _ _ _ _ _); refine Tryz.klAlloc (by rfl) (by rfl) (some 2) (by rfl) K ?_; intro g3 V1 K1; clear K; (have K := K1); clear K1)
          | ((with_reducible show wpList _ _ _ _ _ _); refine Tryz.klLoad (by rfl) _ (by rfl) K (by rfl) (by repeat (first | exact List.mem_cons_self | refine List.mem_cons_of_mem _ ?_)) ?_)
          | (go_at_call 63; (with_reducible refine (refLMay_any l A _ c B _ d _ rfl rfl _ (K.out.at_ (r := ⟨l, A, B⟩) (by simp)) B9.out C9.out FI.out).mono ?_); rintro e W2 ⟨rfl, hb⟩; rw [MB.out]; (have K2 := hid (K.out.later hb)); clear hb K; (have K := K2); clear K2; obtain ⟨⟨_, _, _, _⟩, _, _, _, _⟩ := K.out.cellsOf (g := g1) (by repeat (first | exact List.mem_cons_self | refine List.mem_cons_of_mem _ ?_)))
          | (go_at_call 43; (with_reducible refine (refLOwn_any l A _ c B _ d _ rfl rfl _ (K.out.at_ (r := ⟨l, A, B⟩) (by simp)) B9.out C9.out).mono ?_); rintro e W2 ⟨A1, c1, B1, d1, rfl, ho, hb⟩; simp only [lnV]; (have O1 := hid (ho.based (base' := w.heap.size) K.out.b.size)); clear ho; (have K2 := hid (K.out.later hb)); clear hb K; (have K := K2); clear K2)
          | ((with_reducible show wpList _ _ _ _ _ _); refine Tryz.klAllocB (by rfl) (by rfl) (some 4) (by rfl) K ?_; intro g4 V1 X1 K1; clear K; (have K := K1); clear K1; (have O9 := hid (O1.out.later X1.out)); clear O1; (have O1 := O9); clear O9; clear X1)
          | ((with_reducible show wpList _ _ _ _ _ _); refine Tryz.klStoreO (by rfl) (.tmp 4) _ (by rfl) [] (by exact K) (by rfl) (by rfl) (by exact ⟨rfl, rfl, rfl, rfl⟩) ?_; intro V2 X1 G1 K1; (dsimp only [List.cons_append, List.nil_append] at K1 X1 G1); clear K; (have K := K1); clear K1; (have O9 := hid (O1.out.og G1.out X1.out)); clear O1; (have O1 := O9); clear O9; clear X1 G1; obtain ⟨⟨_, _, _, _⟩, _, _, _, _⟩ := K.out.cellsOf (g := g1) (by repeat (first | exact List.mem_cons_self | refine List.mem_cons_of_mem _ ?_)))
          | ((with_reducible show wpList _ _ _ _ _ _); refine Tryz.klStoreF (by rfl) 3 (by kernel_rfl) (.tmp 43) _ (by rfl) [] (by exact K) 0 (by rfl) (by decide) (v := .int _ _) (by rfl) (by rfl) ⟨_, _, _, _, _⟩ (by rfl) ?_; intro V2 X1 G1 K1; (dsimp only [List.cons_append, List.nil_append] at K1 X1 G1); clear K; (have K := K1); clear K1; (have O9 := hid (O1.out.og G1.out X1.out)); clear O1; (have O1 := O9); clear O9; clear X1 G1)
          | ((with_reducible show wpList _ _ _ _ _ _); refine Tryz.klStoreO (by rfl) (.tmp 2) _ (by rfl) [_] (by exact K) (by rfl) (by rfl) (by exact ⟨rfl, rfl, rfl, rfl⟩) ?_; intro V2 X1 G1 K1; (dsimp only [List.cons_append, List.nil_append] at K1 X1 G1); clear K; (have K := K1); clear K1; (have O9 := hid (O1.out.og G1.out X1.out)); clear O1; (have O1 := O9); clear O9; clear X1 G1))
        (try simp only [Exit.inBlock, Exit.then])
        rw [TL.out]
        refine Tryz.ret_lineE Tryz.results48 rfl g3 _ _ _ _ _ rfl rfl (K.out.bx ⟨g3, _, _, _, _⟩ (by repeat (first | exact List.mem_cons_self | refine List.mem_cons_of_mem _ ?_))).2 ?_
        exact ⟨A1, c1, B1, d1, rfl, O1.out.caps.1, O1.out.caps.2, ⟨O1.out.ls.wr, O1.out.cs.wr⟩, K.out.b⟩
    · have z0 : ((l.ls.length : Int) == 0) = false := by rw [beq_eq_false_iff_ne]; have := List.length_pos_iff.2 hl; omega
      have g0 : (0 : Int) < (l.ls.length : Int) := by have := List.length_pos_iff.2 hl; omega
      by_cases h6 : l.ls.length = 6
      · skip
        have z6 : ((l.ls.length : Int) == 6) = true := by rw [beq_iff_eq]; omega
        have TL := hid (show indentL l = (zL, 7) by unfold indentL; rw [if_pos hb, if_neg hl, if_neg (by omega)])
        clear hb hl h6 p1 p2 p3 p4 p5 p6 p7 p8
        go_enter Tryz.func48, Tryz.ntmps48
        go_wp2_with (first
          | ((with_reducible show wpList _ _ _ _ _ _); refine Tryz.klBox (by rfl) _ (by rfl) (some 1) (by rfl) (by rfl) K ?_; intro g1 V1 K1; clear K; (have K := K1); clear K1)
          | ((with_reducible show wpList _ _ _ _ _ _); refine Tryz.klAlloc (by rfl) (by rfl) (some 2) (by rfl) K ?_; intro g3 V1 K1; clear K; (have K := K1); clear K1)
          | ((with_reducible show wpList _ _ _ _ _ _); refine Tryz.klLoad (by rfl) _ (by rfl) K (by rfl) (by repeat (first | exact List.mem_cons_self | refine List.mem_cons_of_mem _ ?_)) ?_)
          | (go_at_call 63; (with_reducible refine (refLMay_any l A _ c B _ d _ rfl rfl _ (K.out.at_ (r := ⟨l, A, B⟩) (by simp)) B9.out C9.out FI.out).mono ?_); rintro e W2 ⟨rfl, hb⟩; rw [MB.out]; (have K2 := hid (K.out.later hb)); clear hb K; (have K := K2); clear K2; obtain ⟨⟨_, _, _, _⟩, _, _, _, _⟩ := K.out.cellsOf (g := g1) (by repeat (first | exact List.mem_cons_self | refine List.mem_cons_of_mem _ ?_)))
          | (go_at_call 43; (with_reducible refine (refLOwn_any l A _ c B _ d _ rfl rfl _ (K.out.at_ (r := ⟨l, A, B⟩) (by simp)) B9.out C9.out).mono ?_); rintro e W2 ⟨A1, c1, B1, d1, rfl, ho, hb⟩; simp only [lnV]; (have O1 := hid (ho.based (base' := w.heap.size) K.out.b.size)); clear ho; (have K2 := hid (K.out.later hb)); clear hb K; (have K := K2); clear K2)
          | ((with_reducible show wpList _ _ _ _ _ _); refine Tryz.klAllocB (by rfl) (by rfl) (some 4) (by rfl) K ?_; intro g4 V1 X1 K1; clear K; (have K := K1); clear K1; (have O9 := hid (O1.out.later X1.out)); clear O1; (have O1 := O9); clear O9; clear X1)
          | ((with_reducible show wpList _ _ _ _ _ _); refine Tryz.klStoreO (by rfl) (.tmp 4) _ (by rfl) [] (by exact K) (by rfl) (by rfl) (by exact ⟨rfl, rfl, rfl, rfl⟩) ?_; intro V2 X1 G1 K1; (dsimp only [List.cons_append, List.nil_append] at K1 X1 G1); clear K; (have K := K1); clear K1; (have O9 := hid (O1.out.og G1.out X1.out)); clear O1; (have O1 := O9); clear O9; clear X1 G1; obtain ⟨⟨_, _, _, _⟩, _, _, _, _⟩ := K.out.cellsOf (g := g1) (by repeat (first | exact List.mem_cons_self | refine List.mem_cons_of_mem _ ?_)))
          | ((with_reducible show wpList _ _ _ _ _ _); refine Tryz.klStore (by rfl) (.tmp 2) _ (by rfl) [_] (by exact K) (by rfl) (by rfl) (by exact ⟨rfl, rfl, rfl, rfl⟩) ?_; intro V2 K1; (dsimp only [List.cons_append, List.nil_append] at K1); clear K; (have K := K1); clear K1))
        (try simp only [Exit.inBlock, Exit.then])
        rw [TL.out]
        refine Tryz.ret_lineE Tryz.results48 rfl g3 _ _ _ _ _ rfl rfl (K.out.bx ⟨g3, _, _, _, _⟩ (by repeat (first | exact List.mem_cons_self | refine List.mem_cons_of_mem _ ?_))).2 ?_
        exact ⟨none, 0, none, 0, rfl, Nat.zero_le _, Nat.zero_le _, LnWr.zero, K.out.b⟩
      · have z6 : ((l.ls.length : Int) == 6) = false := by rw [beq_eq_false_iff_ne]; omega
        obtain ⟨n, hn⟩ : ∃ n, n + 1 = l.ls.length := ⟨l.ls.length - 1, by have := List.length_pos_iff.2 hl; omega⟩
        obtain ⟨ad, x, hA, -, hx, -⟩ := (RL0.out ⟨l, A, B⟩ (by simp)).ls.atI (k := n) (by show n < l.ls.length; omega)
        have hA' : A = some ad := hA
        subst hA'
        have hx' : l.ls[n]? = some x := hx
        have HX := hid hx'
        have HLT : Hid (n < l.ls.length) := hid (by omega)
        have K1' : Hid (IntKind.i64.wrap ((l.ls.length : Int) - 1) = (n : Int)) := hid (by rw [show (l.ls.length : Int) - 1 = (n : Int) from by omega]; exact IntWalk.i64_in _ (by omega))
        have TL := hid (show indentL l = (⟨l.q, l.ls ++ [x], l.k, l.cs⟩, 0) by unfold indentL; rw [if_pos hb, if_neg hl, if_pos (by omega), lastI_at hx' hn])
        clear hb hl h6 hn hx hx' hA p1 p2 p3 p4 p5 p6 p7 p8
        go_enter Tryz.func48, Tryz.ntmps48
        go_upto_region 8 with (first
          | ((with_reducible show wpList _ _ _ _ _ _); refine Tryz.klBox (by rfl) _ (by rfl) (some 1) (by rfl) (by rfl) K ?_; intro g1 V1 K1; clear K; (have K := K1); clear K1)
          | ((with_reducible show wpList _ _ _ _ _ _); refine Tryz.klAlloc (by rfl) (by rfl) (some 2) (by rfl) K ?_; intro g3 V1 K1; clear K; (have K := K1); clear K1)
          | ((with_reducible show wpList _ _ _ _ _ _); refine Tryz.klLoad (by rfl) _ (by rfl) K (by rfl) (by repeat (first | exact List.mem_cons_self | refine List.mem_cons_of_mem _ ?_)) ?_)
          | (go_at_call 63; (with_reducible refine (refLMay_any l (some ad) _ c B _ d _ rfl rfl _ (K.out.at_ (r := ⟨l, (some ad), B⟩) (by simp)) B9.out C9.out FI.out).mono ?_); rintro e W2 ⟨rfl, hb⟩; rw [MB.out]; (have K2 := hid (K.out.later hb)); clear hb K; (have K := K2); clear K2; obtain ⟨⟨_, _, _, _⟩, _, _, _, _⟩ := K.out.cellsOf (g := g1) (by repeat (first | exact List.mem_cons_self | refine List.mem_cons_of_mem _ ?_)))
          | (go_at_call 43; (with_reducible refine (refLOwn_any l (some ad) _ c B _ d _ rfl rfl _ (K.out.at_ (r := ⟨l, (some ad), B⟩) (by simp)) B9.out C9.out).mono ?_); rintro e W2 ⟨A1, c1, B1, d1, rfl, ho, hb⟩; simp only [lnV]; (have O1 := hid (ho.based (base' := w.heap.size) K.out.b.size)); clear ho; (have K2 := hid (K.out.later hb)); clear hb K; (have K := K2); clear K2)
          | ((with_reducible show wpList _ _ _ _ _ _); refine Tryz.klAllocB (by rfl) (by rfl) (some 4) (by rfl) K ?_; intro g4 V1 X1 K1; clear K; (have K := K1); clear K1; (have O9 := hid (O1.out.later X1.out)); clear O1; (have O1 := O9); clear O9; clear X1)
          | ((with_reducible show wpList _ _ _ _ _ _); refine Tryz.klStoreO (by rfl) (.tmp 4) _ (by rfl) [] (by exact K) (by rfl) (by rfl) (by exact ⟨rfl, rfl, rfl, rfl⟩) ?_; intro V2 X1 G1 K1; (dsimp only [List.cons_append, List.nil_append] at K1 X1 G1); clear K; (have K := K1); clear K1; (have O9 := hid (O1.out.og G1.out X1.out)); clear O1; (have O1 := O9); clear O9; clear X1 G1; obtain ⟨⟨_, _, _, _⟩, _, _, _, _⟩ := K.out.cellsOf (g := g1) (by repeat (first | exact List.mem_cons_self | refine List.mem_cons_of_mem _ ?_))))
        refine Tryz.rind_reg (l := l) (ad := ad) (c := c) (B := B) (d := d) (n := n) (x := x) (g1 := g1) (g4 := g4) (A1 := A1) (c1 := c1) (B1 := B1) (d1 := d1) ⟨rfl, rfl, rfl⟩ ⟨rfl, rfl, rfl⟩ ⟨rfl, rfl, rfl⟩ ⟨rfl, rfl, rfl⟩ ⟨rfl, rfl, rfl⟩ ⟨rfl, rfl, rfl⟩ ⟨rfl, rfl, rfl⟩ ⟨rfl, rfl, rfl⟩ ⟨rfl, rfl, rfl⟩ ⟨rfl, rfl, rfl⟩ ⟨rfl, rfl, rfl⟩ ⟨rfl, rfl, rfl⟩ (by decide +kernel) (by decide +kernel) (by decide +kernel) (by decide +kernel) (by decide +kernel) (by decide +kernel) (by decide +kernel) (by decide +kernel) (by decide +kernel) (by simp) rfl rfl rfl (fun a w e1 => sub1_run a w _ rfl e1 K1'.out) (fun a w e1 e2 => index_run6 a w _ rfl e1 e2 HLT.out) K.out (by simp) (by simp) RL0.out O1.out HX.out B9.out ?_
        intro v37 A2 c2 V K2 o2
        clear K O1
        have K := hid K2
        have O1 := hid o2
        clear K2 o2
        simp only [upds, List.foldl_cons, List.foldl_nil, List.setIfInBounds_toArray, List.set_cons_succ, List.set_cons_zero]
        go_wp2_with (first
          | ((with_reducible show wpList _ _ _ _ _ _); refine Tryz.klLoad (by rfl) _ (by rfl) K (by rfl) (by repeat (first | exact List.mem_cons_self | refine List.mem_cons_of_mem _ ?_)) ?_)
          | ((with_reducible show wpList _ _ _ _ _ _); refine Tryz.klStoreO (by rfl) (.tmp 2) _ (by rfl) [_] (by exact K) (by rfl) (by rfl) (by exact ⟨rfl, rfl, rfl, rfl⟩) ?_; intro V2 X1 G1 K1; (dsimp only [List.cons_append, List.nil_append] at K1 X1 G1); clear K; (have K := K1); clear K1; (have O9 := hid (O1.out.og G1.out X1.out)); clear O1; (have O1 := O9); clear O9; clear X1 G1))
        (try simp only [Exit.inBlock, Exit.then])
        rw [TL.out]
        refine Tryz.ret_lineE Tryz.results48 rfl g3 _ _ _ _ _ rfl rfl (K.out.bx ⟨g3, _, _, _, _⟩ (by repeat (first | exact List.mem_cons_self | refine List.mem_cons_of_mem _ ?_))).2 ?_
        exact ⟨A2, c2, B1, d1, rfl, O1.out.caps.1, O1.out.caps.2, ⟨O1.out.ls.wr, O1.out.cs.wr⟩, K.out.b⟩
end Go.Proofs.YtblbfoniimnkcaaGreatDoor

/- The walk of the reference's Outdent. (Printed by wip/lnrturn.py.) -/
namespace Go.Proofs.YtblbfoniimnkcaaGreatDoor
open Go.RowKit Go.Lib

/-- append behind a guard, its second part's length spelled. -/
theorem wpList_appG {P : Program} {α : Type} {enc : α → List Value} {sz : Nat} {e : TypeId} {ops : Array Oper} {rest : List Oper} {o : Oper} {a : Act} {Q : Exit → Act → World → Prop} {w : World} (ok : ElemOk P enc sz e) (hw : Region.wanted o (yielded ops a.tmps) = true) (s x : Operand) (t : TypeId)
    (ho : o.op = .call { callee := .builtin .append, args := #[s, x], argTypes := #[t, t] }) (ht : P.underlying t = some (.slice e)) (base : Nat) (v : Value) (xs : List α) (hs : a.eval s = v) (hown : Own enc sz e w base v xs)
    (B : Nat) (A : Option Addr) (ys : List α) (m c : Nat) (hm : m = ys.length) (hx : a.eval x = .slice A m c) (hsrc : SlAt enc sz w B A ys) (hlen : xs.length + ys.length ≤ 1000000000000) (hbase : base ≤ w.heap.size)
    (h : ∀ v' w', Own enc sz e w' base v' (xs ++ ys) → w.grownBy w' v.ownBlock → wpList P ops Q rest (a.put o.dst v') w') : wpList P ops Q (o :: rest) a w :=
  wpList_step fun K hK => by
    subst hm
    rw [if_pos hw]
    obtain ⟨v', w', hr, h2, h3, _⟩ := run_append_slice ok t o.type ht w base v xs hown B A ys c hsrc hlen hbase
    exact Lib.wp_append_run w s x t t ho _ _ hs hx v' w' hr (hK _ _ (h v' w' h2 h3))
set_option maxRecDepth 100000 in
set_option maxHeartbeats 8000000 in
theorem refLOutdent_any (l : Ln) (A : Option Addr) (n c : Nat) (B : Option Addr) (m d C : Nat) (hn : n = l.ls.length) (hm : m = l.cs.length) (w : World) (hl : LnAt w C l A B) (h1 : l.ls.length ≤ 1000000000) (h2 : l.cs.length ≤ 1000000000) (hf : FineC l.cs) (hcl : n ≤ c) :
    Calls Tryz.prog 49 #[.agg #[.int .i64 l.q, .slice A n c, .int .i64 l.k, .slice B m d]] w (RetLnE (outdentL l) w) := by
  subst hn hm
  have FI := hid hf
  have B9 := hid h1
  have C9 := hid h2
  have HCL := hid hcl
  have RL0 : Hid (∀ s ∈ [(⟨l, A, B⟩ : RowL)], LnAt w w.heap.size s.l s.A s.B) := hid (by simpa using hl.live)
  have K := hid (KL.start w [⟨l, A, B⟩] RL0.out)
  clear hl hf h1 h2 hcl
  cases hb : mayL l with
  | false =>
    have MB := hid hb
    have TL := hid (show outdentL l = (zL, 1) by unfold outdentL; rw [hb]; rfl)
    clear hb
    go_enter Tryz.func49, Tryz.ntmps49
    go_wp2_with (first
      | ((with_reducible show wpList _ _ _ _ _ _); refine Tryz.klBox (by rfl) _ (by rfl) (some 1) (by rfl) (by rfl) K ?_; intro g1 V1 K1; clear K; (have K := K1); clear K1)
      | ((with_reducible show wpList _ _ _ _ _ _); refine Tryz.klAlloc (by rfl) (by rfl) (some 2) (by rfl) K ?_; intro g3 V1 K1; clear K; (have K := K1); clear K1)
      | ((with_reducible show wpList _ _ _ _ _ _); refine Tryz.klLoad (by rfl) _ (by rfl) K (by rfl) (by repeat (first | exact List.mem_cons_self | refine List.mem_cons_of_mem _ ?_)) ?_)
      | (go_at_call 63; (with_reducible refine (refLMay_any l A _ c B _ d _ rfl rfl _ (K.out.at_ (r := ⟨l, A, B⟩) (by simp)) B9.out C9.out FI.out).mono ?_); rintro e W2 ⟨rfl, hb⟩; rw [MB.out]; (have K2 := hid (K.out.later hb)); clear hb K; (have K := K2); clear K2; obtain ⟨⟨_, _, _, _⟩, _, _, _, _⟩ := K.out.cellsOf (g := g1) (by repeat (first | exact List.mem_cons_self | refine List.mem_cons_of_mem _ ?_)))
      | ((with_reducible show wpList _ _ _ _ _ _); refine Tryz.klStore (by rfl) (.tmp 2) _ (by rfl) [] (by exact K) (by rfl) (by rfl) (by exact ⟨rfl, rfl, rfl, rfl⟩) ?_; intro V2 K1; (dsimp only [List.cons_append, List.nil_append] at K1); clear K; (have K := K1); clear K1))
    (try simp only [Exit.inBlock, Exit.then])
    rw [TL.out]
    refine Tryz.ret_lineE Tryz.results49 rfl g3 _ _ _ _ _ rfl rfl (K.out.bx ⟨g3, _, _, _, _⟩ (by repeat (first | exact List.mem_cons_self | refine List.mem_cons_of_mem _ ?_))).2 ?_
    exact ⟨none, 0, none, 0, rfl, Nat.zero_le _, Nat.zero_le _, LnWr.zero, K.out.b⟩
  | true =>
    have MB := hid hb
    obtain ⟨p1, p2, p3, p4, p5, p6, p7, p8⟩ := mayL_parts hb
    by_cases hl : l.ls = []
    · have z0 : ((l.ls.length : Int) == 0) = true := by rw [hl]; rfl
      have g0 : ¬ (0 : Int) < (l.ls.length : Int) := by rw [hl]; simp
      by_cases hq : l.q = 0
      · skip
        have q1 : (l.q == 0) = true := by simp [hq]
        have TL := hid (show outdentL l = (zL, 7) by unfold outdentL; rw [if_pos hb, if_pos hl, if_neg (by omega)])
        clear hb hl hq p1 p2 p3 p4 p5 p6 p7 p8
        go_enter Tryz.func49, Tryz.ntmps49
        go_wp2_with (first
          | ((with_reducible show wpList _ _ _ _ _ _); refine Tryz.klBox (by rfl) _ (by rfl) (some 1) (by rfl) (by rfl) K ?_; intro g1 V1 K1; clear K; (have K := K1); clear K1)
          | ((with_reducible show wpList _ _ _ _ _ _); refine Tryz.klAlloc (by rfl) (by rfl) (some 2) (by rfl) K ?_; intro g3 V1 K1; clear K; (have K := K1); clear K1)
          | ((with_reducible show wpList _ _ _ _ _ _); refine Tryz.klLoad (by rfl) _ (by rfl) K (by rfl) (by repeat (first | exact List.mem_cons_self | refine List.mem_cons_of_mem _ ?_)) ?_)
          | (go_at_call 63; (with_reducible refine (refLMay_any l A _ c B _ d _ rfl rfl _ (K.out.at_ (r := ⟨l, A, B⟩) (by simp)) B9.out C9.out FI.out).mono ?_); rintro e W2 ⟨rfl, hb⟩; rw [MB.out]; (have K2 := hid (K.out.later hb)); clear hb K; (have K := K2); clear K2; obtain ⟨⟨_, _, _, _⟩, _, _, _, _⟩ := K.out.cellsOf (g := g1) (by repeat (first | exact List.mem_cons_self | refine List.mem_cons_of_mem _ ?_)))
          | (go_at_call 43; (with_reducible refine (refLOwn_any l A _ c B _ d _ rfl rfl _ (K.out.at_ (r := ⟨l, A, B⟩) (by simp)) B9.out C9.out).mono ?_); rintro e W2 ⟨A1, c1, B1, d1, rfl, ho, hb⟩; simp only [lnV]; (have O1 := hid (ho.based (base' := w.heap.size) K.out.b.size)); clear ho; (have K2 := hid (K.out.later hb)); clear hb K; (have K := K2); clear K2)
          | ((with_reducible show wpList _ _ _ _ _ _); refine Tryz.klAllocB (by rfl) (by rfl) (some 4) (by rfl) K ?_; intro g4 V1 X1 K1; clear K; (have K := K1); clear K1; (have O9 := hid (O1.out.later X1.out)); clear O1; (have O1 := O9); clear O9; clear X1)
          | ((with_reducible show wpList _ _ _ _ _ _); refine Tryz.klStoreO (by rfl) (.tmp 4) _ (by rfl) [] (by exact K) (by rfl) (by rfl) (by exact ⟨rfl, rfl, rfl, rfl⟩) ?_; intro V2 X1 G1 K1; (dsimp only [List.cons_append, List.nil_append] at K1 X1 G1); clear K; (have K := K1); clear K1; (have O9 := hid (O1.out.og G1.out X1.out)); clear O1; (have O1 := O9); clear O9; clear X1 G1; obtain ⟨⟨_, _, _, _⟩, _, _, _, _⟩ := K.out.cellsOf (g := g1) (by repeat (first | exact List.mem_cons_self | refine List.mem_cons_of_mem _ ?_)); (have hlt1 := (K.out.bx ⟨g1, .int .i64 l.q, .slice A l.ls.length c, .int .i64 l.k, .slice B l.cs.length d⟩ (by repeat (first | exact List.mem_cons_self | refine List.mem_cons_of_mem _ ?_))).2.lt); (dsimp only at hlt1))
          | ((with_reducible show wpList _ _ _ _ _ _); refine Tryz.klStore (by rfl) (.tmp 2) _ (by rfl) [_] (by exact K) (by rfl) (by rfl) (by exact ⟨rfl, rfl, rfl, rfl⟩) ?_; intro V2 K1; (dsimp only [List.cons_append, List.nil_append] at K1); clear K; (have K := K1); clear K1))
        (try simp only [Exit.inBlock, Exit.then])
        rw [TL.out]
        refine Tryz.ret_lineE Tryz.results49 rfl g3 _ _ _ _ _ rfl rfl (K.out.bx ⟨g3, _, _, _, _⟩ (by repeat (first | exact List.mem_cons_self | refine List.mem_cons_of_mem _ ?_))).2 ?_
        exact ⟨none, 0, none, 0, rfl, Nat.zero_le _, Nat.zero_le _, LnWr.zero, K.out.b⟩
      · skip
        have q1 : (l.q == 0) = false := by simp [hq]
        have k1 : IntKind.i64.wrap (l.q - 1) = l.q - 1 := IntWalk.i64_in _ (by omega)
        have TL := hid (show outdentL l = (⟨l.q - 1, l.ls, l.k, l.cs⟩, 0) by unfold outdentL; rw [if_pos hb, if_pos hl, if_pos (by omega)])
        clear hb hl hq p1 p2 p3 p4 p5 p6 p7 p8
        go_enter Tryz.func49, Tryz.ntmps49
        go_wp2_with (first
          | ((with_reducible show wpList _ _ _ _ _ _); refine Tryz.klBox (by rfl) _ (by rfl) (some 1) (by rfl) (by rfl) K ?_; intro g1 V1 K1; clear K; (have K := K1); clear K1)
          | ((with_reducible show wpList _ _ _ _ _ _); refine Tryz.klAlloc (by rfl) (by rfl) (some 2) (by rfl) K ?_; intro g3 V1 K1; clear K; (have K := K1); clear K1)
          | ((with_reducible show wpList _ _ _ _ _ _); refine Tryz.klLoad (by rfl) _ (by rfl) K (by rfl) (by repeat (first | exact List.mem_cons_self | refine List.mem_cons_of_mem _ ?_)) ?_)
          | (go_at_call 63; (with_reducible refine (refLMay_any l A _ c B _ d _ rfl rfl _ (K.out.at_ (r := ⟨l, A, B⟩) (by simp)) B9.out C9.out FI.out).mono ?_); rintro e W2 ⟨rfl, hb⟩; rw [MB.out]; (have K2 := hid (K.out.later hb)); clear hb K; (have K := K2); clear K2; obtain ⟨⟨_, _, _, _⟩, _, _, _, _⟩ := K.out.cellsOf (g := g1) (by repeat (first | exact List.mem_cons_self | refine List.mem_cons_of_mem _ ?_)))
          | (go_at_call 43; (with_reducible refine (refLOwn_any l A _ c B _ d _ rfl rfl _ (K.out.at_ (r := ⟨l, A, B⟩) (by simp)) B9.out C9.out).mono ?_); rintro e W2 ⟨A1, c1, B1, d1, rfl, ho, hb⟩; simp only [lnV]; (have O1 := hid (ho.based (base' := w.heap.size) K.out.b.size)); clear ho; (have K2 := hid (K.out.later hb)); clear hb K; (have K := K2); clear K2)
          | ((with_reducible show wpList _ _ _ _ _ _); refine Tryz.klAllocB (by rfl) (by rfl) (some 4) (by rfl) K ?_; intro g4 V1 X1 K1; clear K; (have K := K1); clear K1; (have O9 := hid (O1.out.later X1.out)); clear O1; (have O1 := O9); clear O9; clear X1)
          | ((with_reducible show wpList _ _ _ _ _ _); refine Tryz.klStoreO (by rfl) (.tmp 4) _ (by rfl) [] (by exact K) (by rfl) (by rfl) (by exact ⟨rfl, rfl, rfl, rfl⟩) ?_; intro V2 X1 G1 K1; (dsimp only [List.cons_append, List.nil_append] at K1 X1 G1); clear K; (have K := K1); clear K1; (have O9 := hid (O1.out.og G1.out X1.out)); clear O1; (have O1 := O9); clear O9; clear X1 G1; obtain ⟨⟨_, _, _, _⟩, _, _, _, _⟩ := K.out.cellsOf (g := g1) (by repeat (first | exact List.mem_cons_self | refine List.mem_cons_of_mem _ ?_)); (have hlt1 := (K.out.bx ⟨g1, .int .i64 l.q, .slice A l.ls.length c, .int .i64 l.k, .slice B l.cs.length d⟩ (by repeat (first | exact List.mem_cons_self | refine List.mem_cons_of_mem _ ?_))).2.lt); (dsimp only at hlt1))
          | ((with_reducible show wpList _ _ _ _ _ _); refine Tryz.klStoreF (by rfl) 3 (by kernel_rfl) (.tmp 36) _ (by rfl) [] (by exact K) 0 (by rfl) (by decide) (v := .int _ _) (by rfl) (by rfl) ⟨_, _, _, _, _⟩ (by rfl) ?_; intro V2 X1 G1 K1; (dsimp only [List.cons_append, List.nil_append] at K1 X1 G1); clear K; (have K := K1); clear K1; (have O9 := hid (O1.out.og G1.out X1.out)); clear O1; (have O1 := O9); clear O9; clear X1 G1)
          | ((with_reducible show wpList _ _ _ _ _ _); refine Tryz.klStoreO (by rfl) (.tmp 2) _ (by rfl) [_] (by exact K) (by rfl) (by rfl) (by exact ⟨rfl, rfl, rfl, rfl⟩) ?_; intro V2 X1 G1 K1; (dsimp only [List.cons_append, List.nil_append] at K1 X1 G1); clear K; (have K := K1); clear K1; (have O9 := hid (O1.out.og G1.out X1.out)); clear O1; (have O1 := O9); clear O9; clear X1 G1))
        (try simp only [Exit.inBlock, Exit.then])
        rw [TL.out]
        refine Tryz.ret_lineE Tryz.results49 rfl g3 _ _ _ _ _ rfl rfl (K.out.bx ⟨g3, _, _, _, _⟩ (by repeat (first | exact List.mem_cons_self | refine List.mem_cons_of_mem _ ?_))).2 ?_
        exact ⟨A1, c1, B1, d1, rfl, O1.out.caps.1, O1.out.caps.2, ⟨O1.out.ls.wr, O1.out.cs.wr⟩, K.out.b⟩
    · have z0 : ((l.ls.length : Int) == 0) = false := by rw [beq_eq_false_iff_ne]; have := List.length_pos_iff.2 hl; omega
      have g0 : (0 : Int) < (l.ls.length : Int) := by have := List.length_pos_iff.2 hl; omega
      obtain ⟨n, hn⟩ : ∃ n, n + 1 = l.ls.length := ⟨l.ls.length - 1, by have := List.length_pos_iff.2 hl; omega⟩
      have k1 : IntKind.i64.wrap ((l.ls.length : Int) - 1) = (n : Int) := by rw [show (l.ls.length : Int) - 1 = (n : Int) from by omega]; exact IntWalk.i64_in _ (by omega)
      have k2 : (0 : Int) ≤ (n : Int) := by omega
      have k3 : (n : Int) ≤ (c : Int) := by have := HCL.out; omega
      have HN := hid hn
      have HLT : Hid (n = (l.ls.take n).length) := hid (by rw [List.length_take]; omega)
      have TL := hid (show outdentL l = (⟨l.q, l.ls.take n, l.k, l.cs⟩, 0) by unfold outdentL; rw [if_pos hb, if_neg hl, dropLast_at hn])
      clear hb hl hn p1 p2 p3 p4 p5 p6 p7 p8
      go_enter Tryz.func49, Tryz.ntmps49
      go_wp2_with (first
        | ((with_reducible show wpList _ _ _ _ _ _); refine Tryz.klBox (by rfl) _ (by rfl) (some 1) (by rfl) (by rfl) K ?_; intro g1 V1 K1; clear K; (have K := K1); clear K1)
        | ((with_reducible show wpList _ _ _ _ _ _); refine Tryz.klAlloc (by rfl) (by rfl) (some 2) (by rfl) K ?_; intro g3 V1 K1; clear K; (have K := K1); clear K1)
        | ((with_reducible show wpList _ _ _ _ _ _); refine Tryz.klLoad (by rfl) _ (by rfl) K (by rfl) (by repeat (first | exact List.mem_cons_self | refine List.mem_cons_of_mem _ ?_)) ?_)
        | (go_at_call 63; (with_reducible refine (refLMay_any l A _ c B _ d _ rfl rfl _ (K.out.at_ (r := ⟨l, A, B⟩) (by simp)) B9.out C9.out FI.out).mono ?_); rintro e W2 ⟨rfl, hb⟩; rw [MB.out]; (have K2 := hid (K.out.later hb)); clear hb K; (have K := K2); clear K2; obtain ⟨⟨_, _, _, _⟩, _, _, _, _⟩ := K.out.cellsOf (g := g1) (by repeat (first | exact List.mem_cons_self | refine List.mem_cons_of_mem _ ?_)))
        | (go_at_call 43; (with_reducible refine (refLOwn_any l A _ c B _ d _ rfl rfl _ (K.out.at_ (r := ⟨l, A, B⟩) (by simp)) B9.out C9.out).mono ?_); rintro e W2 ⟨A1, c1, B1, d1, rfl, ho, hb⟩; simp only [lnV]; (have O1 := hid (ho.based (base' := w.heap.size) K.out.b.size)); clear ho; (have K2 := hid (K.out.later hb)); clear hb K; (have K := K2); clear K2)
        | ((with_reducible show wpList _ _ _ _ _ _); refine Tryz.klAllocB (by rfl) (by rfl) (some 4) (by rfl) K ?_; intro g4 V1 X1 K1; clear K; (have K := K1); clear K1; (have O9 := hid (O1.out.later X1.out)); clear O1; (have O1 := O9); clear O9; clear X1)
        | ((with_reducible show wpList _ _ _ _ _ _); refine Tryz.klStoreO (by rfl) (.tmp 4) _ (by rfl) [] (by exact K) (by rfl) (by rfl) (by exact ⟨rfl, rfl, rfl, rfl⟩) ?_; intro V2 X1 G1 K1; (dsimp only [List.cons_append, List.nil_append] at K1 X1 G1); clear K; (have K := K1); clear K1; (have O9 := hid (O1.out.og G1.out X1.out)); clear O1; (have O1 := O9); clear O9; clear X1 G1; obtain ⟨⟨_, _, _, _⟩, _, _, _, _⟩ := K.out.cellsOf (g := g1) (by repeat (first | exact List.mem_cons_self | refine List.mem_cons_of_mem _ ?_)); (have hlt1 := (K.out.bx ⟨g1, .int .i64 l.q, .slice A l.ls.length c, .int .i64 l.k, .slice B l.cs.length d⟩ (by repeat (first | exact List.mem_cons_self | refine List.mem_cons_of_mem _ ?_))).2.lt); (dsimp only at hlt1))
        | (at_builtin; refine wpList_appG Tryz.okI rfl (.tmp 25) (.tmp 30) 43 rfl Tryz.underlying43 w.heap.size _ ([] : List Int) rfl ((own_lit0I _).based K.out.b.size) _ A (l.ls.take n) n c HLT.out rfl ((((K.out.at_ (r := ⟨l, A, B⟩) (by simp)).below ((Below.refl _ _).alloc (Nat.le_refl _) (.cells #[] 3))).ls).take n) (by have := HLT.out; have := HN.out; have := B9.out; simp; omega) (Nat.le_trans K.out.b.size ((Below.refl _ _).alloc (Nat.le_refl _) (.cells #[] 3)).size) ?_; intro v' W4 ho' hg'; (have K2 := hid ((K.out.later ((Below.refl _ _).alloc (Nat.le_refl _) (.cells #[] 3))).grownI ((own_lit0I _).based K.out.b.size) hg' RL0.out)); (have I1 := hid (Own.grownC ((own_lit0I _).based K.out.b.size) hg' (O1.out.later ((Below.refl _ _).alloc (Nat.le_refl _) (.cells #[] 3))).cs)); clear K; (have K := K2); clear K2 O1; obtain ⟨A2, n2, c2, rfl, hn2⟩ := ho'.shape; rw [List.nil_append] at ho' hn2; (have O1 : Hid (LnOw W4 w.heap.size ⟨l.q, l.ls.take n, l.k, l.cs⟩ A2 c2 B1 d1) := hid ⟨by rw [← hn2.out]; exact ho', I1.out⟩); clear ho' hg' I1)
        | ((with_reducible show wpList _ _ _ _ _ _); refine Tryz.klStoreF (by rfl) 43 (by kernel_rfl) (.tmp 32) _ (by rfl) [] (by exact K) 1 (by rfl) (by decide) (v := .slice _ _ _) (by rfl) (by rfl) ⟨_, _, _, _, _⟩ (by rfl) ?_; intro V2 X1 G1 K1; (dsimp only [List.cons_append, List.nil_append] at K1 X1 G1); clear K; (have K := K1); clear K1; (have O9 := hid (O1.out.og G1.out X1.out)); clear O1; (have O1 := O9); clear O9; clear X1 G1)
        | ((with_reducible show wpList _ _ _ _ _ _); refine Tryz.klStoreO (by rfl) (.tmp 2) _ (by rfl) [_] (by exact K) (by rfl) (by rfl) (by exact ⟨rfl, rfl, rfl, rfl⟩) ?_; intro V2 X1 G1 K1; (dsimp only [List.cons_append, List.nil_append] at K1 X1 G1); clear K; (have K := K1); clear K1; (have O9 := hid (O1.out.og G1.out X1.out)); clear O1; (have O1 := O9); clear O9; clear X1 G1))
      (try simp only [Exit.inBlock, Exit.then])
      have q2 := hn2.out
      subst q2
      rw [TL.out]
      refine Tryz.ret_lineE Tryz.results49 rfl g3 _ _ _ _ _ rfl rfl (K.out.bx ⟨g3, _, _, _, _⟩ (by repeat (first | exact List.mem_cons_self | refine List.mem_cons_of_mem _ ?_))).2 ?_
      exact ⟨A2, c2, B1, d1, rfl, O1.out.caps.1, O1.out.caps.2, ⟨O1.out.ls.wr, O1.out.cs.wr⟩, K.out.b⟩
end Go.Proofs.YtblbfoniimnkcaaGreatDoor

/- The walk of the reference's List. (Printed by wip/lnrturn.py.) -/
namespace Go.Proofs.YtblbfoniimnkcaaGreatDoor
open Go.RowKit Go.Lib

set_option maxRecDepth 100000 in
set_option maxHeartbeats 8000000 in
theorem refLList_any (l : Ln) (A : Option Addr) (n c : Nat) (B : Option Addr) (m d C : Nat) (hn : n = l.ls.length) (hm : m = l.cs.length) (w : World) (hl : LnAt w C l A B) (h1 : l.ls.length ≤ 1000000000) (h2 : l.cs.length ≤ 1000000000) (hf : FineC l.cs) (hcl : n ≤ c) (kind : Int) :
    Calls Tryz.prog 50 #[.agg #[.int .i64 l.q, .slice A n c, .int .i64 l.k, .slice B m d], .int .i64 kind] w (RetLnE (listL l kind) w) := by
  subst hn hm
  have FI := hid hf
  have B9 := hid h1
  have C9 := hid h2
  have HCL := hid hcl
  have RL0 : Hid (∀ s ∈ [(⟨l, A, B⟩ : RowL)], LnAt w w.heap.size s.l s.A s.B) := hid (by simpa using hl.live)
  have K := hid (KL.start w [⟨l, A, B⟩] RL0.out)
  clear hl hf h1 h2 hcl
  by_cases hk : kind = 0 ∨ kind = 1
  · obtain ⟨KB⟩ : Nonempty ((kind != 0) = false ∨ ((kind != 0) = true ∧ (kind != 1) = false)) := ⟨by rcases hk with h | h <;> simp [h]⟩
    cases hb : mayL l with
    | false =>
      have MB := hid hb
      have TL := hid (show listL l kind = (zL, 1) by unfold listL; rw [if_neg (by rintro ⟨_, h⟩; rw [hb] at h; cases h)])
      clear hb hk
      rcases KB with ke | ⟨ke, kf⟩
      · skip
        go_enter Tryz.func50, Tryz.ntmps50
        go_wp2_with (first
          | ((with_reducible show wpList _ _ _ _ _ _); refine Tryz.klBox (by rfl) _ (by rfl) (some 2) (by rfl) (by rfl) K ?_; intro g1 V1 K1; clear K; (have K := K1); clear K1)
          | ((with_reducible show wpList _ _ _ _ _ _); refine Tryz.klAlloc (by rfl) (by rfl) (some 4) (by rfl) K ?_; intro g3 V1 K1; clear K; (have K := K1); clear K1)
          | ((with_reducible show wpList _ _ _ _ _ _); refine Tryz.klLoad (by rfl) _ (by rfl) K (by rfl) (by repeat (first | exact List.mem_cons_self | refine List.mem_cons_of_mem _ ?_)) ?_)
          | (go_at_call 63; (with_reducible refine (refLMay_any l A _ c B _ d _ rfl rfl _ (K.out.at_ (r := ⟨l, A, B⟩) (by simp)) B9.out C9.out FI.out).mono ?_); rintro e W2 ⟨rfl, hb⟩; rw [MB.out]; (have K2 := hid (K.out.later hb)); clear hb K; (have K := K2); clear K2; obtain ⟨⟨_, _, _, _⟩, _, _, _, _⟩ := K.out.cellsOf (g := g1) (by repeat (first | exact List.mem_cons_self | refine List.mem_cons_of_mem _ ?_)))
          | ((with_reducible show wpList _ _ _ _ _ _); refine Tryz.klStore (by rfl) (.tmp 4) _ (by rfl) [] (by exact K) (by rfl) (by rfl) (by exact ⟨rfl, rfl, rfl, rfl⟩) ?_; intro V2 K1; (dsimp only [List.cons_append, List.nil_append] at K1); clear K; (have K := K1); clear K1))
        (try simp only [Exit.inBlock, Exit.then])
        rw [TL.out]
        refine Tryz.ret_lineE Tryz.results50 rfl g3 _ _ _ _ _ rfl rfl (K.out.bx ⟨g3, _, _, _, _⟩ (by repeat (first | exact List.mem_cons_self | refine List.mem_cons_of_mem _ ?_))).2 ?_
        exact ⟨none, 0, none, 0, rfl, Nat.zero_le _, Nat.zero_le _, LnWr.zero, K.out.b⟩
      · skip
        go_enter Tryz.func50, Tryz.ntmps50
        go_wp2_with (first
          | ((with_reducible show wpList _ _ _ _ _ _); refine Tryz.klBox (by rfl) _ (by rfl) (some 2) (by rfl) (by rfl) K ?_; intro g1 V1 K1; clear K; (have K := K1); clear K1)
          | ((with_reducible show wpList _ _ _ _ _ _); refine Tryz.klAlloc (by rfl) (by rfl) (some 4) (by rfl) K ?_; intro g3 V1 K1; clear K; (have K := K1); clear K1)
          | ((with_reducible show wpList _ _ _ _ _ _); refine Tryz.klLoad (by rfl) _ (by rfl) K (by rfl) (by repeat (first | exact List.mem_cons_self | refine List.mem_cons_of_mem _ ?_)) ?_)
          | (go_at_call 63; (with_reducible refine (refLMay_any l A _ c B _ d _ rfl rfl _ (K.out.at_ (r := ⟨l, A, B⟩) (by simp)) B9.out C9.out FI.out).mono ?_); rintro e W2 ⟨rfl, hb⟩; rw [MB.out]; (have K2 := hid (K.out.later hb)); clear hb K; (have K := K2); clear K2; obtain ⟨⟨_, _, _, _⟩, _, _, _, _⟩ := K.out.cellsOf (g := g1) (by repeat (first | exact List.mem_cons_self | refine List.mem_cons_of_mem _ ?_)))
          | ((with_reducible show wpList _ _ _ _ _ _); refine Tryz.klStore (by rfl) (.tmp 4) _ (by rfl) [] (by exact K) (by rfl) (by rfl) (by exact ⟨rfl, rfl, rfl, rfl⟩) ?_; intro V2 K1; (dsimp only [List.cons_append, List.nil_append] at K1); clear K; (have K := K1); clear K1))
        (try simp only [Exit.inBlock, Exit.then])
        rw [TL.out]
        refine Tryz.ret_lineE Tryz.results50 rfl g3 _ _ _ _ _ rfl rfl (K.out.bx ⟨g3, _, _, _, _⟩ (by repeat (first | exact List.mem_cons_self | refine List.mem_cons_of_mem _ ?_))).2 ?_
        exact ⟨none, 0, none, 0, rfl, Nat.zero_le _, Nat.zero_le _, LnWr.zero, K.out.b⟩
    | true =>
      have MB := hid hb
      by_cases hl : l.ls = []
      · have z0 : ((l.ls.length : Int) == 0) = true := by rw [hl]; rfl
        have TL := hid (show listL l kind = (⟨l.q, [kind], 0, l.cs⟩, 0) by unfold listL; rw [if_pos ⟨hk, hb⟩, if_pos hl])
        clear hb hk hl
        rcases KB with ke | ⟨ke, kf⟩
        · skip
          go_enter Tryz.func50, Tryz.ntmps50
          go_wp2_with (first
            | ((with_reducible show wpList _ _ _ _ _ _); refine Tryz.klBox (by rfl) _ (by rfl) (some 2) (by rfl) (by rfl) K ?_; intro g1 V1 K1; clear K; (have K := K1); clear K1)
            | ((with_reducible show wpList _ _ _ _ _ _); refine Tryz.klAlloc (by rfl) (by rfl) (some 4) (by rfl) K ?_; intro g3 V1 K1; clear K; (have K := K1); clear K1)
            | ((with_reducible show wpList _ _ _ _ _ _); refine Tryz.klLoad (by rfl) _ (by rfl) K (by rfl) (by repeat (first | exact List.mem_cons_self | refine List.mem_cons_of_mem _ ?_)) ?_)
            | (go_at_call 63; (with_reducible refine (refLMay_any l A _ c B _ d _ rfl rfl _ (K.out.at_ (r := ⟨l, A, B⟩) (by simp)) B9.out C9.out FI.out).mono ?_); rintro e W2 ⟨rfl, hb⟩; rw [MB.out]; (have K2 := hid (K.out.later hb)); clear hb K; (have K := K2); clear K2; obtain ⟨⟨_, _, _, _⟩, _, _, _, _⟩ := K.out.cellsOf (g := g1) (by repeat (first | exact List.mem_cons_self | refine List.mem_cons_of_mem _ ?_)))
            | (go_at_call 43; (with_reducible refine (refLOwn_any l A _ c B _ d _ rfl rfl _ (K.out.at_ (r := ⟨l, A, B⟩) (by simp)) B9.out C9.out).mono ?_); rintro e W2 ⟨A1, c1, B1, d1, rfl, ho, hb⟩; simp only [lnV]; (have O1 := hid (ho.based (base' := w.heap.size) K.out.b.size)); clear ho; (have K2 := hid (K.out.later hb)); clear hb K; (have K := K2); clear K2)
            | ((with_reducible show wpList _ _ _ _ _ _); refine Tryz.klAllocB (by rfl) (by rfl) (some 6) (by rfl) K ?_; intro g6 V1 X1 K1; clear K; (have K := K1); clear K1; (have O9 := hid (O1.out.later X1.out)); clear O1; (have O1 := O9); clear O9; clear X1)
            | ((with_reducible show wpList _ _ _ _ _ _); refine Tryz.klStoreO (by rfl) (.tmp 6) _ (by rfl) [] (by exact K) (by rfl) (by rfl) (by exact ⟨rfl, rfl, rfl, rfl⟩) ?_; intro V2 X1 G1 K1; (dsimp only [List.cons_append, List.nil_append] at K1 X1 G1); clear K; (have K := K1); clear K1; (have O9 := hid (O1.out.og G1.out X1.out)); clear O1; (have O1 := O9); clear O9; clear X1 G1; obtain ⟨⟨_, _, _, _⟩, _, _, _, _⟩ := K.out.cellsOf (g := g1) (by repeat (first | exact List.mem_cons_self | refine List.mem_cons_of_mem _ ?_)))
            | ((with_reducible show wpList _ _ _ _ _ _); refine Tryz.klStoreF (by rfl) 43 (by kernel_rfl) (.tmp 29) _ (by rfl) [] (by exact hid (K.out.later ((Below.refl _ _).alloc (Nat.le_refl _) (.cells #[.int .i64 kind] 3)))) 1 (by rfl) (by decide) (v := .slice _ _ _) (by rfl) (by rfl) ⟨_, _, _, _, _⟩ (by rfl) ?_; intro V2 X1 G1 K1; (have P1 := hid (show LnOw _ w.heap.size ⟨l.q, [kind], l.k, l.cs⟩ _ 1 B1 d1 from ⟨(own_lit1I _ kind).based K.out.b.size, (O1.out.later ((Below.refl _ _).alloc (Nat.le_refl _) (.cells #[.int .i64 kind] 3))).cs⟩)); (dsimp only [List.cons_append, List.nil_append] at K1 X1 G1); clear K O1; (have K := K1); clear K1; (have O1 := hid (P1.out.og G1.out X1.out)); clear P1 X1 G1)
            | ((with_reducible show wpList _ _ _ _ _ _); refine Tryz.klStoreF (by rfl) 3 (by kernel_rfl) (.tmp 30) _ (by rfl) [] (by exact K) 2 (by rfl) (by decide) (v := .int _ _) (by rfl) (by rfl) ⟨_, _, _, _, _⟩ (by rfl) ?_; intro V2 X1 G1 K1; (dsimp only [List.cons_append, List.nil_append] at K1 X1 G1); clear K; (have K := K1); clear K1; (have O9 := hid (O1.out.og G1.out X1.out)); clear O1; (have O1 := O9); clear O9; clear X1 G1)
            | ((with_reducible show wpList _ _ _ _ _ _); refine Tryz.klStoreO (by rfl) (.tmp 4) _ (by rfl) [_] (by exact K) (by rfl) (by rfl) (by exact ⟨rfl, rfl, rfl, rfl⟩) ?_; intro V2 X1 G1 K1; (dsimp only [List.cons_append, List.nil_append] at K1 X1 G1); clear K; (have K := K1); clear K1; (have O9 := hid (O1.out.og G1.out X1.out)); clear O1; (have O1 := O9); clear O9; clear X1 G1))
          (try simp only [Exit.inBlock, Exit.then])
          rw [TL.out]
          refine Tryz.ret_lineE Tryz.results50 rfl g3 _ _ _ _ _ rfl rfl (K.out.bx ⟨g3, _, _, _, _⟩ (by repeat (first | exact List.mem_cons_self | refine List.mem_cons_of_mem _ ?_))).2 ?_
          exact ⟨_, 1, B1, d1, rfl, O1.out.caps.1, O1.out.caps.2, ⟨O1.out.ls.wr, O1.out.cs.wr⟩, K.out.b⟩
        · skip
          go_enter Tryz.func50, Tryz.ntmps50
          go_wp2_with (first
            | ((with_reducible show wpList _ _ _ _ _ _); refine Tryz.klBox (by rfl) _ (by rfl) (some 2) (by rfl) (by rfl) K ?_; intro g1 V1 K1; clear K; (have K := K1); clear K1)
            | ((with_reducible show wpList _ _ _ _ _ _); refine Tryz.klAlloc (by rfl) (by rfl) (some 4) (by rfl) K ?_; intro g3 V1 K1; clear K; (have K := K1); clear K1)
            | ((with_reducible show wpList _ _ _ _ _ _); refine Tryz.klLoad (by rfl) _ (by rfl) K (by rfl) (by repeat (first | exact List.mem_cons_self | refine List.mem_cons_of_mem _ ?_)) ?_)
            | (go_at_call 63; (with_reducible refine (refLMay_any l A _ c B _ d _ rfl rfl _ (K.out.at_ (r := ⟨l, A, B⟩) (by simp)) B9.out C9.out FI.out).mono ?_); rintro e W2 ⟨rfl, hb⟩; rw [MB.out]; (have K2 := hid (K.out.later hb)); clear hb K; (have K := K2); clear K2; obtain ⟨⟨_, _, _, _⟩, _, _, _, _⟩ := K.out.cellsOf (g := g1) (by repeat (first | exact List.mem_cons_self | refine List.mem_cons_of_mem _ ?_)))
            | (go_at_call 43; (with_reducible refine (refLOwn_any l A _ c B _ d _ rfl rfl _ (K.out.at_ (r := ⟨l, A, B⟩) (by simp)) B9.out C9.out).mono ?_); rintro e W2 ⟨A1, c1, B1, d1, rfl, ho, hb⟩; simp only [lnV]; (have O1 := hid (ho.based (base' := w.heap.size) K.out.b.size)); clear ho; (have K2 := hid (K.out.later hb)); clear hb K; (have K := K2); clear K2)
            | ((with_reducible show wpList _ _ _ _ _ _); refine Tryz.klAllocB (by rfl) (by rfl) (some 6) (by rfl) K ?_; intro g6 V1 X1 K1; clear K; (have K := K1); clear K1; (have O9 := hid (O1.out.later X1.out)); clear O1; (have O1 := O9); clear O9; clear X1)
            | ((with_reducible show wpList _ _ _ _ _ _); refine Tryz.klStoreO (by rfl) (.tmp 6) _ (by rfl) [] (by exact K) (by rfl) (by rfl) (by exact ⟨rfl, rfl, rfl, rfl⟩) ?_; intro V2 X1 G1 K1; (dsimp only [List.cons_append, List.nil_append] at K1 X1 G1); clear K; (have K := K1); clear K1; (have O9 := hid (O1.out.og G1.out X1.out)); clear O1; (have O1 := O9); clear O9; clear X1 G1; obtain ⟨⟨_, _, _, _⟩, _, _, _, _⟩ := K.out.cellsOf (g := g1) (by repeat (first | exact List.mem_cons_self | refine List.mem_cons_of_mem _ ?_)))
            | ((with_reducible show wpList _ _ _ _ _ _); refine Tryz.klStoreF (by rfl) 43 (by kernel_rfl) (.tmp 29) _ (by rfl) [] (by exact hid (K.out.later ((Below.refl _ _).alloc (Nat.le_refl _) (.cells #[.int .i64 kind] 3)))) 1 (by rfl) (by decide) (v := .slice _ _ _) (by rfl) (by rfl) ⟨_, _, _, _, _⟩ (by rfl) ?_; intro V2 X1 G1 K1; (have P1 := hid (show LnOw _ w.heap.size ⟨l.q, [kind], l.k, l.cs⟩ _ 1 B1 d1 from ⟨(own_lit1I _ kind).based K.out.b.size, (O1.out.later ((Below.refl _ _).alloc (Nat.le_refl _) (.cells #[.int .i64 kind] 3))).cs⟩)); (dsimp only [List.cons_append, List.nil_append] at K1 X1 G1); clear K O1; (have K := K1); clear K1; (have O1 := hid (P1.out.og G1.out X1.out)); clear P1 X1 G1)
            | ((with_reducible show wpList _ _ _ _ _ _); refine Tryz.klStoreF (by rfl) 3 (by kernel_rfl) (.tmp 30) _ (by rfl) [] (by exact K) 2 (by rfl) (by decide) (v := .int _ _) (by rfl) (by rfl) ⟨_, _, _, _, _⟩ (by rfl) ?_; intro V2 X1 G1 K1; (dsimp only [List.cons_append, List.nil_append] at K1 X1 G1); clear K; (have K := K1); clear K1; (have O9 := hid (O1.out.og G1.out X1.out)); clear O1; (have O1 := O9); clear O9; clear X1 G1)
            | ((with_reducible show wpList _ _ _ _ _ _); refine Tryz.klStoreO (by rfl) (.tmp 4) _ (by rfl) [_] (by exact K) (by rfl) (by rfl) (by exact ⟨rfl, rfl, rfl, rfl⟩) ?_; intro V2 X1 G1 K1; (dsimp only [List.cons_append, List.nil_append] at K1 X1 G1); clear K; (have K := K1); clear K1; (have O9 := hid (O1.out.og G1.out X1.out)); clear O1; (have O1 := O9); clear O9; clear X1 G1))
          (try simp only [Exit.inBlock, Exit.then])
          rw [TL.out]
          refine Tryz.ret_lineE Tryz.results50 rfl g3 _ _ _ _ _ rfl rfl (K.out.bx ⟨g3, _, _, _, _⟩ (by repeat (first | exact List.mem_cons_self | refine List.mem_cons_of_mem _ ?_))).2 ?_
          exact ⟨_, 1, B1, d1, rfl, O1.out.caps.1, O1.out.caps.2, ⟨O1.out.ls.wr, O1.out.cs.wr⟩, K.out.b⟩
      · have z0 : ((l.ls.length : Int) == 0) = false := by rw [beq_eq_false_iff_ne]; have := List.length_pos_iff.2 hl; omega
        obtain ⟨n, hn⟩ : ∃ n, n + 1 = l.ls.length := ⟨l.ls.length - 1, by have := List.length_pos_iff.2 hl; omega⟩
        obtain ⟨ad, x, hA, -, hx, -⟩ := (RL0.out ⟨l, A, B⟩ (by simp)).ls.atI (k := n) (by show n < l.ls.length; omega)
        have hA' : A = some ad := hA
        subst hA'
        have hx' : l.ls[n]? = some x := hx
        have HX := hid hx'
        have HN := hid hn
        have HE := hid hl
        have HLT : Hid (n < l.ls.length) := hid (by omega)
        have k1 : IntKind.i64.wrap ((l.ls.length : Int) - 1) = (n : Int) := by rw [show (l.ls.length : Int) - 1 = (n : Int) from by omega]; exact IntWalk.i64_in _ (by have := B9.out; omega)
        have k2 : (0 : Int) ≤ (n : Int) := by omega
        have k3 : (n : Int) < (l.ls.length : Int) := by omega
        have hlast := lastI_at hx' hn
        by_cases hxk : x = kind
        · skip
          have qk : (x == kind) = true := by simp [hxk]
          have TL := hid (show listL l kind = (zL, 7) by unfold listL; rw [if_pos ⟨hk, hb⟩, if_neg hl, if_pos (hlast.trans hxk)])
          clear hb hk hl hn hx hx' hA hlast hxk
          rcases KB with ke | ⟨ke, kf⟩
          · skip
            go_enter Tryz.func50, Tryz.ntmps50
            go_wp2_with (first
              | ((with_reducible show wpList _ _ _ _ _ _); refine Tryz.klBox (by rfl) _ (by rfl) (some 2) (by rfl) (by rfl) K ?_; intro g1 V1 K1; clear K; (have K := K1); clear K1)
              | ((with_reducible show wpList _ _ _ _ _ _); refine Tryz.klAlloc (by rfl) (by rfl) (some 4) (by rfl) K ?_; intro g3 V1 K1; clear K; (have K := K1); clear K1)
              | ((with_reducible show wpList _ _ _ _ _ _); refine Tryz.klLoad (by rfl) _ (by rfl) K (by rfl) (by repeat (first | exact List.mem_cons_self | refine List.mem_cons_of_mem _ ?_)) ?_)
              | (go_at_call 63; (with_reducible refine (refLMay_any l (some ad) _ c B _ d _ rfl rfl _ (K.out.at_ (r := ⟨l, (some ad), B⟩) (by simp)) B9.out C9.out FI.out).mono ?_); rintro e W2 ⟨rfl, hb⟩; rw [MB.out]; (have K2 := hid (K.out.later hb)); clear hb K; (have K := K2); clear K2; obtain ⟨⟨_, _, _, _⟩, _, _, _, _⟩ := K.out.cellsOf (g := g1) (by repeat (first | exact List.mem_cons_self | refine List.mem_cons_of_mem _ ?_)))
              | (go_at_call 43; (with_reducible refine (refLOwn_any l (some ad) _ c B _ d _ rfl rfl _ (K.out.at_ (r := ⟨l, (some ad), B⟩) (by simp)) B9.out C9.out).mono ?_); rintro e W2 ⟨A1, c1, B1, d1, rfl, ho, hb⟩; simp only [lnV]; (have O1 := hid (ho.based (base' := w.heap.size) K.out.b.size)); clear ho; (have K2 := hid (K.out.later hb)); clear hb K; (have K := K2); clear K2; obtain ⟨gA, hgA⟩ := ownAddr O1.out HE.out; subst hgA)
              | ((with_reducible show wpList _ _ _ _ _ _); refine Tryz.klAllocB (by rfl) (by rfl) (some 6) (by rfl) K ?_; intro g6 V1 X1 K1; clear K; (have K := K1); clear K1; (have O9 := hid (O1.out.later X1.out)); clear O1; (have O1 := O9); clear O9; clear X1)
              | ((with_reducible show wpList _ _ _ _ _ _); refine Tryz.klStoreO (by rfl) (.tmp 6) _ (by rfl) [] (by exact K) (by rfl) (by rfl) (by exact ⟨rfl, rfl, rfl, rfl⟩) ?_; intro V2 X1 G1 K1; (dsimp only [List.cons_append, List.nil_append] at K1 X1 G1); clear K; (have K := K1); clear K1; (have O9 := hid (O1.out.og G1.out X1.out)); clear O1; (have O1 := O9); clear O9; clear X1 G1; obtain ⟨⟨_, _, _, _⟩, _, _, _, _⟩ := K.out.cellsOf (g := g1) (by repeat (first | exact List.mem_cons_self | refine List.mem_cons_of_mem _ ?_)); obtain ⟨⟨_, _, _, _⟩, _, _, _, _⟩ := K.out.cellsOf (g := g6) (by repeat (first | exact List.mem_cons_self | refine List.mem_cons_of_mem _ ?_)); (have x0 := rowCell (K.out.at_ (r := ⟨l, (some ad), B⟩) (by simp)).ls HX.out))
              | ((with_reducible show wpList _ _ _ _ _ _); refine Tryz.klStore (by rfl) (.tmp 4) _ (by rfl) [_] (by exact K) (by rfl) (by rfl) (by exact ⟨rfl, rfl, rfl, rfl⟩) ?_; intro V2 K1; (dsimp only [List.cons_append, List.nil_append] at K1); clear K; (have K := K1); clear K1))
            (try simp only [Exit.inBlock, Exit.then])
            rw [TL.out]
            refine Tryz.ret_lineE Tryz.results50 rfl g3 _ _ _ _ _ rfl rfl (K.out.bx ⟨g3, _, _, _, _⟩ (by repeat (first | exact List.mem_cons_self | refine List.mem_cons_of_mem _ ?_))).2 ?_
            exact ⟨none, 0, none, 0, rfl, Nat.zero_le _, Nat.zero_le _, LnWr.zero, K.out.b⟩
          · skip
            go_enter Tryz.func50, Tryz.ntmps50
            go_wp2_with (first
              | ((with_reducible show wpList _ _ _ _ _ _); refine Tryz.klBox (by rfl) _ (by rfl) (some 2) (by rfl) (by rfl) K ?_; intro g1 V1 K1; clear K; (have K := K1); clear K1)
              | ((with_reducible show wpList _ _ _ _ _ _); refine Tryz.klAlloc (by rfl) (by rfl) (some 4) (by rfl) K ?_; intro g3 V1 K1; clear K; (have K := K1); clear K1)
              | ((with_reducible show wpList _ _ _ _ _ _); refine Tryz.klLoad (by rfl) _ (by rfl) K (by rfl) (by repeat (first | exact List.mem_cons_self | refine List.mem_cons_of_mem _ ?_)) ?_)
              | (go_at_call 63; (with_reducible refine (refLMay_any l (some ad) _ c B _ d _ rfl rfl _ (K.out.at_ (r := ⟨l, (some ad), B⟩) (by simp)) B9.out C9.out FI.out).mono ?_); rintro e W2 ⟨rfl, hb⟩; rw [MB.out]; (have K2 := hid (K.out.later hb)); clear hb K; (have K := K2); clear K2; obtain ⟨⟨_, _, _, _⟩, _, _, _, _⟩ := K.out.cellsOf (g := g1) (by repeat (first | exact List.mem_cons_self | refine List.mem_cons_of_mem _ ?_)))
              | (go_at_call 43; (with_reducible refine (refLOwn_any l (some ad) _ c B _ d _ rfl rfl _ (K.out.at_ (r := ⟨l, (some ad), B⟩) (by simp)) B9.out C9.out).mono ?_); rintro e W2 ⟨A1, c1, B1, d1, rfl, ho, hb⟩; simp only [lnV]; (have O1 := hid (ho.based (base' := w.heap.size) K.out.b.size)); clear ho; (have K2 := hid (K.out.later hb)); clear hb K; (have K := K2); clear K2; obtain ⟨gA, hgA⟩ := ownAddr O1.out HE.out; subst hgA)
              | ((with_reducible show wpList _ _ _ _ _ _); refine Tryz.klAllocB (by rfl) (by rfl) (some 6) (by rfl) K ?_; intro g6 V1 X1 K1; clear K; (have K := K1); clear K1; (have O9 := hid (O1.out.later X1.out)); clear O1; (have O1 := O9); clear O9; clear X1)
              | ((with_reducible show wpList _ _ _ _ _ _); refine Tryz.klStoreO (by rfl) (.tmp 6) _ (by rfl) [] (by exact K) (by rfl) (by rfl) (by exact ⟨rfl, rfl, rfl, rfl⟩) ?_; intro V2 X1 G1 K1; (dsimp only [List.cons_append, List.nil_append] at K1 X1 G1); clear K; (have K := K1); clear K1; (have O9 := hid (O1.out.og G1.out X1.out)); clear O1; (have O1 := O9); clear O9; clear X1 G1; obtain ⟨⟨_, _, _, _⟩, _, _, _, _⟩ := K.out.cellsOf (g := g1) (by repeat (first | exact List.mem_cons_self | refine List.mem_cons_of_mem _ ?_)); obtain ⟨⟨_, _, _, _⟩, _, _, _, _⟩ := K.out.cellsOf (g := g6) (by repeat (first | exact List.mem_cons_self | refine List.mem_cons_of_mem _ ?_)); (have x0 := rowCell (K.out.at_ (r := ⟨l, (some ad), B⟩) (by simp)).ls HX.out))
              | ((with_reducible show wpList _ _ _ _ _ _); refine Tryz.klStore (by rfl) (.tmp 4) _ (by rfl) [_] (by exact K) (by rfl) (by rfl) (by exact ⟨rfl, rfl, rfl, rfl⟩) ?_; intro V2 K1; (dsimp only [List.cons_append, List.nil_append] at K1); clear K; (have K := K1); clear K1))
            (try simp only [Exit.inBlock, Exit.then])
            rw [TL.out]
            refine Tryz.ret_lineE Tryz.results50 rfl g3 _ _ _ _ _ rfl rfl (K.out.bx ⟨g3, _, _, _, _⟩ (by repeat (first | exact List.mem_cons_self | refine List.mem_cons_of_mem _ ?_))).2 ?_
            exact ⟨none, 0, none, 0, rfl, Nat.zero_le _, Nat.zero_le _, LnWr.zero, K.out.b⟩
        · skip
          have qk : (x == kind) = false := by simp [hxk]
          have TL := hid (show listL l kind = (⟨l.q, l.ls.set n kind, l.k, l.cs⟩, 0) by unfold listL; rw [if_pos ⟨hk, hb⟩, if_neg hl, if_neg (fun e => hxk (hlast.symm.trans e)), set_last hn, dropLast_at hn])
          clear hb hk hl hn hx hx' hA hlast hxk
          rcases KB with ke | ⟨ke, kf⟩
          · skip
            go_enter Tryz.func50, Tryz.ntmps50
            go_wp2_with (first
              | ((with_reducible show wpList _ _ _ _ _ _); refine Tryz.klBox (by rfl) _ (by rfl) (some 2) (by rfl) (by rfl) K ?_; intro g1 V1 K1; clear K; (have K := K1); clear K1)
              | ((with_reducible show wpList _ _ _ _ _ _); refine Tryz.klAlloc (by rfl) (by rfl) (some 4) (by rfl) K ?_; intro g3 V1 K1; clear K; (have K := K1); clear K1)
              | ((with_reducible show wpList _ _ _ _ _ _); refine Tryz.klLoad (by rfl) _ (by rfl) K (by rfl) (by repeat (first | exact List.mem_cons_self | refine List.mem_cons_of_mem _ ?_)) ?_)
              | (go_at_call 63; (with_reducible refine (refLMay_any l (some ad) _ c B _ d _ rfl rfl _ (K.out.at_ (r := ⟨l, (some ad), B⟩) (by simp)) B9.out C9.out FI.out).mono ?_); rintro e W2 ⟨rfl, hb⟩; rw [MB.out]; (have K2 := hid (K.out.later hb)); clear hb K; (have K := K2); clear K2; obtain ⟨⟨_, _, _, _⟩, _, _, _, _⟩ := K.out.cellsOf (g := g1) (by repeat (first | exact List.mem_cons_self | refine List.mem_cons_of_mem _ ?_)))
              | (go_at_call 43; (with_reducible refine (refLOwn_any l (some ad) _ c B _ d _ rfl rfl _ (K.out.at_ (r := ⟨l, (some ad), B⟩) (by simp)) B9.out C9.out).mono ?_); rintro e W2 ⟨A1, c1, B1, d1, rfl, ho, hb⟩; simp only [lnV]; (have O1 := hid (ho.based (base' := w.heap.size) K.out.b.size)); clear ho; (have K2 := hid (K.out.later hb)); clear hb K; (have K := K2); clear K2; obtain ⟨gA, hgA⟩ := ownAddr O1.out HE.out; subst hgA)
              | ((with_reducible show wpList _ _ _ _ _ _); refine Tryz.klAllocB (by rfl) (by rfl) (some 6) (by rfl) K ?_; intro g6 V1 X1 K1; clear K; (have K := K1); clear K1; (have O9 := hid (O1.out.later X1.out)); clear O1; (have O1 := O9); clear O9; clear X1)
              | ((with_reducible show wpList _ _ _ _ _ _); refine Tryz.klStoreO (by rfl) (.tmp 6) _ (by rfl) [] (by exact K) (by rfl) (by rfl) (by exact ⟨rfl, rfl, rfl, rfl⟩) ?_; intro V2 X1 G1 K1; (dsimp only [List.cons_append, List.nil_append] at K1 X1 G1); clear K; (have K := K1); clear K1; (have O9 := hid (O1.out.og G1.out X1.out)); clear O1; (have O1 := O9); clear O9; clear X1 G1; obtain ⟨⟨_, _, _, _⟩, _, _, _, _⟩ := K.out.cellsOf (g := g1) (by repeat (first | exact List.mem_cons_self | refine List.mem_cons_of_mem _ ?_)); obtain ⟨⟨_, _, _, _⟩, _, _, _, _⟩ := K.out.cellsOf (g := g6) (by repeat (first | exact List.mem_cons_self | refine List.mem_cons_of_mem _ ?_)); (have x0 := rowCell (K.out.at_ (r := ⟨l, (some ad), B⟩) (by simp)).ls HX.out))
              | ((with_reducible show wpList _ _ _ _ _ _); refine Tryz.klStoreI (by rfl) (.tmp 46) _ (by rfl) (by rfl) (by rfl) K RL0.out O1 HLT.out ?_; intro V2 K1 P1; clear K O1; (have K := K1); (have O1 := P1); clear K1 P1)
              | ((with_reducible show wpList _ _ _ _ _ _); refine Tryz.klStoreO (by rfl) (.tmp 4) _ (by rfl) [_] (by exact K) (by rfl) (by rfl) (by exact ⟨rfl, rfl, rfl, rfl⟩) ?_; intro V2 X1 G1 K1; (dsimp only [List.cons_append, List.nil_append] at K1 X1 G1); clear K; (have K := K1); clear K1; (have O9 := hid (O1.out.og G1.out X1.out)); clear O1; (have O1 := O9); clear O9; clear X1 G1))
            (try simp only [Exit.inBlock, Exit.then])
            rw [TL.out]
            refine Tryz.ret_lineE Tryz.results50 rfl g3 _ _ _ _ _ rfl rfl (K.out.bx ⟨g3, _, _, _, _⟩ (by repeat (first | exact List.mem_cons_self | refine List.mem_cons_of_mem _ ?_))).2 ?_
            exact ⟨some ⟨gA, 0, none⟩, c1, B1, d1, by simp only [lnV, List.length_set]; rfl, O1.out.caps.1, O1.out.caps.2, ⟨O1.out.ls.wr, O1.out.cs.wr⟩, K.out.b⟩
          · skip
            go_enter Tryz.func50, Tryz.ntmps50
            go_wp2_with (first
              | ((with_reducible show wpList _ _ _ _ _ _); refine Tryz.klBox (by rfl) _ (by rfl) (some 2) (by rfl) (by rfl) K ?_; intro g1 V1 K1; clear K; (have K := K1); clear K1)
              | ((with_reducible show wpList _ _ _ _ _ _); refine Tryz.klAlloc (by rfl) (by rfl) (some 4) (by rfl) K ?_; intro g3 V1 K1; clear K; (have K := K1); clear K1)
              | ((with_reducible show wpList _ _ _ _ _ _); refine Tryz.klLoad (by rfl) _ (by rfl) K (by rfl) (by repeat (first | exact List.mem_cons_self | refine List.mem_cons_of_mem _ ?_)) ?_)
              | (go_at_call 63; (with_reducible refine (refLMay_any l (some ad) _ c B _ d _ rfl rfl _ (K.out.at_ (r := ⟨l, (some ad), B⟩) (by simp)) B9.out C9.out FI.out).mono ?_); rintro e W2 ⟨rfl, hb⟩; rw [MB.out]; (have K2 := hid (K.out.later hb)); clear hb K; (have K := K2); clear K2; obtain ⟨⟨_, _, _, _⟩, _, _, _, _⟩ := K.out.cellsOf (g := g1) (by repeat (first | exact List.mem_cons_self | refine List.mem_cons_of_mem _ ?_)))
              | (go_at_call 43; (with_reducible refine (refLOwn_any l (some ad) _ c B _ d _ rfl rfl _ (K.out.at_ (r := ⟨l, (some ad), B⟩) (by simp)) B9.out C9.out).mono ?_); rintro e W2 ⟨A1, c1, B1, d1, rfl, ho, hb⟩; simp only [lnV]; (have O1 := hid (ho.based (base' := w.heap.size) K.out.b.size)); clear ho; (have K2 := hid (K.out.later hb)); clear hb K; (have K := K2); clear K2; obtain ⟨gA, hgA⟩ := ownAddr O1.out HE.out; subst hgA)
              | ((with_reducible show wpList _ _ _ _ _ _); refine Tryz.klAllocB (by rfl) (by rfl) (some 6) (by rfl) K ?_; intro g6 V1 X1 K1; clear K; (have K := K1); clear K1; (have O9 := hid (O1.out.later X1.out)); clear O1; (have O1 := O9); clear O9; clear X1)
              | ((with_reducible show wpList _ _ _ _ _ _); refine Tryz.klStoreO (by rfl) (.tmp 6) _ (by rfl) [] (by exact K) (by rfl) (by rfl) (by exact ⟨rfl, rfl, rfl, rfl⟩) ?_; intro V2 X1 G1 K1; (dsimp only [List.cons_append, List.nil_append] at K1 X1 G1); clear K; (have K := K1); clear K1; (have O9 := hid (O1.out.og G1.out X1.out)); clear O1; (have O1 := O9); clear O9; clear X1 G1; obtain ⟨⟨_, _, _, _⟩, _, _, _, _⟩ := K.out.cellsOf (g := g1) (by repeat (first | exact List.mem_cons_self | refine List.mem_cons_of_mem _ ?_)); obtain ⟨⟨_, _, _, _⟩, _, _, _, _⟩ := K.out.cellsOf (g := g6) (by repeat (first | exact List.mem_cons_self | refine List.mem_cons_of_mem _ ?_)); (have x0 := rowCell (K.out.at_ (r := ⟨l, (some ad), B⟩) (by simp)).ls HX.out))
              | ((with_reducible show wpList _ _ _ _ _ _); refine Tryz.klStoreI (by rfl) (.tmp 46) _ (by rfl) (by rfl) (by rfl) K RL0.out O1 HLT.out ?_; intro V2 K1 P1; clear K O1; (have K := K1); (have O1 := P1); clear K1 P1)
              | ((with_reducible show wpList _ _ _ _ _ _); refine Tryz.klStoreO (by rfl) (.tmp 4) _ (by rfl) [_] (by exact K) (by rfl) (by rfl) (by exact ⟨rfl, rfl, rfl, rfl⟩) ?_; intro V2 X1 G1 K1; (dsimp only [List.cons_append, List.nil_append] at K1 X1 G1); clear K; (have K := K1); clear K1; (have O9 := hid (O1.out.og G1.out X1.out)); clear O1; (have O1 := O9); clear O9; clear X1 G1))
            (try simp only [Exit.inBlock, Exit.then])
            rw [TL.out]
            refine Tryz.ret_lineE Tryz.results50 rfl g3 _ _ _ _ _ rfl rfl (K.out.bx ⟨g3, _, _, _, _⟩ (by repeat (first | exact List.mem_cons_self | refine List.mem_cons_of_mem _ ?_))).2 ?_
            exact ⟨some ⟨gA, 0, none⟩, c1, B1, d1, by simp only [lnV, List.length_set]; rfl, O1.out.caps.1, O1.out.caps.2, ⟨O1.out.ls.wr, O1.out.cs.wr⟩, K.out.b⟩
  · have e0 : (kind != 0) = true := by simp; exact fun h => hk (.inl h)
    have e1 : (kind != 1) = true := by simp; exact fun h => hk (.inr h)
    have TL := hid (show listL l kind = (zL, 1) by unfold listL; rw [if_neg (by rintro ⟨h, _⟩; exact hk h)])
    clear hk
    go_enter Tryz.func50, Tryz.ntmps50
    go_wp2_with (first
      | ((with_reducible show wpList _ _ _ _ _ _); refine Tryz.klBox (by rfl) _ (by rfl) (some 2) (by rfl) (by rfl) K ?_; intro g1 V1 K1; clear K; (have K := K1); clear K1)
      | ((with_reducible show wpList _ _ _ _ _ _); refine Tryz.klAlloc (by rfl) (by rfl) (some 4) (by rfl) K ?_; intro g3 V1 K1; clear K; (have K := K1); clear K1)
      | ((with_reducible show wpList _ _ _ _ _ _); refine Tryz.klLoad (by rfl) _ (by rfl) K (by rfl) (by repeat (first | exact List.mem_cons_self | refine List.mem_cons_of_mem _ ?_)) ?_)
      | ((with_reducible show wpList _ _ _ _ _ _); refine Tryz.klStore (by rfl) (.tmp 4) _ (by rfl) [] (by exact K) (by rfl) (by rfl) (by exact ⟨rfl, rfl, rfl, rfl⟩) ?_; intro V2 K1; (dsimp only [List.cons_append, List.nil_append] at K1); clear K; (have K := K1); clear K1))
    (try simp only [Exit.inBlock, Exit.then])
    rw [TL.out]
    refine Tryz.ret_lineE Tryz.results50 rfl g3 _ _ _ _ _ rfl rfl (K.out.bx ⟨g3, _, _, _, _⟩ (by repeat (first | exact List.mem_cons_self | refine List.mem_cons_of_mem _ ?_))).2 ?_
    exact ⟨none, 0, none, 0, rfl, Nat.zero_le _, Nat.zero_le _, LnWr.zero, K.out.b⟩
end Go.Proofs.YtblbfoniimnkcaaGreatDoor
