/- The walk of lines.Join. (Printed by wip/lnjoin.py.) -/
import Derived.Test.YtpldmiencoolhaaDoorLnKit
import Derived.Test.YtpldmiencoolhaaDoorLnOwn
import Derived.Test.YtpldmiencoolhaaDoorLnMay
import Derived.BigQuiet
import Derived.Deep.QuietTactic
namespace Go.Proofs.YtpldmiencoolhaaDoor
open Go.RowKit Go.Lib

/-- A row of cells grew: the boxes stand, and what lies ahead. -/
theorem KL.grown {w0 w w' : World} {bs : List BoxR} {rs : List RowL} (h : KL w0 w bs rs []) {v : Value} {xs : List Cl} (hv : Own encC 3 44 w w0.heap.size v xs) (hg : w.grownBy w' v.ownBlock) (hr : ∀ r ∈ rs, LnAt w0 w0.heap.size r.l r.A r.B) : KL w0 w' bs rs [] := by
  have hb : Below w0.heap.size w w' := (Below.refl _ w).grown hg h.b.size (fun k hk => (hv.lt k hk).1)
  refine ⟨h.b.trans hb, fun t ht => ⟨(h.bx t ht).1, ?_⟩, h.nd, fun r hr' => .inl ((hr r hr').below (h.b.trans hb)), (fun _ h => by cases h), .nil⟩
  have hk := (h.bx t ht).2
  refine (hg.block t.g hk.lt (fun hrow => ?_)).trans hk
  obtain ⟨cur, hc⟩ := hv.ty hrow.symm
  unfold Bx at hk
  rw [hc] at hk
  injection hk with hk
  injection hk with _ hk _
  exact absurd hk (by decide)
theorem Own.grownI {w w' : World} {base : Nat} {v u : Value} {xs : List Cl} {ys : List Int} (hv : Own encC 3 44 w base v xs) (hg : w.grownBy w' v.ownBlock) (hu : Own encI 1 3 w base u ys) : Own encI 1 3 w' base u ys := by
  unfold Own at hu ⊢
  refine hu.kept hg ?_
  by_cases hn : u.ownBlock = none
  · exact .inl hn
  · right
    intro e
    cases hk : u.ownBlock with
    | none => exact hn hk
    | some k =>
      obtain ⟨cur, hc⟩ := Own.ty (show Own encI 1 3 w base u ys from hu) hk
      obtain ⟨cur', hc'⟩ := hv.ty (e ▸ hk)
      rw [hc] at hc'
      injection hc' with hc'
      injection hc' with _ hc' _
      exact absurd hc' (by decide)
set_option maxRecDepth 100000 in
set_option maxHeartbeats 8000000 in
theorem lJoin_any (l r : Ln) (A : Option Addr) (c : Nat) (B : Option Addr) (d C : Nat) (A' : Option Addr) (c' : Nat) (B' : Option Addr) (d' C' : Nat) (w : World) (hl : LnAt w C l A B) (hr : LnAt w C' r A' B') (h1 : l.ls.length ≤ 1000000000) (h2 : l.cs.length ≤ 1000000000) (h1' : r.ls.length ≤ 1000000000) (h2' : r.cs.length ≤ 1000000000) (hf : FineC l.cs) (hf' : FineC r.cs) (hT : Tb w) :
    Calls Tryd.prog 15 #[.agg #[.int .i64 l.q, .slice A l.ls.length c, .int .i64 l.k, .slice B l.cs.length d], .agg #[.int .i64 r.q, .slice A' r.ls.length c', .int .i64 r.k, .slice B' r.cs.length d']] w (RetLnE (joinL l r) w) := by
  have T := hid hT
  have FI := hid hf
  have FR := hid hf'
  have B9 := hid h1
  have C9 := hid h2
  have R9 := hid h1'
  have S9 := hid h2'
  have RL0 : Hid (∀ s ∈ [(⟨l, A, B⟩ : RowL), ⟨r, A', B'⟩], LnAt w w.heap.size s.l s.A s.B) := hid (by simpa using ⟨hl.live, hr.live⟩)
  have K := hid (KL.start w [⟨l, A, B⟩, ⟨r, A', B'⟩] RL0.out)
  have lenk : l.cs.length + r.cs.length ≤ 1000000000000 := by omega
  clear hl hr hf hf' hT h1 h2 h1' h2'
  cases hb : mayL l with
  | false =>
    have MB := hid hb
    have TL := hid (show joinL l r = (zL, 1) by unfold joinL; rw [hb]; rfl)
    clear hb lenk
    go_enter Tryd.func15, Tryd.ntmps15
    go_wp2_with (first
      | ((with_reducible show wpList _ _ _ _ _ _); refine Tryd.klBox (by rfl) _ (by rfl) (some 2) (by rfl) (by rfl) K ?_; intro g1 V1 K1; clear K; (have K := K1); clear K1)
      | ((with_reducible show wpList _ _ _ _ _ _); refine Tryd.klBox (by rfl) _ (by rfl) (some 3) (by rfl) (by rfl) K ?_; intro g2 V1 K1; clear K; (have K := K1); clear K1)
      | ((with_reducible show wpList _ _ _ _ _ _); refine Tryd.klAlloc (by rfl) (by rfl) (some 4) (by rfl) K ?_; intro g3 V1 K1; clear K; (have K := K1); clear K1)
      | ((with_reducible show wpList _ _ _ _ _ _); refine Tryd.klLoad (by rfl) _ (by rfl) K (by rfl) (by repeat (first | exact List.mem_cons_self | refine List.mem_cons_of_mem _ ?_)) ?_)
      | (go_at_call 18; (with_reducible refine (lMay_any l A _ c B _ d _ rfl rfl _ (K.out.at_ (r := ⟨l, A, B⟩) (by simp)) B9.out C9.out FI.out (Utf8Tabs_below T.out K.out.b)).mono ?_); rintro e W2 ⟨rfl, hb⟩; rw [MB.out]; (have K2 := hid (K.out.later hb)); clear hb K; (have K := K2); clear K2)
      | ((with_reducible show wpList _ _ _ _ _ _); refine Tryd.klStore (by rfl) (.tmp 4) _ (by rfl) [] (by exact K) (by rfl) (by rfl) (by exact ⟨rfl, rfl, rfl, rfl⟩) ?_; intro V2 K1; (dsimp only [List.cons_append, List.nil_append] at K1); clear K; (have K := K1); clear K1))
    (try simp only [Exit.inBlock, Exit.then])
    rw [TL.out]
    refine Tryd.ret_lineE Tryd.results15 rfl g3 _ _ _ _ _ rfl rfl (K.out.bx ⟨g3, _, _, _, _⟩ (by repeat (first | exact List.mem_cons_self | refine List.mem_cons_of_mem _ ?_))).2 ?_
    exact ⟨none, 0, none, 0, rfl, Nat.zero_le _, Nat.zero_le _, LnWr.zero, K.out.b⟩
  | true =>
    have MB := hid hb
    cases hb' : mayL r with
    | false =>
      have MR := hid hb'
      have TL := hid (show joinL l r = (zL, 1) by unfold joinL; rw [hb, hb']; rfl)
      clear hb hb' lenk
      go_enter Tryd.func15, Tryd.ntmps15
      go_wp2_with (first
        | ((with_reducible show wpList _ _ _ _ _ _); refine Tryd.klBox (by rfl) _ (by rfl) (some 2) (by rfl) (by rfl) K ?_; intro g1 V1 K1; clear K; (have K := K1); clear K1)
        | ((with_reducible show wpList _ _ _ _ _ _); refine Tryd.klBox (by rfl) _ (by rfl) (some 3) (by rfl) (by rfl) K ?_; intro g2 V1 K1; clear K; (have K := K1); clear K1)
        | ((with_reducible show wpList _ _ _ _ _ _); refine Tryd.klAlloc (by rfl) (by rfl) (some 4) (by rfl) K ?_; intro g3 V1 K1; clear K; (have K := K1); clear K1)
        | ((with_reducible show wpList _ _ _ _ _ _); refine Tryd.klLoad (by rfl) _ (by rfl) K (by rfl) (by repeat (first | exact List.mem_cons_self | refine List.mem_cons_of_mem _ ?_)) ?_)
        | (go_at_call 18; (with_reducible refine (lMay_any l A _ c B _ d _ rfl rfl _ (K.out.at_ (r := ⟨l, A, B⟩) (by simp)) B9.out C9.out FI.out (Utf8Tabs_below T.out K.out.b)).mono ?_); rintro e W2 ⟨rfl, hb⟩; rw [MB.out]; (have K2 := hid (K.out.later hb)); clear hb K; (have K := K2); clear K2)
        | (go_at_call 18; (with_reducible refine (lMay_any r A' _ c' B' _ d' _ rfl rfl _ (K.out.at_ (r := ⟨r, A', B'⟩) (by simp)) R9.out S9.out FR.out (Utf8Tabs_below T.out K.out.b)).mono ?_); rintro e W2 ⟨rfl, hb⟩; rw [MR.out]; (have K2 := hid (K.out.later hb)); clear hb K; (have K := K2); clear K2)
        | ((with_reducible show wpList _ _ _ _ _ _); refine Tryd.klStore (by rfl) (.tmp 4) _ (by rfl) [] (by exact K) (by rfl) (by rfl) (by exact ⟨rfl, rfl, rfl, rfl⟩) ?_; intro V2 K1; (dsimp only [List.cons_append, List.nil_append] at K1); clear K; (have K := K1); clear K1))
      (try simp only [Exit.inBlock, Exit.then])
      rw [TL.out]
      refine Tryd.ret_lineE Tryd.results15 rfl g3 _ _ _ _ _ rfl rfl (K.out.bx ⟨g3, _, _, _, _⟩ (by repeat (first | exact List.mem_cons_self | refine List.mem_cons_of_mem _ ?_))).2 ?_
      exact ⟨none, 0, none, 0, rfl, Nat.zero_le _, Nat.zero_le _, LnWr.zero, K.out.b⟩
    | true =>
      have MR := hid hb'
      have TL := hid (show joinL l r = (⟨l.q, l.ls, l.k, l.cs ++ r.cs⟩, 0) by unfold joinL; rw [hb, hb']; rfl)
      clear hb hb'
      go_enter Tryd.func15, Tryd.ntmps15
      go_wp2_with (first
        | ((with_reducible show wpList _ _ _ _ _ _); refine Tryd.klBox (by rfl) _ (by rfl) (some 2) (by rfl) (by rfl) K ?_; intro g1 V1 K1; clear K; (have K := K1); clear K1)
        | ((with_reducible show wpList _ _ _ _ _ _); refine Tryd.klBox (by rfl) _ (by rfl) (some 3) (by rfl) (by rfl) K ?_; intro g2 V1 K1; clear K; (have K := K1); clear K1)
        | ((with_reducible show wpList _ _ _ _ _ _); refine Tryd.klAlloc (by rfl) (by rfl) (some 4) (by rfl) K ?_; intro g3 V1 K1; clear K; (have K := K1); clear K1)
        | ((with_reducible show wpList _ _ _ _ _ _); refine Tryd.klLoad (by rfl) _ (by rfl) K (by rfl) (by repeat (first | exact List.mem_cons_self | refine List.mem_cons_of_mem _ ?_)) ?_)
        | (go_at_call 18; (with_reducible refine (lMay_any l A _ c B _ d _ rfl rfl _ (K.out.at_ (r := ⟨l, A, B⟩) (by simp)) B9.out C9.out FI.out (Utf8Tabs_below T.out K.out.b)).mono ?_); rintro e W2 ⟨rfl, hb⟩; rw [MB.out]; (have K2 := hid (K.out.later hb)); clear hb K; (have K := K2); clear K2)
        | (go_at_call 18; (with_reducible refine (lMay_any r A' _ c' B' _ d' _ rfl rfl _ (K.out.at_ (r := ⟨r, A', B'⟩) (by simp)) R9.out S9.out FR.out (Utf8Tabs_below T.out K.out.b)).mono ?_); rintro e W2 ⟨rfl, hb⟩; rw [MR.out]; (have K2 := hid (K.out.later hb)); clear hb K; (have K := K2); clear K2)
        | (go_at_call 21; (with_reducible refine (lOwn_any l A _ c B _ d _ rfl rfl _ (K.out.at_ (r := ⟨l, A, B⟩) (by simp)) B9.out C9.out).mono ?_); rintro e W2 ⟨A1, c1, B1, d1, rfl, ho, hb⟩; simp only [lnV]; (have O1 := hid (ho.based (base' := w.heap.size) K.out.b.size)); clear ho; (have K2 := hid (K.out.later hb)); clear hb K; (have K := K2); clear K2)
        | ((with_reducible show wpList _ _ _ _ _ _); refine Tryd.klStoreO (by rfl) (.tmp 2) _ (by rfl) [_, _] (by exact K) (by rfl) (by rfl) (by exact ⟨rfl, rfl, rfl, rfl⟩) ?_; intro V2 X1 G1 K1; (dsimp only [List.cons_append, List.nil_append] at K1 X1 G1); clear K; (have K := K1); clear K1; (have O9 := hid (O1.out.og G1.out X1.out)); clear O1; (have O1 := O9); clear O9; clear X1 G1; obtain ⟨⟨_, _, _, _⟩, _, _, _, _⟩ := K.out.cellsOf (g := g1) (by repeat (first | exact List.mem_cons_self | refine List.mem_cons_of_mem _ ?_)); obtain ⟨⟨_, _, _, _⟩, _, _, _, _⟩ := K.out.cellsOf (g := g2) (by repeat (first | exact List.mem_cons_self | refine List.mem_cons_of_mem _ ?_)))
        | (at_builtin; refine wpList_appS Tryd.okC rfl (.tmp 18) (.tmp 20) 23 rfl Tryd.underlying23 w.heap.size _ l.cs rfl O1.out.cs _ B' r.cs d' rfl (K.out.at_ (r := ⟨r, A', B'⟩) (by simp)).cs lenk K.out.b.size ?_; intro v' W4 ho' hg' _ _; (have K2 := hid (K.out.grown O1.out.cs hg' RL0.out)); (have I1 := hid (Own.grownI O1.out.cs hg' O1.out.ls)); clear K; (have K := K2); clear K2 O1; obtain ⟨X2, n2, d2, rfl, hn2⟩ := ho'.shape; (have O1 : Hid (LnOw W4 w.heap.size ⟨l.q, l.ls, l.k, l.cs ++ r.cs⟩ A1 c1 X2 d2) := hid ⟨I1.out, by rw [← hn2.out]; exact ho'⟩); clear ho' hg' I1; obtain ⟨⟨_, _, _, _⟩, _, _, _, _⟩ := K.out.cellsOf (g := g1) (by repeat (first | exact List.mem_cons_self | refine List.mem_cons_of_mem _ ?_)); obtain ⟨⟨_, _, _, _⟩, _, _, _, _⟩ := K.out.cellsOf (g := g2) (by repeat (first | exact List.mem_cons_self | refine List.mem_cons_of_mem _ ?_)))
        | ((with_reducible show wpList _ _ _ _ _ _); refine Tryd.klStoreF (by rfl) 23 (by kernel_rfl) (.tmp 22) _ (by rfl) [_, _] (by exact K) 3 (by rfl) (by decide) (v := .slice _ _ _) (by rfl) (by rfl) ⟨_, _, _, _, _⟩ (by rfl) ?_; intro V2 X1 G1 K1; (dsimp only [List.cons_append, List.nil_append] at K1 X1 G1); clear K; (have K := K1); clear K1; (have O9 := hid (O1.out.og G1.out X1.out)); clear O1; (have O1 := O9); clear O9; clear X1 G1)
        | ((with_reducible show wpList _ _ _ _ _ _); refine Tryd.klStoreO (by rfl) (.tmp 4) _ (by rfl) [] (by exact K) (by rfl) (by rfl) (by exact ⟨rfl, rfl, rfl, rfl⟩) ?_; intro V2 X1 G1 K1; (dsimp only [List.cons_append, List.nil_append] at K1 X1 G1); clear K; (have K := K1); clear K1; (have O9 := hid (O1.out.og G1.out X1.out)); clear O1; (have O1 := O9); clear O9; clear X1 G1))
      have hn3 : n2 = (l.cs ++ r.cs).length := hn2.out
      subst hn3
      (try simp only [Exit.inBlock, Exit.then])
      rw [TL.out]
      refine Tryd.ret_lineE Tryd.results15 rfl g3 _ _ _ _ _ rfl rfl (K.out.bx ⟨g3, _, _, _, _⟩ (by repeat (first | exact List.mem_cons_self | refine List.mem_cons_of_mem _ ?_))).2 ?_
      exact ⟨A1, c1, X2, d2, rfl, O1.out.caps.1, O1.out.caps.2, O1.out.wr, K.out.b⟩
end Go.Proofs.YtpldmiencoolhaaDoor
