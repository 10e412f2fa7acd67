/- The walk of lines.Frame. (Printed by wip/lnframe.py.) -/
import Derived.Test.YtpldmiencoolhaaDoorLnKit
import Derived.Test.YtpldmiencoolhaaDoorLnOwn
import Derived.BigQuiet
import Derived.Deep.QuietTactic
namespace Go.Proofs.YtpldmiencoolhaaDoor
open Go.RowKit Go.Lib

set_option maxRecDepth 100000 in
set_option maxHeartbeats 8000000 in
theorem lFrame_any (l : Ln) (A : Option Addr) (n c : Nat) (B : Option Addr) (m d C : Nat) (hn : n = l.ls.length) (hm : m = l.cs.length) (w : World) (hl : LnAt w C l A B) (h1 : l.ls.length ≤ 1000000000) (h2 : l.cs.length ≤ 1000000000) :
    Calls Tryd.prog 22 #[.agg #[.int .i64 l.q, .slice A n c, .int .i64 l.k, .slice B m d]] w (RetLnO ⟨l.q, l.ls, l.k, []⟩ w) := by
  subst hn hm
  have B9 := hid h1
  have C9 := hid h2
  have K := hid (KL.start w [⟨l, A, B⟩] (by simpa using hl.live))
  clear hl h1 h2
  go_enter Tryd.func22, Tryd.ntmps22
  go_wp2_with (first
    | ((with_reducible show wpList _ _ _ _ _ _); refine Tryd.klBox (by rfl) _ (by rfl) (some 1) (by rfl) (by rfl) K ?_; intro g1 V1 K1; clear K; (have K := K1); clear K1)
    | ((with_reducible show wpList _ _ _ _ _ _); refine Tryd.klAlloc (by rfl) (by rfl) (some 2) (by rfl) K ?_; intro g3 V1 K1; clear K; (have K := K1); clear K1)
    | ((with_reducible show wpList _ _ _ _ _ _); refine Tryd.klLoad (by rfl) _ (by rfl) K (by rfl) (by repeat (first | exact List.mem_cons_self | refine List.mem_cons_of_mem _ ?_)) ?_)
    | (go_at_call 21; (with_reducible refine (lOwn_any l A _ c B _ d _ rfl rfl _ (K.out.at_ (r := ⟨l, A, B⟩) (by simp)) B9.out C9.out).mono ?_); rintro e W2 ⟨A1, c1, B1, d1, rfl, ho, hb⟩; simp only [lnV]; (have O1 := hid (ho.based (base' := w.heap.size) K.out.b.size)); clear ho; (have K2 := hid (K.out.later hb)); clear hb K; (have K := K2); clear K2)
    | ((with_reducible show wpList _ _ _ _ _ _); refine Tryd.klStoreO (by rfl) (.tmp 1) _ (by rfl) [_] (by exact K) (by rfl) (by rfl) (by exact ⟨rfl, rfl, rfl, rfl⟩) ?_; intro V2 X1 G1 K1; (dsimp only [List.cons_append, List.nil_append] at K1 X1 G1); clear K; (have K := K1); clear K1; (have O9 := hid (O1.out.og G1.out X1.out)); clear O1; (have O1 := O9); clear O9; clear X1 G1)
    | ((with_reducible show wpList _ _ _ _ _ _); refine Tryd.klStoreF (by rfl) 23 (by kernel_rfl) (.tmp 5) _ (by rfl) [_] (by exact K) 3 (by rfl) (by decide) (v := .slice _ _ _) (by rfl) (by rfl) ⟨_, _, _, _, _⟩ (by rfl) ?_; intro V2 X1 G1 K1; (dsimp only [List.cons_append, List.nil_append] at K1 X1 G1); clear K; (have K := K1); clear K1; (have O9 := hid (O1.out.og G1.out X1.out)); clear O1; (have O1 := O9); clear O9; clear X1 G1)
    | ((with_reducible show wpList _ _ _ _ _ _); refine Tryd.klStoreO (by rfl) (.tmp 2) _ (by rfl) [] (by exact K) (by rfl) (by rfl) (by exact ⟨rfl, rfl, rfl, rfl⟩) ?_; intro V2 X1 G1 K1; (dsimp only [List.cons_append, List.nil_append] at K1 X1 G1); clear K; (have K := K1); clear K1; (have O9 := hid (O1.out.og G1.out X1.out)); clear O1; (have O1 := O9); clear O9; clear X1 G1))
  (try simp only [Exit.inBlock, Exit.then])
  refine Tryd.ret_line Tryd.results22 rfl g3 _ _ _ _ rfl (K.out.bx ⟨g3, _, _, _, _⟩ (by repeat (first | exact List.mem_cons_self | refine List.mem_cons_of_mem _ ?_))).2 ?_
  exact ⟨A1, c1, none, 0, rfl, ⟨O1.out.ls, Own.nil⟩, K.out.b⟩
end Go.Proofs.YtpldmiencoolhaaDoor
