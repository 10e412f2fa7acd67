/- typing.Same, where the lines differ. (Printed by wip/bldoc.py.) -/
import Derived.Test.YtblbfoniimnkcaaDoorBgSame
import Derived.Test.YtblbfoniimnkcaaDoorBgKg
import Derived.BigQuiet
import Derived.Deep.QuietTactic
namespace Go.Proofs.YtblbfoniimnkcaaDoor
open Go.RowKit Go.Lib

set_option maxRecDepth 100000 in
set_option maxHeartbeats 4000000 in
theorem tSame_no (hs hs' : List Hd) (A A' : Option Addr) (n n' c c' C C' : Nat) (hn : n = hs.length) (hn' : n' = hs'.length) (w : World) (hd : DocAt w C A hs) (hd' : DocAt w C' A' hs') (h1 : hs.length ≤ 1000) (h2 : ∀ h ∈ hs, h.l.ls.length ≤ 1000000 ∧ h.l.cs.length ≤ 1000000) (al aa fl fa on off bl ba gl ga on' off' : Int) (hne : lnsOf hs ≠ lnsOf hs') :
    Calls Tryd.prog 20 #[.agg #[.slice A n c, .int .i64 al, .int .i64 aa, .int .i64 fl, .int .i64 fa, .int .i64 on, .int .i64 off], .agg #[.slice A' n' c', .int .i64 bl, .int .i64 ba, .int .i64 gl, .int .i64 ga, .int .i64 on', .int .i64 off']] w (IsBool false w) := by
  subst hn hn'
  have H2 := hid h2
  have K := hid (KG.start w [⟨hs, A, false⟩, ⟨hs', A', false⟩] (by simpa using ⟨hd.live, hd'.live⟩))
  have NE := hid (decide_eq_false hne)
  clear hd hd' h2 hne
  go_enter Tryd.func20, Tryd.ntmps20
  go_wp2_with (first
    | go_big_skip
    | ((with_reducible show wpList _ _ _ _ _ _); refine kgBox (by rfl) 26 _ (by rfl) (some 2) (by rfl) (by rfl) [_, _, _, _, _, _, _] (by rfl) K ?_; intro g2 V1 K1; clear K; (have K := K1); clear K1)
    | ((with_reducible show wpList _ _ _ _ _ _); refine kgBox (by rfl) 26 _ (by rfl) (some 3) (by rfl) (by rfl) [_, _, _, _, _, _, _] (by rfl) K ?_; intro g3 V1 K1; clear K; (have K := K1); clear K1)
    | ((with_reducible show wpList _ _ _ _ _ _); refine kgLoad1 (by rfl) 22 _ (by rfl) _ Tryd.underlying22 rfl K (by rfl) (by repeat (first | exact List.mem_cons_self | refine List.mem_cons_of_mem _ ?_)) (by rfl) ?_)
    | (go_at_call 39; (with_reducible refine (dSame_any hs hs' A A' _ _ c c' _ _ rfl rfl _ (K.out.at_ (d := ⟨hs, A, false⟩) (by simp)) (K.out.at_ (d := ⟨hs', A', false⟩) (by simp)) h1 H2.out).mono ?_); rintro e W2 ⟨rfl, hb⟩; rw [NE.out]; (have K2 := hid (K.out.later hb)); clear hb K; (have K := K2); clear K2))
  go_ret
  exact ⟨rfl, K.out.b⟩
end Go.Proofs.YtblbfoniimnkcaaDoor
