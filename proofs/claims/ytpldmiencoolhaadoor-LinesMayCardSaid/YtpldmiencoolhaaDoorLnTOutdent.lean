/- lines.turned with the change of lines.Outdent; lines.Outdent. (Printed by wip/lnkt.py.) -/
import Derived.Test.YtpldmiencoolhaaDoorLnKit
import Derived.Test.YtpldmiencoolhaaDoorLnOwn
import Derived.Test.YtpldmiencoolhaaDoorLnMay
import Derived.Test.YtpldmiencoolhaaDoorLnChgs
import Derived.BigQuiet
import Derived.Deep.QuietTactic
namespace Go.Proofs.YtpldmiencoolhaaDoor
open Go.RowKit Go.Lib

set_option maxRecDepth 100000 in
set_option maxHeartbeats 8000000 in
theorem turnedOutdent_any (l : Ln) (A : Option Addr) (n c : Nat) (B : Option Addr) (m d C : Nat) (hn : n = l.ls.length) (hm : m = l.cs.length) (w : World) (hl : LnAt w C l A B) (h1 : l.ls.length ≤ 1000000000) (h2 : l.cs.length ≤ 1000000000) (hf : FineC l.cs) (hT : Tb w) :
    Calls Tryd.prog 46 #[.agg #[.int .i64 l.q, .slice A n c, .int .i64 l.k, .slice B m d], .func (.func 49) #[] #[]] w (RetLnE (turnedL (fOutdent) l) w) := by
  subst hn hm
  have T := hid hT
  have FI := hid hf
  have B9 := hid h1
  have C9 := hid h2
  have K := hid (KL.start w [⟨l, A, B⟩] (by simpa using hl.live))
  clear hl hf hT h1 h2
  cases hb : mayL l with
  | false =>
    have MB := hid hb
    have TL := hid (show turnedL (fOutdent) l = (zL, 1) by unfold turnedL; rw [hb]; rfl)
    clear hb
    go_enter Tryd.func46, Tryd.ntmps46
    go_wp2_with (first
      | ((with_reducible show wpList _ _ _ _ _ _); refine Tryd.klBox (by rfl) _ (by rfl) (some 2) (by rfl) (by rfl) K ?_; intro g1 V1 K1; clear K; (have K := K1); clear K1)
      | ((with_reducible show wpList _ _ _ _ _ _); refine Tryd.klAlloc (by rfl) (by rfl) (some 4) (by rfl) K ?_; intro g3 V1 K1; clear K; (have K := K1); clear K1)
      | ((with_reducible show wpList _ _ _ _ _ _); refine Tryd.klLoad (by rfl) _ (by rfl) K (by rfl) (by repeat (first | exact List.mem_cons_self | refine List.mem_cons_of_mem _ ?_)) ?_)
      | (go_at_call 18; (with_reducible refine (lMay_any l A _ c B _ d _ rfl rfl _ (K.out.at_ (r := ⟨l, A, B⟩) (by simp)) B9.out C9.out FI.out (Utf8Tabs_below T.out K.out.b)).mono ?_); rintro e W2 ⟨rfl, hb⟩; rw [MB.out]; (have K2 := hid (K.out.later hb)); clear hb K; (have K := K2); clear K2)
      | ((with_reducible show wpList _ _ _ _ _ _); refine Tryd.klStore (by rfl) (.tmp 4) _ (by rfl) [] (by exact K) (by rfl) (by rfl) (by exact ⟨rfl, rfl, rfl, rfl⟩) ?_; intro V2 K1; (dsimp only [List.cons_append, List.nil_append] at K1); clear K; (have K := K1); clear K1))
    (try simp only [Exit.inBlock, Exit.then])
    rw [TL.out]
    refine Tryd.ret_lineE Tryd.results46 rfl g3 _ _ _ _ _ rfl rfl (K.out.bx ⟨g3, _, _, _, _⟩ (by repeat (first | exact List.mem_cons_self | refine List.mem_cons_of_mem _ ?_))).2 ?_
    exact ⟨none, 0, none, 0, rfl, Nat.zero_le _, Nat.zero_le _, LnWr.zero, K.out.b⟩
  | true =>
    have MB := hid hb
    obtain ⟨⟨r, b⟩, hr⟩ : ∃ r, fOutdent l = r := ⟨_, rfl⟩
    have FR := hid hr
    cases b with
    | false =>
      have TL := hid (show turnedL (fOutdent) l = (zL, 7) by unfold turnedL; rw [hb, hr]; rfl)
      clear hb hr
      go_enter Tryd.func46, Tryd.ntmps46
      go_wp2_with (first
        | ((with_reducible show wpList _ _ _ _ _ _); refine Tryd.klBox (by rfl) _ (by rfl) (some 2) (by rfl) (by rfl) K ?_; intro g1 V1 K1; clear K; (have K := K1); clear K1)
        | ((with_reducible show wpList _ _ _ _ _ _); refine Tryd.klAlloc (by rfl) (by rfl) (some 4) (by rfl) K ?_; intro g3 V1 K1; clear K; (have K := K1); clear K1)
        | ((with_reducible show wpList _ _ _ _ _ _); refine Tryd.klLoad (by rfl) _ (by rfl) K (by rfl) (by repeat (first | exact List.mem_cons_self | refine List.mem_cons_of_mem _ ?_)) ?_)
        | (go_at_call 18; (with_reducible refine (lMay_any l A _ c B _ d _ rfl rfl _ (K.out.at_ (r := ⟨l, A, B⟩) (by simp)) B9.out C9.out FI.out (Utf8Tabs_below T.out K.out.b)).mono ?_); rintro e W2 ⟨rfl, hb⟩; rw [MB.out]; (have K2 := hid (K.out.later hb)); clear hb K; (have K := K2); clear K2)
        | (go_at_call 21; (with_reducible refine (lOwn_any l A _ c B _ d _ rfl rfl _ (K.out.at_ (r := ⟨l, A, B⟩) (by simp)) B9.out C9.out).mono ?_); rintro e W2 ⟨A1, c1, B1, d1, rfl, ho, hb⟩; simp only [lnV]; (have O1 := hid (ho.based (base' := w.heap.size) K.out.b.size)); clear ho; (have K2 := hid (K.out.later hb)); clear hb K; (have K := K2); clear K2)
        | ((with_reducible show wpList _ _ _ _ _ _); refine Tryd.klStoreO (by rfl) (.tmp 2) _ (by rfl) [_] (by exact K) (by rfl) (by rfl) (by exact ⟨rfl, rfl, rfl, rfl⟩) ?_; intro V2 X1 G1 K1; (dsimp only [List.cons_append, List.nil_append] at K1 X1 G1); clear K; (have K := K1); clear K1; (have O2 := hid (O1.out.og G1.out X1.out)); clear O1)
        | (go_at_call 49; refine (outdent1_any l A1 _ c1 B1 _ d1 g1 w.heap.size rfl rfl _ (K.out.bx ⟨g1, .int .i64 l.q, .slice A1 l.ls.length c1, .int .i64 l.k, .slice B1 l.cs.length d1⟩ (by simp)).2 O2.out (K.out.bx ⟨g1, .int .i64 l.q, .slice A1 l.ls.length c1, .int .i64 l.k, .slice B1 l.cs.length d1⟩ (by simp)).1 MB.out).mono ?_; rintro e W3 hc; unfold ChgRet at hc; rw [FR.out] at hc; dsimp only at hc; obtain ⟨rfl, A3, c3, B3, d3, hx, le1, le2, wr3, hb3, keep⟩ := hc; (have E1 := hid le1); (have E2 := hid le2); (have K2 := hid (KL.chg (O1 := [⟨g3, _, _, _, _⟩]) (t := ⟨g1, .int .i64 l.q, .slice A1 l.ls.length c1, .int .i64 l.k, .slice B1 l.cs.length d1⟩) K.out hx wr3 hb3 keep)); (dsimp only [List.cons_append, List.nil_append] at K2); clear hx wr3 hb3 keep le1 le2 O2 K; (have K := K2); clear K2)
        | ((with_reducible show wpList _ _ _ _ _ _); refine Tryd.klStore (by rfl) (.tmp 4) _ (by rfl) [] (by exact K) (by rfl) (by rfl) (by exact ⟨rfl, rfl, rfl, rfl⟩) ?_; intro V2 K1; (dsimp only [List.cons_append, List.nil_append] at K1); clear K; (have K := K1); clear K1))
      (try simp only [Exit.inBlock, Exit.then])
      rw [TL.out]
      refine Tryd.ret_lineE Tryd.results46 rfl g3 _ _ _ _ _ rfl rfl (K.out.bx ⟨g3, _, _, _, _⟩ (by repeat (first | exact List.mem_cons_self | refine List.mem_cons_of_mem _ ?_))).2 ?_
      exact ⟨none, 0, none, 0, rfl, Nat.zero_le _, Nat.zero_le _, LnWr.zero, K.out.b⟩
    | true =>
      have TL := hid (show turnedL (fOutdent) l = (r, 0) by unfold turnedL; rw [hb, hr]; rfl)
      clear hb hr
      go_enter Tryd.func46, Tryd.ntmps46
      go_wp2_with (first
        | ((with_reducible show wpList _ _ _ _ _ _); refine Tryd.klBox (by rfl) _ (by rfl) (some 2) (by rfl) (by rfl) K ?_; intro g1 V1 K1; clear K; (have K := K1); clear K1)
        | ((with_reducible show wpList _ _ _ _ _ _); refine Tryd.klAlloc (by rfl) (by rfl) (some 4) (by rfl) K ?_; intro g3 V1 K1; clear K; (have K := K1); clear K1)
        | ((with_reducible show wpList _ _ _ _ _ _); refine Tryd.klLoad (by rfl) _ (by rfl) K (by rfl) (by repeat (first | exact List.mem_cons_self | refine List.mem_cons_of_mem _ ?_)) ?_)
        | (go_at_call 18; (with_reducible refine (lMay_any l A _ c B _ d _ rfl rfl _ (K.out.at_ (r := ⟨l, A, B⟩) (by simp)) B9.out C9.out FI.out (Utf8Tabs_below T.out K.out.b)).mono ?_); rintro e W2 ⟨rfl, hb⟩; rw [MB.out]; (have K2 := hid (K.out.later hb)); clear hb K; (have K := K2); clear K2)
        | (go_at_call 21; (with_reducible refine (lOwn_any l A _ c B _ d _ rfl rfl _ (K.out.at_ (r := ⟨l, A, B⟩) (by simp)) B9.out C9.out).mono ?_); rintro e W2 ⟨A1, c1, B1, d1, rfl, ho, hb⟩; simp only [lnV]; (have O1 := hid (ho.based (base' := w.heap.size) K.out.b.size)); clear ho; (have K2 := hid (K.out.later hb)); clear hb K; (have K := K2); clear K2)
        | ((with_reducible show wpList _ _ _ _ _ _); refine Tryd.klStoreO (by rfl) (.tmp 2) _ (by rfl) [_] (by exact K) (by rfl) (by rfl) (by exact ⟨rfl, rfl, rfl, rfl⟩) ?_; intro V2 X1 G1 K1; (dsimp only [List.cons_append, List.nil_append] at K1 X1 G1); clear K; (have K := K1); clear K1; (have O2 := hid (O1.out.og G1.out X1.out)); clear O1)
        | (go_at_call 49; refine (outdent1_any l A1 _ c1 B1 _ d1 g1 w.heap.size rfl rfl _ (K.out.bx ⟨g1, .int .i64 l.q, .slice A1 l.ls.length c1, .int .i64 l.k, .slice B1 l.cs.length d1⟩ (by simp)).2 O2.out (K.out.bx ⟨g1, .int .i64 l.q, .slice A1 l.ls.length c1, .int .i64 l.k, .slice B1 l.cs.length d1⟩ (by simp)).1 MB.out).mono ?_; rintro e W3 hc; unfold ChgRet at hc; rw [FR.out] at hc; dsimp only at hc; obtain ⟨rfl, A3, c3, B3, d3, hx, le1, le2, wr3, hb3, keep⟩ := hc; (have E1 := hid le1); (have E2 := hid le2); (have K2 := hid (KL.chg (O1 := [⟨g3, _, _, _, _⟩]) (t := ⟨g1, .int .i64 l.q, .slice A1 l.ls.length c1, .int .i64 l.k, .slice B1 l.cs.length d1⟩) K.out hx wr3 hb3 keep)); (dsimp only [List.cons_append, List.nil_append] at K2); clear hx wr3 hb3 keep le1 le2 O2 K; (have K := K2); clear K2)
        | ((with_reducible show wpList _ _ _ _ _ _); refine Tryd.klStore (by rfl) (.tmp 4) _ (by rfl) [] (by exact K) (by rfl) (by rfl) (by exact ⟨rfl, rfl, rfl, rfl⟩) ?_; intro V2 K1; (dsimp only [List.cons_append, List.nil_append] at K1); clear K; (have K := K1); clear K1))
      (try simp only [Exit.inBlock, Exit.then])
      rw [TL.out]
      refine Tryd.ret_lineE Tryd.results46 rfl g3 _ _ _ _ _ rfl rfl (K.out.bx ⟨g3, _, _, _, _⟩ (by repeat (first | exact List.mem_cons_self | refine List.mem_cons_of_mem _ ?_))).2 ?_
      exact ⟨A3, c3, B3, d3, rfl, E1.out, E2.out, K.out.wr ⟨r, A3, B3⟩ (by simp), K.out.b⟩
set_option maxRecDepth 100000 in
set_option maxHeartbeats 8000000 in
theorem lOutdent_any (l : Ln) (A : Option Addr) (n c : Nat) (B : Option Addr) (m d C : Nat) (hn : n = l.ls.length) (hm : m = l.cs.length) (w : World) (hl : LnAt w C l A B) (h1 : l.ls.length ≤ 1000000000) (h2 : l.cs.length ≤ 1000000000) (hf : FineC l.cs) (hT : Tb w) :
    Calls Tryd.prog 25 #[.agg #[.int .i64 l.q, .slice A n c, .int .i64 l.k, .slice B m d]] w (RetLnE (outdentL l) w) := by
  rw [outdentL_eq]
  subst hn hm
  have T := hid hT
  have FI := hid hf
  have B9 := hid h1
  have C9 := hid h2
  have K := hid (KL.start w [⟨l, A, B⟩] (by simpa using hl.live))
  clear hl hf hT h1 h2
  obtain ⟨⟨r, re⟩, hr⟩ : ∃ r, turnedL (fOutdent) l = r := ⟨_, rfl⟩
  have FR := hid hr
  have TL := FR
  clear hr
  go_enter Tryd.func25, Tryd.ntmps25
  go_wp2_with (first
    | ((with_reducible show wpList _ _ _ _ _ _); refine Tryd.klBox (by rfl) _ (by rfl) (some 1) (by rfl) (by rfl) K ?_; intro g1 V1 K1; clear K; (have K := K1); clear K1)
    | ((with_reducible show wpList _ _ _ _ _ _); refine Tryd.klAlloc (by rfl) (by rfl) (some 2) (by rfl) K ?_; intro g3 V1 K1; clear K; (have K := K1); clear K1)
    | ((with_reducible show wpList _ _ _ _ _ _); refine Tryd.klLoad (by rfl) _ (by rfl) K (by rfl) (by repeat (first | exact List.mem_cons_self | refine List.mem_cons_of_mem _ ?_)) ?_)
    | (go_at_call 46; refine (turnedOutdent_any l A _ c B _ d _ rfl rfl _ (K.out.at_ (r := ⟨l, A, B⟩) (by simp)) B9.out C9.out FI.out (Utf8Tabs_below T.out K.out.b)).mono ?_; rintro e W3 hc; unfold RetLnE at hc; rw [FR.out] at hc; dsimp only at hc; obtain ⟨A3, c3, B3, d3, rfl, le1, le2, wr3, hb3⟩ := hc; simp only [lnV]; (have E1 := hid le1); (have E2 := hid le2); (have K2 := hid (K.out.addW hb3 wr3)); clear hb3 wr3 le1 le2 K; (have K := K2); clear K2)
    | ((with_reducible show wpList _ _ _ _ _ _); refine Tryd.klStore (by rfl) (.tmp 2) _ (by rfl) [] (by exact K) (by rfl) (by rfl) (by exact ⟨rfl, rfl, rfl, rfl⟩) ?_; intro V2 K1; (dsimp only [List.cons_append, List.nil_append] at K1); clear K; (have K := K1); clear K1))
  (try simp only [Exit.inBlock, Exit.then])
  rw [TL.out]
  refine Tryd.ret_lineE Tryd.results25 rfl g3 _ _ _ _ _ rfl rfl (K.out.bx ⟨g3, _, _, _, _⟩ (by repeat (first | exact List.mem_cons_self | refine List.mem_cons_of_mem _ ?_))).2 ?_
  exact ⟨A3, c3, B3, d3, rfl, E1.out, E2.out, K.out.wr ⟨r, A3, B3⟩ (by simp), K.out.b⟩
end Go.Proofs.YtpldmiencoolhaaDoor
