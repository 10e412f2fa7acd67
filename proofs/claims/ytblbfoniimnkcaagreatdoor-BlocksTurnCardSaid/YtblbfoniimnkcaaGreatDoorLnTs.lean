/- Texts on cells and lines, put together: LnTIndent, LnTOutdent, LnTList, LnTFormat. -/
import Derived.Test.YtblbfoniimnkcaaGreatDoorLnKit
import Derived.Test.YtblbfoniimnkcaaGreatDoorLnOwn
import Derived.Test.YtblbfoniimnkcaaGreatDoorLnMay
import Derived.Test.YtblbfoniimnkcaaGreatDoorLnChgs
import Derived.BigQuiet
import Derived.Deep.QuietTactic
/- lines.turned with the change of lines.Indent; lines.Indent. (Printed by wip/lnkt.py.) -/
namespace Go.Proofs.YtblbfoniimnkcaaGreatDoor
open Go.RowKit Go.Lib

set_option maxRecDepth 100000 in
set_option maxHeartbeats 8000000 in
theorem turnedIndent_any (l : Ln) (A : Option Addr) (n c : Nat) (B : Option Addr) (m d C : Nat) (hn : n = l.ls.length) (hm : m = l.cs.length) (w : World) (hl : LnAt w C l A B) (h1 : l.ls.length ≤ 1000000000) (h2 : l.cs.length ≤ 1000000000) (hf : FineC l.cs) (hT : Tb w) :
    Calls Tryz.prog 45 #[.agg #[.int .i64 l.q, .slice A n c, .int .i64 l.k, .slice B m d], .func (.func 51) #[] #[]] w (RetLnE (turnedL (fIndent) l) w) := by
  subst hn hm
  have T := hid hT
  have FI := hid hf
  have B9 := hid h1
  have C9 := hid h2
  have K := hid (KL.start w [⟨l, A, B⟩] (by simpa using hl.live))
  clear hl hf hT h1 h2
  cases hb : mayL l with
  | false =>
    have MB := hid hb
    have TL := hid (show turnedL (fIndent) l = (zL, 1) by unfold turnedL; rw [hb]; rfl)
    clear hb
    go_enter Tryz.func45, Tryz.ntmps45
    go_wp2_with (first
      | ((with_reducible show wpList _ _ _ _ _ _); refine Tryz.klBox (by rfl) _ (by rfl) (some 2) (by rfl) (by rfl) K ?_; intro g1 V1 K1; clear K; (have K := K1); clear K1)
      | ((with_reducible show wpList _ _ _ _ _ _); refine Tryz.klAlloc (by rfl) (by rfl) (some 4) (by rfl) K ?_; intro g3 V1 K1; clear K; (have K := K1); clear K1)
      | ((with_reducible show wpList _ _ _ _ _ _); refine Tryz.klLoad (by rfl) _ (by rfl) K (by rfl) (by repeat (first | exact List.mem_cons_self | refine List.mem_cons_of_mem _ ?_)) ?_)
      | (go_at_call 60; (with_reducible refine (lMay_any l A _ c B _ d _ rfl rfl _ (K.out.at_ (r := ⟨l, A, B⟩) (by simp)) B9.out C9.out FI.out (Utf8Tabs_below T.out K.out.b)).mono ?_); rintro e W2 ⟨rfl, hb⟩; rw [MB.out]; (have K2 := hid (K.out.later hb)); clear hb K; (have K := K2); clear K2)
      | ((with_reducible show wpList _ _ _ _ _ _); refine Tryz.klStore (by rfl) (.tmp 4) _ (by rfl) [] (by exact K) (by rfl) (by rfl) (by exact ⟨rfl, rfl, rfl, rfl⟩) ?_; intro V2 K1; (dsimp only [List.cons_append, List.nil_append] at K1); clear K; (have K := K1); clear K1))
    (try simp only [Exit.inBlock, Exit.then])
    rw [TL.out]
    refine Tryz.ret_lineE Tryz.results45 rfl g3 _ _ _ _ _ rfl rfl (K.out.bx ⟨g3, _, _, _, _⟩ (by repeat (first | exact List.mem_cons_self | refine List.mem_cons_of_mem _ ?_))).2 ?_
    exact ⟨none, 0, none, 0, rfl, Nat.zero_le _, Nat.zero_le _, LnWr.zero, K.out.b⟩
  | true =>
    have MB := hid hb
    obtain ⟨⟨r, b⟩, hr⟩ : ∃ r, fIndent l = r := ⟨_, rfl⟩
    have FR := hid hr
    cases b with
    | false =>
      have TL := hid (show turnedL (fIndent) l = (zL, 7) by unfold turnedL; rw [hb, hr]; rfl)
      clear hb hr
      go_enter Tryz.func45, Tryz.ntmps45
      go_wp2_with (first
        | ((with_reducible show wpList _ _ _ _ _ _); refine Tryz.klBox (by rfl) _ (by rfl) (some 2) (by rfl) (by rfl) K ?_; intro g1 V1 K1; clear K; (have K := K1); clear K1)
        | ((with_reducible show wpList _ _ _ _ _ _); refine Tryz.klAlloc (by rfl) (by rfl) (some 4) (by rfl) K ?_; intro g3 V1 K1; clear K; (have K := K1); clear K1)
        | ((with_reducible show wpList _ _ _ _ _ _); refine Tryz.klLoad (by rfl) _ (by rfl) K (by rfl) (by repeat (first | exact List.mem_cons_self | refine List.mem_cons_of_mem _ ?_)) ?_)
        | (go_at_call 60; (with_reducible refine (lMay_any l A _ c B _ d _ rfl rfl _ (K.out.at_ (r := ⟨l, A, B⟩) (by simp)) B9.out C9.out FI.out (Utf8Tabs_below T.out K.out.b)).mono ?_); rintro e W2 ⟨rfl, hb⟩; rw [MB.out]; (have K2 := hid (K.out.later hb)); clear hb K; (have K := K2); clear K2)
        | (go_at_call 66; (with_reducible refine (lOwn_any l A _ c B _ d _ rfl rfl _ (K.out.at_ (r := ⟨l, A, B⟩) (by simp)) B9.out C9.out).mono ?_); rintro e W2 ⟨A1, c1, B1, d1, rfl, ho, hb⟩; simp only [lnV]; (have O1 := hid (ho.based (base' := w.heap.size) K.out.b.size)); clear ho; (have K2 := hid (K.out.later hb)); clear hb K; (have K := K2); clear K2)
        | ((with_reducible show wpList _ _ _ _ _ _); refine Tryz.klStoreO (by rfl) (.tmp 2) _ (by rfl) [_] (by exact K) (by rfl) (by rfl) (by exact ⟨rfl, rfl, rfl, rfl⟩) ?_; intro V2 X1 G1 K1; (dsimp only [List.cons_append, List.nil_append] at K1 X1 G1); clear K; (have K := K1); clear K1; (have O2 := hid (O1.out.og G1.out X1.out)); clear O1)
        | (go_at_call 51; refine (indent1_any l A1 _ c1 B1 _ d1 g1 w.heap.size rfl rfl _ (K.out.bx ⟨g1, .int .i64 l.q, .slice A1 l.ls.length c1, .int .i64 l.k, .slice B1 l.cs.length d1⟩ (by simp)).2 O2.out (K.out.bx ⟨g1, .int .i64 l.q, .slice A1 l.ls.length c1, .int .i64 l.k, .slice B1 l.cs.length d1⟩ (by simp)).1 MB.out).mono ?_; rintro e W3 hc; unfold ChgRet at hc; rw [FR.out] at hc; dsimp only at hc; obtain ⟨rfl, A3, c3, B3, d3, hx, le1, le2, wr3, hb3, keep⟩ := hc; (have E1 := hid le1); (have E2 := hid le2); (have K2 := hid (KL.chg (O1 := [⟨g3, _, _, _, _⟩]) (t := ⟨g1, .int .i64 l.q, .slice A1 l.ls.length c1, .int .i64 l.k, .slice B1 l.cs.length d1⟩) K.out hx wr3 hb3 keep)); (dsimp only [List.cons_append, List.nil_append] at K2); clear hx wr3 hb3 keep le1 le2 O2 K; (have K := K2); clear K2)
        | ((with_reducible show wpList _ _ _ _ _ _); refine Tryz.klStore (by rfl) (.tmp 4) _ (by rfl) [] (by exact K) (by rfl) (by rfl) (by exact ⟨rfl, rfl, rfl, rfl⟩) ?_; intro V2 K1; (dsimp only [List.cons_append, List.nil_append] at K1); clear K; (have K := K1); clear K1))
      (try simp only [Exit.inBlock, Exit.then])
      rw [TL.out]
      refine Tryz.ret_lineE Tryz.results45 rfl g3 _ _ _ _ _ rfl rfl (K.out.bx ⟨g3, _, _, _, _⟩ (by repeat (first | exact List.mem_cons_self | refine List.mem_cons_of_mem _ ?_))).2 ?_
      exact ⟨none, 0, none, 0, rfl, Nat.zero_le _, Nat.zero_le _, LnWr.zero, K.out.b⟩
    | true =>
      have TL := hid (show turnedL (fIndent) l = (r, 0) by unfold turnedL; rw [hb, hr]; rfl)
      clear hb hr
      go_enter Tryz.func45, Tryz.ntmps45
      go_wp2_with (first
        | ((with_reducible show wpList _ _ _ _ _ _); refine Tryz.klBox (by rfl) _ (by rfl) (some 2) (by rfl) (by rfl) K ?_; intro g1 V1 K1; clear K; (have K := K1); clear K1)
        | ((with_reducible show wpList _ _ _ _ _ _); refine Tryz.klAlloc (by rfl) (by rfl) (some 4) (by rfl) K ?_; intro g3 V1 K1; clear K; (have K := K1); clear K1)
        | ((with_reducible show wpList _ _ _ _ _ _); refine Tryz.klLoad (by rfl) _ (by rfl) K (by rfl) (by repeat (first | exact List.mem_cons_self | refine List.mem_cons_of_mem _ ?_)) ?_)
        | (go_at_call 60; (with_reducible refine (lMay_any l A _ c B _ d _ rfl rfl _ (K.out.at_ (r := ⟨l, A, B⟩) (by simp)) B9.out C9.out FI.out (Utf8Tabs_below T.out K.out.b)).mono ?_); rintro e W2 ⟨rfl, hb⟩; rw [MB.out]; (have K2 := hid (K.out.later hb)); clear hb K; (have K := K2); clear K2)
        | (go_at_call 66; (with_reducible refine (lOwn_any l A _ c B _ d _ rfl rfl _ (K.out.at_ (r := ⟨l, A, B⟩) (by simp)) B9.out C9.out).mono ?_); rintro e W2 ⟨A1, c1, B1, d1, rfl, ho, hb⟩; simp only [lnV]; (have O1 := hid (ho.based (base' := w.heap.size) K.out.b.size)); clear ho; (have K2 := hid (K.out.later hb)); clear hb K; (have K := K2); clear K2)
        | ((with_reducible show wpList _ _ _ _ _ _); refine Tryz.klStoreO (by rfl) (.tmp 2) _ (by rfl) [_] (by exact K) (by rfl) (by rfl) (by exact ⟨rfl, rfl, rfl, rfl⟩) ?_; intro V2 X1 G1 K1; (dsimp only [List.cons_append, List.nil_append] at K1 X1 G1); clear K; (have K := K1); clear K1; (have O2 := hid (O1.out.og G1.out X1.out)); clear O1)
        | (go_at_call 51; refine (indent1_any l A1 _ c1 B1 _ d1 g1 w.heap.size rfl rfl _ (K.out.bx ⟨g1, .int .i64 l.q, .slice A1 l.ls.length c1, .int .i64 l.k, .slice B1 l.cs.length d1⟩ (by simp)).2 O2.out (K.out.bx ⟨g1, .int .i64 l.q, .slice A1 l.ls.length c1, .int .i64 l.k, .slice B1 l.cs.length d1⟩ (by simp)).1 MB.out).mono ?_; rintro e W3 hc; unfold ChgRet at hc; rw [FR.out] at hc; dsimp only at hc; obtain ⟨rfl, A3, c3, B3, d3, hx, le1, le2, wr3, hb3, keep⟩ := hc; (have E1 := hid le1); (have E2 := hid le2); (have K2 := hid (KL.chg (O1 := [⟨g3, _, _, _, _⟩]) (t := ⟨g1, .int .i64 l.q, .slice A1 l.ls.length c1, .int .i64 l.k, .slice B1 l.cs.length d1⟩) K.out hx wr3 hb3 keep)); (dsimp only [List.cons_append, List.nil_append] at K2); clear hx wr3 hb3 keep le1 le2 O2 K; (have K := K2); clear K2)
        | ((with_reducible show wpList _ _ _ _ _ _); refine Tryz.klStore (by rfl) (.tmp 4) _ (by rfl) [] (by exact K) (by rfl) (by rfl) (by exact ⟨rfl, rfl, rfl, rfl⟩) ?_; intro V2 K1; (dsimp only [List.cons_append, List.nil_append] at K1); clear K; (have K := K1); clear K1))
      (try simp only [Exit.inBlock, Exit.then])
      rw [TL.out]
      refine Tryz.ret_lineE Tryz.results45 rfl g3 _ _ _ _ _ rfl rfl (K.out.bx ⟨g3, _, _, _, _⟩ (by repeat (first | exact List.mem_cons_self | refine List.mem_cons_of_mem _ ?_))).2 ?_
      exact ⟨A3, c3, B3, d3, rfl, E1.out, E2.out, K.out.wr ⟨r, A3, B3⟩ (by simp), K.out.b⟩
set_option maxRecDepth 100000 in
set_option maxHeartbeats 8000000 in
theorem lIndent_any (l : Ln) (A : Option Addr) (n c : Nat) (B : Option Addr) (m d C : Nat) (hn : n = l.ls.length) (hm : m = l.cs.length) (w : World) (hl : LnAt w C l A B) (h1 : l.ls.length ≤ 1000000000) (h2 : l.cs.length ≤ 1000000000) (hf : FineC l.cs) (hT : Tb w) :
    Calls Tryz.prog 31 #[.agg #[.int .i64 l.q, .slice A n c, .int .i64 l.k, .slice B m d]] w (RetLnE (indentL l) w) := by
  rw [indentL_eq]
  subst hn hm
  have T := hid hT
  have FI := hid hf
  have B9 := hid h1
  have C9 := hid h2
  have K := hid (KL.start w [⟨l, A, B⟩] (by simpa using hl.live))
  clear hl hf hT h1 h2
  obtain ⟨⟨r, re⟩, hr⟩ : ∃ r, turnedL (fIndent) l = r := ⟨_, rfl⟩
  have FR := hid hr
  have TL := FR
  clear hr
  go_enter Tryz.func31, Tryz.ntmps31
  go_wp2_with (first
    | ((with_reducible show wpList _ _ _ _ _ _); refine Tryz.klBox (by rfl) _ (by rfl) (some 1) (by rfl) (by rfl) K ?_; intro g1 V1 K1; clear K; (have K := K1); clear K1)
    | ((with_reducible show wpList _ _ _ _ _ _); refine Tryz.klAlloc (by rfl) (by rfl) (some 2) (by rfl) K ?_; intro g3 V1 K1; clear K; (have K := K1); clear K1)
    | ((with_reducible show wpList _ _ _ _ _ _); refine Tryz.klLoad (by rfl) _ (by rfl) K (by rfl) (by repeat (first | exact List.mem_cons_self | refine List.mem_cons_of_mem _ ?_)) ?_)
    | (go_at_call 45; refine (turnedIndent_any l A _ c B _ d _ rfl rfl _ (K.out.at_ (r := ⟨l, A, B⟩) (by simp)) B9.out C9.out FI.out (Utf8Tabs_below T.out K.out.b)).mono ?_; rintro e W3 hc; unfold RetLnE at hc; rw [FR.out] at hc; dsimp only at hc; obtain ⟨A3, c3, B3, d3, rfl, le1, le2, wr3, hb3⟩ := hc; simp only [lnV]; (have E1 := hid le1); (have E2 := hid le2); (have K2 := hid (K.out.addW hb3 wr3)); clear hb3 wr3 le1 le2 K; (have K := K2); clear K2)
    | ((with_reducible show wpList _ _ _ _ _ _); refine Tryz.klStore (by rfl) (.tmp 2) _ (by rfl) [] (by exact K) (by rfl) (by rfl) (by exact ⟨rfl, rfl, rfl, rfl⟩) ?_; intro V2 K1; (dsimp only [List.cons_append, List.nil_append] at K1); clear K; (have K := K1); clear K1))
  (try simp only [Exit.inBlock, Exit.then])
  rw [TL.out]
  refine Tryz.ret_lineE Tryz.results31 rfl g3 _ _ _ _ _ rfl rfl (K.out.bx ⟨g3, _, _, _, _⟩ (by repeat (first | exact List.mem_cons_self | refine List.mem_cons_of_mem _ ?_))).2 ?_
  exact ⟨A3, c3, B3, d3, rfl, E1.out, E2.out, K.out.wr ⟨r, A3, B3⟩ (by simp), K.out.b⟩
end Go.Proofs.YtblbfoniimnkcaaGreatDoor

/- lines.turned with the change of lines.Outdent; lines.Outdent. (Printed by wip/lnkt.py.) -/
namespace Go.Proofs.YtblbfoniimnkcaaGreatDoor
open Go.RowKit Go.Lib

set_option maxRecDepth 100000 in
set_option maxHeartbeats 8000000 in
theorem turnedOutdent_any (l : Ln) (A : Option Addr) (n c : Nat) (B : Option Addr) (m d C : Nat) (hn : n = l.ls.length) (hm : m = l.cs.length) (w : World) (hl : LnAt w C l A B) (h1 : l.ls.length ≤ 1000000000) (h2 : l.cs.length ≤ 1000000000) (hf : FineC l.cs) (hT : Tb w) :
    Calls Tryz.prog 45 #[.agg #[.int .i64 l.q, .slice A n c, .int .i64 l.k, .slice B m d], .func (.func 53) #[] #[]] w (RetLnE (turnedL (fOutdent) l) w) := by
  subst hn hm
  have T := hid hT
  have FI := hid hf
  have B9 := hid h1
  have C9 := hid h2
  have K := hid (KL.start w [⟨l, A, B⟩] (by simpa using hl.live))
  clear hl hf hT h1 h2
  cases hb : mayL l with
  | false =>
    have MB := hid hb
    have TL := hid (show turnedL (fOutdent) l = (zL, 1) by unfold turnedL; rw [hb]; rfl)
    clear hb
    go_enter Tryz.func45, Tryz.ntmps45
    go_wp2_with (first
      | ((with_reducible show wpList _ _ _ _ _ _); refine Tryz.klBox (by rfl) _ (by rfl) (some 2) (by rfl) (by rfl) K ?_; intro g1 V1 K1; clear K; (have K := K1); clear K1)
      | ((with_reducible show wpList _ _ _ _ _ _); refine Tryz.klAlloc (by rfl) (by rfl) (some 4) (by rfl) K ?_; intro g3 V1 K1; clear K; (have K := K1); clear K1)
      | ((with_reducible show wpList _ _ _ _ _ _); refine Tryz.klLoad (by rfl) _ (by rfl) K (by rfl) (by repeat (first | exact List.mem_cons_self | refine List.mem_cons_of_mem _ ?_)) ?_)
      | (go_at_call 60; (with_reducible refine (lMay_any l A _ c B _ d _ rfl rfl _ (K.out.at_ (r := ⟨l, A, B⟩) (by simp)) B9.out C9.out FI.out (Utf8Tabs_below T.out K.out.b)).mono ?_); rintro e W2 ⟨rfl, hb⟩; rw [MB.out]; (have K2 := hid (K.out.later hb)); clear hb K; (have K := K2); clear K2)
      | ((with_reducible show wpList _ _ _ _ _ _); refine Tryz.klStore (by rfl) (.tmp 4) _ (by rfl) [] (by exact K) (by rfl) (by rfl) (by exact ⟨rfl, rfl, rfl, rfl⟩) ?_; intro V2 K1; (dsimp only [List.cons_append, List.nil_append] at K1); clear K; (have K := K1); clear K1))
    (try simp only [Exit.inBlock, Exit.then])
    rw [TL.out]
    refine Tryz.ret_lineE Tryz.results45 rfl g3 _ _ _ _ _ rfl rfl (K.out.bx ⟨g3, _, _, _, _⟩ (by repeat (first | exact List.mem_cons_self | refine List.mem_cons_of_mem _ ?_))).2 ?_
    exact ⟨none, 0, none, 0, rfl, Nat.zero_le _, Nat.zero_le _, LnWr.zero, K.out.b⟩
  | true =>
    have MB := hid hb
    obtain ⟨⟨r, b⟩, hr⟩ : ∃ r, fOutdent l = r := ⟨_, rfl⟩
    have FR := hid hr
    cases b with
    | false =>
      have TL := hid (show turnedL (fOutdent) l = (zL, 7) by unfold turnedL; rw [hb, hr]; rfl)
      clear hb hr
      go_enter Tryz.func45, Tryz.ntmps45
      go_wp2_with (first
        | ((with_reducible show wpList _ _ _ _ _ _); refine Tryz.klBox (by rfl) _ (by rfl) (some 2) (by rfl) (by rfl) K ?_; intro g1 V1 K1; clear K; (have K := K1); clear K1)
        | ((with_reducible show wpList _ _ _ _ _ _); refine Tryz.klAlloc (by rfl) (by rfl) (some 4) (by rfl) K ?_; intro g3 V1 K1; clear K; (have K := K1); clear K1)
        | ((with_reducible show wpList _ _ _ _ _ _); refine Tryz.klLoad (by rfl) _ (by rfl) K (by rfl) (by repeat (first | exact List.mem_cons_self | refine List.mem_cons_of_mem _ ?_)) ?_)
        | (go_at_call 60; (with_reducible refine (lMay_any l A _ c B _ d _ rfl rfl _ (K.out.at_ (r := ⟨l, A, B⟩) (by simp)) B9.out C9.out FI.out (Utf8Tabs_below T.out K.out.b)).mono ?_); rintro e W2 ⟨rfl, hb⟩; rw [MB.out]; (have K2 := hid (K.out.later hb)); clear hb K; (have K := K2); clear K2)
        | (go_at_call 66; (with_reducible refine (lOwn_any l A _ c B _ d _ rfl rfl _ (K.out.at_ (r := ⟨l, A, B⟩) (by simp)) B9.out C9.out).mono ?_); rintro e W2 ⟨A1, c1, B1, d1, rfl, ho, hb⟩; simp only [lnV]; (have O1 := hid (ho.based (base' := w.heap.size) K.out.b.size)); clear ho; (have K2 := hid (K.out.later hb)); clear hb K; (have K := K2); clear K2)
        | ((with_reducible show wpList _ _ _ _ _ _); refine Tryz.klStoreO (by rfl) (.tmp 2) _ (by rfl) [_] (by exact K) (by rfl) (by rfl) (by exact ⟨rfl, rfl, rfl, rfl⟩) ?_; intro V2 X1 G1 K1; (dsimp only [List.cons_append, List.nil_append] at K1 X1 G1); clear K; (have K := K1); clear K1; (have O2 := hid (O1.out.og G1.out X1.out)); clear O1)
        | (go_at_call 53; refine (outdent1_any l A1 _ c1 B1 _ d1 g1 w.heap.size rfl rfl _ (K.out.bx ⟨g1, .int .i64 l.q, .slice A1 l.ls.length c1, .int .i64 l.k, .slice B1 l.cs.length d1⟩ (by simp)).2 O2.out (K.out.bx ⟨g1, .int .i64 l.q, .slice A1 l.ls.length c1, .int .i64 l.k, .slice B1 l.cs.length d1⟩ (by simp)).1 MB.out).mono ?_; rintro e W3 hc; unfold ChgRet at hc; rw [FR.out] at hc; dsimp only at hc; obtain ⟨rfl, A3, c3, B3, d3, hx, le1, le2, wr3, hb3, keep⟩ := hc; (have E1 := hid le1); (have E2 := hid le2); (have K2 := hid (KL.chg (O1 := [⟨g3, _, _, _, _⟩]) (t := ⟨g1, .int .i64 l.q, .slice A1 l.ls.length c1, .int .i64 l.k, .slice B1 l.cs.length d1⟩) K.out hx wr3 hb3 keep)); (dsimp only [List.cons_append, List.nil_append] at K2); clear hx wr3 hb3 keep le1 le2 O2 K; (have K := K2); clear K2)
        | ((with_reducible show wpList _ _ _ _ _ _); refine Tryz.klStore (by rfl) (.tmp 4) _ (by rfl) [] (by exact K) (by rfl) (by rfl) (by exact ⟨rfl, rfl, rfl, rfl⟩) ?_; intro V2 K1; (dsimp only [List.cons_append, List.nil_append] at K1); clear K; (have K := K1); clear K1))
      (try simp only [Exit.inBlock, Exit.then])
      rw [TL.out]
      refine Tryz.ret_lineE Tryz.results45 rfl g3 _ _ _ _ _ rfl rfl (K.out.bx ⟨g3, _, _, _, _⟩ (by repeat (first | exact List.mem_cons_self | refine List.mem_cons_of_mem _ ?_))).2 ?_
      exact ⟨none, 0, none, 0, rfl, Nat.zero_le _, Nat.zero_le _, LnWr.zero, K.out.b⟩
    | true =>
      have TL := hid (show turnedL (fOutdent) l = (r, 0) by unfold turnedL; rw [hb, hr]; rfl)
      clear hb hr
      go_enter Tryz.func45, Tryz.ntmps45
      go_wp2_with (first
        | ((with_reducible show wpList _ _ _ _ _ _); refine Tryz.klBox (by rfl) _ (by rfl) (some 2) (by rfl) (by rfl) K ?_; intro g1 V1 K1; clear K; (have K := K1); clear K1)
        | ((with_reducible show wpList _ _ _ _ _ _); refine Tryz.klAlloc (by rfl) (by rfl) (some 4) (by rfl) K ?_; intro g3 V1 K1; clear K; (have K := K1); clear K1)
        | ((with_reducible show wpList _ _ _ _ _ _); refine Tryz.klLoad (by rfl) _ (by rfl) K (by rfl) (by repeat (first | exact List.mem_cons_self | refine List.mem_cons_of_mem _ ?_)) ?_)
        | (go_at_call 60; (with_reducible refine (lMay_any l A _ c B _ d _ rfl rfl _ (K.out.at_ (r := ⟨l, A, B⟩) (by simp)) B9.out C9.out FI.out (Utf8Tabs_below T.out K.out.b)).mono ?_); rintro e W2 ⟨rfl, hb⟩; rw [MB.out]; (have K2 := hid (K.out.later hb)); clear hb K; (have K := K2); clear K2)
        | (go_at_call 66; (with_reducible refine (lOwn_any l A _ c B _ d _ rfl rfl _ (K.out.at_ (r := ⟨l, A, B⟩) (by simp)) B9.out C9.out).mono ?_); rintro e W2 ⟨A1, c1, B1, d1, rfl, ho, hb⟩; simp only [lnV]; (have O1 := hid (ho.based (base' := w.heap.size) K.out.b.size)); clear ho; (have K2 := hid (K.out.later hb)); clear hb K; (have K := K2); clear K2)
        | ((with_reducible show wpList _ _ _ _ _ _); refine Tryz.klStoreO (by rfl) (.tmp 2) _ (by rfl) [_] (by exact K) (by rfl) (by rfl) (by exact ⟨rfl, rfl, rfl, rfl⟩) ?_; intro V2 X1 G1 K1; (dsimp only [List.cons_append, List.nil_append] at K1 X1 G1); clear K; (have K := K1); clear K1; (have O2 := hid (O1.out.og G1.out X1.out)); clear O1)
        | (go_at_call 53; refine (outdent1_any l A1 _ c1 B1 _ d1 g1 w.heap.size rfl rfl _ (K.out.bx ⟨g1, .int .i64 l.q, .slice A1 l.ls.length c1, .int .i64 l.k, .slice B1 l.cs.length d1⟩ (by simp)).2 O2.out (K.out.bx ⟨g1, .int .i64 l.q, .slice A1 l.ls.length c1, .int .i64 l.k, .slice B1 l.cs.length d1⟩ (by simp)).1 MB.out).mono ?_; rintro e W3 hc; unfold ChgRet at hc; rw [FR.out] at hc; dsimp only at hc; obtain ⟨rfl, A3, c3, B3, d3, hx, le1, le2, wr3, hb3, keep⟩ := hc; (have E1 := hid le1); (have E2 := hid le2); (have K2 := hid (KL.chg (O1 := [⟨g3, _, _, _, _⟩]) (t := ⟨g1, .int .i64 l.q, .slice A1 l.ls.length c1, .int .i64 l.k, .slice B1 l.cs.length d1⟩) K.out hx wr3 hb3 keep)); (dsimp only [List.cons_append, List.nil_append] at K2); clear hx wr3 hb3 keep le1 le2 O2 K; (have K := K2); clear K2)
        | ((with_reducible show wpList _ _ _ _ _ _); refine Tryz.klStore (by rfl) (.tmp 4) _ (by rfl) [] (by exact K) (by rfl) (by rfl) (by exact ⟨rfl, rfl, rfl, rfl⟩) ?_; intro V2 K1; (dsimp only [List.cons_append, List.nil_append] at K1); clear K; (have K := K1); clear K1))
      (try simp only [Exit.inBlock, Exit.then])
      rw [TL.out]
      refine Tryz.ret_lineE Tryz.results45 rfl g3 _ _ _ _ _ rfl rfl (K.out.bx ⟨g3, _, _, _, _⟩ (by repeat (first | exact List.mem_cons_self | refine List.mem_cons_of_mem _ ?_))).2 ?_
      exact ⟨A3, c3, B3, d3, rfl, E1.out, E2.out, K.out.wr ⟨r, A3, B3⟩ (by simp), K.out.b⟩
set_option maxRecDepth 100000 in
set_option maxHeartbeats 8000000 in
theorem lOutdent_any (l : Ln) (A : Option Addr) (n c : Nat) (B : Option Addr) (m d C : Nat) (hn : n = l.ls.length) (hm : m = l.cs.length) (w : World) (hl : LnAt w C l A B) (h1 : l.ls.length ≤ 1000000000) (h2 : l.cs.length ≤ 1000000000) (hf : FineC l.cs) (hT : Tb w) :
    Calls Tryz.prog 32 #[.agg #[.int .i64 l.q, .slice A n c, .int .i64 l.k, .slice B m d]] w (RetLnE (outdentL l) w) := by
  rw [outdentL_eq]
  subst hn hm
  have T := hid hT
  have FI := hid hf
  have B9 := hid h1
  have C9 := hid h2
  have K := hid (KL.start w [⟨l, A, B⟩] (by simpa using hl.live))
  clear hl hf hT h1 h2
  obtain ⟨⟨r, re⟩, hr⟩ : ∃ r, turnedL (fOutdent) l = r := ⟨_, rfl⟩
  have FR := hid hr
  have TL := FR
  clear hr
  go_enter Tryz.func32, Tryz.ntmps32
  go_wp2_with (first
    | ((with_reducible show wpList _ _ _ _ _ _); refine Tryz.klBox (by rfl) _ (by rfl) (some 1) (by rfl) (by rfl) K ?_; intro g1 V1 K1; clear K; (have K := K1); clear K1)
    | ((with_reducible show wpList _ _ _ _ _ _); refine Tryz.klAlloc (by rfl) (by rfl) (some 2) (by rfl) K ?_; intro g3 V1 K1; clear K; (have K := K1); clear K1)
    | ((with_reducible show wpList _ _ _ _ _ _); refine Tryz.klLoad (by rfl) _ (by rfl) K (by rfl) (by repeat (first | exact List.mem_cons_self | refine List.mem_cons_of_mem _ ?_)) ?_)
    | (go_at_call 45; refine (turnedOutdent_any l A _ c B _ d _ rfl rfl _ (K.out.at_ (r := ⟨l, A, B⟩) (by simp)) B9.out C9.out FI.out (Utf8Tabs_below T.out K.out.b)).mono ?_; rintro e W3 hc; unfold RetLnE at hc; rw [FR.out] at hc; dsimp only at hc; obtain ⟨A3, c3, B3, d3, rfl, le1, le2, wr3, hb3⟩ := hc; simp only [lnV]; (have E1 := hid le1); (have E2 := hid le2); (have K2 := hid (K.out.addW hb3 wr3)); clear hb3 wr3 le1 le2 K; (have K := K2); clear K2)
    | ((with_reducible show wpList _ _ _ _ _ _); refine Tryz.klStore (by rfl) (.tmp 2) _ (by rfl) [] (by exact K) (by rfl) (by rfl) (by exact ⟨rfl, rfl, rfl, rfl⟩) ?_; intro V2 K1; (dsimp only [List.cons_append, List.nil_append] at K1); clear K; (have K := K1); clear K1))
  (try simp only [Exit.inBlock, Exit.then])
  rw [TL.out]
  refine Tryz.ret_lineE Tryz.results32 rfl g3 _ _ _ _ _ rfl rfl (K.out.bx ⟨g3, _, _, _, _⟩ (by repeat (first | exact List.mem_cons_self | refine List.mem_cons_of_mem _ ?_))).2 ?_
  exact ⟨A3, c3, B3, d3, rfl, E1.out, E2.out, K.out.wr ⟨r, A3, B3⟩ (by simp), K.out.b⟩
end Go.Proofs.YtblbfoniimnkcaaGreatDoor

/- lines.turned with the change of lines.List; lines.List. (Printed by wip/lnkt.py.) -/
namespace Go.Proofs.YtblbfoniimnkcaaGreatDoor
open Go.RowKit Go.Lib

set_option maxRecDepth 100000 in
set_option maxHeartbeats 8000000 in
theorem turnedList_any (l : Ln) (A : Option Addr) (n c : Nat) (B : Option Addr) (m d C : Nat) (hn : n = l.ls.length) (hm : m = l.cs.length) (w : World) (hl : LnAt w C l A B) (h1 : l.ls.length ≤ 1000000000) (h2 : l.cs.length ≤ 1000000000) (hf : FineC l.cs) (hT : Tb w) (kind : Int) (K0 : Nat) (hk : kind = 0 ∨ kind = 1 ∨ kind = 2 ∨ kind = 3) (hK : w.cell? ⟨K0, 0, none⟩ = some (.int .i64 kind)) (hKb : K0 < w.heap.size) :
    Calls Tryz.prog 45 #[.agg #[.int .i64 l.q, .slice A n c, .int .i64 l.k, .slice B m d], .func (.func 55) #[] #[.pointer (some ⟨K0, 0, none⟩)]] w (RetLnE (turnedL (fList kind) l) w) := by
  subst hn hm
  have T := hid hT
  have FI := hid hf
  have B9 := hid h1
  have C9 := hid h2
  have K := hid (KL.start w [⟨l, A, B⟩] (by simpa using hl.live))
  clear hl hf hT h1 h2
  have HK := hid hK
  have HB := hid hKb
  have hkk := hid hk
  clear hK hKb hk
  cases hb : mayL l with
  | false =>
    have MB := hid hb
    have TL := hid (show turnedL (fList kind) l = (zL, 1) by unfold turnedL; rw [hb]; rfl)
    clear hb
    go_enter Tryz.func45, Tryz.ntmps45
    go_wp2_with (first
      | ((with_reducible show wpList _ _ _ _ _ _); refine Tryz.klBox (by rfl) _ (by rfl) (some 2) (by rfl) (by rfl) K ?_; intro g1 V1 K1; clear K; (have K := K1); clear K1)
      | ((with_reducible show wpList _ _ _ _ _ _); refine Tryz.klAlloc (by rfl) (by rfl) (some 4) (by rfl) K ?_; intro g3 V1 K1; clear K; (have K := K1); clear K1)
      | ((with_reducible show wpList _ _ _ _ _ _); refine Tryz.klLoad (by rfl) _ (by rfl) K (by rfl) (by repeat (first | exact List.mem_cons_self | refine List.mem_cons_of_mem _ ?_)) ?_)
      | (go_at_call 60; (with_reducible refine (lMay_any l A _ c B _ d _ rfl rfl _ (K.out.at_ (r := ⟨l, A, B⟩) (by simp)) B9.out C9.out FI.out (Utf8Tabs_below T.out K.out.b)).mono ?_); rintro e W2 ⟨rfl, hb⟩; rw [MB.out]; (have K2 := hid (K.out.later hb)); clear hb K; (have K := K2); clear K2)
      | ((with_reducible show wpList _ _ _ _ _ _); refine Tryz.klStore (by rfl) (.tmp 4) _ (by rfl) [] (by exact K) (by rfl) (by rfl) (by exact ⟨rfl, rfl, rfl, rfl⟩) ?_; intro V2 K1; (dsimp only [List.cons_append, List.nil_append] at K1); clear K; (have K := K1); clear K1))
    (try simp only [Exit.inBlock, Exit.then])
    rw [TL.out]
    refine Tryz.ret_lineE Tryz.results45 rfl g3 _ _ _ _ _ rfl rfl (K.out.bx ⟨g3, _, _, _, _⟩ (by repeat (first | exact List.mem_cons_self | refine List.mem_cons_of_mem _ ?_))).2 ?_
    exact ⟨none, 0, none, 0, rfl, Nat.zero_le _, Nat.zero_le _, LnWr.zero, K.out.b⟩
  | true =>
    have MB := hid hb
    obtain ⟨⟨r, b⟩, hr⟩ : ∃ r, fList kind l = r := ⟨_, rfl⟩
    have FR := hid hr
    cases b with
    | false =>
      have TL := hid (show turnedL (fList kind) l = (zL, 7) by unfold turnedL; rw [hb, hr]; rfl)
      clear hb hr
      go_enter Tryz.func45, Tryz.ntmps45
      go_wp2_with (first
        | ((with_reducible show wpList _ _ _ _ _ _); refine Tryz.klBox (by rfl) _ (by rfl) (some 2) (by rfl) (by rfl) K ?_; intro g1 V1 K1; clear K; (have K := K1); clear K1)
        | ((with_reducible show wpList _ _ _ _ _ _); refine Tryz.klAlloc (by rfl) (by rfl) (some 4) (by rfl) K ?_; intro g3 V1 K1; clear K; (have K := K1); clear K1)
        | ((with_reducible show wpList _ _ _ _ _ _); refine Tryz.klLoad (by rfl) _ (by rfl) K (by rfl) (by repeat (first | exact List.mem_cons_self | refine List.mem_cons_of_mem _ ?_)) ?_)
        | (go_at_call 60; (with_reducible refine (lMay_any l A _ c B _ d _ rfl rfl _ (K.out.at_ (r := ⟨l, A, B⟩) (by simp)) B9.out C9.out FI.out (Utf8Tabs_below T.out K.out.b)).mono ?_); rintro e W2 ⟨rfl, hb⟩; rw [MB.out]; (have K2 := hid (K.out.later hb)); clear hb K; (have K := K2); clear K2)
        | (go_at_call 66; (with_reducible refine (lOwn_any l A _ c B _ d _ rfl rfl _ (K.out.at_ (r := ⟨l, A, B⟩) (by simp)) B9.out C9.out).mono ?_); rintro e W2 ⟨A1, c1, B1, d1, rfl, ho, hb⟩; simp only [lnV]; (have O1 := hid (ho.based (base' := w.heap.size) K.out.b.size)); clear ho; (have K2 := hid (K.out.later hb)); clear hb K; (have K := K2); clear K2)
        | ((with_reducible show wpList _ _ _ _ _ _); refine Tryz.klStoreO (by rfl) (.tmp 2) _ (by rfl) [_] (by exact K) (by rfl) (by rfl) (by exact ⟨rfl, rfl, rfl, rfl⟩) ?_; intro V2 X1 G1 K1; (dsimp only [List.cons_append, List.nil_append] at K1 X1 G1); clear K; (have K := K1); clear K1; (have O2 := hid (O1.out.og G1.out X1.out)); clear O1)
        | (go_at_call 55; refine (list1_any l kind K0 A1 _ c1 B1 _ d1 g1 w.heap.size rfl rfl _ (K.out.bx ⟨g1, .int .i64 l.q, .slice A1 l.ls.length c1, .int .i64 l.k, .slice B1 l.cs.length d1⟩ (by simp)).2 O2.out (K.out.bx ⟨g1, .int .i64 l.q, .slice A1 l.ls.length c1, .int .i64 l.k, .slice B1 l.cs.length d1⟩ (by simp)).1 MB.out hkk.out (cell_below K.out.b HB.out HK.out) HB.out).mono ?_; rintro e W3 hc; unfold ChgRet at hc; rw [FR.out] at hc; dsimp only at hc; obtain ⟨rfl, A3, c3, B3, d3, hx, le1, le2, wr3, hb3, keep⟩ := hc; (have E1 := hid le1); (have E2 := hid le2); (have K2 := hid (KL.chg (O1 := [⟨g3, _, _, _, _⟩]) (t := ⟨g1, .int .i64 l.q, .slice A1 l.ls.length c1, .int .i64 l.k, .slice B1 l.cs.length d1⟩) K.out hx wr3 hb3 keep)); (dsimp only [List.cons_append, List.nil_append] at K2); clear hx wr3 hb3 keep le1 le2 O2 K; (have K := K2); clear K2)
        | ((with_reducible show wpList _ _ _ _ _ _); refine Tryz.klStore (by rfl) (.tmp 4) _ (by rfl) [] (by exact K) (by rfl) (by rfl) (by exact ⟨rfl, rfl, rfl, rfl⟩) ?_; intro V2 K1; (dsimp only [List.cons_append, List.nil_append] at K1); clear K; (have K := K1); clear K1))
      (try simp only [Exit.inBlock, Exit.then])
      rw [TL.out]
      refine Tryz.ret_lineE Tryz.results45 rfl g3 _ _ _ _ _ rfl rfl (K.out.bx ⟨g3, _, _, _, _⟩ (by repeat (first | exact List.mem_cons_self | refine List.mem_cons_of_mem _ ?_))).2 ?_
      exact ⟨none, 0, none, 0, rfl, Nat.zero_le _, Nat.zero_le _, LnWr.zero, K.out.b⟩
    | true =>
      have TL := hid (show turnedL (fList kind) l = (r, 0) by unfold turnedL; rw [hb, hr]; rfl)
      clear hb hr
      go_enter Tryz.func45, Tryz.ntmps45
      go_wp2_with (first
        | ((with_reducible show wpList _ _ _ _ _ _); refine Tryz.klBox (by rfl) _ (by rfl) (some 2) (by rfl) (by rfl) K ?_; intro g1 V1 K1; clear K; (have K := K1); clear K1)
        | ((with_reducible show wpList _ _ _ _ _ _); refine Tryz.klAlloc (by rfl) (by rfl) (some 4) (by rfl) K ?_; intro g3 V1 K1; clear K; (have K := K1); clear K1)
        | ((with_reducible show wpList _ _ _ _ _ _); refine Tryz.klLoad (by rfl) _ (by rfl) K (by rfl) (by repeat (first | exact List.mem_cons_self | refine List.mem_cons_of_mem _ ?_)) ?_)
        | (go_at_call 60; (with_reducible refine (lMay_any l A _ c B _ d _ rfl rfl _ (K.out.at_ (r := ⟨l, A, B⟩) (by simp)) B9.out C9.out FI.out (Utf8Tabs_below T.out K.out.b)).mono ?_); rintro e W2 ⟨rfl, hb⟩; rw [MB.out]; (have K2 := hid (K.out.later hb)); clear hb K; (have K := K2); clear K2)
        | (go_at_call 66; (with_reducible refine (lOwn_any l A _ c B _ d _ rfl rfl _ (K.out.at_ (r := ⟨l, A, B⟩) (by simp)) B9.out C9.out).mono ?_); rintro e W2 ⟨A1, c1, B1, d1, rfl, ho, hb⟩; simp only [lnV]; (have O1 := hid (ho.based (base' := w.heap.size) K.out.b.size)); clear ho; (have K2 := hid (K.out.later hb)); clear hb K; (have K := K2); clear K2)
        | ((with_reducible show wpList _ _ _ _ _ _); refine Tryz.klStoreO (by rfl) (.tmp 2) _ (by rfl) [_] (by exact K) (by rfl) (by rfl) (by exact ⟨rfl, rfl, rfl, rfl⟩) ?_; intro V2 X1 G1 K1; (dsimp only [List.cons_append, List.nil_append] at K1 X1 G1); clear K; (have K := K1); clear K1; (have O2 := hid (O1.out.og G1.out X1.out)); clear O1)
        | (go_at_call 55; refine (list1_any l kind K0 A1 _ c1 B1 _ d1 g1 w.heap.size rfl rfl _ (K.out.bx ⟨g1, .int .i64 l.q, .slice A1 l.ls.length c1, .int .i64 l.k, .slice B1 l.cs.length d1⟩ (by simp)).2 O2.out (K.out.bx ⟨g1, .int .i64 l.q, .slice A1 l.ls.length c1, .int .i64 l.k, .slice B1 l.cs.length d1⟩ (by simp)).1 MB.out hkk.out (cell_below K.out.b HB.out HK.out) HB.out).mono ?_; rintro e W3 hc; unfold ChgRet at hc; rw [FR.out] at hc; dsimp only at hc; obtain ⟨rfl, A3, c3, B3, d3, hx, le1, le2, wr3, hb3, keep⟩ := hc; (have E1 := hid le1); (have E2 := hid le2); (have K2 := hid (KL.chg (O1 := [⟨g3, _, _, _, _⟩]) (t := ⟨g1, .int .i64 l.q, .slice A1 l.ls.length c1, .int .i64 l.k, .slice B1 l.cs.length d1⟩) K.out hx wr3 hb3 keep)); (dsimp only [List.cons_append, List.nil_append] at K2); clear hx wr3 hb3 keep le1 le2 O2 K; (have K := K2); clear K2)
        | ((with_reducible show wpList _ _ _ _ _ _); refine Tryz.klStore (by rfl) (.tmp 4) _ (by rfl) [] (by exact K) (by rfl) (by rfl) (by exact ⟨rfl, rfl, rfl, rfl⟩) ?_; intro V2 K1; (dsimp only [List.cons_append, List.nil_append] at K1); clear K; (have K := K1); clear K1))
      (try simp only [Exit.inBlock, Exit.then])
      rw [TL.out]
      refine Tryz.ret_lineE Tryz.results45 rfl g3 _ _ _ _ _ rfl rfl (K.out.bx ⟨g3, _, _, _, _⟩ (by repeat (first | exact List.mem_cons_self | refine List.mem_cons_of_mem _ ?_))).2 ?_
      exact ⟨A3, c3, B3, d3, rfl, E1.out, E2.out, K.out.wr ⟨r, A3, B3⟩ (by simp), K.out.b⟩
set_option maxRecDepth 100000 in
set_option maxHeartbeats 8000000 in
theorem lList_any (l : Ln) (A : Option Addr) (n c : Nat) (B : Option Addr) (m d C : Nat) (hn : n = l.ls.length) (hm : m = l.cs.length) (w : World) (hl : LnAt w C l A B) (h1 : l.ls.length ≤ 1000000000) (h2 : l.cs.length ≤ 1000000000) (hf : FineC l.cs) (hT : Tb w) (kind : Int) :
    Calls Tryz.prog 34 #[.agg #[.int .i64 l.q, .slice A n c, .int .i64 l.k, .slice B m d], .int .i64 kind] w (RetLnE (listL l kind) w) := by
  rw [listL_eq]
  subst hn hm
  have T := hid hT
  have FI := hid hf
  have B9 := hid h1
  have C9 := hid h2
  have K := hid (KL.start w [⟨l, A, B⟩] (by simpa using hl.live))
  clear hl hf hT h1 h2
  by_cases hk0 : kind = 0
  · skip
    have e0 : (kind != 0) = false := by simp [hk0]
    have hkk : kind = 0 ∨ kind = 1 ∨ kind = 2 ∨ kind = 3 := .inl hk0
    rw [if_pos (.inl hk0)]
    have HKK := hid hkk
    clear hk0 hkk
    obtain ⟨⟨r, re⟩, hr⟩ : ∃ r, turnedL (fList kind) l = r := ⟨_, rfl⟩
    have FR := hid hr
    have TL := FR
    clear hr
    go_enter Tryz.func34, Tryz.ntmps34
    go_wp2_with (first
      | ((with_reducible show wpList _ _ _ _ _ _); refine Tryz.klBox (by rfl) _ (by rfl) (some 2) (by rfl) (by rfl) K ?_; intro g1 V1 K1; clear K; (have K := K1); clear K1)
      | ((with_reducible show wpList _ _ _ _ _ _); refine Tryz.klBoxI (by rfl) _ (by rfl) (some 3) (by rfl) (by rfl) K ?_; intro g2 V1 L1 H1 K1; clear K; (have K := K1); clear K1)
      | ((with_reducible show wpList _ _ _ _ _ _); refine Tryz.klAllocB (by rfl) (by rfl) (some 4) (by rfl) K ?_; intro g3 V1 X1 K1; (have H2 := hid (cell_below X1.out L1.out H1.out)); (have L2 := hid (Nat.lt_of_lt_of_le L1.out X1.out.size)); (have hcell := H2.out); clear K H1 L1 X1; (have K := K1); clear K1)
      | ((with_reducible show wpList _ _ _ _ _ _); refine Tryz.klLoad (by rfl) _ (by rfl) K (by rfl) (by repeat (first | exact List.mem_cons_self | refine List.mem_cons_of_mem _ ?_)) ?_)
      | (go_at_call 45; refine (turnedList_any l A _ c B _ d _ rfl rfl _ (K.out.at_ (r := ⟨l, A, B⟩) (by simp)) B9.out C9.out FI.out (Utf8Tabs_below T.out K.out.b) kind g2 HKK.out H2.out L2.out).mono ?_; rintro e W3 hc; unfold RetLnE at hc; rw [FR.out] at hc; dsimp only at hc; obtain ⟨A3, c3, B3, d3, rfl, le1, le2, wr3, hb3⟩ := hc; simp only [lnV]; (have E1 := hid le1); (have E2 := hid le2); (have K2 := hid (K.out.addW hb3 wr3)); clear hb3 wr3 le1 le2 K; (have K := K2); clear K2)
      | ((with_reducible show wpList _ _ _ _ _ _); refine Tryz.klStore (by rfl) (.tmp 4) _ (by rfl) [] (by exact K) (by rfl) (by rfl) (by exact ⟨rfl, rfl, rfl, rfl⟩) ?_; intro V2 K1; (dsimp only [List.cons_append, List.nil_append] at K1); clear K; (have K := K1); clear K1))
    (try simp only [Exit.inBlock, Exit.then])
    rw [TL.out]
    refine Tryz.ret_lineE Tryz.results34 rfl g3 _ _ _ _ _ rfl rfl (K.out.bx ⟨g3, _, _, _, _⟩ (by repeat (first | exact List.mem_cons_self | refine List.mem_cons_of_mem _ ?_))).2 ?_
    exact ⟨A3, c3, B3, d3, rfl, E1.out, E2.out, K.out.wr ⟨r, A3, B3⟩ (by simp), K.out.b⟩
  · skip
    by_cases hk1 : kind = 1
    · skip
      have e0 : (kind != 0) = true := by simp [hk0]
      have e1 : (kind != 1) = false := by simp [hk1]
      have hkk : kind = 0 ∨ kind = 1 ∨ kind = 2 ∨ kind = 3 := .inr (.inl hk1)
      rw [if_pos (.inr hk1)]
      have HKK := hid hkk
      clear hk0 hk1 hkk
      obtain ⟨⟨r, re⟩, hr⟩ : ∃ r, turnedL (fList kind) l = r := ⟨_, rfl⟩
      have FR := hid hr
      have TL := FR
      clear hr
      go_enter Tryz.func34, Tryz.ntmps34
      go_wp2_with (first
        | ((with_reducible show wpList _ _ _ _ _ _); refine Tryz.klBox (by rfl) _ (by rfl) (some 2) (by rfl) (by rfl) K ?_; intro g1 V1 K1; clear K; (have K := K1); clear K1)
        | ((with_reducible show wpList _ _ _ _ _ _); refine Tryz.klBoxI (by rfl) _ (by rfl) (some 3) (by rfl) (by rfl) K ?_; intro g2 V1 L1 H1 K1; clear K; (have K := K1); clear K1)
        | ((with_reducible show wpList _ _ _ _ _ _); refine Tryz.klAllocB (by rfl) (by rfl) (some 4) (by rfl) K ?_; intro g3 V1 X1 K1; (have H2 := hid (cell_below X1.out L1.out H1.out)); (have L2 := hid (Nat.lt_of_lt_of_le L1.out X1.out.size)); (have hcell := H2.out); clear K H1 L1 X1; (have K := K1); clear K1)
        | ((with_reducible show wpList _ _ _ _ _ _); refine Tryz.klLoad (by rfl) _ (by rfl) K (by rfl) (by repeat (first | exact List.mem_cons_self | refine List.mem_cons_of_mem _ ?_)) ?_)
        | (go_at_call 45; refine (turnedList_any l A _ c B _ d _ rfl rfl _ (K.out.at_ (r := ⟨l, A, B⟩) (by simp)) B9.out C9.out FI.out (Utf8Tabs_below T.out K.out.b) kind g2 HKK.out H2.out L2.out).mono ?_; rintro e W3 hc; unfold RetLnE at hc; rw [FR.out] at hc; dsimp only at hc; obtain ⟨A3, c3, B3, d3, rfl, le1, le2, wr3, hb3⟩ := hc; simp only [lnV]; (have E1 := hid le1); (have E2 := hid le2); (have K2 := hid (K.out.addW hb3 wr3)); clear hb3 wr3 le1 le2 K; (have K := K2); clear K2)
        | ((with_reducible show wpList _ _ _ _ _ _); refine Tryz.klStore (by rfl) (.tmp 4) _ (by rfl) [] (by exact K) (by rfl) (by rfl) (by exact ⟨rfl, rfl, rfl, rfl⟩) ?_; intro V2 K1; (dsimp only [List.cons_append, List.nil_append] at K1); clear K; (have K := K1); clear K1))
      (try simp only [Exit.inBlock, Exit.then])
      rw [TL.out]
      refine Tryz.ret_lineE Tryz.results34 rfl g3 _ _ _ _ _ rfl rfl (K.out.bx ⟨g3, _, _, _, _⟩ (by repeat (first | exact List.mem_cons_self | refine List.mem_cons_of_mem _ ?_))).2 ?_
      exact ⟨A3, c3, B3, d3, rfl, E1.out, E2.out, K.out.wr ⟨r, A3, B3⟩ (by simp), K.out.b⟩
    · skip
      skip
      have e0 : (kind != 0) = true := by simp [hk0]
      have e1 : (kind != 1) = true := by simp [hk1]
      rw [if_neg (by rintro (h | h); exact hk0 h; exact hk1 h)]
      clear hk0 hk1
      have TL := hid (show ((zL, 1) : Ln × Int) = (zL, 1) from rfl)
      go_enter Tryz.func34, Tryz.ntmps34
      go_wp2_with (first
        | ((with_reducible show wpList _ _ _ _ _ _); refine Tryz.klBox (by rfl) _ (by rfl) (some 2) (by rfl) (by rfl) K ?_; intro g1 V1 K1; clear K; (have K := K1); clear K1)
        | ((with_reducible show wpList _ _ _ _ _ _); refine Tryz.klBoxI (by rfl) _ (by rfl) (some 3) (by rfl) (by rfl) K ?_; intro g2 V1 L1 H1 K1; clear K; (have K := K1); clear K1)
        | ((with_reducible show wpList _ _ _ _ _ _); refine Tryz.klAllocB (by rfl) (by rfl) (some 4) (by rfl) K ?_; intro g3 V1 X1 K1; (have H2 := hid (cell_below X1.out L1.out H1.out)); (have L2 := hid (Nat.lt_of_lt_of_le L1.out X1.out.size)); (have hcell := H2.out); clear K H1 L1 X1; (have K := K1); clear K1)
        | ((with_reducible show wpList _ _ _ _ _ _); refine Tryz.klLoad (by rfl) _ (by rfl) K (by rfl) (by repeat (first | exact List.mem_cons_self | refine List.mem_cons_of_mem _ ?_)) ?_)
        | ((with_reducible show wpList _ _ _ _ _ _); refine Tryz.klStore (by rfl) (.tmp 4) _ (by rfl) [] (by exact K) (by rfl) (by rfl) (by exact ⟨rfl, rfl, rfl, rfl⟩) ?_; intro V2 K1; (dsimp only [List.cons_append, List.nil_append] at K1); clear K; (have K := K1); clear K1))
      (try simp only [Exit.inBlock, Exit.then])
      refine Tryz.ret_lineE Tryz.results34 rfl g3 _ _ _ _ _ rfl rfl (K.out.bx ⟨g3, _, _, _, _⟩ (by repeat (first | exact List.mem_cons_self | refine List.mem_cons_of_mem _ ?_))).2 ?_
      exact ⟨none, 0, none, 0, rfl, Nat.zero_le _, Nat.zero_le _, LnWr.zero, K.out.b⟩
end Go.Proofs.YtblbfoniimnkcaaGreatDoor

/- lines.turned with the change of lines.Format; lines.Format. (Printed by wip/lnkt.py.) -/
namespace Go.Proofs.YtblbfoniimnkcaaGreatDoor
open Go.RowKit Go.Lib

set_option maxRecDepth 100000 in
set_option maxHeartbeats 8000000 in
theorem turnedFormat_any (l : Ln) (A : Option Addr) (n c : Nat) (B : Option Addr) (m d C : Nat) (hn : n = l.ls.length) (hm : m = l.cs.length) (w : World) (hl : LnAt w C l A B) (h1 : l.ls.length ≤ 1000000000) (h2 : l.cs.length ≤ 1000000000) (hf : FineC l.cs) (hT : Tb w) (kind : Int) (K0 : Nat) (hk : kind = 0 ∨ kind = 1 ∨ kind = 2 ∨ kind = 3) (hK : w.cell? ⟨K0, 0, none⟩ = some (.int .i64 kind)) (hKb : K0 < w.heap.size) :
    Calls Tryz.prog 45 #[.agg #[.int .i64 l.q, .slice A n c, .int .i64 l.k, .slice B m d], .func (.func 46) #[] #[.pointer (some ⟨K0, 0, none⟩)]] w (RetLnE (turnedL (fFormat kind) l) w) := by
  subst hn hm
  have T := hid hT
  have FI := hid hf
  have B9 := hid h1
  have C9 := hid h2
  have K := hid (KL.start w [⟨l, A, B⟩] (by simpa using hl.live))
  clear hl hf hT h1 h2
  have HK := hid hK
  have HB := hid hKb
  have hkk := hid hk
  clear hK hKb hk
  cases hb : mayL l with
  | false =>
    have MB := hid hb
    have TL := hid (show turnedL (fFormat kind) l = (zL, 1) by unfold turnedL; rw [hb]; rfl)
    clear hb
    go_enter Tryz.func45, Tryz.ntmps45
    go_wp2_with (first
      | ((with_reducible show wpList _ _ _ _ _ _); refine Tryz.klBox (by rfl) _ (by rfl) (some 2) (by rfl) (by rfl) K ?_; intro g1 V1 K1; clear K; (have K := K1); clear K1)
      | ((with_reducible show wpList _ _ _ _ _ _); refine Tryz.klAlloc (by rfl) (by rfl) (some 4) (by rfl) K ?_; intro g3 V1 K1; clear K; (have K := K1); clear K1)
      | ((with_reducible show wpList _ _ _ _ _ _); refine Tryz.klLoad (by rfl) _ (by rfl) K (by rfl) (by repeat (first | exact List.mem_cons_self | refine List.mem_cons_of_mem _ ?_)) ?_)
      | (go_at_call 60; (with_reducible refine (lMay_any l A _ c B _ d _ rfl rfl _ (K.out.at_ (r := ⟨l, A, B⟩) (by simp)) B9.out C9.out FI.out (Utf8Tabs_below T.out K.out.b)).mono ?_); rintro e W2 ⟨rfl, hb⟩; rw [MB.out]; (have K2 := hid (K.out.later hb)); clear hb K; (have K := K2); clear K2)
      | ((with_reducible show wpList _ _ _ _ _ _); refine Tryz.klStore (by rfl) (.tmp 4) _ (by rfl) [] (by exact K) (by rfl) (by rfl) (by exact ⟨rfl, rfl, rfl, rfl⟩) ?_; intro V2 K1; (dsimp only [List.cons_append, List.nil_append] at K1); clear K; (have K := K1); clear K1))
    (try simp only [Exit.inBlock, Exit.then])
    rw [TL.out]
    refine Tryz.ret_lineE Tryz.results45 rfl g3 _ _ _ _ _ rfl rfl (K.out.bx ⟨g3, _, _, _, _⟩ (by repeat (first | exact List.mem_cons_self | refine List.mem_cons_of_mem _ ?_))).2 ?_
    exact ⟨none, 0, none, 0, rfl, Nat.zero_le _, Nat.zero_le _, LnWr.zero, K.out.b⟩
  | true =>
    have MB := hid hb
    obtain ⟨⟨r, b⟩, hr⟩ : ∃ r, fFormat kind l = r := ⟨_, rfl⟩
    have FR := hid hr
    cases b with
    | false =>
      have TL := hid (show turnedL (fFormat kind) l = (zL, 7) by unfold turnedL; rw [hb, hr]; rfl)
      clear hb hr
      go_enter Tryz.func45, Tryz.ntmps45
      go_wp2_with (first
        | ((with_reducible show wpList _ _ _ _ _ _); refine Tryz.klBox (by rfl) _ (by rfl) (some 2) (by rfl) (by rfl) K ?_; intro g1 V1 K1; clear K; (have K := K1); clear K1)
        | ((with_reducible show wpList _ _ _ _ _ _); refine Tryz.klAlloc (by rfl) (by rfl) (some 4) (by rfl) K ?_; intro g3 V1 K1; clear K; (have K := K1); clear K1)
        | ((with_reducible show wpList _ _ _ _ _ _); refine Tryz.klLoad (by rfl) _ (by rfl) K (by rfl) (by repeat (first | exact List.mem_cons_self | refine List.mem_cons_of_mem _ ?_)) ?_)
        | (go_at_call 60; (with_reducible refine (lMay_any l A _ c B _ d _ rfl rfl _ (K.out.at_ (r := ⟨l, A, B⟩) (by simp)) B9.out C9.out FI.out (Utf8Tabs_below T.out K.out.b)).mono ?_); rintro e W2 ⟨rfl, hb⟩; rw [MB.out]; (have K2 := hid (K.out.later hb)); clear hb K; (have K := K2); clear K2)
        | (go_at_call 66; (with_reducible refine (lOwn_any l A _ c B _ d _ rfl rfl _ (K.out.at_ (r := ⟨l, A, B⟩) (by simp)) B9.out C9.out).mono ?_); rintro e W2 ⟨A1, c1, B1, d1, rfl, ho, hb⟩; simp only [lnV]; (have O1 := hid (ho.based (base' := w.heap.size) K.out.b.size)); clear ho; (have K2 := hid (K.out.later hb)); clear hb K; (have K := K2); clear K2)
        | ((with_reducible show wpList _ _ _ _ _ _); refine Tryz.klStoreO (by rfl) (.tmp 2) _ (by rfl) [_] (by exact K) (by rfl) (by rfl) (by exact ⟨rfl, rfl, rfl, rfl⟩) ?_; intro V2 X1 G1 K1; (dsimp only [List.cons_append, List.nil_append] at K1 X1 G1); clear K; (have K := K1); clear K1; (have O2 := hid (O1.out.og G1.out X1.out)); clear O1)
        | (go_at_call 46; refine (format1_any l kind K0 A1 _ c1 B1 _ d1 g1 w.heap.size rfl rfl _ (K.out.bx ⟨g1, .int .i64 l.q, .slice A1 l.ls.length c1, .int .i64 l.k, .slice B1 l.cs.length d1⟩ (by simp)).2 O2.out (K.out.bx ⟨g1, .int .i64 l.q, .slice A1 l.ls.length c1, .int .i64 l.k, .slice B1 l.cs.length d1⟩ (by simp)).1 MB.out hkk.out (cell_below K.out.b HB.out HK.out) HB.out).mono ?_; rintro e W3 hc; unfold ChgRet at hc; rw [FR.out] at hc; dsimp only at hc; obtain ⟨rfl, A3, c3, B3, d3, hx, le1, le2, wr3, hb3, keep⟩ := hc; (have E1 := hid le1); (have E2 := hid le2); (have K2 := hid (KL.chg (O1 := [⟨g3, _, _, _, _⟩]) (t := ⟨g1, .int .i64 l.q, .slice A1 l.ls.length c1, .int .i64 l.k, .slice B1 l.cs.length d1⟩) K.out hx wr3 hb3 keep)); (dsimp only [List.cons_append, List.nil_append] at K2); clear hx wr3 hb3 keep le1 le2 O2 K; (have K := K2); clear K2)
        | ((with_reducible show wpList _ _ _ _ _ _); refine Tryz.klStore (by rfl) (.tmp 4) _ (by rfl) [] (by exact K) (by rfl) (by rfl) (by exact ⟨rfl, rfl, rfl, rfl⟩) ?_; intro V2 K1; (dsimp only [List.cons_append, List.nil_append] at K1); clear K; (have K := K1); clear K1))
      (try simp only [Exit.inBlock, Exit.then])
      rw [TL.out]
      refine Tryz.ret_lineE Tryz.results45 rfl g3 _ _ _ _ _ rfl rfl (K.out.bx ⟨g3, _, _, _, _⟩ (by repeat (first | exact List.mem_cons_self | refine List.mem_cons_of_mem _ ?_))).2 ?_
      exact ⟨none, 0, none, 0, rfl, Nat.zero_le _, Nat.zero_le _, LnWr.zero, K.out.b⟩
    | true =>
      have TL := hid (show turnedL (fFormat kind) l = (r, 0) by unfold turnedL; rw [hb, hr]; rfl)
      clear hb hr
      go_enter Tryz.func45, Tryz.ntmps45
      go_wp2_with (first
        | ((with_reducible show wpList _ _ _ _ _ _); refine Tryz.klBox (by rfl) _ (by rfl) (some 2) (by rfl) (by rfl) K ?_; intro g1 V1 K1; clear K; (have K := K1); clear K1)
        | ((with_reducible show wpList _ _ _ _ _ _); refine Tryz.klAlloc (by rfl) (by rfl) (some 4) (by rfl) K ?_; intro g3 V1 K1; clear K; (have K := K1); clear K1)
        | ((with_reducible show wpList _ _ _ _ _ _); refine Tryz.klLoad (by rfl) _ (by rfl) K (by rfl) (by repeat (first | exact List.mem_cons_self | refine List.mem_cons_of_mem _ ?_)) ?_)
        | (go_at_call 60; (with_reducible refine (lMay_any l A _ c B _ d _ rfl rfl _ (K.out.at_ (r := ⟨l, A, B⟩) (by simp)) B9.out C9.out FI.out (Utf8Tabs_below T.out K.out.b)).mono ?_); rintro e W2 ⟨rfl, hb⟩; rw [MB.out]; (have K2 := hid (K.out.later hb)); clear hb K; (have K := K2); clear K2)
        | (go_at_call 66; (with_reducible refine (lOwn_any l A _ c B _ d _ rfl rfl _ (K.out.at_ (r := ⟨l, A, B⟩) (by simp)) B9.out C9.out).mono ?_); rintro e W2 ⟨A1, c1, B1, d1, rfl, ho, hb⟩; simp only [lnV]; (have O1 := hid (ho.based (base' := w.heap.size) K.out.b.size)); clear ho; (have K2 := hid (K.out.later hb)); clear hb K; (have K := K2); clear K2)
        | ((with_reducible show wpList _ _ _ _ _ _); refine Tryz.klStoreO (by rfl) (.tmp 2) _ (by rfl) [_] (by exact K) (by rfl) (by rfl) (by exact ⟨rfl, rfl, rfl, rfl⟩) ?_; intro V2 X1 G1 K1; (dsimp only [List.cons_append, List.nil_append] at K1 X1 G1); clear K; (have K := K1); clear K1; (have O2 := hid (O1.out.og G1.out X1.out)); clear O1)
        | (go_at_call 46; refine (format1_any l kind K0 A1 _ c1 B1 _ d1 g1 w.heap.size rfl rfl _ (K.out.bx ⟨g1, .int .i64 l.q, .slice A1 l.ls.length c1, .int .i64 l.k, .slice B1 l.cs.length d1⟩ (by simp)).2 O2.out (K.out.bx ⟨g1, .int .i64 l.q, .slice A1 l.ls.length c1, .int .i64 l.k, .slice B1 l.cs.length d1⟩ (by simp)).1 MB.out hkk.out (cell_below K.out.b HB.out HK.out) HB.out).mono ?_; rintro e W3 hc; unfold ChgRet at hc; rw [FR.out] at hc; dsimp only at hc; obtain ⟨rfl, A3, c3, B3, d3, hx, le1, le2, wr3, hb3, keep⟩ := hc; (have E1 := hid le1); (have E2 := hid le2); (have K2 := hid (KL.chg (O1 := [⟨g3, _, _, _, _⟩]) (t := ⟨g1, .int .i64 l.q, .slice A1 l.ls.length c1, .int .i64 l.k, .slice B1 l.cs.length d1⟩) K.out hx wr3 hb3 keep)); (dsimp only [List.cons_append, List.nil_append] at K2); clear hx wr3 hb3 keep le1 le2 O2 K; (have K := K2); clear K2)
        | ((with_reducible show wpList _ _ _ _ _ _); refine Tryz.klStore (by rfl) (.tmp 4) _ (by rfl) [] (by exact K) (by rfl) (by rfl) (by exact ⟨rfl, rfl, rfl, rfl⟩) ?_; intro V2 K1; (dsimp only [List.cons_append, List.nil_append] at K1); clear K; (have K := K1); clear K1))
      (try simp only [Exit.inBlock, Exit.then])
      rw [TL.out]
      refine Tryz.ret_lineE Tryz.results45 rfl g3 _ _ _ _ _ rfl rfl (K.out.bx ⟨g3, _, _, _, _⟩ (by repeat (first | exact List.mem_cons_self | refine List.mem_cons_of_mem _ ?_))).2 ?_
      exact ⟨A3, c3, B3, d3, rfl, E1.out, E2.out, K.out.wr ⟨r, A3, B3⟩ (by simp), K.out.b⟩
set_option maxRecDepth 100000 in
set_option maxHeartbeats 8000000 in
theorem lFormat_any (l : Ln) (A : Option Addr) (n c : Nat) (B : Option Addr) (m d C : Nat) (hn : n = l.ls.length) (hm : m = l.cs.length) (w : World) (hl : LnAt w C l A B) (h1 : l.ls.length ≤ 1000000000) (h2 : l.cs.length ≤ 1000000000) (hf : FineC l.cs) (hT : Tb w) (kind : Int) :
    Calls Tryz.prog 29 #[.agg #[.int .i64 l.q, .slice A n c, .int .i64 l.k, .slice B m d], .int .i64 kind] w (RetLnE (formatL l kind) w) := by
  rw [formatL_eq]
  subst hn hm
  have T := hid hT
  have FI := hid hf
  have B9 := hid h1
  have C9 := hid h2
  have K := hid (KL.start w [⟨l, A, B⟩] (by simpa using hl.live))
  clear hl hf hT h1 h2
  by_cases hk0 : kind < 0
  · skip
    have e0 : decide (kind < 0) = true := decide_eq_true hk0
    rw [if_neg (by omega)]
    clear hk0
    have TL := hid (show ((zL, 1) : Ln × Int) = (zL, 1) from rfl)
    go_enter Tryz.func29, Tryz.ntmps29
    go_wp2_with (first
      | ((with_reducible show wpList _ _ _ _ _ _); refine Tryz.klBox (by rfl) _ (by rfl) (some 2) (by rfl) (by rfl) K ?_; intro g1 V1 K1; clear K; (have K := K1); clear K1)
      | ((with_reducible show wpList _ _ _ _ _ _); refine Tryz.klBoxI (by rfl) _ (by rfl) (some 3) (by rfl) (by rfl) K ?_; intro g2 V1 L1 H1 K1; clear K; (have K := K1); clear K1)
      | ((with_reducible show wpList _ _ _ _ _ _); refine Tryz.klAllocB (by rfl) (by rfl) (some 4) (by rfl) K ?_; intro g3 V1 X1 K1; (have H2 := hid (cell_below X1.out L1.out H1.out)); (have L2 := hid (Nat.lt_of_lt_of_le L1.out X1.out.size)); (have hcell := H2.out); clear K H1 L1 X1; (have K := K1); clear K1)
      | ((with_reducible show wpList _ _ _ _ _ _); refine Tryz.klLoad (by rfl) _ (by rfl) K (by rfl) (by repeat (first | exact List.mem_cons_self | refine List.mem_cons_of_mem _ ?_)) ?_)
      | ((with_reducible show wpList _ _ _ _ _ _); refine Tryz.klStore (by rfl) (.tmp 4) _ (by rfl) [] (by exact K) (by rfl) (by rfl) (by exact ⟨rfl, rfl, rfl, rfl⟩) ?_; intro V2 K1; (dsimp only [List.cons_append, List.nil_append] at K1); clear K; (have K := K1); clear K1))
    (try simp only [Exit.inBlock, Exit.then])
    refine Tryz.ret_lineE Tryz.results29 rfl g3 _ _ _ _ _ rfl rfl (K.out.bx ⟨g3, _, _, _, _⟩ (by repeat (first | exact List.mem_cons_self | refine List.mem_cons_of_mem _ ?_))).2 ?_
    exact ⟨none, 0, none, 0, rfl, Nat.zero_le _, Nat.zero_le _, LnWr.zero, K.out.b⟩
  · skip
    by_cases hk1 : 3 < kind
    · skip
      have e0 : decide (kind < 0) = false := decide_eq_false hk0
      have e1 : decide (3 < kind) = true := decide_eq_true hk1
      rw [if_neg (by omega)]
      clear hk0 hk1
      have TL := hid (show ((zL, 1) : Ln × Int) = (zL, 1) from rfl)
      go_enter Tryz.func29, Tryz.ntmps29
      go_wp2_with (first
        | ((with_reducible show wpList _ _ _ _ _ _); refine Tryz.klBox (by rfl) _ (by rfl) (some 2) (by rfl) (by rfl) K ?_; intro g1 V1 K1; clear K; (have K := K1); clear K1)
        | ((with_reducible show wpList _ _ _ _ _ _); refine Tryz.klBoxI (by rfl) _ (by rfl) (some 3) (by rfl) (by rfl) K ?_; intro g2 V1 L1 H1 K1; clear K; (have K := K1); clear K1)
        | ((with_reducible show wpList _ _ _ _ _ _); refine Tryz.klAllocB (by rfl) (by rfl) (some 4) (by rfl) K ?_; intro g3 V1 X1 K1; (have H2 := hid (cell_below X1.out L1.out H1.out)); (have L2 := hid (Nat.lt_of_lt_of_le L1.out X1.out.size)); (have hcell := H2.out); clear K H1 L1 X1; (have K := K1); clear K1)
        | ((with_reducible show wpList _ _ _ _ _ _); refine Tryz.klLoad (by rfl) _ (by rfl) K (by rfl) (by repeat (first | exact List.mem_cons_self | refine List.mem_cons_of_mem _ ?_)) ?_)
        | ((with_reducible show wpList _ _ _ _ _ _); refine Tryz.klStore (by rfl) (.tmp 4) _ (by rfl) [] (by exact K) (by rfl) (by rfl) (by exact ⟨rfl, rfl, rfl, rfl⟩) ?_; intro V2 K1; (dsimp only [List.cons_append, List.nil_append] at K1); clear K; (have K := K1); clear K1))
      (try simp only [Exit.inBlock, Exit.then])
      refine Tryz.ret_lineE Tryz.results29 rfl g3 _ _ _ _ _ rfl rfl (K.out.bx ⟨g3, _, _, _, _⟩ (by repeat (first | exact List.mem_cons_self | refine List.mem_cons_of_mem _ ?_))).2 ?_
      exact ⟨none, 0, none, 0, rfl, Nat.zero_le _, Nat.zero_le _, LnWr.zero, K.out.b⟩
    · skip
      skip
      have e0 : decide (kind < 0) = false := decide_eq_false hk0
      have e1 : decide (3 < kind) = false := decide_eq_false hk1
      have hkk : kind = 0 ∨ kind = 1 ∨ kind = 2 ∨ kind = 3 := by omega
      rw [if_pos (by omega)]
      have HKK := hid hkk
      clear hk0 hk1 hkk
      obtain ⟨⟨r, re⟩, hr⟩ : ∃ r, turnedL (fFormat kind) l = r := ⟨_, rfl⟩
      have FR := hid hr
      have TL := FR
      clear hr
      go_enter Tryz.func29, Tryz.ntmps29
      go_wp2_with (first
        | ((with_reducible show wpList _ _ _ _ _ _); refine Tryz.klBox (by rfl) _ (by rfl) (some 2) (by rfl) (by rfl) K ?_; intro g1 V1 K1; clear K; (have K := K1); clear K1)
        | ((with_reducible show wpList _ _ _ _ _ _); refine Tryz.klBoxI (by rfl) _ (by rfl) (some 3) (by rfl) (by rfl) K ?_; intro g2 V1 L1 H1 K1; clear K; (have K := K1); clear K1)
        | ((with_reducible show wpList _ _ _ _ _ _); refine Tryz.klAllocB (by rfl) (by rfl) (some 4) (by rfl) K ?_; intro g3 V1 X1 K1; (have H2 := hid (cell_below X1.out L1.out H1.out)); (have L2 := hid (Nat.lt_of_lt_of_le L1.out X1.out.size)); (have hcell := H2.out); clear K H1 L1 X1; (have K := K1); clear K1)
        | ((with_reducible show wpList _ _ _ _ _ _); refine Tryz.klLoad (by rfl) _ (by rfl) K (by rfl) (by repeat (first | exact List.mem_cons_self | refine List.mem_cons_of_mem _ ?_)) ?_)
        | (go_at_call 45; refine (turnedFormat_any l A _ c B _ d _ rfl rfl _ (K.out.at_ (r := ⟨l, A, B⟩) (by simp)) B9.out C9.out FI.out (Utf8Tabs_below T.out K.out.b) kind g2 HKK.out H2.out L2.out).mono ?_; rintro e W3 hc; unfold RetLnE at hc; rw [FR.out] at hc; dsimp only at hc; obtain ⟨A3, c3, B3, d3, rfl, le1, le2, wr3, hb3⟩ := hc; simp only [lnV]; (have E1 := hid le1); (have E2 := hid le2); (have K2 := hid (K.out.addW hb3 wr3)); clear hb3 wr3 le1 le2 K; (have K := K2); clear K2)
        | ((with_reducible show wpList _ _ _ _ _ _); refine Tryz.klStore (by rfl) (.tmp 4) _ (by rfl) [] (by exact K) (by rfl) (by rfl) (by exact ⟨rfl, rfl, rfl, rfl⟩) ?_; intro V2 K1; (dsimp only [List.cons_append, List.nil_append] at K1); clear K; (have K := K1); clear K1))
      (try simp only [Exit.inBlock, Exit.then])
      rw [TL.out]
      refine Tryz.ret_lineE Tryz.results29 rfl g3 _ _ _ _ _ rfl rfl (K.out.bx ⟨g3, _, _, _, _⟩ (by repeat (first | exact List.mem_cons_self | refine List.mem_cons_of_mem _ ?_))).2 ?_
      exact ⟨A3, c3, B3, d3, rfl, E1.out, E2.out, K.out.wr ⟨r, A3, B3⟩ (by simp), K.out.b⟩
end Go.Proofs.YtblbfoniimnkcaaGreatDoor
