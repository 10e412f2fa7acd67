/- The walk of law06's turn. (Printed by wip/lnturnf.py.) -/
import Derived.Test.YtpldmiencoolhaaDoorLnKit
import Derived.Test.YtpldmiencoolhaaDoorLnLaws
import Derived.Test.YtpldmiencoolhaaDoorLnTIndent
import Derived.Test.YtpldmiencoolhaaDoorLnTOutdent
import Derived.Test.YtpldmiencoolhaaDoorLnTList
import Derived.Test.YtpldmiencoolhaaDoorLnTFormat
import Derived.Test.YtpldmiencoolhaaDoorLnTFree
import Derived.BigQuiet
import Derived.Deep.QuietTactic
namespace Go.Proofs.YtpldmiencoolhaaDoor
open Go.RowKit Go.Lib

/-- What one of the calls makes of a line. -/
def turnK (l : Ln) (k kind : Int) : Ln × Int := if k = 0 then indentL l else if k = 1 then outdentL l else if k = 2 then listL l kind else if k = 3 then formatL l kind else freeL l
theorem stays_turnK (l : Ln) (k kind : Int) : Stays l (turnK l k kind) := by
  unfold turnK
  split
  · exact stays_indent
  · split
    · exact stays_outdent
    · split
      · exact stays_list
      · split
        · exact stays_format
        · exact stays_free
set_option maxRecDepth 100000 in
set_option maxHeartbeats 8000000 in
theorem lTurn_any (l : Ln) (A : Option Addr) (n c : Nat) (B : Option Addr) (m d C : Nat) (hn : n = l.ls.length) (hm : m = l.cs.length) (w : World) (hl : LnAt w C l A B) (h1 : l.ls.length ≤ 1000000000) (h2 : l.cs.length ≤ 1000000000) (hf : FineC l.cs) (hT : Tb w) (do_ kind : Int) :
    Calls Tryd.prog 35 #[.agg #[.int .i64 l.q, .slice A n c, .int .i64 l.k, .slice B m d], .int .i64 do_, .int .i64 kind] w (RetLnE (turnK l (bits .and .i64 do_ 7) kind) w) := by
  subst hn hm
  have T := hid hT
  have FI := hid hf
  have B9 := hid h1
  have C9 := hid h2
  have K := hid (KL.start w [⟨l, A, B⟩] (by simpa using hl.live))
  clear hl hf hT h1 h2
  obtain ⟨k, hk⟩ : ∃ k, bits .and .i64 do_ 7 = k := ⟨_, rfl⟩
  by_cases h0 : k = 0
  · skip
    have e0 : (bits .and .i64 do_ 7 == 0) = true := by rw [hk]; simp [h0]
    obtain ⟨⟨r, re⟩, hr⟩ : ∃ r, indentL l = r := ⟨_, rfl⟩
    have FR := hid hr
    have TL := hid (show turnK l (bits .and .i64 do_ 7) kind = (r, re) by rw [hk]; unfold turnK; rw [if_pos h0]; exact hr)
    clear hk hr h0
    go_enter Tryd.func35, Tryd.ntmps35
    go_wp2_with (first
      | ((with_reducible show wpList _ _ _ _ _ _); refine Tryd.klBox (by rfl) _ (by rfl) (some 3) (by rfl) (by rfl) K ?_; intro g1 V1 K1; clear K; (have K := K1); clear K1)
      | ((with_reducible show wpList _ _ _ _ _ _); refine Tryd.klAlloc (by rfl) (by rfl) (some 6) (by rfl) K ?_; intro g3 V1 K1; clear K; (have K := K1); clear K1)
      | ((with_reducible show wpList _ _ _ _ _ _); refine Tryd.klLoad (by rfl) _ (by rfl) K (by rfl) (by repeat (first | exact List.mem_cons_self | refine List.mem_cons_of_mem _ ?_)) ?_)
      | (go_at_call 24; refine (lIndent_any l A _ c B _ d _ rfl rfl _ (K.out.at_ (r := ⟨l, A, B⟩) (by simp)) B9.out C9.out FI.out (Utf8Tabs_below T.out K.out.b)).mono ?_; rintro e W3 hc; unfold RetLnE at hc; rw [FR.out] at hc; dsimp only at hc; obtain ⟨A3, c3, B3, d3, rfl, le1, le2, wr3, hb3⟩ := hc; simp only [lnV]; (have E1 := hid le1); (have E2 := hid le2); (have K2 := hid (K.out.addW hb3 wr3)); clear hb3 wr3 le1 le2 K; (have K := K2); clear K2)
      | ((with_reducible show wpList _ _ _ _ _ _); refine Tryd.klStore (by rfl) (.tmp 6) _ (by rfl) [] (by exact K) (by rfl) (by rfl) (by exact ⟨rfl, rfl, rfl, rfl⟩) ?_; intro V2 K1; (dsimp only [List.cons_append, List.nil_append] at K1); clear K; (have K := K1); clear K1))
    (try simp only [Exit.inBlock, Exit.then])
    rw [TL.out]
    refine Tryd.ret_lineE Tryd.results35 rfl g3 _ _ _ _ _ rfl rfl (K.out.bx ⟨g3, _, _, _, _⟩ (by repeat (first | exact List.mem_cons_self | refine List.mem_cons_of_mem _ ?_))).2 ?_
    exact ⟨A3, c3, B3, d3, rfl, E1.out, E2.out, K.out.wr ⟨r, A3, B3⟩ (by simp), K.out.b⟩
  · skip
    by_cases h1 : k = 1
    · skip
      have e0 : (bits .and .i64 do_ 7 == 0) = false := by rw [hk]; simp [h0]
      have e1 : (bits .and .i64 do_ 7 == 1) = true := by rw [hk]; simp [h1]
      obtain ⟨⟨r, re⟩, hr⟩ : ∃ r, outdentL l = r := ⟨_, rfl⟩
      have FR := hid hr
      have TL := hid (show turnK l (bits .and .i64 do_ 7) kind = (r, re) by rw [hk]; unfold turnK; rw [if_neg h0, if_pos h1]; exact hr)
      clear hk hr h0 h1
      go_enter Tryd.func35, Tryd.ntmps35
      go_wp2_with (first
        | ((with_reducible show wpList _ _ _ _ _ _); refine Tryd.klBox (by rfl) _ (by rfl) (some 3) (by rfl) (by rfl) K ?_; intro g1 V1 K1; clear K; (have K := K1); clear K1)
        | ((with_reducible show wpList _ _ _ _ _ _); refine Tryd.klAlloc (by rfl) (by rfl) (some 6) (by rfl) K ?_; intro g3 V1 K1; clear K; (have K := K1); clear K1)
        | ((with_reducible show wpList _ _ _ _ _ _); refine Tryd.klLoad (by rfl) _ (by rfl) K (by rfl) (by repeat (first | exact List.mem_cons_self | refine List.mem_cons_of_mem _ ?_)) ?_)
        | (go_at_call 25; refine (lOutdent_any l A _ c B _ d _ rfl rfl _ (K.out.at_ (r := ⟨l, A, B⟩) (by simp)) B9.out C9.out FI.out (Utf8Tabs_below T.out K.out.b)).mono ?_; rintro e W3 hc; unfold RetLnE at hc; rw [FR.out] at hc; dsimp only at hc; obtain ⟨A3, c3, B3, d3, rfl, le1, le2, wr3, hb3⟩ := hc; simp only [lnV]; (have E1 := hid le1); (have E2 := hid le2); (have K2 := hid (K.out.addW hb3 wr3)); clear hb3 wr3 le1 le2 K; (have K := K2); clear K2)
        | ((with_reducible show wpList _ _ _ _ _ _); refine Tryd.klStore (by rfl) (.tmp 6) _ (by rfl) [] (by exact K) (by rfl) (by rfl) (by exact ⟨rfl, rfl, rfl, rfl⟩) ?_; intro V2 K1; (dsimp only [List.cons_append, List.nil_append] at K1); clear K; (have K := K1); clear K1))
      (try simp only [Exit.inBlock, Exit.then])
      rw [TL.out]
      refine Tryd.ret_lineE Tryd.results35 rfl g3 _ _ _ _ _ rfl rfl (K.out.bx ⟨g3, _, _, _, _⟩ (by repeat (first | exact List.mem_cons_self | refine List.mem_cons_of_mem _ ?_))).2 ?_
      exact ⟨A3, c3, B3, d3, rfl, E1.out, E2.out, K.out.wr ⟨r, A3, B3⟩ (by simp), K.out.b⟩
    · skip
      by_cases h2 : k = 2
      · skip
        have e0 : (bits .and .i64 do_ 7 == 0) = false := by rw [hk]; simp [h0]
        have e1 : (bits .and .i64 do_ 7 == 1) = false := by rw [hk]; simp [h1]
        have e2 : (bits .and .i64 do_ 7 == 2) = true := by rw [hk]; simp [h2]
        obtain ⟨⟨r, re⟩, hr⟩ : ∃ r, listL l kind = r := ⟨_, rfl⟩
        have FR := hid hr
        have TL := hid (show turnK l (bits .and .i64 do_ 7) kind = (r, re) by rw [hk]; unfold turnK; rw [if_neg h0, if_neg h1, if_pos h2]; exact hr)
        clear hk hr h0 h1 h2
        go_enter Tryd.func35, Tryd.ntmps35
        go_wp2_with (first
          | ((with_reducible show wpList _ _ _ _ _ _); refine Tryd.klBox (by rfl) _ (by rfl) (some 3) (by rfl) (by rfl) K ?_; intro g1 V1 K1; clear K; (have K := K1); clear K1)
          | ((with_reducible show wpList _ _ _ _ _ _); refine Tryd.klAlloc (by rfl) (by rfl) (some 6) (by rfl) K ?_; intro g3 V1 K1; clear K; (have K := K1); clear K1)
          | ((with_reducible show wpList _ _ _ _ _ _); refine Tryd.klLoad (by rfl) _ (by rfl) K (by rfl) (by repeat (first | exact List.mem_cons_self | refine List.mem_cons_of_mem _ ?_)) ?_)
          | (go_at_call 28; refine (lList_any l A _ c B _ d _ rfl rfl _ (K.out.at_ (r := ⟨l, A, B⟩) (by simp)) B9.out C9.out FI.out (Utf8Tabs_below T.out K.out.b) kind).mono ?_; rintro e W3 hc; unfold RetLnE at hc; rw [FR.out] at hc; dsimp only at hc; obtain ⟨A3, c3, B3, d3, rfl, le1, le2, wr3, hb3⟩ := hc; simp only [lnV]; (have E1 := hid le1); (have E2 := hid le2); (have K2 := hid (K.out.addW hb3 wr3)); clear hb3 wr3 le1 le2 K; (have K := K2); clear K2)
          | ((with_reducible show wpList _ _ _ _ _ _); refine Tryd.klStore (by rfl) (.tmp 6) _ (by rfl) [] (by exact K) (by rfl) (by rfl) (by exact ⟨rfl, rfl, rfl, rfl⟩) ?_; intro V2 K1; (dsimp only [List.cons_append, List.nil_append] at K1); clear K; (have K := K1); clear K1))
        (try simp only [Exit.inBlock, Exit.then])
        rw [TL.out]
        refine Tryd.ret_lineE Tryd.results35 rfl g3 _ _ _ _ _ rfl rfl (K.out.bx ⟨g3, _, _, _, _⟩ (by repeat (first | exact List.mem_cons_self | refine List.mem_cons_of_mem _ ?_))).2 ?_
        exact ⟨A3, c3, B3, d3, rfl, E1.out, E2.out, K.out.wr ⟨r, A3, B3⟩ (by simp), K.out.b⟩
      · skip
        by_cases h3 : k = 3
        · skip
          have e0 : (bits .and .i64 do_ 7 == 0) = false := by rw [hk]; simp [h0]
          have e1 : (bits .and .i64 do_ 7 == 1) = false := by rw [hk]; simp [h1]
          have e2 : (bits .and .i64 do_ 7 == 2) = false := by rw [hk]; simp [h2]
          have e3 : (bits .and .i64 do_ 7 == 3) = true := by rw [hk]; simp [h3]
          obtain ⟨⟨r, re⟩, hr⟩ : ∃ r, formatL l kind = r := ⟨_, rfl⟩
          have FR := hid hr
          have TL := hid (show turnK l (bits .and .i64 do_ 7) kind = (r, re) by rw [hk]; unfold turnK; rw [if_neg h0, if_neg h1, if_neg h2, if_pos h3]; exact hr)
          clear hk hr h0 h1 h2 h3
          go_enter Tryd.func35, Tryd.ntmps35
          go_wp2_with (first
            | ((with_reducible show wpList _ _ _ _ _ _); refine Tryd.klBox (by rfl) _ (by rfl) (some 3) (by rfl) (by rfl) K ?_; intro g1 V1 K1; clear K; (have K := K1); clear K1)
            | ((with_reducible show wpList _ _ _ _ _ _); refine Tryd.klAlloc (by rfl) (by rfl) (some 6) (by rfl) K ?_; intro g3 V1 K1; clear K; (have K := K1); clear K1)
            | ((with_reducible show wpList _ _ _ _ _ _); refine Tryd.klLoad (by rfl) _ (by rfl) K (by rfl) (by repeat (first | exact List.mem_cons_self | refine List.mem_cons_of_mem _ ?_)) ?_)
            | (go_at_call 30; refine (lFormat_any l A _ c B _ d _ rfl rfl _ (K.out.at_ (r := ⟨l, A, B⟩) (by simp)) B9.out C9.out FI.out (Utf8Tabs_below T.out K.out.b) kind).mono ?_; rintro e W3 hc; unfold RetLnE at hc; rw [FR.out] at hc; dsimp only at hc; obtain ⟨A3, c3, B3, d3, rfl, le1, le2, wr3, hb3⟩ := hc; simp only [lnV]; (have E1 := hid le1); (have E2 := hid le2); (have K2 := hid (K.out.addW hb3 wr3)); clear hb3 wr3 le1 le2 K; (have K := K2); clear K2)
            | ((with_reducible show wpList _ _ _ _ _ _); refine Tryd.klStore (by rfl) (.tmp 6) _ (by rfl) [] (by exact K) (by rfl) (by rfl) (by exact ⟨rfl, rfl, rfl, rfl⟩) ?_; intro V2 K1; (dsimp only [List.cons_append, List.nil_append] at K1); clear K; (have K := K1); clear K1))
          (try simp only [Exit.inBlock, Exit.then])
          rw [TL.out]
          refine Tryd.ret_lineE Tryd.results35 rfl g3 _ _ _ _ _ rfl rfl (K.out.bx ⟨g3, _, _, _, _⟩ (by repeat (first | exact List.mem_cons_self | refine List.mem_cons_of_mem _ ?_))).2 ?_
          exact ⟨A3, c3, B3, d3, rfl, E1.out, E2.out, K.out.wr ⟨r, A3, B3⟩ (by simp), K.out.b⟩
        · skip
          skip
          have e0 : (bits .and .i64 do_ 7 == 0) = false := by rw [hk]; simp [h0]
          have e1 : (bits .and .i64 do_ 7 == 1) = false := by rw [hk]; simp [h1]
          have e2 : (bits .and .i64 do_ 7 == 2) = false := by rw [hk]; simp [h2]
          have e3 : (bits .and .i64 do_ 7 == 3) = false := by rw [hk]; simp [h3]
          obtain ⟨⟨r, re⟩, hr⟩ : ∃ r, freeL l = r := ⟨_, rfl⟩
          have FR := hid hr
          have TL := hid (show turnK l (bits .and .i64 do_ 7) kind = (r, re) by rw [hk]; unfold turnK; rw [if_neg h0, if_neg h1, if_neg h2, if_neg h3]; exact hr)
          clear hk hr h0 h1 h2 h3
          go_enter Tryd.func35, Tryd.ntmps35
          go_wp2_with (first
            | ((with_reducible show wpList _ _ _ _ _ _); refine Tryd.klBox (by rfl) _ (by rfl) (some 3) (by rfl) (by rfl) K ?_; intro g1 V1 K1; clear K; (have K := K1); clear K1)
            | ((with_reducible show wpList _ _ _ _ _ _); refine Tryd.klAlloc (by rfl) (by rfl) (some 6) (by rfl) K ?_; intro g3 V1 K1; clear K; (have K := K1); clear K1)
            | ((with_reducible show wpList _ _ _ _ _ _); refine Tryd.klLoad (by rfl) _ (by rfl) K (by rfl) (by repeat (first | exact List.mem_cons_self | refine List.mem_cons_of_mem _ ?_)) ?_)
            | (go_at_call 32; refine (lFree_any l A _ c B _ d _ rfl rfl _ (K.out.at_ (r := ⟨l, A, B⟩) (by simp)) B9.out C9.out FI.out (Utf8Tabs_below T.out K.out.b)).mono ?_; rintro e W3 hc; unfold RetLnE at hc; rw [FR.out] at hc; dsimp only at hc; obtain ⟨A3, c3, B3, d3, rfl, le1, le2, wr3, hb3⟩ := hc; simp only [lnV]; (have E1 := hid le1); (have E2 := hid le2); (have K2 := hid (K.out.addW hb3 wr3)); clear hb3 wr3 le1 le2 K; (have K := K2); clear K2)
            | ((with_reducible show wpList _ _ _ _ _ _); refine Tryd.klStore (by rfl) (.tmp 6) _ (by rfl) [] (by exact K) (by rfl) (by rfl) (by exact ⟨rfl, rfl, rfl, rfl⟩) ?_; intro V2 K1; (dsimp only [List.cons_append, List.nil_append] at K1); clear K; (have K := K1); clear K1))
          (try simp only [Exit.inBlock, Exit.then])
          rw [TL.out]
          refine Tryd.ret_lineE Tryd.results35 rfl g3 _ _ _ _ _ rfl rfl (K.out.bx ⟨g3, _, _, _, _⟩ (by repeat (first | exact List.mem_cons_self | refine List.mem_cons_of_mem _ ?_))).2 ?_
          exact ⟨A3, c3, B3, d3, rfl, E1.out, E2.out, K.out.wr ⟨r, A3, B3⟩ (by simp), K.out.b⟩
end Go.Proofs.YtpldmiencoolhaaDoor
