/- The walk of typing.Select. (Printed by wip/bldoc.py.) -/
import Derived.Test.YtblbfoniimnkcaaDoorBgTM
import Derived.Test.YtblbfoniimnkcaaDoorTOwn
import Derived.Test.YtblbfoniimnkcaaDoorDrawn
import Derived.BigQuiet
import Derived.Deep.QuietTactic
namespace Go.Proofs.YtblbfoniimnkcaaDoor
open Go.RowKit Go.Lib

set_option maxRecDepth 100000 in
set_option maxHeartbeats 8000000 in
theorem tSel_0 (hs : List Hd) (A : Option Addr) (n c C : Nat) (hn : n = hs.length) (w : World) (hd : DocAt w C A hs) (h1 : hs.length ≤ 1000) (h2 : ∀ h ∈ hs, h.l.ls.length ≤ 1000000 ∧ h.l.cs.length ≤ 1000000) (hf : ∀ h ∈ hs, FineC h.l.cs) (hT : Tb w) (al aa fl fa on off pl pa ql qa : Int) (m1 : mayS ⟨lnsOf hs, ⟨al, aa⟩, ⟨fl, fa⟩, on, off⟩ = false) :
    Calls Tryd.prog 12 #[.agg #[.slice A n c, .int .i64 al, .int .i64 aa, .int .i64 fl, .int .i64 fa, .int .i64 on, .int .i64 off], .agg #[.int .i64 pl, .int .i64 pa], .agg #[.int .i64 ql, .int .i64 qa]] w (RetStE (zS, 1) w) := by
  subst hn
  have D0 := hid h2
  have L0 := hid h1
  have K := hid (KG.start w [⟨hs, A, false⟩] (by simpa using hd.live))
  have T := hid hT
  have FI := hid hf
  have H2 := hid h2
  have M1 := hid m1
  clear hd h2 hT hf m1
  go_enter Tryd.func12, Tryd.ntmps12
  go_wp2_with (first
    | go_big_skip
    | ((with_reducible show wpList _ _ _ _ _ _); refine kgBox (by rfl) 26 _ (by rfl) (some 3) (by rfl) (by rfl) [_, _, _, _, _, _, _] (by rfl) K ?_; intro g3 V1 K1; clear K; (have K := K1); clear K1)
    | ((with_reducible show wpList _ _ _ _ _ _); refine kgBox (by rfl) 24 _ (by rfl) (some 4) (by rfl) (by rfl) [_, _] (by rfl) K ?_; intro g4 V1 K1; clear K; (have K := K1); clear K1)
    | ((with_reducible show wpList _ _ _ _ _ _); refine kgBox (by rfl) 24 _ (by rfl) (some 5) (by rfl) (by rfl) [_, _] (by rfl) K ?_; intro g5 V1 K1; clear K; (have K := K1); clear K1)
    | ((with_reducible show wpList _ _ _ _ _ _); refine kgAlloc (by rfl) 26 (by rfl) (some 6) (by rfl) [.slice none 0 0, .int .i64 0, .int .i64 0, .int .i64 0, .int .i64 0, .int .i64 0, .int .i64 0] (fun _ => by kernel_rfl) K ?_; intro g6 V1 K1; clear K; (have K := K1); clear K1)
    | ((with_reducible show wpList _ _ _ _ _ _); refine kgLoadA (by rfl) 26 _ (by rfl) 7 _ Tryd.underlying26 rfl (by kernel_rfl) K (by rfl) (by repeat (first | exact List.mem_cons_self | refine List.mem_cons_of_mem _ ?_)) (part := [_, _, _, _, _, _, _]) (by rfl) (by rfl) ?_)
    | ((with_reducible show wpList _ _ _ _ _ _); refine kgLoad1 (by rfl) 22 _ (by rfl) _ Tryd.underlying22 rfl K (by rfl) (by repeat (first | exact List.mem_cons_self | refine List.mem_cons_of_mem _ ?_)) (by rfl) ?_)
    | ((with_reducible show wpList _ _ _ _ _ _); refine kgLoadA (by rfl) 24 _ (by rfl) 2 _ Tryd.underlying24 rfl (by kernel_rfl) K (by rfl) (by repeat (first | exact List.mem_cons_self | refine List.mem_cons_of_mem _ ?_)) (part := [_, _]) (by rfl) (by rfl) ?_)
    | ((with_reducible show wpList _ _ _ _ _ _); refine kgStore (by rfl) 26 (.tmp 6) _ (by rfl) 7 (by kernel_rfl) [] (by exact K) (by rfl) (by rfl) [_, _, _, _, _, _, _] (by rfl) (by rfl) (by simp) (by simp [Value.oneCell']) (cs := [_, _, _, _, _, _, _]) (by rfl) ?_; intro V2 K1; (dsimp only [List.cons_append, List.nil_append] at K1); clear K; (have K := K1); clear K1)
    | (go_at_call 8; (with_reducible refine (tMay_any hs A _ c _ rfl _ (K.out.at_ (d := ⟨hs, A, false⟩) (by simp)) h1 H2.out FI.out (Utf8Tabs_below T.out K.out.b) al aa fl fa on off).mono ?_); rintro e W2 ⟨rfl, hb⟩; rw [M1.out]; (have K2 := hid (K.out.later hb)); clear hb K; (have K := K2); clear K2))
  refine bodyPost_ret (results_ct Tryd.results12 (by rfl) (K.out.loadA (off := 0) (n := 7) (by repeat (first | exact List.mem_cons_self | refine List.mem_cons_of_mem _ ?_)) Tryd.underlying26 rfl (by kernel_rfl) (part := [_, _, _, _, _, _, _]) (by rfl) (by rfl)) (by rfl)) rfl ?_
  exact ⟨none, 0, 0, [], rfl, rfl, Nat.le_refl _, rfl, DocW.nil, K.out.b⟩
set_option maxRecDepth 100000 in
set_option maxHeartbeats 8000000 in
theorem tSel_1 (hs : List Hd) (A : Option Addr) (n c C : Nat) (hn : n = hs.length) (w : World) (hd : DocAt w C A hs) (h1 : hs.length ≤ 1000) (h2 : ∀ h ∈ hs, h.l.ls.length ≤ 1000000 ∧ h.l.cs.length ≤ 1000000) (hf : ∀ h ∈ hs, FineC h.l.cs) (hT : Tb w) (al aa fl fa on off pl pa ql qa : Int) (m1 : mayS ⟨lnsOf hs, ⟨al, aa⟩, ⟨fl, fa⟩, on, off⟩ = true) (m2 : isD (lnsOf hs) ⟨pl, pa⟩ = false) :
    Calls Tryd.prog 12 #[.agg #[.slice A n c, .int .i64 al, .int .i64 aa, .int .i64 fl, .int .i64 fa, .int .i64 on, .int .i64 off], .agg #[.int .i64 pl, .int .i64 pa], .agg #[.int .i64 ql, .int .i64 qa]] w (RetStE (zS, 1) w) := by
  subst hn
  have D0 := hid h2
  have L0 := hid h1
  have K := hid (KG.start w [⟨hs, A, false⟩] (by simpa using hd.live))
  have T := hid hT
  have FI := hid hf
  have H2 := hid h2
  have M1 := hid m1
  have M2 := hid m2
  clear hd h2 hT hf m1 m2
  go_enter Tryd.func12, Tryd.ntmps12
  go_wp2_with (first
    | go_big_skip
    | ((with_reducible show wpList _ _ _ _ _ _); refine kgBox (by rfl) 26 _ (by rfl) (some 3) (by rfl) (by rfl) [_, _, _, _, _, _, _] (by rfl) K ?_; intro g3 V1 K1; clear K; (have K := K1); clear K1)
    | ((with_reducible show wpList _ _ _ _ _ _); refine kgBox (by rfl) 24 _ (by rfl) (some 4) (by rfl) (by rfl) [_, _] (by rfl) K ?_; intro g4 V1 K1; clear K; (have K := K1); clear K1)
    | ((with_reducible show wpList _ _ _ _ _ _); refine kgBox (by rfl) 24 _ (by rfl) (some 5) (by rfl) (by rfl) [_, _] (by rfl) K ?_; intro g5 V1 K1; clear K; (have K := K1); clear K1)
    | ((with_reducible show wpList _ _ _ _ _ _); refine kgAlloc (by rfl) 26 (by rfl) (some 6) (by rfl) [.slice none 0 0, .int .i64 0, .int .i64 0, .int .i64 0, .int .i64 0, .int .i64 0, .int .i64 0] (fun _ => by kernel_rfl) K ?_; intro g6 V1 K1; clear K; (have K := K1); clear K1)
    | ((with_reducible show wpList _ _ _ _ _ _); refine kgLoadA (by rfl) 26 _ (by rfl) 7 _ Tryd.underlying26 rfl (by kernel_rfl) K (by rfl) (by repeat (first | exact List.mem_cons_self | refine List.mem_cons_of_mem _ ?_)) (part := [_, _, _, _, _, _, _]) (by rfl) (by rfl) ?_)
    | ((with_reducible show wpList _ _ _ _ _ _); refine kgLoad1 (by rfl) 22 _ (by rfl) _ Tryd.underlying22 rfl K (by rfl) (by repeat (first | exact List.mem_cons_self | refine List.mem_cons_of_mem _ ?_)) (by rfl) ?_)
    | ((with_reducible show wpList _ _ _ _ _ _); refine kgLoadA (by rfl) 24 _ (by rfl) 2 _ Tryd.underlying24 rfl (by kernel_rfl) K (by rfl) (by repeat (first | exact List.mem_cons_self | refine List.mem_cons_of_mem _ ?_)) (part := [_, _]) (by rfl) (by rfl) ?_)
    | ((with_reducible show wpList _ _ _ _ _ _); refine kgStore (by rfl) 26 (.tmp 6) _ (by rfl) 7 (by kernel_rfl) [] (by exact K) (by rfl) (by rfl) [_, _, _, _, _, _, _] (by rfl) (by rfl) (by simp) (by simp [Value.oneCell']) (cs := [_, _, _, _, _, _, _]) (by rfl) ?_; intro V2 K1; (dsimp only [List.cons_append, List.nil_append] at K1); clear K; (have K := K1); clear K1)
    | (go_at_call 8; (with_reducible refine (tMay_any hs A _ c _ rfl _ (K.out.at_ (d := ⟨hs, A, false⟩) (by simp)) h1 H2.out FI.out (Utf8Tabs_below T.out K.out.b) al aa fl fa on off).mono ?_); rintro e W2 ⟨rfl, hb⟩; rw [M1.out]; (have K2 := hid (K.out.later hb)); clear hb K; (have K := K2); clear K2)
    | (go_at_call 24; (with_reducible refine (dIs_any hs A _ c _ rfl _ (K.out.at_ (d := ⟨hs, A, false⟩) (by simp)) pl pa).mono ?_); rintro e W3 ⟨rfl, hb⟩; rw [M2.out]; (have K2 := hid (K.out.later hb)); clear hb K; (have K := K2); clear K2))
  refine bodyPost_ret (results_ct Tryd.results12 (by rfl) (K.out.loadA (off := 0) (n := 7) (by repeat (first | exact List.mem_cons_self | refine List.mem_cons_of_mem _ ?_)) Tryd.underlying26 rfl (by kernel_rfl) (part := [_, _, _, _, _, _, _]) (by rfl) (by rfl)) (by rfl)) rfl ?_
  exact ⟨none, 0, 0, [], rfl, rfl, Nat.le_refl _, rfl, DocW.nil, K.out.b⟩
set_option maxRecDepth 100000 in
set_option maxHeartbeats 8000000 in
theorem tSel_2 (hs : List Hd) (A : Option Addr) (n c C : Nat) (hn : n = hs.length) (w : World) (hd : DocAt w C A hs) (h1 : hs.length ≤ 1000) (h2 : ∀ h ∈ hs, h.l.ls.length ≤ 1000000 ∧ h.l.cs.length ≤ 1000000) (hf : ∀ h ∈ hs, FineC h.l.cs) (hT : Tb w) (al aa fl fa on off pl pa ql qa : Int) (m1 : mayS ⟨lnsOf hs, ⟨al, aa⟩, ⟨fl, fa⟩, on, off⟩ = true) (m2 : isD (lnsOf hs) ⟨pl, pa⟩ = true) (m3 : isD (lnsOf hs) ⟨ql, qa⟩ = false) :
    Calls Tryd.prog 12 #[.agg #[.slice A n c, .int .i64 al, .int .i64 aa, .int .i64 fl, .int .i64 fa, .int .i64 on, .int .i64 off], .agg #[.int .i64 pl, .int .i64 pa], .agg #[.int .i64 ql, .int .i64 qa]] w (RetStE (zS, 1) w) := by
  subst hn
  have D0 := hid h2
  have L0 := hid h1
  have K := hid (KG.start w [⟨hs, A, false⟩] (by simpa using hd.live))
  have T := hid hT
  have FI := hid hf
  have H2 := hid h2
  have M1 := hid m1
  have M2 := hid m2
  have M3 := hid m3
  clear hd h2 hT hf m1 m2 m3
  go_enter Tryd.func12, Tryd.ntmps12
  go_wp2_with (first
    | go_big_skip
    | ((with_reducible show wpList _ _ _ _ _ _); refine kgBox (by rfl) 26 _ (by rfl) (some 3) (by rfl) (by rfl) [_, _, _, _, _, _, _] (by rfl) K ?_; intro g3 V1 K1; clear K; (have K := K1); clear K1)
    | ((with_reducible show wpList _ _ _ _ _ _); refine kgBox (by rfl) 24 _ (by rfl) (some 4) (by rfl) (by rfl) [_, _] (by rfl) K ?_; intro g4 V1 K1; clear K; (have K := K1); clear K1)
    | ((with_reducible show wpList _ _ _ _ _ _); refine kgBox (by rfl) 24 _ (by rfl) (some 5) (by rfl) (by rfl) [_, _] (by rfl) K ?_; intro g5 V1 K1; clear K; (have K := K1); clear K1)
    | ((with_reducible show wpList _ _ _ _ _ _); refine kgAlloc (by rfl) 26 (by rfl) (some 6) (by rfl) [.slice none 0 0, .int .i64 0, .int .i64 0, .int .i64 0, .int .i64 0, .int .i64 0, .int .i64 0] (fun _ => by kernel_rfl) K ?_; intro g6 V1 K1; clear K; (have K := K1); clear K1)
    | ((with_reducible show wpList _ _ _ _ _ _); refine kgLoadA (by rfl) 26 _ (by rfl) 7 _ Tryd.underlying26 rfl (by kernel_rfl) K (by rfl) (by repeat (first | exact List.mem_cons_self | refine List.mem_cons_of_mem _ ?_)) (part := [_, _, _, _, _, _, _]) (by rfl) (by rfl) ?_)
    | ((with_reducible show wpList _ _ _ _ _ _); refine kgLoad1 (by rfl) 22 _ (by rfl) _ Tryd.underlying22 rfl K (by rfl) (by repeat (first | exact List.mem_cons_self | refine List.mem_cons_of_mem _ ?_)) (by rfl) ?_)
    | ((with_reducible show wpList _ _ _ _ _ _); refine kgLoadA (by rfl) 24 _ (by rfl) 2 _ Tryd.underlying24 rfl (by kernel_rfl) K (by rfl) (by repeat (first | exact List.mem_cons_self | refine List.mem_cons_of_mem _ ?_)) (part := [_, _]) (by rfl) (by rfl) ?_)
    | ((with_reducible show wpList _ _ _ _ _ _); refine kgStore (by rfl) 26 (.tmp 6) _ (by rfl) 7 (by kernel_rfl) [] (by exact K) (by rfl) (by rfl) [_, _, _, _, _, _, _] (by rfl) (by rfl) (by simp) (by simp [Value.oneCell']) (cs := [_, _, _, _, _, _, _]) (by rfl) ?_; intro V2 K1; (dsimp only [List.cons_append, List.nil_append] at K1); clear K; (have K := K1); clear K1)
    | (go_at_call 8; (with_reducible refine (tMay_any hs A _ c _ rfl _ (K.out.at_ (d := ⟨hs, A, false⟩) (by simp)) h1 H2.out FI.out (Utf8Tabs_below T.out K.out.b) al aa fl fa on off).mono ?_); rintro e W2 ⟨rfl, hb⟩; rw [M1.out]; (have K2 := hid (K.out.later hb)); clear hb K; (have K := K2); clear K2)
    | (go_at_call 24; (with_reducible refine (dIs_any hs A _ c _ rfl _ (K.out.at_ (d := ⟨hs, A, false⟩) (by simp)) pl pa).mono ?_); rintro e W3 ⟨rfl, hb⟩; rw [M2.out]; (have K2 := hid (K.out.later hb)); clear hb K; (have K := K2); clear K2)
    | (go_at_call 24; (with_reducible refine (dIs_any hs A _ c _ rfl _ (K.out.at_ (d := ⟨hs, A, false⟩) (by simp)) ql qa).mono ?_); rintro e W4 ⟨rfl, hb⟩; rw [M3.out]; (have K2 := hid (K.out.later hb)); clear hb K; (have K := K2); clear K2))
  refine bodyPost_ret (results_ct Tryd.results12 (by rfl) (K.out.loadA (off := 0) (n := 7) (by repeat (first | exact List.mem_cons_self | refine List.mem_cons_of_mem _ ?_)) Tryd.underlying26 rfl (by kernel_rfl) (part := [_, _, _, _, _, _, _]) (by rfl) (by rfl)) (by rfl)) rfl ?_
  exact ⟨none, 0, 0, [], rfl, rfl, Nat.le_refl _, rfl, DocW.nil, K.out.b⟩
set_option maxRecDepth 100000 in
set_option maxHeartbeats 8000000 in
theorem tSel_3 (hs : List Hd) (A : Option Addr) (n c C : Nat) (hn : n = hs.length) (w : World) (hd : DocAt w C A hs) (h1 : hs.length ≤ 1000) (h2 : ∀ h ∈ hs, h.l.ls.length ≤ 1000000 ∧ h.l.cs.length ≤ 1000000) (hf : ∀ h ∈ hs, FineC h.l.cs) (hT : Tb w) (al aa fl fa on off pl pa ql qa : Int) (m1 : mayS ⟨lnsOf hs, ⟨al, aa⟩, ⟨fl, fa⟩, on, off⟩ = true) (m2 : isD (lnsOf hs) ⟨pl, pa⟩ = true) (m3 : isD (lnsOf hs) ⟨ql, qa⟩ = true) :
    Calls Tryd.prog 12 #[.agg #[.slice A n c, .int .i64 al, .int .i64 aa, .int .i64 fl, .int .i64 fa, .int .i64 on, .int .i64 off], .agg #[.int .i64 pl, .int .i64 pa], .agg #[.int .i64 ql, .int .i64 qa]] w (RetStE (⟨lnsOf hs, ⟨pl, pa⟩, ⟨ql, qa⟩, 0, 0⟩, 0) w) := by
  subst hn
  have D0 := hid h2
  have L0 := hid h1
  have K := hid (KG.start w [⟨hs, A, false⟩] (by simpa using hd.live))
  have T := hid hT
  have FI := hid hf
  have H2 := hid h2
  have M1 := hid m1
  have M2 := hid m2
  have M3 := hid m3
  clear hd h2 hT hf m1 m2 m3
  go_enter Tryd.func12, Tryd.ntmps12
  go_upto_region 3 with (first
    | go_big_skip
    | ((with_reducible show wpList _ _ _ _ _ _); refine kgBox (by rfl) 26 _ (by rfl) (some 3) (by rfl) (by rfl) [_, _, _, _, _, _, _] (by rfl) K ?_; intro g3 V1 K1; clear K; (have K := K1); clear K1)
    | ((with_reducible show wpList _ _ _ _ _ _); refine kgBox (by rfl) 24 _ (by rfl) (some 4) (by rfl) (by rfl) [_, _] (by rfl) K ?_; intro g4 V1 K1; clear K; (have K := K1); clear K1)
    | ((with_reducible show wpList _ _ _ _ _ _); refine kgBox (by rfl) 24 _ (by rfl) (some 5) (by rfl) (by rfl) [_, _] (by rfl) K ?_; intro g5 V1 K1; clear K; (have K := K1); clear K1)
    | ((with_reducible show wpList _ _ _ _ _ _); refine kgAlloc (by rfl) 26 (by rfl) (some 6) (by rfl) [.slice none 0 0, .int .i64 0, .int .i64 0, .int .i64 0, .int .i64 0, .int .i64 0, .int .i64 0] (fun _ => by kernel_rfl) K ?_; intro g6 V1 K1; clear K; (have K := K1); clear K1)
    | ((with_reducible show wpList _ _ _ _ _ _); refine kgLoadA (by rfl) 26 _ (by rfl) 7 _ Tryd.underlying26 rfl (by kernel_rfl) K (by rfl) (by repeat (first | exact List.mem_cons_self | refine List.mem_cons_of_mem _ ?_)) (part := [_, _, _, _, _, _, _]) (by rfl) (by rfl) ?_)
    | ((with_reducible show wpList _ _ _ _ _ _); refine kgLoad1 (by rfl) 22 _ (by rfl) _ Tryd.underlying22 rfl K (by rfl) (by repeat (first | exact List.mem_cons_self | refine List.mem_cons_of_mem _ ?_)) (by rfl) ?_)
    | ((with_reducible show wpList _ _ _ _ _ _); refine kgLoadA (by rfl) 24 _ (by rfl) 2 _ Tryd.underlying24 rfl (by kernel_rfl) K (by rfl) (by repeat (first | exact List.mem_cons_self | refine List.mem_cons_of_mem _ ?_)) (part := [_, _]) (by rfl) (by rfl) ?_)
    | ((with_reducible show wpList _ _ _ _ _ _); refine kgStore (by rfl) 26 (.tmp 6) _ (by rfl) 7 (by kernel_rfl) [] (by exact K) (by rfl) (by rfl) [_, _, _, _, _, _, _] (by rfl) (by rfl) (by simp) (by simp [Value.oneCell']) (cs := [_, _, _, _, _, _, _]) (by rfl) ?_; intro V2 K1; (dsimp only [List.cons_append, List.nil_append] at K1); clear K; (have K := K1); clear K1)
    | (go_at_call 8; (with_reducible refine (tMay_any hs A _ c _ rfl _ (K.out.at_ (d := ⟨hs, A, false⟩) (by simp)) h1 H2.out FI.out (Utf8Tabs_below T.out K.out.b) al aa fl fa on off).mono ?_); rintro e W2 ⟨rfl, hb⟩; rw [M1.out]; (have K2 := hid (K.out.later hb)); clear hb K; (have K := K2); clear K2)
    | (go_at_call 24; (with_reducible refine (dIs_any hs A _ c _ rfl _ (K.out.at_ (d := ⟨hs, A, false⟩) (by simp)) pl pa).mono ?_); rintro e W3 ⟨rfl, hb⟩; rw [M2.out]; (have K2 := hid (K.out.later hb)); clear hb K; (have K := K2); clear K2)
    | (go_at_call 24; (with_reducible refine (dIs_any hs A _ c _ rfl _ (K.out.at_ (d := ⟨hs, A, false⟩) (by simp)) ql qa).mono ?_); rintro e W4 ⟨rfl, hb⟩; rw [M3.out]; (have K2 := hid (K.out.later hb)); clear hb K; (have K := K2); clear K2))
  obtain ⟨vs, hvs⟩ : ∃ vs : DocX → List Value, vs = fun ⟨A3, n3, c3, hs3⟩ => [.pointer (some ⟨g3, 0, none⟩), .slice A hs.length c, .slice A3 n3 c3, .agg #[.int .i64 pl, .int .i64 pa], .agg #[.int .i64 ql, .int .i64 qa], .agg #[.slice A3 n3 c3, .int .i64 pl, .int .i64 pa, .int .i64 ql, .int .i64 qa, .int .i64 0, .int .i64 0], undef, .int .i64 0] := ⟨_, rfl⟩
  replace hvs := hid hvs
  obtain ⟨J, hJ⟩ : ∃ J : DocX → (Nat → Bool) → World → Prop, J = fun ⟨A3, n3, c3, hs3⟩ b W => Hid (KG w W [⟨g6, 26, if b 6 then [.slice A3 n3 c3, .int .i64 pl, .int .i64 pa, .int .i64 ql, .int .i64 qa, .int .i64 0, .int .i64 0] else [.slice none 0 0, .int .i64 0, .int .i64 0, .int .i64 0, .int .i64 0, .int .i64 0, .int .i64 0]⟩, ⟨g5, 24, [.int .i64 ql, .int .i64 qa]⟩, ⟨g4, 24, [.int .i64 pl, .int .i64 pa]⟩, ⟨g3, 26, [.slice A hs.length c, .int .i64 al, .int .i64 aa, .int .i64 fl, .int .i64 fa, .int .i64 on, .int .i64 off]⟩] (if b 2 then [⟨hs3, A3, true⟩, ⟨hs, A, false⟩] else [⟨hs, A, false⟩])) ∧ (b 2 = true → Hid (n3 = hs3.length ∧ n3 ≤ c3 ∧ lnsOf hs3 = lnsOf hs)) := ⟨_, rfl⟩
  replace hJ := hid hJ
  refine wp_drawn_dep vs (by kernel_rfl) (by kernel_rfl) (by rw [hvs.out]; exact fun _ => rfl) J ⟨none, 0, 0, []⟩ (by rw [hJ.out]; exact ⟨hid (K.out.quiet ⟨1, rfl⟩), fun h => by cases h⟩) ?step ?fin
  case step =>
    clear K
    intro i o x b W ho hb hw hc K
    obtain ⟨A3, n3, c3, hs3⟩ := x
    rw [hJ.out] at K
    dsimp only at K
    have ev : vs ⟨A3, n3, c3, hs3⟩ = [.pointer (some ⟨g3, 0, none⟩), .slice A hs.length c, .slice A3 n3 c3, .agg #[.int .i64 pl, .int .i64 pa], .agg #[.int .i64 ql, .int .i64 qa], .agg #[.slice A3 n3 c3, .int .i64 pl, .int .i64 pa, .int .i64 ql, .int .i64 qa, .int .i64 0, .int .i64 0], undef, .int .i64 0] := by rw [hvs.out]
    rw [ev]
    replace ev := hid ev
    simp only [drFrame, List.setIfInBounds_toArray, List.set_cons_succ, List.set_cons_zero]
    obtain ⟨K, HQ⟩ := K
    replace HQ := hid HQ
    rcases i with _ | i
    · obtain rfl := Option.some.inj ho
      replace hb := hid hb
      replace hc := hid hc
      clear ho hw
      go_wp2_with (first
        | fail)
      refine ⟨rfl, ⟨A3, n3, c3, hs3⟩, by rw [ev.out]; rfl, (by intro j _; rw [ev.out]), ?_⟩
      rw [hJ.out]
      exact ⟨K, HQ⟩
    rcases i with _ | i
    · obtain rfl := Option.some.inj ho
      replace hb := hid hb
      replace hc := hid hc
      clear ho hw
      go_wp2_with (first
        | go_big_skip
        | ((with_reducible show wpList _ _ _ _ _ _); refine kgLoad1 (by rfl) 22 _ (by rfl) _ Tryd.underlying22 rfl K (by rfl) (by repeat (first | exact List.mem_cons_self | refine List.mem_cons_of_mem _ ?_)) (by rfl) ?_))
      refine ⟨rfl, ⟨A3, n3, c3, hs3⟩, by rw [ev.out]; rfl, (by intro j _; rw [ev.out]), ?_⟩
      rw [hJ.out]
      exact ⟨K, HQ⟩
    rcases i with _ | i
    · obtain rfl := Option.some.inj ho
      replace hb : b 2 = false := hb
      simp only [hb, Bool.false_eq_true, if_false] at K
      replace hb := hid hb
      replace hc := hid hc
      clear ho hw
      go_wp2_with (first
        | go_big_skip
        | (go_at_call 28; (with_reducible refine (dOwn_any hs A _ c _ rfl _ (K.out.at_ (d := ⟨hs, A, false⟩) (by simp)) h1 H2.out).mono ?_); rintro e W3 ⟨A9, n9, c9, hs9, rfl, q1, q2, q3, ho, hb3⟩; (have QQ : Hid (n9 = hs9.length ∧ n9 ≤ c9 ∧ lnsOf hs9 = lnsOf hs) := hid ⟨q1, q2, q3⟩); (have K2 := hid (K.out.addW hb3 ho)); clear q1 q2 q3 ho hb3 K; (have K := K2); clear K2))
      refine ⟨rfl, ⟨A9, n9, c9, hs9⟩, ?_, ?_, ?_⟩
      · rw [hvs.out]; rfl
      · intro j hj
        rw [hvs.out]
        rcases j with _ | _ | _ | _ | _ | _ | _ | _ | j <;> first | rfl | (rw [hb.out] at hj; cases hj) | exact absurd (hc.out _ 2 (by kernel_rfl) hj) (by rw [hb.out]; simp)
      · rw [hJ.out]
        have e : b 6 = false := by
          cases h6 : b 6 with
          | false => rfl
          | true => exact absurd (hc.out _ 2 (by kernel_rfl) (hc.out _ 5 (by kernel_rfl) h6)) (by rw [hb.out]; simp)
        refine ⟨?_, fun _ => QQ⟩
        dsimp only
        rw [show bitUp b (0 + 1 + 1) 6 = b 6 from rfl, e]
        rw [e] at K
        exact K
    rcases i with _ | i
    · obtain rfl := Option.some.inj ho
      replace hb := hid hb
      replace hc := hid hc
      clear ho hw
      go_wp2_with (first
        | go_big_skip
        | ((with_reducible show wpList _ _ _ _ _ _); refine kgLoadA (by rfl) 24 _ (by rfl) 2 _ Tryd.underlying24 rfl (by kernel_rfl) K (by rfl) (by repeat (first | exact List.mem_cons_self | refine List.mem_cons_of_mem _ ?_)) (part := [_, _]) (by rfl) (by rfl) ?_))
      refine ⟨rfl, ⟨A3, n3, c3, hs3⟩, by rw [ev.out]; rfl, (by intro j _; rw [ev.out]), ?_⟩
      rw [hJ.out]
      exact ⟨K, HQ⟩
    rcases i with _ | i
    · obtain rfl := Option.some.inj ho
      replace hb := hid hb
      replace hc := hid hc
      clear ho hw
      go_wp2_with (first
        | go_big_skip
        | ((with_reducible show wpList _ _ _ _ _ _); refine kgLoadA (by rfl) 24 _ (by rfl) 2 _ Tryd.underlying24 rfl (by kernel_rfl) K (by rfl) (by repeat (first | exact List.mem_cons_self | refine List.mem_cons_of_mem _ ?_)) (part := [_, _]) (by rfl) (by rfl) ?_))
      refine ⟨rfl, ⟨A3, n3, c3, hs3⟩, by rw [ev.out]; rfl, (by intro j _; rw [ev.out]), ?_⟩
      rw [hJ.out]
      exact ⟨K, HQ⟩
    rcases i with _ | i
    · obtain rfl := Option.some.inj ho
      replace hb := hid hb
      replace hc := hid hc
      clear ho hw
      go_wp2_with (first
        | fail)
      refine ⟨rfl, ⟨A3, n3, c3, hs3⟩, by rw [ev.out]; rfl, (by intro j _; rw [ev.out]), ?_⟩
      rw [hJ.out]
      exact ⟨K, HQ⟩
    rcases i with _ | i
    · obtain rfl := Option.some.inj ho
      replace hb : b 6 = false := hb
      simp only [hb, Bool.false_eq_true, if_false] at K
      replace hb := hid hb
      replace hc := hid hc
      clear ho hw
      go_wp2_with (first
        | go_big_skip
        | ((with_reducible show wpList _ _ _ _ _ _); refine kgStore (by rfl) 26 (.tmp 6) _ (by rfl) 7 (by kernel_rfl) [] (by exact K) (by rfl) (by rfl) [_, _, _, _, _, _, _] (by rfl) (by rfl) (by simp) (by simp [Value.oneCell']) (cs := [_, _, _, _, _, _, _]) (by rfl) ?_; intro V2 K1; (dsimp only [List.cons_append, List.nil_append] at K1); clear K; (have K := K1); clear K1))
      refine ⟨rfl, ⟨A3, n3, c3, hs3⟩, trivial, (by intro j _; rw [ev.out]), ?_⟩
      rw [hJ.out]
      exact ⟨K, HQ⟩
    rcases i with _ | i
    · obtain rfl := Option.some.inj ho
      replace hb := hid hb
      replace hc := hid hc
      clear ho hw
      go_wp2_with (first
        | fail)
      refine ⟨rfl, ⟨A3, n3, c3, hs3⟩, by rw [ev.out]; rfl, (by intro j _; rw [ev.out]), ?_⟩
      rw [hJ.out]
      exact ⟨K, HQ⟩
    · cases ho
  case fin =>
    clear K
    intro x b W hb K
    obtain ⟨A3, n3, c3, hs3⟩ := x
    rw [hJ.out] at K
    dsimp only at K
    have ev : vs ⟨A3, n3, c3, hs3⟩ = [.pointer (some ⟨g3, 0, none⟩), .slice A hs.length c, .slice A3 n3 c3, .agg #[.int .i64 pl, .int .i64 pa], .agg #[.int .i64 ql, .int .i64 qa], .agg #[.slice A3 n3 c3, .int .i64 pl, .int .i64 pa, .int .i64 ql, .int .i64 qa, .int .i64 0, .int .i64 0], undef, .int .i64 0] := by rw [hvs.out]
    rw [ev]
    clear ev
    simp only [drFrame, List.setIfInBounds_toArray, List.set_cons_succ, List.set_cons_zero]
    have b2 := hb 2 (by decide)
    have b6 := hb 6 (by decide)
    simp only [b2, b6, if_true] at K
    clear b2 b6
    clear hb hJ hvs
    obtain ⟨K, HQ⟩ := K
    replace HQ := HQ trivial
    go_wp2_with (first
      | fail)
    refine bodyPost_ret (results_ct Tryd.results12 (by rfl) (K.out.loadA (off := 0) (n := 7) (by repeat (first | exact List.mem_cons_self | refine List.mem_cons_of_mem _ ?_)) Tryd.underlying26 rfl (by kernel_rfl) (part := [_, _, _, _, _, _, _]) (by rfl) (by rfl)) (by rfl)) rfl ?_
    exact ⟨A3, n3, c3, hs3, rfl, HQ.out.1, HQ.out.2.1, HQ.out.2.2, K.out.docW (by simp), K.out.b⟩
theorem tSel_any (hs : List Hd) (A : Option Addr) (n c C : Nat) (hn : n = hs.length) (w : World) (hd : DocAt w C A hs) (h1 : hs.length ≤ 1000) (h2 : ∀ h ∈ hs, h.l.ls.length ≤ 1000000 ∧ h.l.cs.length ≤ 1000000) (hf : ∀ h ∈ hs, FineC h.l.cs) (hT : Tb w) (al aa fl fa on off pl pa ql qa : Int) :
    Calls Tryd.prog 12 #[.agg #[.slice A n c, .int .i64 al, .int .i64 aa, .int .i64 fl, .int .i64 fa, .int .i64 on, .int .i64 off], .agg #[.int .i64 pl, .int .i64 pa], .agg #[.int .i64 ql, .int .i64 qa]] w (RetStE (selS ⟨lnsOf hs, ⟨al, aa⟩, ⟨fl, fa⟩, on, off⟩ ⟨pl, pa⟩ ⟨ql, qa⟩) w) := by
  unfold selS
  cases m1 : mayS ⟨lnsOf hs, ⟨al, aa⟩, ⟨fl, fa⟩, on, off⟩ with
  | false => rw [if_neg (fun h => by cases h.1)]; exact tSel_0 hs A n c C hn w hd h1 h2 hf hT al aa fl fa on off pl pa ql qa m1
  | true =>
    cases m2 : isD (lnsOf hs) ⟨pl, pa⟩ with
    | false => rw [if_neg (fun h => by cases h.2.1)]; exact tSel_1 hs A n c C hn w hd h1 h2 hf hT al aa fl fa on off pl pa ql qa m1 m2
    | true =>
      cases m3 : isD (lnsOf hs) ⟨ql, qa⟩ with
      | false => rw [if_neg (fun h => by cases h.2.2)]; exact tSel_2 hs A n c C hn w hd h1 h2 hf hT al aa fl fa on off pl pa ql qa m1 m2 m3
      | true => rw [if_pos ⟨rfl, rfl, rfl⟩]; exact tSel_3 hs A n c C hn w hd h1 h2 hf hT al aa fl fa on off pl pa ql qa m1 m2 m3
end Go.Proofs.YtblbfoniimnkcaaDoor
