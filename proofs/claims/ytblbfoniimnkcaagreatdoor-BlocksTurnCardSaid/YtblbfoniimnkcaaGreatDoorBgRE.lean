/- Texts on cells and lines, put together: RTurn25, REach, RTell, RList25. -/
import Derived.Test.YtblbfoniimnkcaaGreatDoorLnRs
import Derived.Test.YtblbfoniimnkcaaGreatDoorBgKg
import Derived.Test.YtblbfoniimnkcaaGreatDoorBgIt
import Derived.BigQuiet
import Derived.Deep.QuietTactic
import Derived.Test.YtblbfoniimnkcaaGreatDoorBgR7
import Derived.Test.YtblbfoniimnkcaaGreatDoorBgRO
import Derived.Test.YtblbfoniimnkcaaGreatDoorBgPl
import Derived.Test.YtblbfoniimnkcaaGreatDoorBgBl
/- The walk of the reference's turn of a line. (Printed by wip/bldoc.py.) -/
namespace Go.Proofs.YtblbfoniimnkcaaGreatDoor
open Go.RowKit Go.Lib

set_option maxRecDepth 100000 in
set_option maxHeartbeats 4000000 in
theorem rTurn25_0 (l : Ln) (A : Option Addr) (n c : Nat) (B : Option Addr) (m d C : Nat) (hn : n = l.ls.length) (hm : m = l.cs.length) (w : World) (hl : LnAt w C l A B) (h1 : l.ls.length ≤ 1000000000) (h2 : l.cs.length ≤ 1000000000) (hf : FineC l.cs) (hcl : n ≤ c) (kind : Int) :
    Calls Tryz.prog 30 #[.agg #[.int .i64 l.q, .slice A n c, .int .i64 l.k, .slice B m d], .int .i64 0, .int .i64 kind] w (RetLnE (formatL l kind) w) := by
  subst hn hm
  have K := hid (KG.start w [] (by simp))
  have HL := hid hl.live
  have FI := hid hf
  have HC := hid hcl
  clear hcl
  obtain ⟨⟨m1, ec⟩, hr⟩ : ∃ r, formatL l kind = r := ⟨_, rfl⟩
  rw [hr]
  have FR := hid hr
  clear hl hf hr
  go_enter Tryz.func30, Tryz.ntmps30
  go_wp2_with (first
    | go_big_skip
    | ((with_reducible show wpList _ _ _ _ _ _); refine kgBox (by rfl) 46 _ (by rfl) (some 3) (by rfl) (by rfl) [_, _, _, _] (by rfl) K ?_; intro g3 V1 K1; clear K; (have K := K1); clear K1)
    | ((with_reducible show wpList _ _ _ _ _ _); refine kgAlloc (by rfl) 46 (by rfl) (some 6) (by rfl) [.int .i64 0, .slice none 0 0, .int .i64 0, .slice none 0 0] (fun _ => by kernel_rfl) K ?_; intro g6 V1 K1; clear K; (have K := K1); clear K1)
    | ((with_reducible show wpList _ _ _ _ _ _); refine kgLoadA (by rfl) 46 _ (by rfl) 4 _ Tryz.underlying46 rfl (by kernel_rfl) K (by rfl) (by repeat (first | exact List.mem_cons_self | refine List.mem_cons_of_mem _ ?_)) (part := [_, _, _, _]) (by rfl) (by rfl) ?_)
    | (go_at_call 47; (with_reducible refine (refLFormat_any l A _ c B _ d _ rfl rfl _ (HL.out.belowM K.out.b (Nat.le_refl _)) h1 h2 FI.out HC.out kind).mono ?_); rintro e W3 hc; rw [FR.out] at hc; obtain ⟨A3, c3, B3, d3, rfl, le1, le2, wr, hb3⟩ := hc; (have HX9 : Hid (HdW W3 w.heap.size (⟨m1, A3, c3, B3, d3⟩ : Hd)) := hid ⟨wr.based K.out.b.size, le1, le2⟩); simp only [lnV]; (have K2 := hid (K.out.later hb3)); clear le1 le2 wr hb3 K; (have K := K2); clear K2)
    | ((with_reducible show wpList _ _ _ _ _ _); (have KQ := K); refine kgStoreT (by rfl) 46 (.tmp 6) _ (by rfl) 4 (by kernel_rfl) [] (by exact K) (by rfl) (by rfl) [_, _, _, _] (by rfl) (by rfl) (by simp) (by simp [Value.oneCell']) (cs := [_, _, _, _]) (by rfl) ?_; intro V2 ON1 K1; (dsimp only [List.cons_append, List.nil_append] at K1); clear K; (have K := K1); clear K1; (have E0 := hid (KQ.out.bx ⟨g6, 46, [.int .i64 0, .slice none 0 0, .int .i64 0, .slice none 0 0]⟩ (by simp)).2); (have HXB := hid (HX9.out.onl (t := 46) ON1.out E0.out (by decide) (by decide)))))
  refine bodyPost_ret (results_ct Tryz.results30 (by rfl) (K.out.loadA (off := 0) (n := 4) (by repeat (first | exact List.mem_cons_self | refine List.mem_cons_of_mem _ ?_)) Tryz.underlying46 rfl (by kernel_rfl) (part := [_, _, _, _]) (by rfl) (by rfl)) (by rfl)) rfl ?_
  exact ⟨A3, c3, B3, d3, rfl, HXB.out.c, HXB.out.d, HXB.out.wr, K.out.b⟩
set_option maxRecDepth 100000 in
set_option maxHeartbeats 4000000 in
theorem rTurn25_1 (l : Ln) (A : Option Addr) (n c : Nat) (B : Option Addr) (m d C : Nat) (hn : n = l.ls.length) (hm : m = l.cs.length) (w : World) (hl : LnAt w C l A B) (h1 : l.ls.length ≤ 1000000000) (h2 : l.cs.length ≤ 1000000000) (hf : FineC l.cs) (hcl : n ≤ c) (kind : Int) :
    Calls Tryz.prog 30 #[.agg #[.int .i64 l.q, .slice A n c, .int .i64 l.k, .slice B m d], .int .i64 1, .int .i64 kind] w (RetLnE (indentL l) w) := by
  subst hn hm
  have K := hid (KG.start w [] (by simp))
  have HL := hid hl.live
  have FI := hid hf
  have HC := hid hcl
  clear hcl
  obtain ⟨⟨m1, ec⟩, hr⟩ : ∃ r, indentL l = r := ⟨_, rfl⟩
  rw [hr]
  have FR := hid hr
  clear hl hf hr
  go_enter Tryz.func30, Tryz.ntmps30
  go_wp2_with (first
    | go_big_skip
    | ((with_reducible show wpList _ _ _ _ _ _); refine kgBox (by rfl) 46 _ (by rfl) (some 3) (by rfl) (by rfl) [_, _, _, _] (by rfl) K ?_; intro g3 V1 K1; clear K; (have K := K1); clear K1)
    | ((with_reducible show wpList _ _ _ _ _ _); refine kgAlloc (by rfl) 46 (by rfl) (some 6) (by rfl) [.int .i64 0, .slice none 0 0, .int .i64 0, .slice none 0 0] (fun _ => by kernel_rfl) K ?_; intro g6 V1 K1; clear K; (have K := K1); clear K1)
    | ((with_reducible show wpList _ _ _ _ _ _); refine kgLoadA (by rfl) 46 _ (by rfl) 4 _ Tryz.underlying46 rfl (by kernel_rfl) K (by rfl) (by repeat (first | exact List.mem_cons_self | refine List.mem_cons_of_mem _ ?_)) (part := [_, _, _, _]) (by rfl) (by rfl) ?_)
    | (go_at_call 48; (with_reducible refine (refLIndent_any l A _ c B _ d _ rfl rfl _ (HL.out.belowM K.out.b (Nat.le_refl _)) h1 h2 FI.out HC.out).mono ?_); rintro e W3 hc; rw [FR.out] at hc; obtain ⟨A3, c3, B3, d3, rfl, le1, le2, wr, hb3⟩ := hc; (have HX9 : Hid (HdW W3 w.heap.size (⟨m1, A3, c3, B3, d3⟩ : Hd)) := hid ⟨wr.based K.out.b.size, le1, le2⟩); simp only [lnV]; (have K2 := hid (K.out.later hb3)); clear le1 le2 wr hb3 K; (have K := K2); clear K2)
    | ((with_reducible show wpList _ _ _ _ _ _); (have KQ := K); refine kgStoreT (by rfl) 46 (.tmp 6) _ (by rfl) 4 (by kernel_rfl) [] (by exact K) (by rfl) (by rfl) [_, _, _, _] (by rfl) (by rfl) (by simp) (by simp [Value.oneCell']) (cs := [_, _, _, _]) (by rfl) ?_; intro V2 ON1 K1; (dsimp only [List.cons_append, List.nil_append] at K1); clear K; (have K := K1); clear K1; (have E0 := hid (KQ.out.bx ⟨g6, 46, [.int .i64 0, .slice none 0 0, .int .i64 0, .slice none 0 0]⟩ (by simp)).2); (have HXB := hid (HX9.out.onl (t := 46) ON1.out E0.out (by decide) (by decide)))))
  refine bodyPost_ret (results_ct Tryz.results30 (by rfl) (K.out.loadA (off := 0) (n := 4) (by repeat (first | exact List.mem_cons_self | refine List.mem_cons_of_mem _ ?_)) Tryz.underlying46 rfl (by kernel_rfl) (part := [_, _, _, _]) (by rfl) (by rfl)) (by rfl)) rfl ?_
  exact ⟨A3, c3, B3, d3, rfl, HXB.out.c, HXB.out.d, HXB.out.wr, K.out.b⟩
set_option maxRecDepth 100000 in
set_option maxHeartbeats 4000000 in
theorem rTurn25_2 (l : Ln) (A : Option Addr) (n c : Nat) (B : Option Addr) (m d C : Nat) (hn : n = l.ls.length) (hm : m = l.cs.length) (w : World) (hl : LnAt w C l A B) (h1 : l.ls.length ≤ 1000000000) (h2 : l.cs.length ≤ 1000000000) (hf : FineC l.cs) (hcl : n ≤ c) (kind : Int) :
    Calls Tryz.prog 30 #[.agg #[.int .i64 l.q, .slice A n c, .int .i64 l.k, .slice B m d], .int .i64 2, .int .i64 kind] w (RetLnE (outdentL l) w) := by
  subst hn hm
  have K := hid (KG.start w [] (by simp))
  have HL := hid hl.live
  have FI := hid hf
  have HC := hid hcl
  clear hcl
  obtain ⟨⟨m1, ec⟩, hr⟩ : ∃ r, outdentL l = r := ⟨_, rfl⟩
  rw [hr]
  have FR := hid hr
  clear hl hf hr
  go_enter Tryz.func30, Tryz.ntmps30
  go_wp2_with (first
    | go_big_skip
    | ((with_reducible show wpList _ _ _ _ _ _); refine kgBox (by rfl) 46 _ (by rfl) (some 3) (by rfl) (by rfl) [_, _, _, _] (by rfl) K ?_; intro g3 V1 K1; clear K; (have K := K1); clear K1)
    | ((with_reducible show wpList _ _ _ _ _ _); refine kgAlloc (by rfl) 46 (by rfl) (some 6) (by rfl) [.int .i64 0, .slice none 0 0, .int .i64 0, .slice none 0 0] (fun _ => by kernel_rfl) K ?_; intro g6 V1 K1; clear K; (have K := K1); clear K1)
    | ((with_reducible show wpList _ _ _ _ _ _); refine kgLoadA (by rfl) 46 _ (by rfl) 4 _ Tryz.underlying46 rfl (by kernel_rfl) K (by rfl) (by repeat (first | exact List.mem_cons_self | refine List.mem_cons_of_mem _ ?_)) (part := [_, _, _, _]) (by rfl) (by rfl) ?_)
    | (go_at_call 49; (with_reducible refine (refLOutdent_any l A _ c B _ d _ rfl rfl _ (HL.out.belowM K.out.b (Nat.le_refl _)) h1 h2 FI.out HC.out).mono ?_); rintro e W3 hc; rw [FR.out] at hc; obtain ⟨A3, c3, B3, d3, rfl, le1, le2, wr, hb3⟩ := hc; (have HX9 : Hid (HdW W3 w.heap.size (⟨m1, A3, c3, B3, d3⟩ : Hd)) := hid ⟨wr.based K.out.b.size, le1, le2⟩); simp only [lnV]; (have K2 := hid (K.out.later hb3)); clear le1 le2 wr hb3 K; (have K := K2); clear K2)
    | ((with_reducible show wpList _ _ _ _ _ _); (have KQ := K); refine kgStoreT (by rfl) 46 (.tmp 6) _ (by rfl) 4 (by kernel_rfl) [] (by exact K) (by rfl) (by rfl) [_, _, _, _] (by rfl) (by rfl) (by simp) (by simp [Value.oneCell']) (cs := [_, _, _, _]) (by rfl) ?_; intro V2 ON1 K1; (dsimp only [List.cons_append, List.nil_append] at K1); clear K; (have K := K1); clear K1; (have E0 := hid (KQ.out.bx ⟨g6, 46, [.int .i64 0, .slice none 0 0, .int .i64 0, .slice none 0 0]⟩ (by simp)).2); (have HXB := hid (HX9.out.onl (t := 46) ON1.out E0.out (by decide) (by decide)))))
  refine bodyPost_ret (results_ct Tryz.results30 (by rfl) (K.out.loadA (off := 0) (n := 4) (by repeat (first | exact List.mem_cons_self | refine List.mem_cons_of_mem _ ?_)) Tryz.underlying46 rfl (by kernel_rfl) (part := [_, _, _, _]) (by rfl) (by rfl)) (by rfl)) rfl ?_
  exact ⟨A3, c3, B3, d3, rfl, HXB.out.c, HXB.out.d, HXB.out.wr, K.out.b⟩
set_option maxRecDepth 100000 in
set_option maxHeartbeats 4000000 in
theorem rTurn25_3 (l : Ln) (A : Option Addr) (n c : Nat) (B : Option Addr) (m d C : Nat) (hn : n = l.ls.length) (hm : m = l.cs.length) (w : World) (hl : LnAt w C l A B) (h1 : l.ls.length ≤ 1000000000) (h2 : l.cs.length ≤ 1000000000) (hf : FineC l.cs) (hcl : n ≤ c) (kind : Int) :
    Calls Tryz.prog 30 #[.agg #[.int .i64 l.q, .slice A n c, .int .i64 l.k, .slice B m d], .int .i64 3, .int .i64 kind] w (RetLnE (listL l kind) w) := by
  subst hn hm
  have K := hid (KG.start w [] (by simp))
  have HL := hid hl.live
  have FI := hid hf
  have HC := hid hcl
  clear hcl
  obtain ⟨⟨m1, ec⟩, hr⟩ : ∃ r, listL l kind = r := ⟨_, rfl⟩
  rw [hr]
  have FR := hid hr
  clear hl hf hr
  go_enter Tryz.func30, Tryz.ntmps30
  go_wp2_with (first
    | go_big_skip
    | ((with_reducible show wpList _ _ _ _ _ _); refine kgBox (by rfl) 46 _ (by rfl) (some 3) (by rfl) (by rfl) [_, _, _, _] (by rfl) K ?_; intro g3 V1 K1; clear K; (have K := K1); clear K1)
    | ((with_reducible show wpList _ _ _ _ _ _); refine kgAlloc (by rfl) 46 (by rfl) (some 6) (by rfl) [.int .i64 0, .slice none 0 0, .int .i64 0, .slice none 0 0] (fun _ => by kernel_rfl) K ?_; intro g6 V1 K1; clear K; (have K := K1); clear K1)
    | ((with_reducible show wpList _ _ _ _ _ _); refine kgLoadA (by rfl) 46 _ (by rfl) 4 _ Tryz.underlying46 rfl (by kernel_rfl) K (by rfl) (by repeat (first | exact List.mem_cons_self | refine List.mem_cons_of_mem _ ?_)) (part := [_, _, _, _]) (by rfl) (by rfl) ?_)
    | (go_at_call 50; (with_reducible refine (refLList_any l A _ c B _ d _ rfl rfl _ (HL.out.belowM K.out.b (Nat.le_refl _)) h1 h2 FI.out HC.out kind).mono ?_); rintro e W3 hc; rw [FR.out] at hc; obtain ⟨A3, c3, B3, d3, rfl, le1, le2, wr, hb3⟩ := hc; (have HX9 : Hid (HdW W3 w.heap.size (⟨m1, A3, c3, B3, d3⟩ : Hd)) := hid ⟨wr.based K.out.b.size, le1, le2⟩); simp only [lnV]; (have K2 := hid (K.out.later hb3)); clear le1 le2 wr hb3 K; (have K := K2); clear K2)
    | ((with_reducible show wpList _ _ _ _ _ _); (have KQ := K); refine kgStoreT (by rfl) 46 (.tmp 6) _ (by rfl) 4 (by kernel_rfl) [] (by exact K) (by rfl) (by rfl) [_, _, _, _] (by rfl) (by rfl) (by simp) (by simp [Value.oneCell']) (cs := [_, _, _, _]) (by rfl) ?_; intro V2 ON1 K1; (dsimp only [List.cons_append, List.nil_append] at K1); clear K; (have K := K1); clear K1; (have E0 := hid (KQ.out.bx ⟨g6, 46, [.int .i64 0, .slice none 0 0, .int .i64 0, .slice none 0 0]⟩ (by simp)).2); (have HXB := hid (HX9.out.onl (t := 46) ON1.out E0.out (by decide) (by decide)))))
  refine bodyPost_ret (results_ct Tryz.results30 (by rfl) (K.out.loadA (off := 0) (n := 4) (by repeat (first | exact List.mem_cons_self | refine List.mem_cons_of_mem _ ?_)) Tryz.underlying46 rfl (by kernel_rfl) (part := [_, _, _, _]) (by rfl) (by rfl)) (by rfl)) rfl ?_
  exact ⟨A3, c3, B3, d3, rfl, HXB.out.c, HXB.out.d, HXB.out.wr, K.out.b⟩
end Go.Proofs.YtblbfoniimnkcaaGreatDoor

/- The walk of the reference's Each. (Printed by wip/bldoc.py.) -/
namespace Go.Proofs.YtblbfoniimnkcaaGreatDoor
open Go.RowKit Go.Lib

set_option maxRecDepth 100000 in
set_option maxHeartbeats 16000000 in
theorem rEach_no (hs : List Hd) (A : Option Addr) (n c C : Nat) (hn : n = hs.length) (w : World) (hd : DocAt w C A hs) (h1 : hs.length ≤ 1000) (h2 : ∀ h ∈ hs, h.l.ls.length ≤ 1000000 ∧ h.l.cs.length ≤ 1000000) (hf : ∀ h ∈ hs, FineC h.l.cs) (al aa fl fa on off : Int) (w1 : (Lit.int .i64 on).wf = true) (w2 : (Lit.int .i64 off).wf = true) (do_ kind : Int) (mb : mayS ⟨lnsOf hs, ⟨al, aa⟩, ⟨fl, fa⟩, on, off⟩ = false) :
    Calls Tryz.prog 13 #[.agg #[.slice A n c, .int .i64 al, .int .i64 aa, .int .i64 fl, .int .i64 fa, .int .i64 on, .int .i64 off], .int .i64 do_, .int .i64 kind] w (RetStE (zS, 1) w) := by
  have HD := hid hd.live
  subst hn
  have D0 := hid h2
  have L0 := hid h1
  have K := hid (KG.start w [⟨hs, A, false⟩] (by simpa using hd.live))
  have FI := hid hf
  have W1 := hid w1
  have W2 := hid w2
  clear hd h2 hf w1 w2
  have MB := hid mb
  clear mb HD
  go_enter Tryz.func13, Tryz.ntmps13
  go_wp2_with (first
    | go_big_skip
    | ((with_reducible show wpList _ _ _ _ _ _); refine kgBox (by rfl) 26 _ (by rfl) (some 3) (by rfl) (by rfl) [_, _, _, _, _, _, _] (by rfl) K ?_; intro g3 V1 K1; clear K; (have K := K1); clear K1)
    | ((with_reducible show wpList _ _ _ _ _ _); refine kgAlloc (by rfl) 26 (by rfl) (some 6) (by rfl) [.slice none 0 0, .int .i64 0, .int .i64 0, .int .i64 0, .int .i64 0, .int .i64 0, .int .i64 0] (fun _ => by kernel_rfl) K ?_; intro g6 V1 K1; clear K; (have K := K1); clear K1)
    | ((with_reducible show wpList _ _ _ _ _ _); refine kgLoadA (by rfl) 26 _ (by rfl) 7 _ Tryz.underlying26 rfl (by kernel_rfl) K (by rfl) (by repeat (first | exact List.mem_cons_self | refine List.mem_cons_of_mem _ ?_)) (part := [_, _, _, _, _, _, _]) (by rfl) (by rfl) ?_)
    | (go_at_call 23; (with_reducible refine (rMay23_any hs A _ c _ rfl _ (K.out.at_ (d := ⟨hs, A, false⟩) (by simp)) L0.out D0.out FI.out al aa fl fa on off W1.out W2.out).mono ?_); rintro e WM ⟨rfl, hb⟩; rw [MB.out]; (have K2 := hid (K.out.later hb)); clear hb K; (have K := K2); clear K2)
    | ((with_reducible show wpList _ _ _ _ _ _); refine kgStore (by rfl) 26 (.tmp 6) _ (by rfl) 7 (by kernel_rfl) [] (by exact K) (by rfl) (by rfl) [_, _, _, _, _, _, _] (by rfl) (by rfl) (by simp) (by simp [Value.oneCell']) (cs := [_, _, _, _, _, _, _]) (by rfl) ?_; intro V2 K1; (dsimp only [List.cons_append, List.nil_append] at K1); clear K; (have K := K1); clear K1))
  refine bodyPost_ret (results_ct Tryz.results13 (by rfl) (K.out.loadA (off := 0) (n := 7) (by repeat (first | exact List.mem_cons_self | refine List.mem_cons_of_mem _ ?_)) Tryz.underlying26 rfl (by kernel_rfl) (part := [_, _, _, _, _, _, _]) (by rfl) (by rfl)) (by rfl)) rfl ?_
  exact ⟨none, 0, 0, [], rfl, rfl, Nat.le_refl _, rfl, DocW.nil, K.out.b⟩
set_option maxRecDepth 100000 in
set_option maxHeartbeats 16000000 in
theorem rEach_bad (hs : List Hd) (A : Option Addr) (n c C : Nat) (hn : n = hs.length) (w : World) (hd : DocAt w C A hs) (h1 : hs.length ≤ 1000) (h2 : ∀ h ∈ hs, h.l.ls.length ≤ 1000000 ∧ h.l.cs.length ≤ 1000000) (hf : ∀ h ∈ hs, FineC h.l.cs) (al aa fl fa on off : Int) (w1 : (Lit.int .i64 on).wf = true) (w2 : (Lit.int .i64 off).wf = true) (do_ kind : Int) (fL : Ln → Ln × Int) (hbad : ∀ l, fL l = (zL, 1)) (hcall : ∀ (x : Hd) (W : World), x ∈ hs → LnAt W W.heap.size x.l x.A x.B → Calls Tryz.prog 30 #[.agg #[.int .i64 x.l.q, .slice x.A x.l.ls.length x.c, .int .i64 x.l.k, .slice x.B x.l.cs.length x.d], .int .i64 do_, .int .i64 kind] W (RetLnE (fL x.l) W)) (mb : mayS ⟨lnsOf hs, ⟨al, aa⟩, ⟨fl, fa⟩, on, off⟩ = true) :
    Calls Tryz.prog 13 #[.agg #[.slice A n c, .int .i64 al, .int .i64 aa, .int .i64 fl, .int .i64 fa, .int .i64 on, .int .i64 off], .int .i64 do_, .int .i64 kind] w (RetStE (zS, 1) w) := by
  have HD := hid hd.live
  subst hn
  have D0 := hid h2
  have L0 := hid h1
  have K := hid (KG.start w [⟨hs, A, false⟩] (by simpa using hd.live))
  have FI := hid hf
  have W1 := hid w1
  have W2 := hid w2
  clear hd h2 hf w1 w2
  have MB := hid mb
  obtain ⟨f, t, pa, qa, hp, hq, hft, htl, hln, hfn, hsn⟩ := span_nat mb
  have HP := hid hp
  have HQ := hid hq
  have FN := hid hfn
  have SN := hid hsn
  dsimp only at htl hln
  rw [lnsOf_len] at htl hln
  have hf0 : (0 : Int) ≤ (f : Int) := by omega
  have ht3 : (t : Int) ≤ 300 := by omega
  clear hp hq hfn hsn
  have CC := hid hcall
  have HBAD := hid hbad
  clear mb hcall hbad HD
  go_enter Tryz.func13, Tryz.ntmps13
  go_wp2_with (first
    | go_big_skip
    | ((with_reducible show wpList _ _ _ _ _ _); refine kgBox (by rfl) 26 _ (by rfl) (some 3) (by rfl) (by rfl) [_, _, _, _, _, _, _] (by rfl) K ?_; intro g3 V1 K1; clear K; (have K := K1); clear K1)
    | ((with_reducible show wpList _ _ _ _ _ _); refine kgAlloc (by rfl) 26 (by rfl) (some 6) (by rfl) [.slice none 0 0, .int .i64 0, .int .i64 0, .int .i64 0, .int .i64 0, .int .i64 0, .int .i64 0] (fun _ => by kernel_rfl) K ?_; intro g6 V1 K1; clear K; (have K := K1); clear K1)
    | ((with_reducible show wpList _ _ _ _ _ _); refine kgLoadA (by rfl) 26 _ (by rfl) 7 _ Tryz.underlying26 rfl (by kernel_rfl) K (by rfl) (by repeat (first | exact List.mem_cons_self | refine List.mem_cons_of_mem _ ?_)) (part := [_, _, _, _, _, _, _]) (by rfl) (by rfl) ?_)
    | (go_at_call 23; (with_reducible refine (rMay23_any hs A _ c _ rfl _ (K.out.at_ (d := ⟨hs, A, false⟩) (by simp)) L0.out D0.out FI.out al aa fl fa on off W1.out W2.out).mono ?_); rintro e WM ⟨rfl, hb⟩; rw [MB.out]; (have K2 := hid (K.out.later hb)); clear hb K; (have K := K2); clear K2)
    | (go_at_call 11; (with_reducible refine (rOwn23_any hs A _ c _ rfl _ (K.out.at_ (d := ⟨hs, A, false⟩) (by simp)) L0.out D0.out al aa fl fa on off).mono ?_); rintro e W4 ⟨A3, n3, c3, hs3, rfl, q1, q2, q3, ho, hb3⟩; dsimp only at q3; unfold stV; dsimp only; (obtain rfl : n3 = hs3.length := q1); (have Q2 := hid q2); (have Q3 := hid q3); (have K2 := hid (K.out.addW hb3 ho)); clear q2 q3 ho hb3 K; (have K := K2); clear K2)
    | ((with_reducible show wpList _ _ _ _ _ _); refine kgAlloc (by rfl) 26 (by rfl) (some 8) (by rfl) [.slice none 0 0, .int .i64 0, .int .i64 0, .int .i64 0, .int .i64 0, .int .i64 0, .int .i64 0] (fun _ => by kernel_rfl) K ?_; intro g8 V1 K1; clear K; (have K := K1); clear K1)
    | ((with_reducible show wpList _ _ _ _ _ _); refine kgStore (by rfl) 26 (.tmp 8) _ (by rfl) 7 (by kernel_rfl) [] (by exact K) (by rfl) (by rfl) [_, _, _, _, _, _, _] (by rfl) (by rfl) (by simp) (by simp [Value.oneCell']) (cs := [_, _, _, _, _, _, _]) (by rfl) ?_; intro V2 K1; (dsimp only [List.cons_append, List.nil_append] at K1); clear K; (have K := K1); clear K1)
    | ((with_reducible show wpList _ _ _ _ _ _); refine kgStore (by rfl) 3 (.tmp 21) _ (by rfl) 1 (by kernel_rfl) [] (by exact K) (by rfl) (v := .int .i64 0) (by rfl) [.int .i64 0] (by rfl) (by rfl) (by simp) (by simp [Value.oneCell']) (cs := [_, _, _, _, _, _, _]) (by rfl) ?_; intro V2 K1; (dsimp only [List.cons_append, List.nil_append] at K1); clear K; (have K := K1); clear K1)
    | ((with_reducible show wpList _ _ _ _ _ _); refine kgStore (by rfl) 3 (.tmp 22) _ (by rfl) 1 (by kernel_rfl) [] (by exact K) (by rfl) (v := .int .i64 0) (by rfl) [.int .i64 0] (by rfl) (by rfl) (by simp) (by simp [Value.oneCell']) (cs := [_, _, _, _, _, _, _]) (by rfl) ?_; intro V2 K1; (dsimp only [List.cons_append, List.nil_append] at K1); clear K; (have K := K1); clear K1)
    | (go_at_call 24; (with_reducible refine (rSpan23_any (lnsOf hs) A _ c al aa fl fa on off _).mono ?_); rintro e W3 ⟨rfl, hb⟩; rw [HP.out, HQ.out]; unfold psV; dsimp only; (have K2 := hid (K.out.later hb)); clear hb K; (have K := K2); clear K2)
    | ((with_reducible show wpList _ _ _ _ _ _); refine kgAlloc (by rfl) 24 (by rfl) (some 9) (by rfl) [.int .i64 0, .int .i64 0] (fun _ => by kernel_rfl) K ?_; intro g9 V1 K1; clear K; (have K := K1); clear K1)
    | ((with_reducible show wpList _ _ _ _ _ _); refine kgAlloc (by rfl) 24 (by rfl) (some 10) (by rfl) [.int .i64 0, .int .i64 0] (fun _ => by kernel_rfl) K ?_; intro g10 V1 K1; clear K; (have K := K1); clear K1)
    | ((with_reducible show wpList _ _ _ _ _ _); refine kgStore (by rfl) 24 (.tmp 9) _ (by rfl) 2 (by kernel_rfl) [_] (by exact K) (by rfl) (by rfl) [_, _] (by rfl) (by rfl) (by simp) (by simp [Value.oneCell']) (cs := [_, _]) (by rfl) ?_; intro V2 K1; (dsimp only [List.cons_append, List.nil_append] at K1); clear K; (have K := K1); clear K1)
    | ((with_reducible show wpList _ _ _ _ _ _); refine kgStore (by rfl) 24 (.tmp 10) _ (by rfl) 2 (by kernel_rfl) [] (by exact K) (by rfl) (by rfl) [_, _] (by rfl) (by rfl) (by simp) (by simp [Value.oneCell']) (cs := [_, _]) (by rfl) ?_; intro V2 K1; (dsimp only [List.cons_append, List.nil_append] at K1); clear K; (have K := K1); clear K1)
    | ((with_reducible show wpList _ _ _ _ _ _); refine kgLoad1 (by rfl) 3 _ (by rfl) _ Tryz.underlying3 rfl K (by rfl) (by repeat (first | exact List.mem_cons_self | refine List.mem_cons_of_mem _ ?_)) (by rfl) ?_))
  go_loopw [11, 12] (fun v i wr => v = .int .i64 0 ∧ i = .int .i64 (f : Int) ∧ Hid (KG w wr [⟨g10, 24, [.int .i64 (t : Int), .int .i64 qa]⟩, ⟨g9, 24, [.int .i64 (f : Int), .int .i64 pa]⟩, ⟨g8, 26, [.slice A3 hs3.length c3, .int .i64 al, .int .i64 aa, .int .i64 fl, .int .i64 fa, .int .i64 0, .int .i64 0]⟩, ⟨g6, 26, [.slice none 0 0, .int .i64 0, .int .i64 0, .int .i64 0, .int .i64 0, .int .i64 0, .int .i64 0]⟩, ⟨g3, 26, [.slice A hs.length c, .int .i64 al, .int .i64 aa, .int .i64 fl, .int .i64 fa, .int .i64 on, .int .i64 off]⟩] [⟨hs, A, false⟩])) (fun _ i _ => t + 1 - (intOf i).toNat)
  case atStart => exact ⟨rfl, rfl, hid (K.out.less (by repeat (first | exact List.Sublist.slnil | refine List.Sublist.cons_cons _ ?_ | refine List.Sublist.cons _ ?_)) (by simp))⟩
  case round =>
    clear K
    obtain ⟨rfl, rfl, K⟩ := hrel
    have hi1 : (f : Int) ≤ (t : Int) := by omega
    have hi2 : (f : Int) < (hs.length : Int) := by omega
    obtain ⟨ad, x, rfl, -, hx, -⟩ := (K.out.at_ (d := ⟨hs, A, false⟩) (by simp)).row.atH (show f < hs.length by omega)
    have HX := hid hx
    have XM := hid (List.mem_of_getElem? hx)
    clear hx
    go_wp2_with (first
      | go_big_skip
      | ((with_reducible show wpList _ _ _ _ _ _); refine kgLoad1 (by rfl) 3 _ (by rfl) _ Tryz.underlying3 rfl K (by rfl) (by repeat (first | exact List.mem_cons_self | refine List.mem_cons_of_mem _ ?_)) (by rfl) ?_)
      | ((with_reducible show wpList _ _ _ _ _ _); refine kgLoad1 (by rfl) 22 _ (by rfl) _ Tryz.underlying22 rfl K (by rfl) (by repeat (first | exact List.mem_cons_self | refine List.mem_cons_of_mem _ ?_)) (by rfl) ?_)
      | ((with_reducible show wpList _ _ _ _ _ _); refine kgElem (by rfl) 46 _ (by rfl) _ Tryz.underlying46 rfl (by kernel_rfl) K (by rfl) (by repeat (first | exact List.mem_cons_self | refine List.mem_cons_of_mem _ ?_)) HX.out ?_)
      | (go_at_call 30; (with_reducible refine (CC.out x _ XM.out ((K.out.at_ (d := ⟨hs, some ad, false⟩) (by simp)).ln HX.out).live).mono ?_); rintro e W5 hc; rw [HBAD.out] at hc; obtain ⟨A9, c9, B9, d9, rfl, -, -, -, hb3⟩ := hc; simp only [lnV, zL]; (have K2 := hid (K.out.later hb3)); clear hb3 K; (have K := K2); clear K2)
      | ((with_reducible show wpList _ _ _ _ _ _); refine kgAlloc (by rfl) 46 (by rfl) (some 13) (by rfl) [.int .i64 0, .slice none 0 0, .int .i64 0, .slice none 0 0] (fun _ => by kernel_rfl) K ?_; intro g13 V1 K1; clear K; (have K := K1); clear K1)
      | ((with_reducible show wpList _ _ _ _ _ _); refine kgStore (by rfl) 46 (.tmp 13) _ (by rfl) 4 (by kernel_rfl) [] (by exact K) (by rfl) (by rfl) [_, _, _, _] (by rfl) (by rfl) (by simp) (by simp [Value.oneCell']) (cs := [_, _, _, _]) (by rfl) ?_; intro V2 K1; (dsimp only [List.cons_append, List.nil_append] at K1); clear K; (have K := K1); clear K1)
      | ((with_reducible show wpList _ _ _ _ _ _); refine kgStore (by rfl) 26 (.tmp 6) _ (by rfl) 7 (by kernel_rfl) [_, _, _, _] (by exact K) (by rfl) (by rfl) [_, _, _, _, _, _, _] (by rfl) (by rfl) (by simp) (by simp [Value.oneCell']) (cs := [_, _, _, _, _, _, _]) (by rfl) ?_; intro V2 K1; (dsimp only [List.cons_append, List.nil_append] at K1); clear K; (have K := K1); clear K1))
    refine bodyPost_ret (results_ct Tryz.results13 (by rfl) (K.out.loadA (off := 0) (n := 7) (by repeat (first | exact List.mem_cons_self | refine List.mem_cons_of_mem _ ?_)) Tryz.underlying26 rfl (by kernel_rfl) (part := [_, _, _, _, _, _, _]) (by rfl) (by rfl)) (by rfl)) rfl ?_
    exact ⟨none, 0, 0, [], rfl, rfl, Nat.le_refl _, rfl, DocW.nil, K.out.b⟩
set_option maxRecDepth 100000 in
set_option maxHeartbeats 16000000 in
theorem rEach_good (hs : List Hd) (A : Option Addr) (n c C : Nat) (hn : n = hs.length) (w : World) (hd : DocAt w C A hs) (h1 : hs.length ≤ 1000) (h2 : ∀ h ∈ hs, h.l.ls.length ≤ 1000000 ∧ h.l.cs.length ≤ 1000000) (hf : ∀ h ∈ hs, FineC h.l.cs) (al aa fl fa on off : Int) (w1 : (Lit.int .i64 on).wf = true) (w2 : (Lit.int .i64 off).wf = true) (do_ kind : Int) (fL : Ln → Ln × Int) (herr : ∀ l, mayL l = true → (fL l).2 ≠ 1) (hcall : ∀ (x : Hd) (W : World), x ∈ hs → LnAt W W.heap.size x.l x.A x.B → Calls Tryz.prog 30 #[.agg #[.int .i64 x.l.q, .slice x.A x.l.ls.length x.c, .int .i64 x.l.k, .slice x.B x.l.cs.length x.d], .int .i64 do_, .int .i64 kind] W (RetLnE (fL x.l) W)) (mb : mayS ⟨lnsOf hs, ⟨al, aa⟩, ⟨fl, fa⟩, on, off⟩ = true) :
    Calls Tryz.prog 13 #[.agg #[.slice A n c, .int .i64 al, .int .i64 aa, .int .i64 fl, .int .i64 fa, .int .i64 on, .int .i64 off], .int .i64 do_, .int .i64 kind] w (RetStE (eachS fL ⟨lnsOf hs, ⟨al, aa⟩, ⟨fl, fa⟩, on, off⟩) w) := by
  have HD := hid hd.live
  subst hn
  have D0 := hid h2
  have L0 := hid h1
  have K := hid (KG.start w [⟨hs, A, false⟩] (by simpa using hd.live))
  have FI := hid hf
  have W1 := hid w1
  have W2 := hid w2
  clear hd h2 hf w1 w2
  have MB := hid mb
  obtain ⟨f, t, pa, qa, hp, hq, hft, htl, hln, hfn, hsn⟩ := span_nat mb
  have HP := hid hp
  have HQ := hid hq
  have FN := hid hfn
  have SN := hid hsn
  dsimp only at htl hln
  rw [lnsOf_len] at htl hln
  have hf0 : (0 : Int) ≤ (f : Int) := by omega
  have ht3 : (t : Int) ≤ 300 := by omega
  clear hp hq hfn hsn
  have EM := hid (eachS_may fL mb)
  dsimp only at EM
  rw [FN.out, SN.out] at EM
  obtain ⟨res, hres⟩ : ∃ res, eachS fL ⟨lnsOf hs, ⟨al, aa⟩, ⟨fl, fa⟩, on, off⟩ = res := ⟨_, rfl⟩
  rw [hres]
  have RS := hid hres
  clear hres
  have CC := hid hcall
  have NE := hid (fun (k : Nat) (x : Hd) (h1 : f ≤ k) (h2 : k ≤ t) (hx : hs[k]? = some x) => herr x.l (by
    obtain ⟨l, e1, e2⟩ := sel_line mb (k := k) (by rw [FN.out]; exact h1) (by rw [FN.out, SN.out]; omega)
    have e3 := lnsOf_get hx
    dsimp only at e1
    rw [e1] at e3
    rw [← Option.some.inj e3]
    exact e2))
  have YN : Hid (hs ≠ []) := hid (by rintro rfl; simp at htl)
  clear mb hcall herr
  go_enter Tryz.func13, Tryz.ntmps13
  go_wp2_with (first
    | go_big_skip
    | ((with_reducible show wpList _ _ _ _ _ _); refine kgBox (by rfl) 26 _ (by rfl) (some 3) (by rfl) (by rfl) [_, _, _, _, _, _, _] (by rfl) K ?_; intro g3 V1 K1; clear K; (have K := K1); clear K1)
    | ((with_reducible show wpList _ _ _ _ _ _); refine kgAlloc (by rfl) 26 (by rfl) (some 6) (by rfl) [.slice none 0 0, .int .i64 0, .int .i64 0, .int .i64 0, .int .i64 0, .int .i64 0, .int .i64 0] (fun _ => by kernel_rfl) K ?_; intro g6 V1 K1; clear K; (have K := K1); clear K1)
    | ((with_reducible show wpList _ _ _ _ _ _); refine kgLoadA (by rfl) 26 _ (by rfl) 7 _ Tryz.underlying26 rfl (by kernel_rfl) K (by rfl) (by repeat (first | exact List.mem_cons_self | refine List.mem_cons_of_mem _ ?_)) (part := [_, _, _, _, _, _, _]) (by rfl) (by rfl) ?_)
    | (go_at_call 23; (with_reducible refine (rMay23_any hs A _ c _ rfl _ (K.out.at_ (d := ⟨hs, A, false⟩) (by simp)) L0.out D0.out FI.out al aa fl fa on off W1.out W2.out).mono ?_); rintro e WM ⟨rfl, hb⟩; rw [MB.out]; (have K2 := hid (K.out.later hb)); clear hb K; (have K := K2); clear K2)
    | (go_at_call 11; (with_reducible refine (rOwn23_any hs A _ c _ rfl _ (K.out.at_ (d := ⟨hs, A, false⟩) (by simp)) L0.out D0.out al aa fl fa on off).mono ?_); rintro e W4 ⟨A3, n3, c3, hs3, rfl, q1, q2, q3, ho, hb3⟩; dsimp only at q3; unfold stV; dsimp only; (obtain rfl : n3 = hs3.length := q1); (have Q2 := hid q2); (have Q3 := hid q3); (have K2 := hid (K.out.addW hb3 ho)); clear q2 q3 ho hb3 K; (have K := K2); clear K2)
    | ((with_reducible show wpList _ _ _ _ _ _); refine kgAlloc (by rfl) 26 (by rfl) (some 8) (by rfl) [.slice none 0 0, .int .i64 0, .int .i64 0, .int .i64 0, .int .i64 0, .int .i64 0, .int .i64 0] (fun _ => by kernel_rfl) K ?_; intro g8 V1 K1; clear K; (have K := K1); clear K1)
    | ((with_reducible show wpList _ _ _ _ _ _); refine kgStore (by rfl) 26 (.tmp 8) _ (by rfl) 7 (by kernel_rfl) [] (by exact K) (by rfl) (by rfl) [_, _, _, _, _, _, _] (by rfl) (by rfl) (by simp) (by simp [Value.oneCell']) (cs := [_, _, _, _, _, _, _]) (by rfl) ?_; intro V2 K1; (dsimp only [List.cons_append, List.nil_append] at K1); clear K; (have K := K1); clear K1)
    | ((with_reducible show wpList _ _ _ _ _ _); refine kgStore (by rfl) 3 (.tmp 21) _ (by rfl) 1 (by kernel_rfl) [] (by exact K) (by rfl) (v := .int .i64 0) (by rfl) [.int .i64 0] (by rfl) (by rfl) (by simp) (by simp [Value.oneCell']) (cs := [_, _, _, _, _, _, _]) (by rfl) ?_; intro V2 K1; (dsimp only [List.cons_append, List.nil_append] at K1); clear K; (have K := K1); clear K1)
    | ((with_reducible show wpList _ _ _ _ _ _); refine kgStore (by rfl) 3 (.tmp 22) _ (by rfl) 1 (by kernel_rfl) [] (by exact K) (by rfl) (v := .int .i64 0) (by rfl) [.int .i64 0] (by rfl) (by rfl) (by simp) (by simp [Value.oneCell']) (cs := [_, _, _, _, _, _, _]) (by rfl) ?_; intro V2 K1; (dsimp only [List.cons_append, List.nil_append] at K1); clear K; (have K := K1); clear K1)
    | (go_at_call 24; (with_reducible refine (rSpan23_any (lnsOf hs) A _ c al aa fl fa on off _).mono ?_); rintro e W3 ⟨rfl, hb⟩; rw [HP.out, HQ.out]; unfold psV; dsimp only; (have K2 := hid (K.out.later hb)); clear hb K; (have K := K2); clear K2)
    | ((with_reducible show wpList _ _ _ _ _ _); refine kgAlloc (by rfl) 24 (by rfl) (some 9) (by rfl) [.int .i64 0, .int .i64 0] (fun _ => by kernel_rfl) K ?_; intro g9 V1 K1; clear K; (have K := K1); clear K1)
    | ((with_reducible show wpList _ _ _ _ _ _); refine kgAlloc (by rfl) 24 (by rfl) (some 10) (by rfl) [.int .i64 0, .int .i64 0] (fun _ => by kernel_rfl) K ?_; intro g10 V1 K1; clear K; (have K := K1); clear K1)
    | ((with_reducible show wpList _ _ _ _ _ _); refine kgStore (by rfl) 24 (.tmp 9) _ (by rfl) 2 (by kernel_rfl) [_] (by exact K) (by rfl) (by rfl) [_, _] (by rfl) (by rfl) (by simp) (by simp [Value.oneCell']) (cs := [_, _]) (by rfl) ?_; intro V2 K1; (dsimp only [List.cons_append, List.nil_append] at K1); clear K; (have K := K1); clear K1)
    | ((with_reducible show wpList _ _ _ _ _ _); refine kgStore (by rfl) 24 (.tmp 10) _ (by rfl) 2 (by kernel_rfl) [] (by exact K) (by rfl) (by rfl) [_, _] (by rfl) (by rfl) (by simp) (by simp [Value.oneCell']) (cs := [_, _]) (by rfl) ?_; intro V2 K1; (dsimp only [List.cons_append, List.nil_append] at K1); clear K; (have K := K1); clear K1)
    | ((with_reducible show wpList _ _ _ _ _ _); refine kgLoad1 (by rfl) 3 _ (by rfl) _ Tryz.underlying3 rfl K (by rfl) (by repeat (first | exact List.mem_cons_self | refine List.mem_cons_of_mem _ ?_)) (by rfl) ?_))
  obtain ⟨gr, ro, cur0, eA, K2, q4, q5, q6⟩ := KG.row K.out (by intro e; have h1 := Q3.out; rw [e] at h1; exact YN.out (List.eq_nil_of_length_eq_zero (by have := congrArg List.length h1; rw [lnsOf_len, lnsOf_len] at this; exact this.symm)))
  subst eA
  have KB := hid (K2.withDoc HD.out)
  have HL0 := hid q6
  have HC0 := hid (And.intro q4 q5)
  have N3 : Hid (hs3.length = hs.length) := hid (by rw [← lnsOf_len, Q3.out, lnsOf_len])
  clear K K2 q4 q5 q6
  go_loopw [11, 12] (fun v i wr => ∃ (k m : Nat) (cur : List Value) (rs : List Hd), f ≤ k ∧ k ≤ t + 1 ∧ v = .int .i64 (m : Int) ∧ i = .int .i64 (k : Int) ∧ m ≤ k ∧ Hid (m = 0 ↔ someN fL (lnsOf hs) f (k - f) = false) ∧ Hid (lnsOf rs = turnsN fL (lnsOf hs) f (k - f)) ∧ Hid (∀ z ∈ rs, HdW wr w.heap.size z) ∧ Hid (ro + rs.length * 4 ≤ cur.length ∧ (cur.drop ro).take (rs.length * 4) = rs.flatMap encH) ∧ Hid (KG w wr [⟨gr, 46, cur⟩, ⟨g10, 24, [.int .i64 (t : Int), .int .i64 qa]⟩, ⟨g9, 24, [.int .i64 (f : Int), .int .i64 pa]⟩, ⟨g8, 26, [.slice (some ⟨gr, ro, none⟩) hs3.length c3, .int .i64 al, .int .i64 aa, .int .i64 fl, .int .i64 fa, .int .i64 0, .int .i64 0]⟩, ⟨g6, 26, [.slice none 0 0, .int .i64 0, .int .i64 0, .int .i64 0, .int .i64 0, .int .i64 0, .int .i64 0]⟩, ⟨g3, 26, [.slice A hs.length c, .int .i64 al, .int .i64 aa, .int .i64 fl, .int .i64 fa, .int .i64 on, .int .i64 off]⟩] [⟨hs, A, false⟩])) (fun _ i _ => t + 1 - (intOf i).toNat)
  case atStart => exact ⟨f, 0, cur0, hs3, Nat.le_refl _, by omega, rfl, rfl, Nat.zero_le _, hid (by rw [Nat.sub_self]; exact ⟨fun _ => rfl, fun _ => rfl⟩), hid (by rw [Nat.sub_self]; exact Q3.out), HL0, HC0, KB⟩
  case round =>
    clear KB HL0 HC0
    obtain ⟨k, m, cur, rs, hfk, hkt, rfl, rfl, hmk, HM, HT, HL, HC, K⟩ := hrel
    have NR : Hid (rs.length = hs.length) := hid (by have h1 := congrArg List.length HT.out; rw [lnsOf_len, turnsN_len, lnsOf_len] at h1; exact h1)
    have hk3 : (k : Int) ≤ 301 := by omega
    have hm3 : (m : Int) ≤ 301 := by omega
    by_cases hlt : k ≤ t
    · have hi1 : (k : Int) ≤ (t : Int) := by omega
      have hi2 : (k : Int) < (hs.length : Int) := by omega
      have hi3 : (k : Int) < (hs3.length : Int) := by rw [N3.out]; omega
      obtain ⟨ad, x, rfl, -, hx, -⟩ := (K.out.at_ (d := ⟨hs, A, false⟩) (by simp)).row.atH (show k < hs.length by omega)
      have HX := hid hx
      have XM := hid (List.mem_of_getElem? hx)
      have HLT := hid hlt
      have XL := hid (show (lnsOf hs)[f + (k - f)]? = some x.l by rw [show f + (k - f) = k by omega]; exact lnsOf_get hx)
      obtain ⟨⟨m1, ec⟩, hfl⟩ : ∃ z, fL x.l = z := ⟨_, rfl⟩
      have FL := hid hfl
      have n1 : ec ≠ 1 := by have := NE.out k x hfk hlt hx; rw [hfl] at this; exact this
      have b1 : (ec == 1) = false := beq_eq_false_iff_ne.2 n1
      have KS := hid (show k + 1 - f = (k - f) + 1 by omega)
      have KF := hid (show f + (k - f) = k by omega)
      clear hx hfl n1 hlt
      by_cases h0 : ec = 0
      · subst h0
        have TY := hid (turnsN_yes fL (lnsOf hs) f (k - f) XL.out (by rw [FL.out]))
        obtain ⟨y, hy⟩ : ∃ y, rs[k]? = some y := ⟨_, List.getElem?_eq_getElem (by rw [NR.out]; omega)⟩
        have HY := hid hy
        have HLE : Hid (ro + k * 4 + 4 ≤ cur.length) := hid (by have h1 := HC.out.1; have h2 := NR.out; omega)
        clear hy b1
        go_wp2_with (first
          | go_big_skip
          | ((with_reducible show wpList _ _ _ _ _ _); refine kgLoad1 (by rfl) 3 _ (by rfl) _ Tryz.underlying3 rfl K (by rfl) (by repeat (first | exact List.mem_cons_self | refine List.mem_cons_of_mem _ ?_)) (by rfl) ?_)
          | ((with_reducible show wpList _ _ _ _ _ _); refine kgLoad1 (by rfl) 22 _ (by rfl) _ Tryz.underlying22 rfl K (by rfl) (by repeat (first | exact List.mem_cons_self | refine List.mem_cons_of_mem _ ?_)) (by rfl) ?_)
          | ((with_reducible show wpList _ _ _ _ _ _); refine kgElem (by rfl) 46 _ (by rfl) _ Tryz.underlying46 rfl (by kernel_rfl) K (by rfl) (by repeat (first | exact List.mem_cons_self | refine List.mem_cons_of_mem _ ?_)) HX.out ?_)
          | (go_at_call 30; (with_reducible refine (CC.out x _ XM.out ((K.out.at_ (d := ⟨hs, some ad, false⟩) (by simp)).ln HX.out).live).mono ?_); rintro e W5 hc; rw [FL.out] at hc; obtain ⟨A9, c9, B9, d9, rfl, le1, le2, wr9, hb3⟩ := hc; (have HX9 : Hid (HdW W5 w.heap.size (⟨m1, A9, c9, B9, d9⟩ : Hd)) := hid ⟨wr9.based K.out.b.size, le1, le2⟩); (have HL9 : Hid (∀ z ∈ rs, HdW W5 w.heap.size z) := hid (fun z hz => (HL.out z hz).later hb3)); simp only [lnV]; (have K2 := hid (K.out.later hb3)); clear le1 le2 wr9 hb3 K; (have K := K2); clear K2)
          | ((with_reducible show wpList _ _ _ _ _ _); refine kgAllocB (by rfl) 46 (by rfl) (some 13) (by rfl) [.int .i64 0, .slice none 0 0, .int .i64 0, .slice none 0 0] (fun _ => by kernel_rfl) K ?_; intro g13 V1 BA1 K1; clear K; (have K := K1); clear K1; (have HXA := hid (HX9.out.later BA1.out)); (have HLA : Hid (∀ z ∈ rs, HdW V1 w.heap.size z) := hid (fun z hz => (HL9.out z hz).later BA1.out)))
          | ((with_reducible show wpList _ _ _ _ _ _); (have KQ := K); refine kgStoreT (by rfl) 46 (.tmp 13) _ (by rfl) 4 (by kernel_rfl) [] (by exact K) (by rfl) (by rfl) [_, _, _, _] (by rfl) (by rfl) (by simp) (by simp [Value.oneCell']) (cs := [_, _, _, _]) (by rfl) ?_; intro V2 ON1 K1; (dsimp only [List.cons_append, List.nil_append] at K1); clear K; (have K := K1); clear K1; (have E0 := hid (KQ.out.bx ⟨g13, 46, [.int .i64 0, .slice none 0 0, .int .i64 0, .slice none 0 0]⟩ (by simp)).2); (have HXB := hid (HXA.out.onl (t := 46) ON1.out E0.out (by decide) (by decide))); (have HLB : Hid (∀ z ∈ rs, HdW V2 w.heap.size z) := hid (fun z hz => (HLA.out z hz).onl (t := 46) ON1.out E0.out (by decide) (by decide))); clear KQ)
          | ((with_reducible show wpList _ _ _ _ _ _); refine kgLoadA (by rfl) 46 _ (by rfl) 4 _ Tryz.underlying46 rfl (by kernel_rfl) K (by rfl) (by repeat (first | exact List.mem_cons_self | refine List.mem_cons_of_mem _ ?_)) (part := [_, _, _, _]) (by rfl) (by rfl) ?_)
          | ((with_reducible show wpList _ _ _ _ _ _); (have KP := K); refine kgStoreT (by rfl) 46 (.tmp 57) _ (by rfl) 4 (by kernel_rfl) [_] (by exact K) (off := ro + k * 4) (by rfl) (by rfl) [_, _, _, _] (by rfl) (by rfl) HLE.out (by simp [Value.oneCell']) (cs := set2 cur (ro + k * 4) (encH (⟨m1, A9, c9, B9, d9⟩ : Hd))) (by rfl) ?_; intro V3 ON2 K1; (dsimp only [List.cons_append, List.nil_append] at K1); clear K; (have K := K1); clear K1))
        have E2 := hid (KP.out.bx ⟨gr, 46, cur⟩ (by simp)).2
        go_roundw
        case rel =>
          refine ⟨k + 1, m + 1, _, rs.set k ⟨m1, A9, c9, B9, d9⟩, by omega, by have := HLT.out; omega, by go_num, by go_num, by omega, hid ⟨fun h => (by omega), fun h => (by rw [KS.out, TY.out.2] at h; cases h)⟩, hid ?_, hid (fun z hz => ?_), hid (set2_row HC.out.1 HC.out.2 HY.out), hid (K.out.less (List.sublist_cons_self _ _) (fun d h => h))⟩
          · rw [KS.out, TY.out.1, ← HT.out, KF.out, FL.out]
            unfold lnsOf
            rw [List.map_set]
          · rcases List.mem_or_eq_of_mem_set hz with hz | rfl
            · exact (HLB.out z hz).onl (t := 46) ON2.out E2.out (by decide) (by decide)
            · exact HXB.out.onl (t := 46) ON2.out E2.out (by decide) (by decide)
        case measure => simp [intOf]; have := HLT.out; omega
      · have b0 : (ec == 0) = false := beq_eq_false_iff_ne.2 h0
        have TN := hid (turnsN_no fL (lnsOf hs) f (k - f) XL.out (by rw [FL.out]; exact h0))
        clear h0
        go_wp2_with (first
          | go_big_skip
          | ((with_reducible show wpList _ _ _ _ _ _); refine kgLoad1 (by rfl) 3 _ (by rfl) _ Tryz.underlying3 rfl K (by rfl) (by repeat (first | exact List.mem_cons_self | refine List.mem_cons_of_mem _ ?_)) (by rfl) ?_)
          | ((with_reducible show wpList _ _ _ _ _ _); refine kgLoad1 (by rfl) 22 _ (by rfl) _ Tryz.underlying22 rfl K (by rfl) (by repeat (first | exact List.mem_cons_self | refine List.mem_cons_of_mem _ ?_)) (by rfl) ?_)
          | ((with_reducible show wpList _ _ _ _ _ _); refine kgElem (by rfl) 46 _ (by rfl) _ Tryz.underlying46 rfl (by kernel_rfl) K (by rfl) (by repeat (first | exact List.mem_cons_self | refine List.mem_cons_of_mem _ ?_)) HX.out ?_)
          | (go_at_call 30; (with_reducible refine (CC.out x _ XM.out ((K.out.at_ (d := ⟨hs, some ad, false⟩) (by simp)).ln HX.out).live).mono ?_); rintro e W5 hc; rw [FL.out] at hc; obtain ⟨A9, c9, B9, d9, rfl, le1, le2, wr9, hb3⟩ := hc; (have HX9 : Hid (HdW W5 w.heap.size (⟨m1, A9, c9, B9, d9⟩ : Hd)) := hid ⟨wr9.based K.out.b.size, le1, le2⟩); (have HL9 : Hid (∀ z ∈ rs, HdW W5 w.heap.size z) := hid (fun z hz => (HL.out z hz).later hb3)); simp only [lnV]; (have K2 := hid (K.out.later hb3)); clear le1 le2 wr9 hb3 K; (have K := K2); clear K2)
          | ((with_reducible show wpList _ _ _ _ _ _); refine kgAllocB (by rfl) 46 (by rfl) (some 13) (by rfl) [.int .i64 0, .slice none 0 0, .int .i64 0, .slice none 0 0] (fun _ => by kernel_rfl) K ?_; intro g13 V1 BA1 K1; clear K; (have K := K1); clear K1; (have HXA := hid (HX9.out.later BA1.out)); (have HLA : Hid (∀ z ∈ rs, HdW V1 w.heap.size z) := hid (fun z hz => (HL9.out z hz).later BA1.out)))
          | ((with_reducible show wpList _ _ _ _ _ _); (have KQ := K); refine kgStoreT (by rfl) 46 (.tmp 13) _ (by rfl) 4 (by kernel_rfl) [] (by exact K) (by rfl) (by rfl) [_, _, _, _] (by rfl) (by rfl) (by simp) (by simp [Value.oneCell']) (cs := [_, _, _, _]) (by rfl) ?_; intro V2 ON1 K1; (dsimp only [List.cons_append, List.nil_append] at K1); clear K; (have K := K1); clear K1; (have E0 := hid (KQ.out.bx ⟨g13, 46, [.int .i64 0, .slice none 0 0, .int .i64 0, .slice none 0 0]⟩ (by simp)).2); (have HXB := hid (HXA.out.onl (t := 46) ON1.out E0.out (by decide) (by decide))); (have HLB : Hid (∀ z ∈ rs, HdW V2 w.heap.size z) := hid (fun z hz => (HLA.out z hz).onl (t := 46) ON1.out E0.out (by decide) (by decide))); clear KQ)
          | ((with_reducible show wpList _ _ _ _ _ _); refine kgLoadA (by rfl) 46 _ (by rfl) 4 _ Tryz.underlying46 rfl (by kernel_rfl) K (by rfl) (by repeat (first | exact List.mem_cons_self | refine List.mem_cons_of_mem _ ?_)) (part := [_, _, _, _]) (by rfl) (by rfl) ?_))
        go_roundw
        case rel => exact ⟨k + 1, m, cur, rs, by omega, by have := HLT.out; omega, rfl, by go_num, by omega, hid (by rw [KS.out, TN.out.2]; exact HM.out), hid (by rw [KS.out, TN.out.1]; exact HT.out), HLB, HC, hid (K.out.less (List.sublist_cons_self _ _) (fun d h => h))⟩
        case measure => simp [intOf]; have := HLT.out; omega
    · have hi1 : ¬ (k : Int) ≤ (t : Int) := by omega
      have hi2 : decide ((k : Int) ≤ (t : Int)) = false := decide_eq_false hi1
      obtain rfl : k = t + 1 := by omega
      cases hsm : someN fL (lnsOf hs) f (t + 1 - f) with
      | true =>
        have m0 : m ≠ 0 := fun e => by rw [HM.out.1 e] at hsm; cases hsm
        have m1 : ((m : Int) == 0) = false := beq_eq_false_iff_ne.2 (by omega)
        have ER := hid (show res = (⟨turnsN fL (lnsOf hs) f (t + 1 - f), ⟨al, aa⟩, ⟨fl, fa⟩, 0, 0⟩, 0) from RS.out.symm.trans (EM.out.trans (by rw [hsm]; rfl)))
        clear hsm m0
        go_wp2_with (first
          | go_big_skip
          | ((with_reducible show wpList _ _ _ _ _ _); refine kgLoad1 (by rfl) 3 _ (by rfl) _ Tryz.underlying3 rfl K (by rfl) (by repeat (first | exact List.mem_cons_self | refine List.mem_cons_of_mem _ ?_)) (by rfl) ?_)
          | ((with_reducible show wpList _ _ _ _ _ _); refine kgLoadA (by rfl) 26 _ (by rfl) 7 _ Tryz.underlying26 rfl (by kernel_rfl) K (by rfl) (by repeat (first | exact List.mem_cons_self | refine List.mem_cons_of_mem _ ?_)) (part := [_, _, _, _, _, _, _]) (by rfl) (by rfl) ?_)
          | ((with_reducible show wpList _ _ _ _ _ _); (have KQ := K); refine kgStoreT (by rfl) 26 (.tmp 6) _ (by rfl) 7 (by kernel_rfl) [_, _, _, _] (by exact K) (by rfl) (by rfl) [_, _, _, _, _, _, _] (by rfl) (by rfl) (by simp) (by simp [Value.oneCell']) (cs := [_, _, _, _, _, _, _]) (by rfl) ?_; intro V2 ON4 K1; (dsimp only [List.cons_append, List.nil_append] at K1); clear K; (have K := K1); clear K1; (have E4 := hid (KQ.out.bx ⟨g6, 26, [.slice none 0 0, .int .i64 0, .int .i64 0, .int .i64 0, .int .i64 0, .int .i64 0, .int .i64 0]⟩ (by simp)).2)))
        refine bodyPost_ret (results_ct Tryz.results13 (by rfl) (K.out.loadA (off := 0) (n := 7) (by repeat (first | exact List.mem_cons_self | refine List.mem_cons_of_mem _ ?_)) Tryz.underlying26 rfl (by kernel_rfl) (part := [_, _, _, _, _, _, _]) (by rfl) (by rfl)) (by rfl)) rfl ?_
        refine ⟨some ⟨gr, ro, none⟩, hs3.length, c3, rs, by rw [ER.out]; rfl, by rw [N3.out, NR.out], Q2.out, by rw [ER.out]; exact HT.out, ⟨K.out.wr (cur := cur) (by simp) HC.out.1 HC.out.2, fun z hz => ?_⟩, K.out.b⟩
        exact (HL.out z hz).onl (t := 26) ON4.out E4.out (by decide) (by decide)
      | false =>
        obtain rfl : m = 0 := HM.out.2 hsm
        have ER := hid (show res = (zS, 7) from RS.out.symm.trans (EM.out.trans (by rw [hsm]; rfl)))
        clear hsm
        go_wp2_with (first
          | go_big_skip
          | ((with_reducible show wpList _ _ _ _ _ _); refine kgLoad1 (by rfl) 3 _ (by rfl) _ Tryz.underlying3 rfl K (by rfl) (by repeat (first | exact List.mem_cons_self | refine List.mem_cons_of_mem _ ?_)) (by rfl) ?_)
          | ((with_reducible show wpList _ _ _ _ _ _); refine kgLoadA (by rfl) 26 _ (by rfl) 7 _ Tryz.underlying26 rfl (by kernel_rfl) K (by rfl) (by repeat (first | exact List.mem_cons_self | refine List.mem_cons_of_mem _ ?_)) (part := [_, _, _, _, _, _, _]) (by rfl) (by rfl) ?_)
          | ((with_reducible show wpList _ _ _ _ _ _); refine kgStore (by rfl) 26 (.tmp 6) _ (by rfl) 7 (by kernel_rfl) [_, _, _, _] (by exact K) (by rfl) (by rfl) [_, _, _, _, _, _, _] (by rfl) (by rfl) (by simp) (by simp [Value.oneCell']) (cs := [_, _, _, _, _, _, _]) (by rfl) ?_; intro V2 K1; (dsimp only [List.cons_append, List.nil_append] at K1); clear K; (have K := K1); clear K1))
        refine bodyPost_ret (results_ct Tryz.results13 (by rfl) (K.out.loadA (off := 0) (n := 7) (by repeat (first | exact List.mem_cons_self | refine List.mem_cons_of_mem _ ?_)) Tryz.underlying26 rfl (by kernel_rfl) (part := [_, _, _, _, _, _, _]) (by rfl) (by rfl)) (by rfl)) rfl ?_
        exact ⟨none, 0, 0, [], by rw [ER.out]; rfl, rfl, Nat.le_refl _, by rw [ER.out]; rfl, DocW.nil, K.out.b⟩
end Go.Proofs.YtblbfoniimnkcaaGreatDoor

/- The walks of the reference's Kind, Listed of states. (Printed by wip/bldoc.py.) -/
namespace Go.Proofs.YtblbfoniimnkcaaGreatDoor
open Go.RowKit Go.Lib

theorem kindS_at {s : Stt} (hm : mayS s = true) {f : Nat} (hf : (fromS s).l.toNat = f) {x : Ln} (hx : s.d[f]? = some x) : kindS s = if (sel s).all (fun l => decide (l.ls.length = 0) && decide (l.k = x.k)) then (x.k, true) else (0, false) := by
  obtain ⟨b1, b2, b3, -⟩ := mayS_in hm
  have h0 : (sel s)[0]? = some x := by
    unfold sel
    rw [selF_get _ (by omega), hf, Nat.add_zero]
    exact hx
  unfold kindS
  rw [if_pos hm]
  cases hs : sel s with
  | nil => rw [hs] at h0; cases h0
  | cons y ys =>
    rw [hs] at h0
    obtain rfl : y = x := Option.some.inj h0
    rfl
theorem kindS_yes {s : Stt} {hs : List Hd} (hd : s.d = lnsOf hs) (hm : mayS s = true) {f t : Nat} (hf : (fromS s).l.toNat = f) (hn : selN s = t + 1 - f) (hft : f ≤ t) {x : Hd} (hx : hs[f]? = some x) (h : ∀ (j : Nat) (y : Hd), f ≤ j → j < t + 1 → hs[j]? = some y → y.l.ls.length = 0 ∧ y.l.k = x.l.k) : kindS s = (x.l.k, true) := by
  rw [kindS_at hm hf (by rw [hd]; exact lnsOf_get hx), if_pos]
  rw [sel_all hm, hf, hn]
  intro k l h1 h2 h3
  rw [hd] at h3
  unfold lnsOf at h3
  rw [List.getElem?_map] at h3
  cases hy : hs[k]? with
  | none => rw [hy] at h3; cases h3
  | some y =>
    rw [hy] at h3
    obtain rfl : y.l = l := Option.some.inj h3
    obtain ⟨q1, q2⟩ := h k y h1 (by omega) hy
    rw [decide_eq_true q1, decide_eq_true q2]
    rfl
theorem kindS_no {s : Stt} {hs : List Hd} (hd : s.d = lnsOf hs) (hm : mayS s = true) {f t : Nat} (hf : (fromS s).l.toNat = f) (hn : selN s = t + 1 - f) {x y : Hd} (hx : hs[f]? = some x) {k : Nat} (h1 : f ≤ k) (h2 : k ≤ t) (hy : hs[k]? = some y) (h : ¬ (y.l.ls.length = 0 ∧ y.l.k = x.l.k)) : kindS s = (0, false) := by
  rw [kindS_at hm hf (by rw [hd]; exact lnsOf_get hx), if_neg]
  rw [sel_all hm, hf, hn]
  intro hall
  have := hall k y.l h1 (by omega) (by rw [hd]; exact lnsOf_get hy)
  simp only [Bool.and_eq_true, decide_eq_true_eq] at this
  exact h this
theorem listedS_at {s : Stt} {hs : List Hd} (hd : s.d = lnsOf hs) (hm : mayS s = true) {f t : Nat} (hf : (fromS s).l.toNat = f) (hn : selN s = t + 1 - f) (kind : Int) (a b : Bool)
    (ha : a = true ↔ ∀ (j : Nat) (y : Hd), f ≤ j → j < t + 1 → hs[j]? = some y → listedL kind y.l = true) (hb : b = false ↔ ∀ (j : Nat) (y : Hd), f ≤ j → j < t + 1 → hs[j]? = some y → listedL kind y.l = false) : listedS s kind = (a, b) := by
  unfold listedS
  rw [if_pos hm]
  have key : ∀ p : Ln → Bool, (sel s).all p = true ↔ ∀ (j : Nat) (y : Hd), f ≤ j → j < t + 1 → hs[j]? = some y → p y.l = true := fun p => by
    rw [sel_all hm, hf, hn, hd]
    constructor
    · intro h j y h1 h2 h3
      exact h j y.l h1 (by omega) (lnsOf_get h3)
    · intro h k l h1 h2 h3
      unfold lnsOf at h3
      rw [List.getElem?_map] at h3
      cases hy : hs[k]? with
      | none => rw [hy] at h3; cases h3
      | some y =>
        rw [hy] at h3
        obtain rfl : y.l = l := Option.some.inj h3
        exact h k y h1 (by omega) hy
  have e1 : (sel s).all (listedL kind) = a := by rw [Bool.eq_iff_iff, key, ha]
  have e2 : (sel s).any (listedL kind) = b := by
    have h1 : (sel s).any (listedL kind) = !((sel s).all fun l => !listedL kind l) := by
      rw [List.not_all_eq_any_not]
      simp
    have h2 : ((sel s).all fun l => !listedL kind l) = true ↔ b = false := by
      rw [key, hb]
      simp
    rw [h1]
    cases b with
    | false => rw [h2.2 rfl]; rfl
    | true =>
      cases h3 : (sel s).all fun l => !listedL kind l with
      | false => rfl
      | true => cases h2.1 h3
  rw [e1, e2]
set_option maxRecDepth 100000 in
set_option maxHeartbeats 8000000 in
theorem rKind25_any (hs : List Hd) (A : Option Addr) (n c C : Nat) (hn : n = hs.length) (w : World) (hd : DocAt w C A hs) (h1 : hs.length ≤ 1000) (h2 : ∀ h ∈ hs, h.l.ls.length ≤ 1000000 ∧ h.l.cs.length ≤ 1000000) (hf : ∀ h ∈ hs, FineC h.l.cs) (al aa fl fa on off : Int) (w1 : (Lit.int .i64 on).wf = true) (w2 : (Lit.int .i64 off).wf = true) :
    Calls Tryz.prog 8 #[.agg #[.slice A n c, .int .i64 al, .int .i64 aa, .int .i64 fl, .int .i64 fa, .int .i64 on, .int .i64 off]] w (IsKB (kindS ⟨lnsOf hs, ⟨al, aa⟩, ⟨fl, fa⟩, on, off⟩) w) := by
  subst hn
  have D0 := hid h2
  have L0 := hid h1
  have K := hid (KG.start w [⟨hs, A, false⟩] (by simpa using hd.live))
  have FI := hid hf
  have W1 := hid w1
  have W2 := hid w2
  clear hd h2 hf w1 w2
  cases hb : mayS ⟨lnsOf hs, ⟨al, aa⟩, ⟨fl, fa⟩, on, off⟩ with
  | false =>
    have MB := hid hb
    have KZ := hid (show kindS ⟨lnsOf hs, ⟨al, aa⟩, ⟨fl, fa⟩, on, off⟩ = (0, false) by unfold kindS; rw [hb]; rfl)
    rw [KZ.out]
    clear hb
    go_enter Tryz.func8, Tryz.ntmps8
    go_wp2_with (first
      | go_big_skip
      | ((with_reducible show wpList _ _ _ _ _ _); refine kgBox (by rfl) 26 _ (by rfl) (some 1) (by rfl) (by rfl) [_, _, _, _, _, _, _] (by rfl) K ?_; intro g1 V1 K1; clear K; (have K := K1); clear K1)
      | ((with_reducible show wpList _ _ _ _ _ _); refine kgLoadA (by rfl) 26 _ (by rfl) 7 _ Tryz.underlying26 rfl (by kernel_rfl) K (by rfl) (by repeat (first | exact List.mem_cons_self | refine List.mem_cons_of_mem _ ?_)) (part := [_, _, _, _, _, _, _]) (by rfl) (by rfl) ?_)
      | (go_at_call 23; (with_reducible refine (rMay23_any hs A _ c _ rfl _ (K.out.at_ (d := ⟨hs, A, false⟩) (by simp)) L0.out D0.out FI.out al aa fl fa on off W1.out W2.out).mono ?_); rintro e WM ⟨rfl, hb⟩; rw [MB.out]; (have K2 := hid (K.out.later hb)); clear hb K; (have K := K2); clear K2))
    go_ret2
    exact ⟨rfl, K.out.b⟩
  | true =>
    have MB := hid hb
    obtain ⟨f, t, pa, qa, hp, hq, hft, htl, hln, hfn, hsn⟩ := span_nat hb
    have HP := hid hp
    have HQ := hid hq
    have hB := hid hb
    have FN := hid hfn
    have SN := hid hsn
    dsimp only at htl hln
    rw [lnsOf_len] at htl hln
    have hf0 : (0 : Int) ≤ (f : Int) := by omega
    have ht3 : (t : Int) ≤ 300 := by omega
    clear hp hq hfn hsn
    obtain ⟨x, hx⟩ : ∃ x, hs[f]? = some x := ⟨_, List.getElem?_eq_getElem (by omega)⟩
    have HX := hid hx
    have KY := hid (fun h => kindS_yes (s := ⟨lnsOf hs, ⟨al, aa⟩, ⟨fl, fa⟩, on, off⟩) rfl hb FN.out SN.out hft hx h)
    have KN := hid (fun (k : Nat) (y : Hd) (h1 : f ≤ k) (h2 : k ≤ t) hy h => kindS_no (s := ⟨lnsOf hs, ⟨al, aa⟩, ⟨fl, fa⟩, on, off⟩) rfl hb FN.out SN.out hx h1 h2 (y := y) (k := k) hy h)
    have hif : (f : Int) < (hs.length : Int) := by omega
    obtain ⟨ad, -, rfl, -, -, -⟩ := (K.out.at_ (d := ⟨hs, A, false⟩) (by simp)).row.atH (show f < hs.length by omega)
    clear hb hx
    go_enter Tryz.func8, Tryz.ntmps8
    go_wp2_with (first
      | go_big_skip
      | ((with_reducible show wpList _ _ _ _ _ _); refine kgBox (by rfl) 26 _ (by rfl) (some 1) (by rfl) (by rfl) [_, _, _, _, _, _, _] (by rfl) K ?_; intro g1 V1 K1; clear K; (have K := K1); clear K1)
      | ((with_reducible show wpList _ _ _ _ _ _); refine kgLoadA (by rfl) 26 _ (by rfl) 7 _ Tryz.underlying26 rfl (by kernel_rfl) K (by rfl) (by repeat (first | exact List.mem_cons_self | refine List.mem_cons_of_mem _ ?_)) (part := [_, _, _, _, _, _, _]) (by rfl) (by rfl) ?_)
      | (go_at_call 23; (with_reducible refine (rMay23_any hs (some ad) _ c _ rfl _ (K.out.at_ (d := ⟨hs, some ad, false⟩) (by simp)) L0.out D0.out FI.out al aa fl fa on off W1.out W2.out).mono ?_); rintro e WM ⟨rfl, hb⟩; rw [MB.out]; (have K2 := hid (K.out.later hb)); clear hb K; (have K := K2); clear K2)
      | (go_at_call 24; (with_reducible refine (rSpan23_any (lnsOf hs) (some ad) _ c al aa fl fa on off _).mono ?_); rintro e W3 ⟨rfl, hb⟩; rw [HP.out, HQ.out]; unfold psV; dsimp only; (have K2 := hid (K.out.later hb)); clear hb K; (have K := K2); clear K2)
      | ((with_reducible show wpList _ _ _ _ _ _); refine kgAlloc (by rfl) 24 (by rfl) (some 4) (by rfl) [.int .i64 0, .int .i64 0] (fun _ => by kernel_rfl) K ?_; intro g4 V1 K1; clear K; (have K := K1); clear K1)
      | ((with_reducible show wpList _ _ _ _ _ _); refine kgAlloc (by rfl) 24 (by rfl) (some 5) (by rfl) [.int .i64 0, .int .i64 0] (fun _ => by kernel_rfl) K ?_; intro g5 V1 K1; clear K; (have K := K1); clear K1)
      | ((with_reducible show wpList _ _ _ _ _ _); refine kgStore (by rfl) 24 (.tmp 4) _ (by rfl) 2 (by kernel_rfl) [_] (by exact K) (by rfl) (by rfl) [_, _] (by rfl) (by rfl) (by simp) (by simp [Value.oneCell']) (cs := [_, _]) (by rfl) ?_; intro V2 K1; (dsimp only [List.cons_append, List.nil_append] at K1); clear K; (have K := K1); clear K1)
      | ((with_reducible show wpList _ _ _ _ _ _); refine kgStore (by rfl) 24 (.tmp 5) _ (by rfl) 2 (by kernel_rfl) [] (by exact K) (by rfl) (by rfl) [_, _] (by rfl) (by rfl) (by simp) (by simp [Value.oneCell']) (cs := [_, _]) (by rfl) ?_; intro V2 K1; (dsimp only [List.cons_append, List.nil_append] at K1); clear K; (have K := K1); clear K1)
      | ((with_reducible show wpList _ _ _ _ _ _); refine kgLoad1 (by rfl) 22 _ (by rfl) _ Tryz.underlying22 rfl K (by rfl) (by repeat (first | exact List.mem_cons_self | refine List.mem_cons_of_mem _ ?_)) (by rfl) ?_)
      | ((with_reducible show wpList _ _ _ _ _ _); refine kgLoad1 (by rfl) 3 _ (by rfl) _ Tryz.underlying3 rfl K (by rfl) (by repeat (first | exact List.mem_cons_self | refine List.mem_cons_of_mem _ ?_)) (by rfl) ?_)
      | ((with_reducible show wpList _ _ _ _ _ _); refine kgElem1 (by rfl) 3 _ (by rfl) _ Tryz.underlying3 rfl K (by rfl) (by repeat (first | exact List.mem_cons_self | refine List.mem_cons_of_mem _ ?_)) HX.out (by decide) (by rfl) ?_))
    go_loopw [7] (fun i wr => ∃ (k : Nat), f ≤ k ∧ k ≤ t + 1 ∧ i = .int .i64 (k : Int) ∧ Hid (∀ (j : Nat) (y : Hd), f ≤ j → j < k → hs[j]? = some y → y.l.ls.length = 0 ∧ y.l.k = x.l.k) ∧ Hid (KG w wr [⟨g5, 24, [.int .i64 (t : Int), .int .i64 qa]⟩, ⟨g4, 24, [.int .i64 (f : Int), .int .i64 pa]⟩, ⟨g1, 26, [.slice (some ad) hs.length c, .int .i64 al, .int .i64 aa, .int .i64 fl, .int .i64 fa, .int .i64 on, .int .i64 off]⟩] [⟨hs, some ad, false⟩])) (fun i _ => t + 1 - (intOf i).toNat)
    case atStart => exact ⟨f, Nat.le_refl _, by omega, rfl, hid (fun j y h1 h2 => by omega), K⟩
    case round =>
      clear K
      obtain ⟨k, hfk, hkt, rfl, HA, K⟩ := hrel
      have hk3 : (k : Int) ≤ 301 := by omega
      by_cases hlt : k ≤ t
      · have hi1 : (k : Int) ≤ (t : Int) := by omega
        have hi2 : (k : Int) < (hs.length : Int) := by omega
        obtain ⟨y, hy⟩ : ∃ y, hs[k]? = some y := ⟨_, List.getElem?_eq_getElem (by omega)⟩
        have HY := hid hy
        by_cases p1 : 0 < y.l.ls.length
        · have p1' : (0 : Int) < (y.l.ls.length : Int) := by omega
          have KZ := hid (KN.out k y hfk hlt hy (fun h => by omega))
          clear hy
          go_wp2_with (first
            | go_big_skip
            | ((with_reducible show wpList _ _ _ _ _ _); refine kgLoad1 (by rfl) 3 _ (by rfl) _ Tryz.underlying3 rfl K (by rfl) (by repeat (first | exact List.mem_cons_self | refine List.mem_cons_of_mem _ ?_)) (by rfl) ?_)
            | ((with_reducible show wpList _ _ _ _ _ _); refine kgLoad1 (by rfl) 22 _ (by rfl) _ Tryz.underlying22 rfl K (by rfl) (by repeat (first | exact List.mem_cons_self | refine List.mem_cons_of_mem _ ?_)) (by rfl) ?_)
            | ((with_reducible show wpList _ _ _ _ _ _); refine kgElem1 (by rfl) 43 _ (by rfl) _ Tryz.underlying43 rfl K (by rfl) (by repeat (first | exact List.mem_cons_self | refine List.mem_cons_of_mem _ ?_)) HY.out (by decide) (by rfl) ?_)
            | ((with_reducible show wpList _ _ _ _ _ _); refine kgElem1 (by rfl) 3 _ (by rfl) _ Tryz.underlying3 rfl K (by rfl) (by repeat (first | exact List.mem_cons_self | refine List.mem_cons_of_mem _ ?_)) HY.out (by decide) (by rfl) ?_))
          go_ret2
          exact ⟨by first | rfl | (rw [KZ.out]; rfl) | (rw [KZ.out]), K.out.b⟩
        · have p1' : decide ((0 : Int) < (y.l.ls.length : Int)) = false := decide_eq_false (by omega)
          have p1n : ¬ (0 : Int) < (y.l.ls.length : Int) := by omega
          have p1m : decide (0 < y.l.ls.length) = false := decide_eq_false p1
          by_cases p2 : y.l.k = x.l.k
          · have p2' : (y.l.k != x.l.k) = false := bne_eq_false_iff_eq.2 p2
            have PZ := hid (show y.l.ls.length = 0 ∧ y.l.k = x.l.k from ⟨by omega, p2⟩)
            clear hy p2 p1
            go_wp2_with (first
              | go_big_skip
              | ((with_reducible show wpList _ _ _ _ _ _); refine kgLoad1 (by rfl) 3 _ (by rfl) _ Tryz.underlying3 rfl K (by rfl) (by repeat (first | exact List.mem_cons_self | refine List.mem_cons_of_mem _ ?_)) (by rfl) ?_)
              | ((with_reducible show wpList _ _ _ _ _ _); refine kgLoad1 (by rfl) 22 _ (by rfl) _ Tryz.underlying22 rfl K (by rfl) (by repeat (first | exact List.mem_cons_self | refine List.mem_cons_of_mem _ ?_)) (by rfl) ?_)
              | ((with_reducible show wpList _ _ _ _ _ _); refine kgElem1 (by rfl) 43 _ (by rfl) _ Tryz.underlying43 rfl K (by rfl) (by repeat (first | exact List.mem_cons_self | refine List.mem_cons_of_mem _ ?_)) HY.out (by decide) (by rfl) ?_)
              | ((with_reducible show wpList _ _ _ _ _ _); refine kgElem1 (by rfl) 3 _ (by rfl) _ Tryz.underlying3 rfl K (by rfl) (by repeat (first | exact List.mem_cons_self | refine List.mem_cons_of_mem _ ?_)) HY.out (by decide) (by rfl) ?_))
            go_roundw
            case rel =>
              refine ⟨k + 1, by omega, by omega, by go_num, hid (fun j z h1 h2 h3 => ?_), K⟩
              by_cases e : j = k
              · subst e
                rw [HY.out] at h3
                injection h3 with h3
                subst h3
                exact PZ.out
              · exact HA.out j z h1 (by omega) h3
            case measure => simp [intOf]; omega
          · have p2' : (y.l.k != x.l.k) = true := bne_iff_ne.2 p2
            have KZ := hid (KN.out k y hfk hlt hy (fun h => p2 h.2))
            clear hy p2 p1
            go_wp2_with (first
              | go_big_skip
              | ((with_reducible show wpList _ _ _ _ _ _); refine kgLoad1 (by rfl) 3 _ (by rfl) _ Tryz.underlying3 rfl K (by rfl) (by repeat (first | exact List.mem_cons_self | refine List.mem_cons_of_mem _ ?_)) (by rfl) ?_)
              | ((with_reducible show wpList _ _ _ _ _ _); refine kgLoad1 (by rfl) 22 _ (by rfl) _ Tryz.underlying22 rfl K (by rfl) (by repeat (first | exact List.mem_cons_self | refine List.mem_cons_of_mem _ ?_)) (by rfl) ?_)
              | ((with_reducible show wpList _ _ _ _ _ _); refine kgElem1 (by rfl) 43 _ (by rfl) _ Tryz.underlying43 rfl K (by rfl) (by repeat (first | exact List.mem_cons_self | refine List.mem_cons_of_mem _ ?_)) HY.out (by decide) (by rfl) ?_)
              | ((with_reducible show wpList _ _ _ _ _ _); refine kgElem1 (by rfl) 3 _ (by rfl) _ Tryz.underlying3 rfl K (by rfl) (by repeat (first | exact List.mem_cons_self | refine List.mem_cons_of_mem _ ?_)) HY.out (by decide) (by rfl) ?_))
            go_ret2
            exact ⟨by first | rfl | (rw [KZ.out]; rfl) | (rw [KZ.out]), K.out.b⟩
      · have hi1 : ¬ (k : Int) ≤ (t : Int) := by omega
        have hi2 : decide ((k : Int) ≤ (t : Int)) = false := decide_eq_false hi1
        obtain rfl : k = t + 1 := by omega
        have KZ := hid (KY.out (fun j y h1 h2 h3 => HA.out j y h1 h2 h3))
        go_wp2_with (first
          | go_big_skip
          | ((with_reducible show wpList _ _ _ _ _ _); refine kgLoad1 (by rfl) 3 _ (by rfl) _ Tryz.underlying3 rfl K (by rfl) (by repeat (first | exact List.mem_cons_self | refine List.mem_cons_of_mem _ ?_)) (by rfl) ?_))
        go_ret2
        exact ⟨by first | rfl | (rw [KZ.out]; rfl) | (rw [KZ.out]), K.out.b⟩
set_option maxRecDepth 100000 in
set_option maxHeartbeats 8000000 in
theorem rListed25_any (hs : List Hd) (A : Option Addr) (n c C : Nat) (hn : n = hs.length) (w : World) (hd : DocAt w C A hs) (h1 : hs.length ≤ 1000) (h2 : ∀ h ∈ hs, h.l.ls.length ≤ 1000000 ∧ h.l.cs.length ≤ 1000000) (hf : ∀ h ∈ hs, FineC h.l.cs) (al aa fl fa on off kind : Int) (w1 : (Lit.int .i64 on).wf = true) (w2 : (Lit.int .i64 off).wf = true) :
    Calls Tryz.prog 10 #[.agg #[.slice A n c, .int .i64 al, .int .i64 aa, .int .i64 fl, .int .i64 fa, .int .i64 on, .int .i64 off], .int .i64 kind] w (IsBB (listedS ⟨lnsOf hs, ⟨al, aa⟩, ⟨fl, fa⟩, on, off⟩ kind) w) := by
  subst hn
  have D0 := hid h2
  have L0 := hid h1
  have K := hid (KG.start w [⟨hs, A, false⟩] (by simpa using hd.live))
  have FI := hid hf
  have W1 := hid w1
  have W2 := hid w2
  clear hd h2 hf w1 w2
  cases hb : mayS ⟨lnsOf hs, ⟨al, aa⟩, ⟨fl, fa⟩, on, off⟩ with
  | false =>
    have MB := hid hb
    have KZ := hid (show listedS ⟨lnsOf hs, ⟨al, aa⟩, ⟨fl, fa⟩, on, off⟩ kind = (false, false) by unfold listedS; rw [hb]; rfl)
    rw [KZ.out]
    clear hb
    go_enter Tryz.func10, Tryz.ntmps10
    go_wp2_with (first
      | go_big_skip
      | ((with_reducible show wpList _ _ _ _ _ _); refine kgBox (by rfl) 26 _ (by rfl) (some 2) (by rfl) (by rfl) [_, _, _, _, _, _, _] (by rfl) K ?_; intro g2 V1 K1; clear K; (have K := K1); clear K1)
      | ((with_reducible show wpList _ _ _ _ _ _); refine kgLoadA (by rfl) 26 _ (by rfl) 7 _ Tryz.underlying26 rfl (by kernel_rfl) K (by rfl) (by repeat (first | exact List.mem_cons_self | refine List.mem_cons_of_mem _ ?_)) (part := [_, _, _, _, _, _, _]) (by rfl) (by rfl) ?_)
      | (go_at_call 23; (with_reducible refine (rMay23_any hs A _ c _ rfl _ (K.out.at_ (d := ⟨hs, A, false⟩) (by simp)) L0.out D0.out FI.out al aa fl fa on off W1.out W2.out).mono ?_); rintro e WM ⟨rfl, hb⟩; rw [MB.out]; (have K2 := hid (K.out.later hb)); clear hb K; (have K := K2); clear K2))
    go_ret2
    exact ⟨rfl, K.out.b⟩
  | true =>
    have MB := hid hb
    obtain ⟨f, t, pa, qa, hp, hq, hft, htl, hln, hfn, hsn⟩ := span_nat hb
    have HP := hid hp
    have HQ := hid hq
    have hB := hid hb
    have FN := hid hfn
    have SN := hid hsn
    dsimp only at htl hln
    rw [lnsOf_len] at htl hln
    have hf0 : (0 : Int) ≤ (f : Int) := by omega
    have ht3 : (t : Int) ≤ 300 := by omega
    clear hp hq hfn hsn
    have LZ := hid (fun a b ha hb2 => listedS_at (s := ⟨lnsOf hs, ⟨al, aa⟩, ⟨fl, fa⟩, on, off⟩) rfl hb FN.out SN.out kind a b ha hb2)
    obtain ⟨ad, -, rfl, -, -, -⟩ := (K.out.at_ (d := ⟨hs, A, false⟩) (by simp)).row.atH (show f < hs.length by omega)
    clear hb
    go_enter Tryz.func10, Tryz.ntmps10
    go_wp2_with (first
      | go_big_skip
      | ((with_reducible show wpList _ _ _ _ _ _); refine kgBox (by rfl) 26 _ (by rfl) (some 2) (by rfl) (by rfl) [_, _, _, _, _, _, _] (by rfl) K ?_; intro g2 V1 K1; clear K; (have K := K1); clear K1)
      | ((with_reducible show wpList _ _ _ _ _ _); refine kgLoadA (by rfl) 26 _ (by rfl) 7 _ Tryz.underlying26 rfl (by kernel_rfl) K (by rfl) (by repeat (first | exact List.mem_cons_self | refine List.mem_cons_of_mem _ ?_)) (part := [_, _, _, _, _, _, _]) (by rfl) (by rfl) ?_)
      | (go_at_call 23; (with_reducible refine (rMay23_any hs (some ad) _ c _ rfl _ (K.out.at_ (d := ⟨hs, some ad, false⟩) (by simp)) L0.out D0.out FI.out al aa fl fa on off W1.out W2.out).mono ?_); rintro e WM ⟨rfl, hb⟩; rw [MB.out]; (have K2 := hid (K.out.later hb)); clear hb K; (have K := K2); clear K2)
      | (go_at_call 24; (with_reducible refine (rSpan23_any (lnsOf hs) (some ad) _ c al aa fl fa on off _).mono ?_); rintro e W3 ⟨rfl, hb⟩; rw [HP.out, HQ.out]; unfold psV; dsimp only; (have K2 := hid (K.out.later hb)); clear hb K; (have K := K2); clear K2)
      | ((with_reducible show wpList _ _ _ _ _ _); refine kgAlloc (by rfl) 24 (by rfl) (some 6) (by rfl) [.int .i64 0, .int .i64 0] (fun _ => by kernel_rfl) K ?_; intro g6 V1 K1; clear K; (have K := K1); clear K1)
      | ((with_reducible show wpList _ _ _ _ _ _); refine kgAlloc (by rfl) 24 (by rfl) (some 7) (by rfl) [.int .i64 0, .int .i64 0] (fun _ => by kernel_rfl) K ?_; intro g7 V1 K1; clear K; (have K := K1); clear K1)
      | ((with_reducible show wpList _ _ _ _ _ _); refine kgStore (by rfl) 24 (.tmp 6) _ (by rfl) 2 (by kernel_rfl) [_] (by exact K) (by rfl) (by rfl) [_, _] (by rfl) (by rfl) (by simp) (by simp [Value.oneCell']) (cs := [_, _]) (by rfl) ?_; intro V2 K1; (dsimp only [List.cons_append, List.nil_append] at K1); clear K; (have K := K1); clear K1)
      | ((with_reducible show wpList _ _ _ _ _ _); refine kgStore (by rfl) 24 (.tmp 7) _ (by rfl) 2 (by kernel_rfl) [] (by exact K) (by rfl) (by rfl) [_, _] (by rfl) (by rfl) (by simp) (by simp [Value.oneCell']) (cs := [_, _]) (by rfl) ?_; intro V2 K1; (dsimp only [List.cons_append, List.nil_append] at K1); clear K; (have K := K1); clear K1)
      | ((with_reducible show wpList _ _ _ _ _ _); refine kgLoad1 (by rfl) 3 _ (by rfl) _ Tryz.underlying3 rfl K (by rfl) (by repeat (first | exact List.mem_cons_self | refine List.mem_cons_of_mem _ ?_)) (by rfl) ?_))
    go_loopw [8, 9] (fun v i wr => ∃ (k m : Nat), f ≤ k ∧ k ≤ t + 1 ∧ v = .int .i64 (m : Int) ∧ i = .int .i64 (k : Int) ∧ m ≤ k - f ∧ Hid (m = k - f ↔ ∀ (j : Nat) (y : Hd), f ≤ j → j < k → hs[j]? = some y → listedL kind y.l = true) ∧ Hid (m = 0 ↔ ∀ (j : Nat) (y : Hd), f ≤ j → j < k → hs[j]? = some y → listedL kind y.l = false) ∧ Hid (KG w wr [⟨g7, 24, [.int .i64 (t : Int), .int .i64 qa]⟩, ⟨g6, 24, [.int .i64 (f : Int), .int .i64 pa]⟩, ⟨g2, 26, [.slice (some ad) hs.length c, .int .i64 al, .int .i64 aa, .int .i64 fl, .int .i64 fa, .int .i64 on, .int .i64 off]⟩] [⟨hs, some ad, false⟩])) (fun _ i _ => t + 1 - (intOf i).toNat)
    case atStart => exact ⟨f, 0, Nat.le_refl _, by omega, rfl, rfl, Nat.zero_le _, hid ⟨fun _ j y h1 h2 => by omega, fun _ => by omega⟩, hid ⟨fun _ j y h1 h2 => by omega, fun _ => rfl⟩, K⟩
    case round =>
      clear K
      obtain ⟨k, m, hfk, hkt, rfl, rfl, hmk, HA, HB, K⟩ := hrel
      have hk3 : (k : Int) ≤ 301 := by omega
      have hm3 : (m : Int) ≤ 301 := by omega
      by_cases hlt : k ≤ t
      · have hi1 : (k : Int) ≤ (t : Int) := by omega
        have hi2 : (k : Int) < (hs.length : Int) := by omega
        obtain ⟨y, hy⟩ : ∃ y, hs[k]? = some y := ⟨_, List.getElem?_eq_getElem (by omega)⟩
        have HY := hid hy
        have LY := hid ((K.out.at_ (d := ⟨hs, some ad, false⟩) (by simp)).ln hy).ls
        have Y6 := hid (D0.out y (List.mem_of_getElem? hy)).1
        have HLT := hid hlt
        have YES := hid (show listedL kind y.l = true → (m + 1 = k + 1 - f ↔ ∀ (j : Nat) (z : Hd), f ≤ j → j < k + 1 → hs[j]? = some z → listedL kind z.l = true) ∧ (m + 1 = 0 ↔ ∀ (j : Nat) (z : Hd), f ≤ j → j < k + 1 → hs[j]? = some z → listedL kind z.l = false) from fun hl => by
          refine ⟨⟨fun h j z h1 h2 h3 => ?_, fun h => ?_⟩, fun h => by omega, fun h => ?_⟩
          · by_cases e : j = k
            · subst e
              rw [HY.out] at h3
              injection h3 with h3
              subst h3
              exact hl
            · exact HA.out.1 (by omega) j z h1 (by omega) h3
          · have := HA.out.2 fun j z h1 h2 h3 => h j z h1 (by omega) h3
            omega
          · have := h k y hfk (by omega) HY.out
            rw [hl] at this
            cases this)
        have NO := hid (show listedL kind y.l = false → (m = k + 1 - f ↔ ∀ (j : Nat) (z : Hd), f ≤ j → j < k + 1 → hs[j]? = some z → listedL kind z.l = true) ∧ (m = 0 ↔ ∀ (j : Nat) (z : Hd), f ≤ j → j < k + 1 → hs[j]? = some z → listedL kind z.l = false) from fun hl => by
          refine ⟨⟨fun h => by omega, fun h => ?_⟩, fun h j z h1 h2 h3 => ?_, fun h => ?_⟩
          · have := h k y hfk (by omega) HY.out
            rw [hl] at this
            cases this
          · by_cases e : j = k
            · subst e
              rw [HY.out] at h3
              injection h3 with h3
              subst h3
              exact hl
            · exact HB.out.1 h j z h1 (by omega) h3
          · exact HB.out.2 fun j z h1 h2 h3 => h j z h1 (by omega) h3)
        clear hy
        obtain ⟨n, hn⟩ : ∃ n, y.l.ls.length = n := ⟨_, rfl⟩
        cases n with
        | zero =>
          have LN := hid (NO.out (by unfold listedL; rw [hn]; rfl))
          have HN := hid hn
          clear hn hlt
          go_wp2_with (first
            | go_big_skip
            | ((with_reducible show wpList _ _ _ _ _ _); refine kgLoad1 (by rfl) 3 _ (by rfl) _ Tryz.underlying3 rfl K (by rfl) (by repeat (first | exact List.mem_cons_self | refine List.mem_cons_of_mem _ ?_)) (by rfl) ?_)
            | ((with_reducible show wpList _ _ _ _ _ _); refine kgLoad1 (by rfl) 22 _ (by rfl) _ Tryz.underlying22 rfl K (by rfl) (by repeat (first | exact List.mem_cons_self | refine List.mem_cons_of_mem _ ?_)) (by rfl) ?_)
            | ((with_reducible show wpList _ _ _ _ _ _); refine kgElem1 (by rfl) 43 _ (by rfl) _ Tryz.underlying43 rfl K (by rfl) (by repeat (first | exact List.mem_cons_self | refine List.mem_cons_of_mem _ ?_)) HY.out (by decide) (v := .slice y.A 0 y.c) (by rw [show (encH y)[1]? = some (Value.slice y.A y.l.ls.length y.c) from rfl, HN.out]) ?_))
          go_roundw
          case rel => exact ⟨k + 1, m, by omega, by have := HLT.out; omega, rfl, by go_num, by omega, hid LN.out.1, hid LN.out.2, K⟩
          case measure => simp [intOf]; have := HLT.out; omega
        | succ n =>
          obtain ⟨ad2, z, hya, had2, hz, z0⟩ := LY.out.atI (show n < y.l.ls.length by omega)
          have YA := hid hya
          have HN := hid hn
          have hzl : lastI y.l.ls = z := lastI_at hz hn.symm
          have HX0 : Hid (∀ W, Below wr.heap.size wr W → W.cell? (ad2.add n) = some (.int .i64 z)) := hid (fun W hb => (hb.cell (by rw [block_add]; exact had2)).trans z0)
          have hb1 : n < 1000000 := by have := Y6.out; omega
          have k1 : (0 : Int) < ((n + 1 : Nat) : Int) := by omega
          have k2 : (n : Int) < ((n + 1 : Nat) : Int) := by omega
          by_cases e : z = kind
          · have e1 : (z == kind) = true := beq_iff_eq.2 e
            have LN := hid (YES.out (by unfold listedL; rw [hn, hzl, e]; simp))
            clear hn hlt hz z0 hzl had2 e
            go_wp2_with (first
              | go_big_skip
              | ((with_reducible show wpList _ _ _ _ _ _); refine wpList_loadV (by rfl) 3 (.tmp 41) (by rfl) (by rfl) (run_loadVar_one _ _ 3 (.int .i64 z) _ (HX0.out _ (Below.refl _ _)) Tryz.underlying3 rfl) ?_)
              | ((with_reducible show wpList _ _ _ _ _ _); refine kgLoad1 (by rfl) 3 _ (by rfl) _ Tryz.underlying3 rfl K (by rfl) (by repeat (first | exact List.mem_cons_self | refine List.mem_cons_of_mem _ ?_)) (by rfl) ?_)
              | ((with_reducible show wpList _ _ _ _ _ _); refine kgLoad1 (by rfl) 22 _ (by rfl) _ Tryz.underlying22 rfl K (by rfl) (by repeat (first | exact List.mem_cons_self | refine List.mem_cons_of_mem _ ?_)) (by rfl) ?_)
              | ((with_reducible show wpList _ _ _ _ _ _); refine kgElem1 (by rfl) 43 _ (by rfl) _ Tryz.underlying43 rfl K (by rfl) (by repeat (first | exact List.mem_cons_self | refine List.mem_cons_of_mem _ ?_)) HY.out (by decide) (v := .slice (some ad2) (n + 1) y.c) (by rw [show (encH y)[1]? = some (Value.slice y.A y.l.ls.length y.c) from rfl, HN.out, YA.out]) ?_))
            go_roundw
            case rel => exact ⟨k + 1, m + 1, by omega, by have := HLT.out; omega, by go_num, by go_num, by omega, hid LN.out.1, hid LN.out.2, K⟩
            case measure => simp [intOf]; have := HLT.out; omega
          · have e1 : (z == kind) = false := beq_eq_false_iff_ne.2 e
            have LN := hid (NO.out (by unfold listedL; rw [hn, hzl, decide_eq_false e, Bool.and_false]))
            clear hn hlt hz z0 hzl had2 e
            go_wp2_with (first
              | go_big_skip
              | ((with_reducible show wpList _ _ _ _ _ _); refine wpList_loadV (by rfl) 3 (.tmp 41) (by rfl) (by rfl) (run_loadVar_one _ _ 3 (.int .i64 z) _ (HX0.out _ (Below.refl _ _)) Tryz.underlying3 rfl) ?_)
              | ((with_reducible show wpList _ _ _ _ _ _); refine kgLoad1 (by rfl) 3 _ (by rfl) _ Tryz.underlying3 rfl K (by rfl) (by repeat (first | exact List.mem_cons_self | refine List.mem_cons_of_mem _ ?_)) (by rfl) ?_)
              | ((with_reducible show wpList _ _ _ _ _ _); refine kgLoad1 (by rfl) 22 _ (by rfl) _ Tryz.underlying22 rfl K (by rfl) (by repeat (first | exact List.mem_cons_self | refine List.mem_cons_of_mem _ ?_)) (by rfl) ?_)
              | ((with_reducible show wpList _ _ _ _ _ _); refine kgElem1 (by rfl) 43 _ (by rfl) _ Tryz.underlying43 rfl K (by rfl) (by repeat (first | exact List.mem_cons_self | refine List.mem_cons_of_mem _ ?_)) HY.out (by decide) (v := .slice (some ad2) (n + 1) y.c) (by rw [show (encH y)[1]? = some (Value.slice y.A y.l.ls.length y.c) from rfl, HN.out, YA.out]) ?_))
            go_roundw
            case rel => exact ⟨k + 1, m, by omega, by have := HLT.out; omega, rfl, by go_num, by omega, hid LN.out.1, hid LN.out.2, K⟩
            case measure => simp [intOf]; have := HLT.out; omega
      · have hi1 : ¬ (k : Int) ≤ (t : Int) := by omega
        have hi2 : decide ((k : Int) ≤ (t : Int)) = false := decide_eq_false hi1
        obtain rfl : k = t + 1 := by omega
        have KZ := hid (LZ.out (decide (m = t + 1 - f)) (decide (0 < m)) (by rw [decide_eq_true_eq]; exact HA.out) (by rw [decide_eq_false_iff_not]; exact ⟨fun h => HB.out.1 (by omega), fun h => by have := HB.out.2 h; omega⟩))
        by_cases q1 : m = t + 1 - f
        · have r1 : ((m : Int) == (t : Int) - (f : Int) + 1) = true := beq_iff_eq.2 (by omega)
          have S1 := hid (decide_eq_true q1)
          have hsub : (t : Int) - (f : Int) ≤ 300 := by omega
          have q2 : 0 < m := by omega
          have r2 : (0 : Int) < (m : Int) := by omega
          have S2 := hid (decide_eq_true q2)
          clear q1 q2
          go_wp2_with (first
            | go_big_skip
            | ((with_reducible show wpList _ _ _ _ _ _); refine kgLoad1 (by rfl) 3 _ (by rfl) _ Tryz.underlying3 rfl K (by rfl) (by repeat (first | exact List.mem_cons_self | refine List.mem_cons_of_mem _ ?_)) (by rfl) ?_))
          go_ret2
          exact ⟨by rw [KZ.out, S1.out, S2.out]; rfl, K.out.b⟩
        · have r1 : ((m : Int) == (t : Int) - (f : Int) + 1) = false := beq_eq_false_iff_ne.2 (by omega)
          have S1 := hid (decide_eq_false q1)
          have hsub : (t : Int) - (f : Int) ≤ 300 := by omega
          by_cases q2 : 0 < m
          · have r2 : (0 : Int) < (m : Int) := by omega
            have S2 := hid (decide_eq_true q2)
            clear q1 q2
            go_wp2_with (first
              | go_big_skip
              | ((with_reducible show wpList _ _ _ _ _ _); refine kgLoad1 (by rfl) 3 _ (by rfl) _ Tryz.underlying3 rfl K (by rfl) (by repeat (first | exact List.mem_cons_self | refine List.mem_cons_of_mem _ ?_)) (by rfl) ?_))
            go_ret2
            exact ⟨by rw [KZ.out, S1.out, S2.out]; rfl, K.out.b⟩
          · have r2 : decide ((0 : Int) < (m : Int)) = false := decide_eq_false (by omega)
            have S2 := hid (decide_eq_false q2)
            clear q1 q2
            go_wp2_with (first
              | go_big_skip
              | ((with_reducible show wpList _ _ _ _ _ _); refine kgLoad1 (by rfl) 3 _ (by rfl) _ Tryz.underlying3 rfl K (by rfl) (by repeat (first | exact List.mem_cons_self | refine List.mem_cons_of_mem _ ?_)) (by rfl) ?_))
            go_ret2
            exact ⟨by rw [KZ.out, S1.out, S2.out]; rfl, K.out.b⟩
end Go.Proofs.YtblbfoniimnkcaaGreatDoor

/- The reference's Each, call for call; the walk of its List. (Printed by wip/bldoc.py.) -/
namespace Go.Proofs.YtblbfoniimnkcaaGreatDoor
open Go.RowKit Go.Lib

theorem err_format {kind : Int} (hk : 0 ≤ kind ∧ kind ≤ 3) (l : Ln) (h : mayL l = true) : (formatL l kind).2 ≠ 1 := by
  unfold formatL
  rw [if_pos ⟨hk, h⟩]
  repeat (first | (show (0 : Int) ≠ 1; decide) | (show (7 : Int) ≠ 1; decide) | split)
theorem err_indent (l : Ln) (h : mayL l = true) : (indentL l).2 ≠ 1 := by
  unfold indentL
  rw [if_pos h]
  repeat (first | (show (0 : Int) ≠ 1; decide) | (show (7 : Int) ≠ 1; decide) | split)
theorem err_outdent (l : Ln) (h : mayL l = true) : (outdentL l).2 ≠ 1 := by
  unfold outdentL
  rw [if_pos h]
  repeat (first | (show (0 : Int) ≠ 1; decide) | (show (7 : Int) ≠ 1; decide) | split)
theorem err_list {kind : Int} (hk : kind = 0 ∨ kind = 1) (l : Ln) (h : mayL l = true) : (listL l kind).2 ≠ 1 := by
  unfold listL
  rw [if_pos ⟨hk, h⟩]
  repeat (first | (show (0 : Int) ≠ 1; decide) | (show (7 : Int) ≠ 1; decide) | split)
theorem eachS_no (f : Ln → Ln × Int) {s : Stt} (h : mayS s = false) : eachS f s = (zS, 1) := by
  unfold eachS
  rw [h]
  rfl
theorem rEach25_0 (hs : List Hd) (A : Option Addr) (n c C : Nat) (hn : n = hs.length) (w : World) (hd : DocAt w C A hs) (h1 : hs.length ≤ 1000) (h2 : ∀ h ∈ hs, h.l.ls.length ≤ 1000000 ∧ h.l.cs.length ≤ 1000000) (hf : ∀ h ∈ hs, FineC h.l.cs) (hcap : ∀ h ∈ hs, h.l.ls.length ≤ h.c) (al aa fl fa on off : Int) (w1 : (Lit.int .i64 on).wf = true) (w2 : (Lit.int .i64 off).wf = true) (kind : Int) :
    Calls Tryz.prog 13 #[.agg #[.slice A n c, .int .i64 al, .int .i64 aa, .int .i64 fl, .int .i64 fa, .int .i64 on, .int .i64 off], .int .i64 0, .int .i64 kind] w (RetStE (formatS ⟨lnsOf hs, ⟨al, aa⟩, ⟨fl, fa⟩, on, off⟩ kind) w) := by
  have hcall : ∀ (x : Hd) (W : World), x ∈ hs → LnAt W W.heap.size x.l x.A x.B → Calls Tryz.prog 30 #[.agg #[.int .i64 x.l.q, .slice x.A x.l.ls.length x.c, .int .i64 x.l.k, .slice x.B x.l.cs.length x.d], .int .i64 0, .int .i64 kind] W (RetLnE ((formatL · kind) x.l) W) := fun x W hx hl =>
    rTurn25_0 x.l x.A _ x.c x.B _ x.d _ rfl rfl W hl (by have := (h2 x hx).1; omega) (by have := (h2 x hx).2; omega) (hf x hx) (hcap x hx) kind
  unfold formatS
  by_cases hk : 0 ≤ kind ∧ kind ≤ 3
  · rw [if_pos hk]
    cases mb : mayS ⟨lnsOf hs, ⟨al, aa⟩, ⟨fl, fa⟩, on, off⟩ with
    | false => rw [eachS_no _ mb]; exact rEach_no hs A n c C hn w hd h1 h2 hf al aa fl fa on off w1 w2 0 kind mb
    | true => exact rEach_good hs A n c C hn w hd h1 h2 hf al aa fl fa on off w1 w2 0 kind (formatL · kind) (err_format hk) hcall mb
  · rw [if_neg hk]
    cases mb : mayS ⟨lnsOf hs, ⟨al, aa⟩, ⟨fl, fa⟩, on, off⟩ with
    | false => exact rEach_no hs A n c C hn w hd h1 h2 hf al aa fl fa on off w1 w2 0 kind mb
    | true => exact rEach_bad hs A n c C hn w hd h1 h2 hf al aa fl fa on off w1 w2 0 kind (formatL · kind) (fun l => by show formatL l kind = _; unfold formatL; rw [if_neg (fun h => hk h.1)]) hcall mb
theorem rEach25_1 (hs : List Hd) (A : Option Addr) (n c C : Nat) (hn : n = hs.length) (w : World) (hd : DocAt w C A hs) (h1 : hs.length ≤ 1000) (h2 : ∀ h ∈ hs, h.l.ls.length ≤ 1000000 ∧ h.l.cs.length ≤ 1000000) (hf : ∀ h ∈ hs, FineC h.l.cs) (hcap : ∀ h ∈ hs, h.l.ls.length ≤ h.c) (al aa fl fa on off : Int) (w1 : (Lit.int .i64 on).wf = true) (w2 : (Lit.int .i64 off).wf = true) (kind : Int) :
    Calls Tryz.prog 13 #[.agg #[.slice A n c, .int .i64 al, .int .i64 aa, .int .i64 fl, .int .i64 fa, .int .i64 on, .int .i64 off], .int .i64 1, .int .i64 kind] w (RetStE (eachS indentL ⟨lnsOf hs, ⟨al, aa⟩, ⟨fl, fa⟩, on, off⟩) w) := by
  have hcall : ∀ (x : Hd) (W : World), x ∈ hs → LnAt W W.heap.size x.l x.A x.B → Calls Tryz.prog 30 #[.agg #[.int .i64 x.l.q, .slice x.A x.l.ls.length x.c, .int .i64 x.l.k, .slice x.B x.l.cs.length x.d], .int .i64 1, .int .i64 kind] W (RetLnE ((indentL) x.l) W) := fun x W hx hl =>
    rTurn25_1 x.l x.A _ x.c x.B _ x.d _ rfl rfl W hl (by have := (h2 x hx).1; omega) (by have := (h2 x hx).2; omega) (hf x hx) (hcap x hx) kind
  cases mb : mayS ⟨lnsOf hs, ⟨al, aa⟩, ⟨fl, fa⟩, on, off⟩ with
  | false => rw [eachS_no _ mb]; exact rEach_no hs A n c C hn w hd h1 h2 hf al aa fl fa on off w1 w2 1 kind mb
  | true => exact rEach_good hs A n c C hn w hd h1 h2 hf al aa fl fa on off w1 w2 1 kind (indentL) err_indent hcall mb
theorem rEach25_2 (hs : List Hd) (A : Option Addr) (n c C : Nat) (hn : n = hs.length) (w : World) (hd : DocAt w C A hs) (h1 : hs.length ≤ 1000) (h2 : ∀ h ∈ hs, h.l.ls.length ≤ 1000000 ∧ h.l.cs.length ≤ 1000000) (hf : ∀ h ∈ hs, FineC h.l.cs) (hcap : ∀ h ∈ hs, h.l.ls.length ≤ h.c) (al aa fl fa on off : Int) (w1 : (Lit.int .i64 on).wf = true) (w2 : (Lit.int .i64 off).wf = true) (kind : Int) :
    Calls Tryz.prog 13 #[.agg #[.slice A n c, .int .i64 al, .int .i64 aa, .int .i64 fl, .int .i64 fa, .int .i64 on, .int .i64 off], .int .i64 2, .int .i64 kind] w (RetStE (eachS outdentL ⟨lnsOf hs, ⟨al, aa⟩, ⟨fl, fa⟩, on, off⟩) w) := by
  have hcall : ∀ (x : Hd) (W : World), x ∈ hs → LnAt W W.heap.size x.l x.A x.B → Calls Tryz.prog 30 #[.agg #[.int .i64 x.l.q, .slice x.A x.l.ls.length x.c, .int .i64 x.l.k, .slice x.B x.l.cs.length x.d], .int .i64 2, .int .i64 kind] W (RetLnE ((outdentL) x.l) W) := fun x W hx hl =>
    rTurn25_2 x.l x.A _ x.c x.B _ x.d _ rfl rfl W hl (by have := (h2 x hx).1; omega) (by have := (h2 x hx).2; omega) (hf x hx) (hcap x hx) kind
  cases mb : mayS ⟨lnsOf hs, ⟨al, aa⟩, ⟨fl, fa⟩, on, off⟩ with
  | false => rw [eachS_no _ mb]; exact rEach_no hs A n c C hn w hd h1 h2 hf al aa fl fa on off w1 w2 2 kind mb
  | true => exact rEach_good hs A n c C hn w hd h1 h2 hf al aa fl fa on off w1 w2 2 kind (outdentL) err_outdent hcall mb
theorem rEach25_3 (hs : List Hd) (A : Option Addr) (n c C : Nat) (hn : n = hs.length) (w : World) (hd : DocAt w C A hs) (h1 : hs.length ≤ 1000) (h2 : ∀ h ∈ hs, h.l.ls.length ≤ 1000000 ∧ h.l.cs.length ≤ 1000000) (hf : ∀ h ∈ hs, FineC h.l.cs) (hcap : ∀ h ∈ hs, h.l.ls.length ≤ h.c) (al aa fl fa on off : Int) (w1 : (Lit.int .i64 on).wf = true) (w2 : (Lit.int .i64 off).wf = true) (kind : Int) (hk : kind = 0 ∨ kind = 1) :
    Calls Tryz.prog 13 #[.agg #[.slice A n c, .int .i64 al, .int .i64 aa, .int .i64 fl, .int .i64 fa, .int .i64 on, .int .i64 off], .int .i64 3, .int .i64 kind] w (RetStE (eachS (listL · kind) ⟨lnsOf hs, ⟨al, aa⟩, ⟨fl, fa⟩, on, off⟩) w) := by
  have hcall : ∀ (x : Hd) (W : World), x ∈ hs → LnAt W W.heap.size x.l x.A x.B → Calls Tryz.prog 30 #[.agg #[.int .i64 x.l.q, .slice x.A x.l.ls.length x.c, .int .i64 x.l.k, .slice x.B x.l.cs.length x.d], .int .i64 3, .int .i64 kind] W (RetLnE ((listL · kind) x.l) W) := fun x W hx hl =>
    rTurn25_3 x.l x.A _ x.c x.B _ x.d _ rfl rfl W hl (by have := (h2 x hx).1; omega) (by have := (h2 x hx).2; omega) (hf x hx) (hcap x hx) kind
  cases mb : mayS ⟨lnsOf hs, ⟨al, aa⟩, ⟨fl, fa⟩, on, off⟩ with
  | false => rw [eachS_no _ mb]; exact rEach_no hs A n c C hn w hd h1 h2 hf al aa fl fa on off w1 w2 3 kind mb
  | true => exact rEach_good hs A n c C hn w hd h1 h2 hf al aa fl fa on off w1 w2 3 kind (listL · kind) (err_list hk) hcall mb
set_option maxRecDepth 100000 in
set_option maxHeartbeats 8000000 in
theorem rList_bad (hs : List Hd) (A : Option Addr) (n c C : Nat) (hn : n = hs.length) (w : World) (hd : DocAt w C A hs) (h1 : hs.length ≤ 1000) (h2 : ∀ h ∈ hs, h.l.ls.length ≤ 1000000 ∧ h.l.cs.length ≤ 1000000) (hf : ∀ h ∈ hs, FineC h.l.cs) (hcap : ∀ h ∈ hs, h.l.ls.length ≤ h.c) (al aa fl fa on off : Int) (w1 : (Lit.int .i64 on).wf = true) (w2 : (Lit.int .i64 off).wf = true) (kind : Int) (c0 : kind ≠ 0) (c1 : kind ≠ 1) :
    Calls Tryz.prog 18 #[.agg #[.slice A n c, .int .i64 al, .int .i64 aa, .int .i64 fl, .int .i64 fa, .int .i64 on, .int .i64 off], .int .i64 kind] w (RetStE ((zS, 1)) w) := by
  have CAP := hid hcap
  clear hcap
  subst hn
  have D0 := hid h2
  have L0 := hid h1
  have K := hid (KG.start w [⟨hs, A, false⟩] (by simpa using hd.live))
  have FI := hid hf
  have W1 := hid w1
  have W2 := hid w2
  clear hd h2 hf w1 w2
  clear CAP
  have b0 : (kind != 0) = true := bne_iff_ne.2 c0
  have b1 : (kind != 1) = true := bne_iff_ne.2 c1
  clear c0 c1
  go_enter Tryz.func18, Tryz.ntmps18
  go_wp2_with (first
    | go_big_skip
    | ((with_reducible show wpList _ _ _ _ _ _); refine kgBox (by rfl) 26 _ (by rfl) (some 2) (by rfl) (by rfl) [_, _, _, _, _, _, _] (by rfl) K ?_; intro g2 V1 K1; clear K; (have K := K1); clear K1)
    | ((with_reducible show wpList _ _ _ _ _ _); refine kgAlloc (by rfl) 26 (by rfl) (some 4) (by rfl) [.slice none 0 0, .int .i64 0, .int .i64 0, .int .i64 0, .int .i64 0, .int .i64 0, .int .i64 0] (fun _ => by kernel_rfl) K ?_; intro g4 V1 K1; clear K; (have K := K1); clear K1)
    | ((with_reducible show wpList _ _ _ _ _ _); refine kgStore (by rfl) 26 (.tmp 4) _ (by rfl) 7 (by kernel_rfl) [] (by exact K) (by rfl) (by rfl) [_, _, _, _, _, _, _] (by rfl) (by rfl) (by simp) (by simp [Value.oneCell']) (cs := [_, _, _, _, _, _, _]) (by rfl) ?_; intro V2 K1; (dsimp only [List.cons_append, List.nil_append] at K1); clear K; (have K := K1); clear K1))
  refine bodyPost_ret (results_ct Tryz.results18 (by rfl) (K.out.loadA (off := 0) (n := 7) (by repeat (first | exact List.mem_cons_self | refine List.mem_cons_of_mem _ ?_)) Tryz.underlying26 rfl (by kernel_rfl) (part := [_, _, _, _, _, _, _]) (by rfl) (by rfl)) (by rfl)) rfl ?_
  exact ⟨none, 0, 0, [], rfl, rfl, Nat.le_refl _, rfl, DocW.nil, K.out.b⟩
set_option maxRecDepth 100000 in
set_option maxHeartbeats 8000000 in
theorem rList_no0 (hs : List Hd) (A : Option Addr) (n c C : Nat) (hn : n = hs.length) (w : World) (hd : DocAt w C A hs) (h1 : hs.length ≤ 1000) (h2 : ∀ h ∈ hs, h.l.ls.length ≤ 1000000 ∧ h.l.cs.length ≤ 1000000) (hf : ∀ h ∈ hs, FineC h.l.cs) (hcap : ∀ h ∈ hs, h.l.ls.length ≤ h.c) (al aa fl fa on off : Int) (w1 : (Lit.int .i64 on).wf = true) (w2 : (Lit.int .i64 off).wf = true) (mb : mayS ⟨lnsOf hs, ⟨al, aa⟩, ⟨fl, fa⟩, on, off⟩ = false) :
    Calls Tryz.prog 18 #[.agg #[.slice A n c, .int .i64 al, .int .i64 aa, .int .i64 fl, .int .i64 fa, .int .i64 on, .int .i64 off], .int .i64 0] w (RetStE ((zS, 1)) w) := by
  have CAP := hid hcap
  clear hcap
  subst hn
  have D0 := hid h2
  have L0 := hid h1
  have K := hid (KG.start w [⟨hs, A, false⟩] (by simpa using hd.live))
  have FI := hid hf
  have W1 := hid w1
  have W2 := hid w2
  clear hd h2 hf w1 w2
  clear CAP
  have MB := hid mb
  clear mb
  go_enter Tryz.func18, Tryz.ntmps18
  go_wp2_with (first
    | go_big_skip
    | ((with_reducible show wpList _ _ _ _ _ _); refine kgBox (by rfl) 26 _ (by rfl) (some 2) (by rfl) (by rfl) [_, _, _, _, _, _, _] (by rfl) K ?_; intro g2 V1 K1; clear K; (have K := K1); clear K1)
    | ((with_reducible show wpList _ _ _ _ _ _); refine kgAlloc (by rfl) 26 (by rfl) (some 4) (by rfl) [.slice none 0 0, .int .i64 0, .int .i64 0, .int .i64 0, .int .i64 0, .int .i64 0, .int .i64 0] (fun _ => by kernel_rfl) K ?_; intro g4 V1 K1; clear K; (have K := K1); clear K1)
    | ((with_reducible show wpList _ _ _ _ _ _); refine kgLoadA (by rfl) 26 _ (by rfl) 7 _ Tryz.underlying26 rfl (by kernel_rfl) K (by rfl) (by repeat (first | exact List.mem_cons_self | refine List.mem_cons_of_mem _ ?_)) (part := [_, _, _, _, _, _, _]) (by rfl) (by rfl) ?_)
    | (go_at_call 23; (with_reducible refine (rMay23_any hs A _ c _ rfl _ (K.out.at_ (d := ⟨hs, A, false⟩) (by simp)) L0.out D0.out FI.out al aa fl fa on off W1.out W2.out).mono ?_); rintro e WM ⟨rfl, hb⟩; rw [MB.out]; (have K2 := hid (K.out.later hb)); clear hb K; (have K := K2); clear K2)
    | ((with_reducible show wpList _ _ _ _ _ _); refine kgStore (by rfl) 26 (.tmp 4) _ (by rfl) 7 (by kernel_rfl) [] (by exact K) (by rfl) (by rfl) [_, _, _, _, _, _, _] (by rfl) (by rfl) (by simp) (by simp [Value.oneCell']) (cs := [_, _, _, _, _, _, _]) (by rfl) ?_; intro V2 K1; (dsimp only [List.cons_append, List.nil_append] at K1); clear K; (have K := K1); clear K1))
  refine bodyPost_ret (results_ct Tryz.results18 (by rfl) (K.out.loadA (off := 0) (n := 7) (by repeat (first | exact List.mem_cons_self | refine List.mem_cons_of_mem _ ?_)) Tryz.underlying26 rfl (by kernel_rfl) (part := [_, _, _, _, _, _, _]) (by rfl) (by rfl)) (by rfl)) rfl ?_
  exact ⟨none, 0, 0, [], rfl, rfl, Nat.le_refl _, rfl, DocW.nil, K.out.b⟩
set_option maxRecDepth 100000 in
set_option maxHeartbeats 8000000 in
theorem rList_y0 (hs : List Hd) (A : Option Addr) (n c C : Nat) (hn : n = hs.length) (w : World) (hd : DocAt w C A hs) (h1 : hs.length ≤ 1000) (h2 : ∀ h ∈ hs, h.l.ls.length ≤ 1000000 ∧ h.l.cs.length ≤ 1000000) (hf : ∀ h ∈ hs, FineC h.l.cs) (hcap : ∀ h ∈ hs, h.l.ls.length ≤ h.c) (al aa fl fa on off : Int) (w1 : (Lit.int .i64 on).wf = true) (w2 : (Lit.int .i64 off).wf = true) (mb : mayS ⟨lnsOf hs, ⟨al, aa⟩, ⟨fl, fa⟩, on, off⟩ = true) (ls : Bool) (hls : listedS ⟨lnsOf hs, ⟨al, aa⟩, ⟨fl, fa⟩, on, off⟩ 0 = (true, ls)) :
    Calls Tryz.prog 18 #[.agg #[.slice A n c, .int .i64 al, .int .i64 aa, .int .i64 fl, .int .i64 fa, .int .i64 on, .int .i64 off], .int .i64 0] w (RetStE (eachS outdentL ⟨lnsOf hs, ⟨al, aa⟩, ⟨fl, fa⟩, on, off⟩) w) := by
  have CAP := hid hcap
  clear hcap
  subst hn
  have D0 := hid h2
  have L0 := hid h1
  have K := hid (KG.start w [⟨hs, A, false⟩] (by simpa using hd.live))
  have FI := hid hf
  have W1 := hid w1
  have W2 := hid w2
  clear hd h2 hf w1 w2
  have MB := hid mb
  have LS := hid hls
  clear mb hls
  obtain ⟨⟨⟨rd, ⟨ral, raa⟩, ⟨rfl', rfa⟩, ron, roff⟩, er⟩, hr⟩ : ∃ r, eachS outdentL ⟨lnsOf hs, ⟨al, aa⟩, ⟨fl, fa⟩, on, off⟩ = r := ⟨_, rfl⟩
  rw [hr]
  have FR := hid hr
  clear hr
  go_enter Tryz.func18, Tryz.ntmps18
  go_wp2_with (first
    | go_big_skip
    | ((with_reducible show wpList _ _ _ _ _ _); refine kgBox (by rfl) 26 _ (by rfl) (some 2) (by rfl) (by rfl) [_, _, _, _, _, _, _] (by rfl) K ?_; intro g2 V1 K1; clear K; (have K := K1); clear K1)
    | ((with_reducible show wpList _ _ _ _ _ _); refine kgAlloc (by rfl) 26 (by rfl) (some 4) (by rfl) [.slice none 0 0, .int .i64 0, .int .i64 0, .int .i64 0, .int .i64 0, .int .i64 0, .int .i64 0] (fun _ => by kernel_rfl) K ?_; intro g4 V1 K1; clear K; (have K := K1); clear K1)
    | ((with_reducible show wpList _ _ _ _ _ _); refine kgLoadA (by rfl) 26 _ (by rfl) 7 _ Tryz.underlying26 rfl (by kernel_rfl) K (by rfl) (by repeat (first | exact List.mem_cons_self | refine List.mem_cons_of_mem _ ?_)) (part := [_, _, _, _, _, _, _]) (by rfl) (by rfl) ?_)
    | (go_at_call 23; (with_reducible refine (rMay23_any hs A _ c _ rfl _ (K.out.at_ (d := ⟨hs, A, false⟩) (by simp)) L0.out D0.out FI.out al aa fl fa on off W1.out W2.out).mono ?_); rintro e WM ⟨rfl, hb⟩; rw [MB.out]; (have K2 := hid (K.out.later hb)); clear hb K; (have K := K2); clear K2)
    | (go_at_call 10; (with_reducible refine (rListed25_any hs A _ c _ rfl _ (K.out.at_ (d := ⟨hs, A, false⟩) (by simp)) L0.out D0.out FI.out al aa fl fa on off _ W1.out W2.out).mono ?_); rintro e W6 ⟨rfl, hb⟩; rw [LS.out]; dsimp only; (have K2 := hid (K.out.later hb)); clear hb K; (have K := K2); clear K2)
    | (go_at_call 13; (with_reducible refine (rEach25_2 hs A _ c _ rfl _ (K.out.at_ (d := ⟨hs, A, false⟩) (by simp)) L0.out D0.out FI.out CAP.out al aa fl fa on off W1.out W2.out _).mono ?_); rintro e W7 hc; rw [FR.out] at hc; obtain ⟨A3, n3, c3, hs3, rfl, q1, q2, q3, ho, hb3⟩ := hc; (have QQ : Hid (n3 = hs3.length ∧ n3 ≤ c3 ∧ lnsOf hs3 = rd) := hid ⟨q1, q2, q3⟩); unfold stV; dsimp only; (have K2 := hid (K.out.addW hb3 ho)); clear q1 q2 q3 ho hb3 K; (have K := K2); clear K2)
    | ((with_reducible show wpList _ _ _ _ _ _); refine kgStore (by rfl) 26 (.tmp 4) _ (by rfl) 7 (by kernel_rfl) [] (by exact K) (by rfl) (by rfl) [_, _, _, _, _, _, _] (by rfl) (by rfl) (by simp) (by simp [Value.oneCell']) (cs := [_, _, _, _, _, _, _]) (by rfl) ?_; intro V2 K1; (dsimp only [List.cons_append, List.nil_append] at K1); clear K; (have K := K1); clear K1))
  refine bodyPost_ret (results_ct Tryz.results18 (by rfl) (K.out.loadA (off := 0) (n := 7) (by repeat (first | exact List.mem_cons_self | refine List.mem_cons_of_mem _ ?_)) Tryz.underlying26 rfl (by kernel_rfl) (part := [_, _, _, _, _, _, _]) (by rfl) (by rfl)) (by rfl)) rfl ?_
  exact ⟨A3, n3, c3, hs3, rfl, QQ.out.1, QQ.out.2.1, QQ.out.2.2, K.out.docW (by simp), K.out.b⟩
set_option maxRecDepth 100000 in
set_option maxHeartbeats 8000000 in
theorem rList_n0 (hs : List Hd) (A : Option Addr) (n c C : Nat) (hn : n = hs.length) (w : World) (hd : DocAt w C A hs) (h1 : hs.length ≤ 1000) (h2 : ∀ h ∈ hs, h.l.ls.length ≤ 1000000 ∧ h.l.cs.length ≤ 1000000) (hf : ∀ h ∈ hs, FineC h.l.cs) (hcap : ∀ h ∈ hs, h.l.ls.length ≤ h.c) (al aa fl fa on off : Int) (w1 : (Lit.int .i64 on).wf = true) (w2 : (Lit.int .i64 off).wf = true) (mb : mayS ⟨lnsOf hs, ⟨al, aa⟩, ⟨fl, fa⟩, on, off⟩ = true) (ls : Bool) (hls : listedS ⟨lnsOf hs, ⟨al, aa⟩, ⟨fl, fa⟩, on, off⟩ 0 = (false, ls)) :
    Calls Tryz.prog 18 #[.agg #[.slice A n c, .int .i64 al, .int .i64 aa, .int .i64 fl, .int .i64 fa, .int .i64 on, .int .i64 off], .int .i64 0] w (RetStE (eachS (listL · 0) ⟨lnsOf hs, ⟨al, aa⟩, ⟨fl, fa⟩, on, off⟩) w) := by
  have CAP := hid hcap
  clear hcap
  subst hn
  have D0 := hid h2
  have L0 := hid h1
  have K := hid (KG.start w [⟨hs, A, false⟩] (by simpa using hd.live))
  have FI := hid hf
  have W1 := hid w1
  have W2 := hid w2
  clear hd h2 hf w1 w2
  have MB := hid mb
  have LS := hid hls
  clear mb hls
  obtain ⟨⟨⟨rd, ⟨ral, raa⟩, ⟨rfl', rfa⟩, ron, roff⟩, er⟩, hr⟩ : ∃ r, eachS (listL · 0) ⟨lnsOf hs, ⟨al, aa⟩, ⟨fl, fa⟩, on, off⟩ = r := ⟨_, rfl⟩
  rw [hr]
  have FR := hid hr
  clear hr
  go_enter Tryz.func18, Tryz.ntmps18
  go_wp2_with (first
    | go_big_skip
    | ((with_reducible show wpList _ _ _ _ _ _); refine kgBox (by rfl) 26 _ (by rfl) (some 2) (by rfl) (by rfl) [_, _, _, _, _, _, _] (by rfl) K ?_; intro g2 V1 K1; clear K; (have K := K1); clear K1)
    | ((with_reducible show wpList _ _ _ _ _ _); refine kgAlloc (by rfl) 26 (by rfl) (some 4) (by rfl) [.slice none 0 0, .int .i64 0, .int .i64 0, .int .i64 0, .int .i64 0, .int .i64 0, .int .i64 0] (fun _ => by kernel_rfl) K ?_; intro g4 V1 K1; clear K; (have K := K1); clear K1)
    | ((with_reducible show wpList _ _ _ _ _ _); refine kgLoadA (by rfl) 26 _ (by rfl) 7 _ Tryz.underlying26 rfl (by kernel_rfl) K (by rfl) (by repeat (first | exact List.mem_cons_self | refine List.mem_cons_of_mem _ ?_)) (part := [_, _, _, _, _, _, _]) (by rfl) (by rfl) ?_)
    | (go_at_call 23; (with_reducible refine (rMay23_any hs A _ c _ rfl _ (K.out.at_ (d := ⟨hs, A, false⟩) (by simp)) L0.out D0.out FI.out al aa fl fa on off W1.out W2.out).mono ?_); rintro e WM ⟨rfl, hb⟩; rw [MB.out]; (have K2 := hid (K.out.later hb)); clear hb K; (have K := K2); clear K2)
    | (go_at_call 10; (with_reducible refine (rListed25_any hs A _ c _ rfl _ (K.out.at_ (d := ⟨hs, A, false⟩) (by simp)) L0.out D0.out FI.out al aa fl fa on off _ W1.out W2.out).mono ?_); rintro e W6 ⟨rfl, hb⟩; rw [LS.out]; dsimp only; (have K2 := hid (K.out.later hb)); clear hb K; (have K := K2); clear K2)
    | (go_at_call 13; (with_reducible refine (rEach25_3 hs A _ c _ rfl _ (K.out.at_ (d := ⟨hs, A, false⟩) (by simp)) L0.out D0.out FI.out CAP.out al aa fl fa on off W1.out W2.out _ (by omega)).mono ?_); rintro e W7 hc; rw [FR.out] at hc; obtain ⟨A3, n3, c3, hs3, rfl, q1, q2, q3, ho, hb3⟩ := hc; (have QQ : Hid (n3 = hs3.length ∧ n3 ≤ c3 ∧ lnsOf hs3 = rd) := hid ⟨q1, q2, q3⟩); unfold stV; dsimp only; (have K2 := hid (K.out.addW hb3 ho)); clear q1 q2 q3 ho hb3 K; (have K := K2); clear K2)
    | ((with_reducible show wpList _ _ _ _ _ _); refine kgStore (by rfl) 26 (.tmp 4) _ (by rfl) 7 (by kernel_rfl) [] (by exact K) (by rfl) (by rfl) [_, _, _, _, _, _, _] (by rfl) (by rfl) (by simp) (by simp [Value.oneCell']) (cs := [_, _, _, _, _, _, _]) (by rfl) ?_; intro V2 K1; (dsimp only [List.cons_append, List.nil_append] at K1); clear K; (have K := K1); clear K1))
  refine bodyPost_ret (results_ct Tryz.results18 (by rfl) (K.out.loadA (off := 0) (n := 7) (by repeat (first | exact List.mem_cons_self | refine List.mem_cons_of_mem _ ?_)) Tryz.underlying26 rfl (by kernel_rfl) (part := [_, _, _, _, _, _, _]) (by rfl) (by rfl)) (by rfl)) rfl ?_
  exact ⟨A3, n3, c3, hs3, rfl, QQ.out.1, QQ.out.2.1, QQ.out.2.2, K.out.docW (by simp), K.out.b⟩
set_option maxRecDepth 100000 in
set_option maxHeartbeats 8000000 in
theorem rList_no1 (hs : List Hd) (A : Option Addr) (n c C : Nat) (hn : n = hs.length) (w : World) (hd : DocAt w C A hs) (h1 : hs.length ≤ 1000) (h2 : ∀ h ∈ hs, h.l.ls.length ≤ 1000000 ∧ h.l.cs.length ≤ 1000000) (hf : ∀ h ∈ hs, FineC h.l.cs) (hcap : ∀ h ∈ hs, h.l.ls.length ≤ h.c) (al aa fl fa on off : Int) (w1 : (Lit.int .i64 on).wf = true) (w2 : (Lit.int .i64 off).wf = true) (mb : mayS ⟨lnsOf hs, ⟨al, aa⟩, ⟨fl, fa⟩, on, off⟩ = false) :
    Calls Tryz.prog 18 #[.agg #[.slice A n c, .int .i64 al, .int .i64 aa, .int .i64 fl, .int .i64 fa, .int .i64 on, .int .i64 off], .int .i64 1] w (RetStE ((zS, 1)) w) := by
  have CAP := hid hcap
  clear hcap
  subst hn
  have D0 := hid h2
  have L0 := hid h1
  have K := hid (KG.start w [⟨hs, A, false⟩] (by simpa using hd.live))
  have FI := hid hf
  have W1 := hid w1
  have W2 := hid w2
  clear hd h2 hf w1 w2
  clear CAP
  have MB := hid mb
  clear mb
  go_enter Tryz.func18, Tryz.ntmps18
  go_wp2_with (first
    | go_big_skip
    | ((with_reducible show wpList _ _ _ _ _ _); refine kgBox (by rfl) 26 _ (by rfl) (some 2) (by rfl) (by rfl) [_, _, _, _, _, _, _] (by rfl) K ?_; intro g2 V1 K1; clear K; (have K := K1); clear K1)
    | ((with_reducible show wpList _ _ _ _ _ _); refine kgAlloc (by rfl) 26 (by rfl) (some 4) (by rfl) [.slice none 0 0, .int .i64 0, .int .i64 0, .int .i64 0, .int .i64 0, .int .i64 0, .int .i64 0] (fun _ => by kernel_rfl) K ?_; intro g4 V1 K1; clear K; (have K := K1); clear K1)
    | ((with_reducible show wpList _ _ _ _ _ _); refine kgLoadA (by rfl) 26 _ (by rfl) 7 _ Tryz.underlying26 rfl (by kernel_rfl) K (by rfl) (by repeat (first | exact List.mem_cons_self | refine List.mem_cons_of_mem _ ?_)) (part := [_, _, _, _, _, _, _]) (by rfl) (by rfl) ?_)
    | (go_at_call 23; (with_reducible refine (rMay23_any hs A _ c _ rfl _ (K.out.at_ (d := ⟨hs, A, false⟩) (by simp)) L0.out D0.out FI.out al aa fl fa on off W1.out W2.out).mono ?_); rintro e WM ⟨rfl, hb⟩; rw [MB.out]; (have K2 := hid (K.out.later hb)); clear hb K; (have K := K2); clear K2)
    | ((with_reducible show wpList _ _ _ _ _ _); refine kgStore (by rfl) 26 (.tmp 4) _ (by rfl) 7 (by kernel_rfl) [] (by exact K) (by rfl) (by rfl) [_, _, _, _, _, _, _] (by rfl) (by rfl) (by simp) (by simp [Value.oneCell']) (cs := [_, _, _, _, _, _, _]) (by rfl) ?_; intro V2 K1; (dsimp only [List.cons_append, List.nil_append] at K1); clear K; (have K := K1); clear K1))
  refine bodyPost_ret (results_ct Tryz.results18 (by rfl) (K.out.loadA (off := 0) (n := 7) (by repeat (first | exact List.mem_cons_self | refine List.mem_cons_of_mem _ ?_)) Tryz.underlying26 rfl (by kernel_rfl) (part := [_, _, _, _, _, _, _]) (by rfl) (by rfl)) (by rfl)) rfl ?_
  exact ⟨none, 0, 0, [], rfl, rfl, Nat.le_refl _, rfl, DocW.nil, K.out.b⟩
set_option maxRecDepth 100000 in
set_option maxHeartbeats 8000000 in
theorem rList_y1 (hs : List Hd) (A : Option Addr) (n c C : Nat) (hn : n = hs.length) (w : World) (hd : DocAt w C A hs) (h1 : hs.length ≤ 1000) (h2 : ∀ h ∈ hs, h.l.ls.length ≤ 1000000 ∧ h.l.cs.length ≤ 1000000) (hf : ∀ h ∈ hs, FineC h.l.cs) (hcap : ∀ h ∈ hs, h.l.ls.length ≤ h.c) (al aa fl fa on off : Int) (w1 : (Lit.int .i64 on).wf = true) (w2 : (Lit.int .i64 off).wf = true) (mb : mayS ⟨lnsOf hs, ⟨al, aa⟩, ⟨fl, fa⟩, on, off⟩ = true) (ls : Bool) (hls : listedS ⟨lnsOf hs, ⟨al, aa⟩, ⟨fl, fa⟩, on, off⟩ 1 = (true, ls)) :
    Calls Tryz.prog 18 #[.agg #[.slice A n c, .int .i64 al, .int .i64 aa, .int .i64 fl, .int .i64 fa, .int .i64 on, .int .i64 off], .int .i64 1] w (RetStE (eachS outdentL ⟨lnsOf hs, ⟨al, aa⟩, ⟨fl, fa⟩, on, off⟩) w) := by
  have CAP := hid hcap
  clear hcap
  subst hn
  have D0 := hid h2
  have L0 := hid h1
  have K := hid (KG.start w [⟨hs, A, false⟩] (by simpa using hd.live))
  have FI := hid hf
  have W1 := hid w1
  have W2 := hid w2
  clear hd h2 hf w1 w2
  have MB := hid mb
  have LS := hid hls
  clear mb hls
  obtain ⟨⟨⟨rd, ⟨ral, raa⟩, ⟨rfl', rfa⟩, ron, roff⟩, er⟩, hr⟩ : ∃ r, eachS outdentL ⟨lnsOf hs, ⟨al, aa⟩, ⟨fl, fa⟩, on, off⟩ = r := ⟨_, rfl⟩
  rw [hr]
  have FR := hid hr
  clear hr
  go_enter Tryz.func18, Tryz.ntmps18
  go_wp2_with (first
    | go_big_skip
    | ((with_reducible show wpList _ _ _ _ _ _); refine kgBox (by rfl) 26 _ (by rfl) (some 2) (by rfl) (by rfl) [_, _, _, _, _, _, _] (by rfl) K ?_; intro g2 V1 K1; clear K; (have K := K1); clear K1)
    | ((with_reducible show wpList _ _ _ _ _ _); refine kgAlloc (by rfl) 26 (by rfl) (some 4) (by rfl) [.slice none 0 0, .int .i64 0, .int .i64 0, .int .i64 0, .int .i64 0, .int .i64 0, .int .i64 0] (fun _ => by kernel_rfl) K ?_; intro g4 V1 K1; clear K; (have K := K1); clear K1)
    | ((with_reducible show wpList _ _ _ _ _ _); refine kgLoadA (by rfl) 26 _ (by rfl) 7 _ Tryz.underlying26 rfl (by kernel_rfl) K (by rfl) (by repeat (first | exact List.mem_cons_self | refine List.mem_cons_of_mem _ ?_)) (part := [_, _, _, _, _, _, _]) (by rfl) (by rfl) ?_)
    | (go_at_call 23; (with_reducible refine (rMay23_any hs A _ c _ rfl _ (K.out.at_ (d := ⟨hs, A, false⟩) (by simp)) L0.out D0.out FI.out al aa fl fa on off W1.out W2.out).mono ?_); rintro e WM ⟨rfl, hb⟩; rw [MB.out]; (have K2 := hid (K.out.later hb)); clear hb K; (have K := K2); clear K2)
    | (go_at_call 10; (with_reducible refine (rListed25_any hs A _ c _ rfl _ (K.out.at_ (d := ⟨hs, A, false⟩) (by simp)) L0.out D0.out FI.out al aa fl fa on off _ W1.out W2.out).mono ?_); rintro e W6 ⟨rfl, hb⟩; rw [LS.out]; dsimp only; (have K2 := hid (K.out.later hb)); clear hb K; (have K := K2); clear K2)
    | (go_at_call 13; (with_reducible refine (rEach25_2 hs A _ c _ rfl _ (K.out.at_ (d := ⟨hs, A, false⟩) (by simp)) L0.out D0.out FI.out CAP.out al aa fl fa on off W1.out W2.out _).mono ?_); rintro e W7 hc; rw [FR.out] at hc; obtain ⟨A3, n3, c3, hs3, rfl, q1, q2, q3, ho, hb3⟩ := hc; (have QQ : Hid (n3 = hs3.length ∧ n3 ≤ c3 ∧ lnsOf hs3 = rd) := hid ⟨q1, q2, q3⟩); unfold stV; dsimp only; (have K2 := hid (K.out.addW hb3 ho)); clear q1 q2 q3 ho hb3 K; (have K := K2); clear K2)
    | ((with_reducible show wpList _ _ _ _ _ _); refine kgStore (by rfl) 26 (.tmp 4) _ (by rfl) 7 (by kernel_rfl) [] (by exact K) (by rfl) (by rfl) [_, _, _, _, _, _, _] (by rfl) (by rfl) (by simp) (by simp [Value.oneCell']) (cs := [_, _, _, _, _, _, _]) (by rfl) ?_; intro V2 K1; (dsimp only [List.cons_append, List.nil_append] at K1); clear K; (have K := K1); clear K1))
  refine bodyPost_ret (results_ct Tryz.results18 (by rfl) (K.out.loadA (off := 0) (n := 7) (by repeat (first | exact List.mem_cons_self | refine List.mem_cons_of_mem _ ?_)) Tryz.underlying26 rfl (by kernel_rfl) (part := [_, _, _, _, _, _, _]) (by rfl) (by rfl)) (by rfl)) rfl ?_
  exact ⟨A3, n3, c3, hs3, rfl, QQ.out.1, QQ.out.2.1, QQ.out.2.2, K.out.docW (by simp), K.out.b⟩
set_option maxRecDepth 100000 in
set_option maxHeartbeats 8000000 in
theorem rList_n1 (hs : List Hd) (A : Option Addr) (n c C : Nat) (hn : n = hs.length) (w : World) (hd : DocAt w C A hs) (h1 : hs.length ≤ 1000) (h2 : ∀ h ∈ hs, h.l.ls.length ≤ 1000000 ∧ h.l.cs.length ≤ 1000000) (hf : ∀ h ∈ hs, FineC h.l.cs) (hcap : ∀ h ∈ hs, h.l.ls.length ≤ h.c) (al aa fl fa on off : Int) (w1 : (Lit.int .i64 on).wf = true) (w2 : (Lit.int .i64 off).wf = true) (mb : mayS ⟨lnsOf hs, ⟨al, aa⟩, ⟨fl, fa⟩, on, off⟩ = true) (ls : Bool) (hls : listedS ⟨lnsOf hs, ⟨al, aa⟩, ⟨fl, fa⟩, on, off⟩ 1 = (false, ls)) :
    Calls Tryz.prog 18 #[.agg #[.slice A n c, .int .i64 al, .int .i64 aa, .int .i64 fl, .int .i64 fa, .int .i64 on, .int .i64 off], .int .i64 1] w (RetStE (eachS (listL · 1) ⟨lnsOf hs, ⟨al, aa⟩, ⟨fl, fa⟩, on, off⟩) w) := by
  have CAP := hid hcap
  clear hcap
  subst hn
  have D0 := hid h2
  have L0 := hid h1
  have K := hid (KG.start w [⟨hs, A, false⟩] (by simpa using hd.live))
  have FI := hid hf
  have W1 := hid w1
  have W2 := hid w2
  clear hd h2 hf w1 w2
  have MB := hid mb
  have LS := hid hls
  clear mb hls
  obtain ⟨⟨⟨rd, ⟨ral, raa⟩, ⟨rfl', rfa⟩, ron, roff⟩, er⟩, hr⟩ : ∃ r, eachS (listL · 1) ⟨lnsOf hs, ⟨al, aa⟩, ⟨fl, fa⟩, on, off⟩ = r := ⟨_, rfl⟩
  rw [hr]
  have FR := hid hr
  clear hr
  go_enter Tryz.func18, Tryz.ntmps18
  go_wp2_with (first
    | go_big_skip
    | ((with_reducible show wpList _ _ _ _ _ _); refine kgBox (by rfl) 26 _ (by rfl) (some 2) (by rfl) (by rfl) [_, _, _, _, _, _, _] (by rfl) K ?_; intro g2 V1 K1; clear K; (have K := K1); clear K1)
    | ((with_reducible show wpList _ _ _ _ _ _); refine kgAlloc (by rfl) 26 (by rfl) (some 4) (by rfl) [.slice none 0 0, .int .i64 0, .int .i64 0, .int .i64 0, .int .i64 0, .int .i64 0, .int .i64 0] (fun _ => by kernel_rfl) K ?_; intro g4 V1 K1; clear K; (have K := K1); clear K1)
    | ((with_reducible show wpList _ _ _ _ _ _); refine kgLoadA (by rfl) 26 _ (by rfl) 7 _ Tryz.underlying26 rfl (by kernel_rfl) K (by rfl) (by repeat (first | exact List.mem_cons_self | refine List.mem_cons_of_mem _ ?_)) (part := [_, _, _, _, _, _, _]) (by rfl) (by rfl) ?_)
    | (go_at_call 23; (with_reducible refine (rMay23_any hs A _ c _ rfl _ (K.out.at_ (d := ⟨hs, A, false⟩) (by simp)) L0.out D0.out FI.out al aa fl fa on off W1.out W2.out).mono ?_); rintro e WM ⟨rfl, hb⟩; rw [MB.out]; (have K2 := hid (K.out.later hb)); clear hb K; (have K := K2); clear K2)
    | (go_at_call 10; (with_reducible refine (rListed25_any hs A _ c _ rfl _ (K.out.at_ (d := ⟨hs, A, false⟩) (by simp)) L0.out D0.out FI.out al aa fl fa on off _ W1.out W2.out).mono ?_); rintro e W6 ⟨rfl, hb⟩; rw [LS.out]; dsimp only; (have K2 := hid (K.out.later hb)); clear hb K; (have K := K2); clear K2)
    | (go_at_call 13; (with_reducible refine (rEach25_3 hs A _ c _ rfl _ (K.out.at_ (d := ⟨hs, A, false⟩) (by simp)) L0.out D0.out FI.out CAP.out al aa fl fa on off W1.out W2.out _ (by omega)).mono ?_); rintro e W7 hc; rw [FR.out] at hc; obtain ⟨A3, n3, c3, hs3, rfl, q1, q2, q3, ho, hb3⟩ := hc; (have QQ : Hid (n3 = hs3.length ∧ n3 ≤ c3 ∧ lnsOf hs3 = rd) := hid ⟨q1, q2, q3⟩); unfold stV; dsimp only; (have K2 := hid (K.out.addW hb3 ho)); clear q1 q2 q3 ho hb3 K; (have K := K2); clear K2)
    | ((with_reducible show wpList _ _ _ _ _ _); refine kgStore (by rfl) 26 (.tmp 4) _ (by rfl) 7 (by kernel_rfl) [] (by exact K) (by rfl) (by rfl) [_, _, _, _, _, _, _] (by rfl) (by rfl) (by simp) (by simp [Value.oneCell']) (cs := [_, _, _, _, _, _, _]) (by rfl) ?_; intro V2 K1; (dsimp only [List.cons_append, List.nil_append] at K1); clear K; (have K := K1); clear K1))
  refine bodyPost_ret (results_ct Tryz.results18 (by rfl) (K.out.loadA (off := 0) (n := 7) (by repeat (first | exact List.mem_cons_self | refine List.mem_cons_of_mem _ ?_)) Tryz.underlying26 rfl (by kernel_rfl) (part := [_, _, _, _, _, _, _]) (by rfl) (by rfl)) (by rfl)) rfl ?_
  exact ⟨A3, n3, c3, hs3, rfl, QQ.out.1, QQ.out.2.1, QQ.out.2.2, K.out.docW (by simp), K.out.b⟩
theorem rList25_any (hs : List Hd) (A : Option Addr) (n c C : Nat) (hn : n = hs.length) (w : World) (hd : DocAt w C A hs) (h1 : hs.length ≤ 1000) (h2 : ∀ h ∈ hs, h.l.ls.length ≤ 1000000 ∧ h.l.cs.length ≤ 1000000) (hf : ∀ h ∈ hs, FineC h.l.cs) (hcap : ∀ h ∈ hs, h.l.ls.length ≤ h.c) (al aa fl fa on off kind : Int) (w1 : (Lit.int .i64 on).wf = true) (w2 : (Lit.int .i64 off).wf = true) :
    Calls Tryz.prog 18 #[.agg #[.slice A n c, .int .i64 al, .int .i64 aa, .int .i64 fl, .int .i64 fa, .int .i64 on, .int .i64 off], .int .i64 kind] w (RetStE (listS ⟨lnsOf hs, ⟨al, aa⟩, ⟨fl, fa⟩, on, off⟩ kind) w) := by
  unfold listS
  have go : ∀ k : Int, k = 0 ∨ k = 1 → kind = k → Calls Tryz.prog 18 #[.agg #[.slice A n c, .int .i64 al, .int .i64 aa, .int .i64 fl, .int .i64 fa, .int .i64 on, .int .i64 off], .int .i64 kind] w (RetStE (if (listedS ⟨lnsOf hs, ⟨al, aa⟩, ⟨fl, fa⟩, on, off⟩ kind).1 then eachS outdentL ⟨lnsOf hs, ⟨al, aa⟩, ⟨fl, fa⟩, on, off⟩ else eachS (listL · kind) ⟨lnsOf hs, ⟨al, aa⟩, ⟨fl, fa⟩, on, off⟩) w) := fun k hk e => by
    obtain ⟨⟨la, ls⟩, hls⟩ : ∃ z, listedS ⟨lnsOf hs, ⟨al, aa⟩, ⟨fl, fa⟩, on, off⟩ kind = z := ⟨_, rfl⟩
    rw [hls]
    dsimp only
    cases mb : mayS ⟨lnsOf hs, ⟨al, aa⟩, ⟨fl, fa⟩, on, off⟩ with
    | false =>
      have e1 : la = false := by unfold listedS at hls; rw [mb] at hls; exact (congrArg Prod.fst hls).symm
      subst e1
      rw [if_neg (by decide), eachS_no _ mb]
      rcases hk with rfl | rfl <;> subst e
      · exact rList_no0 hs A n c C hn w hd h1 h2 hf hcap al aa fl fa on off w1 w2 mb
      · exact rList_no1 hs A n c C hn w hd h1 h2 hf hcap al aa fl fa on off w1 w2 mb
    | true =>
      cases la with
      | true =>
        rw [if_pos rfl]
        rcases hk with rfl | rfl <;> subst e
        · exact rList_y0 hs A n c C hn w hd h1 h2 hf hcap al aa fl fa on off w1 w2 mb ls hls
        · exact rList_y1 hs A n c C hn w hd h1 h2 hf hcap al aa fl fa on off w1 w2 mb ls hls
      | false =>
        rw [if_neg (by decide)]
        rcases hk with rfl | rfl <;> subst e
        · exact rList_n0 hs A n c C hn w hd h1 h2 hf hcap al aa fl fa on off w1 w2 mb ls hls
        · exact rList_n1 hs A n c C hn w hd h1 h2 hf hcap al aa fl fa on off w1 w2 mb ls hls
  by_cases c0 : kind = 0
  · rw [if_pos (.inl c0)]
    exact go 0 (.inl rfl) c0
  · by_cases c1 : kind = 1
    · rw [if_pos (.inr c1)]
      exact go 1 (.inr rfl) c1
    · rw [if_neg (fun h => h.elim c0 c1)]
      exact rList_bad hs A n c C hn w hd h1 h2 hf hcap al aa fl fa on off w1 w2 kind c0 c1
end Go.Proofs.YtblbfoniimnkcaaGreatDoor
