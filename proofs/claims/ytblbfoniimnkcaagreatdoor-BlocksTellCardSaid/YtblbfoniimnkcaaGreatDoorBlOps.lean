/- The walks of blocks.Format, Indent, Outdent, and of the closures that they hand on. (Printed by wip/bldoc.py.) -/
import Derived.Test.YtblbfoniimnkcaaGreatDoorBlEach
import Derived.Test.YtblbfoniimnkcaaGreatDoorLnTs
import Derived.BigQuiet
import Derived.Deep.QuietTactic
namespace Go.Proofs.YtblbfoniimnkcaaGreatDoor
open Go.RowKit Go.Lib

set_option maxRecDepth 100000 in
set_option maxHeartbeats 4000000 in
theorem fmt1_any (x : Hd) (kind : Int) (gk : Nat) (W : World) (hl : LnAt W W.heap.size x.l x.A x.B) (b1 : x.l.ls.length ≤ 1000000000) (b2 : x.l.cs.length ≤ 1000000000) (hf : FineC x.l.cs) (hT : Tb W) (hk : W.heap[gk]? = some (.cells #[.int .i64 kind] 3 (0, 0))) :
    Calls Tryz.prog 28 #[lnV x.l x.A x.c x.B x.d, .pointer (some ⟨gk, 0, none⟩)] W (RetLnE (formatL x.l kind) W) := by
  unfold lnV
  have K := hid (KG.start W [] (by simp))
  have HK := hid hk
  have LK := hid (Array.getElem?_eq_some_iff.1 hk).1
  have HL := hid hl
  have FI := hid hf
  have T := hid hT
  obtain ⟨⟨m, ec⟩, hr⟩ : ∃ r, formatL x.l kind = r := ⟨_, rfl⟩
  rw [hr]
  have HR := hid hr
  clear hk hl hf hT hr
  go_enter Tryz.func28, Tryz.ntmps28
  go_wp2_with (first
    | go_big_skip
    | ((with_reducible show wpList _ _ _ _ _ _); refine kgBox (by rfl) 46 _ (by rfl) (some 2) (by rfl) (by rfl) [_, _, _, _] (by rfl) K ?_; intro g2 V1 K1; clear K; (have K := K1); clear K1)
    | ((with_reducible show wpList _ _ _ _ _ _); refine kgAlloc (by rfl) 46 (by rfl) (some 3) (by rfl) [.int .i64 0, .slice none 0 0, .int .i64 0, .slice none 0 0] (fun _ => by kernel_rfl) K ?_; intro g3 V1 K1; clear K; (have K := K1); clear K1)
    | ((with_reducible show wpList _ _ _ _ _ _); refine kgLoadA (by rfl) 46 _ (by rfl) 4 _ Tryz.underlying46 rfl (by kernel_rfl) K (by rfl) (by repeat (first | exact List.mem_cons_self | refine List.mem_cons_of_mem _ ?_)) (part := [_, _, _, _]) (by rfl) (by rfl) ?_)
    | ((with_reducible show wpList _ _ _ _ _ _); refine wpList_loadV (by rfl) 3 (.tmp 1) (by rfl) (by rfl) (run_loadVar_one _ ⟨gk, 0, none⟩ 3 (.int .i64 kind) _ ((cell_of_row _ gk 0 _ _ _ ((K.out.b.block gk LK.out).trans HK.out)).trans rfl) Tryz.underlying3 rfl) ?_)
    | (go_at_call 29; (with_reducible refine (lFormat_any x.l x.A _ x.c x.B _ x.d _ rfl rfl _ (HL.out.belowM K.out.b (Nat.le_refl _)) b1 b2 FI.out (Utf8Tabs_below T.out K.out.b) kind).mono ?_); rintro e W3 hc; unfold RetLnE at hc; rw [HR.out] at hc; obtain ⟨A9, c9, B9, d9, rfl, le1, le2, wr, hb3⟩ := hc; (have HX9 : Hid (HdW W3 W.heap.size (⟨m, A9, c9, B9, d9⟩ : Hd)) := hid ⟨wr.based K.out.b.size, le1, le2⟩); simp only [lnV]; clear le1 le2 wr; (have K2 := hid (K.out.later hb3)); clear hb3 K; (have K := K2); clear K2)
    | ((with_reducible show wpList _ _ _ _ _ _); (have KQ := K); refine kgStoreT (by rfl) 46 (.tmp 3) _ (by rfl) 4 (by kernel_rfl) [] (by exact K) (by rfl) (by rfl) [_, _, _, _] (by rfl) (by rfl) (by simp) (by simp [Value.oneCell']) (cs := [_, _, _, _]) (by rfl) ?_; intro V2 ON1 K1; (dsimp only [List.cons_append, List.nil_append] at K1); clear K; (have K := K1); clear K1; (have E0 := hid (KQ.out.bx ⟨g3, 46, [.int .i64 0, .slice none 0 0, .int .i64 0, .slice none 0 0]⟩ (by simp)).2); (have HXB := hid (HX9.out.onl (t := 46) ON1.out E0.out (by decide) (by decide))); clear KQ E0))
  refine bodyPost_ret (results_ct Tryz.results28 (by rfl) (K.out.loadA (off := 0) (n := 4) (by repeat (first | exact List.mem_cons_self | refine List.mem_cons_of_mem _ ?_)) Tryz.underlying46 rfl (by kernel_rfl) (part := [_, _, _, _]) (by rfl) (by rfl)) (by rfl)) rfl ?_
  exact ⟨A9, c9, B9, d9, rfl, HXB.out.c, HXB.out.d, HXB.out.wr, K.out.b⟩
set_option maxRecDepth 100000 in
set_option maxHeartbeats 4000000 in
theorem lst1_any (x : Hd) (kind : Int) (gk : Nat) (W : World) (hl : LnAt W W.heap.size x.l x.A x.B) (b1 : x.l.ls.length ≤ 1000000000) (b2 : x.l.cs.length ≤ 1000000000) (hf : FineC x.l.cs) (hT : Tb W) (hk : W.heap[gk]? = some (.cells #[.int .i64 kind] 3 (0, 0))) :
    Calls Tryz.prog 33 #[lnV x.l x.A x.c x.B x.d, .pointer (some ⟨gk, 0, none⟩)] W (RetLnE (listL x.l kind) W) := by
  unfold lnV
  have K := hid (KG.start W [] (by simp))
  have HK := hid hk
  have LK := hid (Array.getElem?_eq_some_iff.1 hk).1
  have HL := hid hl
  have FI := hid hf
  have T := hid hT
  obtain ⟨⟨m, ec⟩, hr⟩ : ∃ r, listL x.l kind = r := ⟨_, rfl⟩
  rw [hr]
  have HR := hid hr
  clear hk hl hf hT hr
  go_enter Tryz.func33, Tryz.ntmps33
  go_wp2_with (first
    | go_big_skip
    | ((with_reducible show wpList _ _ _ _ _ _); refine kgBox (by rfl) 46 _ (by rfl) (some 2) (by rfl) (by rfl) [_, _, _, _] (by rfl) K ?_; intro g2 V1 K1; clear K; (have K := K1); clear K1)
    | ((with_reducible show wpList _ _ _ _ _ _); refine kgAlloc (by rfl) 46 (by rfl) (some 3) (by rfl) [.int .i64 0, .slice none 0 0, .int .i64 0, .slice none 0 0] (fun _ => by kernel_rfl) K ?_; intro g3 V1 K1; clear K; (have K := K1); clear K1)
    | ((with_reducible show wpList _ _ _ _ _ _); refine kgLoadA (by rfl) 46 _ (by rfl) 4 _ Tryz.underlying46 rfl (by kernel_rfl) K (by rfl) (by repeat (first | exact List.mem_cons_self | refine List.mem_cons_of_mem _ ?_)) (part := [_, _, _, _]) (by rfl) (by rfl) ?_)
    | ((with_reducible show wpList _ _ _ _ _ _); refine wpList_loadV (by rfl) 3 (.tmp 1) (by rfl) (by rfl) (run_loadVar_one _ ⟨gk, 0, none⟩ 3 (.int .i64 kind) _ ((cell_of_row _ gk 0 _ _ _ ((K.out.b.block gk LK.out).trans HK.out)).trans rfl) Tryz.underlying3 rfl) ?_)
    | (go_at_call 34; (with_reducible refine (lList_any x.l x.A _ x.c x.B _ x.d _ rfl rfl _ (HL.out.belowM K.out.b (Nat.le_refl _)) b1 b2 FI.out (Utf8Tabs_below T.out K.out.b) kind).mono ?_); rintro e W3 hc; unfold RetLnE at hc; rw [HR.out] at hc; obtain ⟨A9, c9, B9, d9, rfl, le1, le2, wr, hb3⟩ := hc; (have HX9 : Hid (HdW W3 W.heap.size (⟨m, A9, c9, B9, d9⟩ : Hd)) := hid ⟨wr.based K.out.b.size, le1, le2⟩); simp only [lnV]; clear le1 le2 wr; (have K2 := hid (K.out.later hb3)); clear hb3 K; (have K := K2); clear K2)
    | ((with_reducible show wpList _ _ _ _ _ _); (have KQ := K); refine kgStoreT (by rfl) 46 (.tmp 3) _ (by rfl) 4 (by kernel_rfl) [] (by exact K) (by rfl) (by rfl) [_, _, _, _] (by rfl) (by rfl) (by simp) (by simp [Value.oneCell']) (cs := [_, _, _, _]) (by rfl) ?_; intro V2 ON1 K1; (dsimp only [List.cons_append, List.nil_append] at K1); clear K; (have K := K1); clear K1; (have E0 := hid (KQ.out.bx ⟨g3, 46, [.int .i64 0, .slice none 0 0, .int .i64 0, .slice none 0 0]⟩ (by simp)).2); (have HXB := hid (HX9.out.onl (t := 46) ON1.out E0.out (by decide) (by decide))); clear KQ E0))
  refine bodyPost_ret (results_ct Tryz.results33 (by rfl) (K.out.loadA (off := 0) (n := 4) (by repeat (first | exact List.mem_cons_self | refine List.mem_cons_of_mem _ ?_)) Tryz.underlying46 rfl (by kernel_rfl) (part := [_, _, _, _]) (by rfl) (by rfl)) (by rfl)) rfl ?_
  exact ⟨A9, c9, B9, d9, rfl, HXB.out.c, HXB.out.d, HXB.out.wr, K.out.b⟩
set_option maxRecDepth 100000 in
set_option maxHeartbeats 4000000 in
theorem bIndent_any (hs : List Hd) (A : Option Addr) (n c C : Nat) (hn : n = hs.length) (w : World) (hd : DocAt w C A hs) (h1 : hs.length ≤ 1000) (h2 : ∀ h ∈ hs, h.l.ls.length ≤ 1000000 ∧ h.l.cs.length ≤ 1000000) (hf : ∀ h ∈ hs, FineC h.l.cs) (hT : Tb w) (al aa fl fa on off : Int) :
    Calls Tryz.prog 15 #[.agg #[.slice A n c, .int .i64 al, .int .i64 aa, .int .i64 fl, .int .i64 fa, .int .i64 on, .int .i64 off]] w (RetStE (eachS indentL ⟨lnsOf hs, ⟨al, aa⟩, ⟨fl, fa⟩, on, off⟩) w) := by
  subst hn
  have D0 := hid h2
  have L0 := hid h1
  have K := hid (KG.start w [⟨hs, A, false⟩] (by simpa using hd.live))
  have T := hid hT
  have FI := hid hf
  have H2 := hid h2
  have HD0 := hid hd.live
  clear hd h2 hT hf
  obtain ⟨⟨⟨rd, ⟨ral, raa⟩, ⟨rfl', rfa⟩, ron, roff⟩, er⟩, hr⟩ : ∃ r, eachS indentL ⟨lnsOf hs, ⟨al, aa⟩, ⟨fl, fa⟩, on, off⟩ = r := ⟨_, rfl⟩
  rw [hr]
  have HR := hid hr
  clear hr
  have EC : Hid (∀ W : World, Below w.heap.size w W → Calls Tryz.prog 27 #[.agg #[.slice A hs.length c, .int .i64 al, .int .i64 aa, .int .i64 fl, .int .i64 fa, .int .i64 on, .int .i64 off], .func (.func 31) #[] #[]] W (RetStE (⟨rd, ⟨ral, raa⟩, ⟨rfl', rfa⟩, ron, roff⟩, er) W)) := hid (by
    intro W hb
    have := each_any hs A _ c _ rfl W (HD0.out.belowM hb (Nat.le_refl _)) L0.out H2.out FI.out (Utf8Tabs_below T.out hb) al aa fl fa on off 31 #[] (indentL) (fun _ _ => by kernel_rfl) (fun x W' hx hb' hl => lIndent_any x.l x.A _ x.c x.B _ x.d _ rfl rfl W' hl (by have := (H2.out x hx).1; omega) (by have := (H2.out x hx).2; omega) (FI.out x hx) (Utf8Tabs_below T.out (hb.trans (hb'.mono hb.size))))
    rw [HR.out] at this
    exact this)
  go_enter Tryz.func15, Tryz.ntmps15
  go_wp2_with (first
    | go_big_skip
    | ((with_reducible show wpList _ _ _ _ _ _); refine kgBox (by rfl) 26 _ (by rfl) (some 1) (by rfl) (by rfl) [_, _, _, _, _, _, _] (by rfl) K ?_; intro g1 V1 K1; clear K; (have K := K1); clear K1)
    | ((with_reducible show wpList _ _ _ _ _ _); refine kgAlloc (by rfl) 26 (by rfl) (some 2) (by rfl) [.slice none 0 0, .int .i64 0, .int .i64 0, .int .i64 0, .int .i64 0, .int .i64 0, .int .i64 0] (fun _ => by kernel_rfl) K ?_; intro g2 V1 K1; clear K; (have K := K1); clear K1)
    | ((with_reducible show wpList _ _ _ _ _ _); refine kgLoadA (by rfl) 26 _ (by rfl) 7 _ Tryz.underlying26 rfl (by kernel_rfl) K (by rfl) (by repeat (first | exact List.mem_cons_self | refine List.mem_cons_of_mem _ ?_)) (part := [_, _, _, _, _, _, _]) (by rfl) (by rfl) ?_)
    | (go_at_call 27; (with_reducible refine (EC.out _ K.out.b).mono ?_); rintro e W3 ⟨A3, n3, c3, hs3, rfl, q1, q2, q3, ho, hb3⟩; (have QQ : Hid (n3 = hs3.length ∧ n3 ≤ c3 ∧ lnsOf hs3 = rd) := hid ⟨q1, q2, q3⟩); unfold stV; dsimp only; (have K2 := hid (K.out.addW hb3 ho)); clear q1 q2 q3 ho hb3 K; (have K := K2); clear K2)
    | ((with_reducible show wpList _ _ _ _ _ _); refine kgStore (by rfl) 26 (.tmp 2) _ (by rfl) 7 (by kernel_rfl) [] (by exact K) (by rfl) (by rfl) [_, _, _, _, _, _, _] (by rfl) (by rfl) (by simp) (by simp [Value.oneCell']) (cs := [_, _, _, _, _, _, _]) (by rfl) ?_; intro V2 K1; (dsimp only [List.cons_append, List.nil_append] at K1); clear K; (have K := K1); clear K1))
  refine bodyPost_ret (results_ct Tryz.results15 (by rfl) (K.out.loadA (off := 0) (n := 7) (by repeat (first | exact List.mem_cons_self | refine List.mem_cons_of_mem _ ?_)) Tryz.underlying26 rfl (by kernel_rfl) (part := [_, _, _, _, _, _, _]) (by rfl) (by rfl)) (by rfl)) rfl ?_
  exact ⟨A3, n3, c3, hs3, rfl, QQ.out.1, QQ.out.2.1, QQ.out.2.2, K.out.docW (by simp), K.out.b⟩
set_option maxRecDepth 100000 in
set_option maxHeartbeats 4000000 in
theorem bOutdent_any (hs : List Hd) (A : Option Addr) (n c C : Nat) (hn : n = hs.length) (w : World) (hd : DocAt w C A hs) (h1 : hs.length ≤ 1000) (h2 : ∀ h ∈ hs, h.l.ls.length ≤ 1000000 ∧ h.l.cs.length ≤ 1000000) (hf : ∀ h ∈ hs, FineC h.l.cs) (hT : Tb w) (al aa fl fa on off : Int) :
    Calls Tryz.prog 16 #[.agg #[.slice A n c, .int .i64 al, .int .i64 aa, .int .i64 fl, .int .i64 fa, .int .i64 on, .int .i64 off]] w (RetStE (eachS outdentL ⟨lnsOf hs, ⟨al, aa⟩, ⟨fl, fa⟩, on, off⟩) w) := by
  subst hn
  have D0 := hid h2
  have L0 := hid h1
  have K := hid (KG.start w [⟨hs, A, false⟩] (by simpa using hd.live))
  have T := hid hT
  have FI := hid hf
  have H2 := hid h2
  have HD0 := hid hd.live
  clear hd h2 hT hf
  obtain ⟨⟨⟨rd, ⟨ral, raa⟩, ⟨rfl', rfa⟩, ron, roff⟩, er⟩, hr⟩ : ∃ r, eachS outdentL ⟨lnsOf hs, ⟨al, aa⟩, ⟨fl, fa⟩, on, off⟩ = r := ⟨_, rfl⟩
  rw [hr]
  have HR := hid hr
  clear hr
  have EC : Hid (∀ W : World, Below w.heap.size w W → Calls Tryz.prog 27 #[.agg #[.slice A hs.length c, .int .i64 al, .int .i64 aa, .int .i64 fl, .int .i64 fa, .int .i64 on, .int .i64 off], .func (.func 32) #[] #[]] W (RetStE (⟨rd, ⟨ral, raa⟩, ⟨rfl', rfa⟩, ron, roff⟩, er) W)) := hid (by
    intro W hb
    have := each_any hs A _ c _ rfl W (HD0.out.belowM hb (Nat.le_refl _)) L0.out H2.out FI.out (Utf8Tabs_below T.out hb) al aa fl fa on off 32 #[] (outdentL) (fun _ _ => by kernel_rfl) (fun x W' hx hb' hl => lOutdent_any x.l x.A _ x.c x.B _ x.d _ rfl rfl W' hl (by have := (H2.out x hx).1; omega) (by have := (H2.out x hx).2; omega) (FI.out x hx) (Utf8Tabs_below T.out (hb.trans (hb'.mono hb.size))))
    rw [HR.out] at this
    exact this)
  go_enter Tryz.func16, Tryz.ntmps16
  go_wp2_with (first
    | go_big_skip
    | ((with_reducible show wpList _ _ _ _ _ _); refine kgBox (by rfl) 26 _ (by rfl) (some 1) (by rfl) (by rfl) [_, _, _, _, _, _, _] (by rfl) K ?_; intro g1 V1 K1; clear K; (have K := K1); clear K1)
    | ((with_reducible show wpList _ _ _ _ _ _); refine kgAlloc (by rfl) 26 (by rfl) (some 2) (by rfl) [.slice none 0 0, .int .i64 0, .int .i64 0, .int .i64 0, .int .i64 0, .int .i64 0, .int .i64 0] (fun _ => by kernel_rfl) K ?_; intro g2 V1 K1; clear K; (have K := K1); clear K1)
    | ((with_reducible show wpList _ _ _ _ _ _); refine kgLoadA (by rfl) 26 _ (by rfl) 7 _ Tryz.underlying26 rfl (by kernel_rfl) K (by rfl) (by repeat (first | exact List.mem_cons_self | refine List.mem_cons_of_mem _ ?_)) (part := [_, _, _, _, _, _, _]) (by rfl) (by rfl) ?_)
    | (go_at_call 27; (with_reducible refine (EC.out _ K.out.b).mono ?_); rintro e W3 ⟨A3, n3, c3, hs3, rfl, q1, q2, q3, ho, hb3⟩; (have QQ : Hid (n3 = hs3.length ∧ n3 ≤ c3 ∧ lnsOf hs3 = rd) := hid ⟨q1, q2, q3⟩); unfold stV; dsimp only; (have K2 := hid (K.out.addW hb3 ho)); clear q1 q2 q3 ho hb3 K; (have K := K2); clear K2)
    | ((with_reducible show wpList _ _ _ _ _ _); refine kgStore (by rfl) 26 (.tmp 2) _ (by rfl) 7 (by kernel_rfl) [] (by exact K) (by rfl) (by rfl) [_, _, _, _, _, _, _] (by rfl) (by rfl) (by simp) (by simp [Value.oneCell']) (cs := [_, _, _, _, _, _, _]) (by rfl) ?_; intro V2 K1; (dsimp only [List.cons_append, List.nil_append] at K1); clear K; (have K := K1); clear K1))
  refine bodyPost_ret (results_ct Tryz.results16 (by rfl) (K.out.loadA (off := 0) (n := 7) (by repeat (first | exact List.mem_cons_self | refine List.mem_cons_of_mem _ ?_)) Tryz.underlying26 rfl (by kernel_rfl) (part := [_, _, _, _, _, _, _]) (by rfl) (by rfl)) (by rfl)) rfl ?_
  exact ⟨A3, n3, c3, hs3, rfl, QQ.out.1, QQ.out.2.1, QQ.out.2.2, K.out.docW (by simp), K.out.b⟩
set_option maxRecDepth 100000 in
set_option maxHeartbeats 4000000 in
theorem bFormat_any (hs : List Hd) (A : Option Addr) (n c C : Nat) (hn : n = hs.length) (w : World) (hd : DocAt w C A hs) (h1 : hs.length ≤ 1000) (h2 : ∀ h ∈ hs, h.l.ls.length ≤ 1000000 ∧ h.l.cs.length ≤ 1000000) (hf : ∀ h ∈ hs, FineC h.l.cs) (hT : Tb w) (al aa fl fa on off kind : Int) :
    Calls Tryz.prog 12 #[.agg #[.slice A n c, .int .i64 al, .int .i64 aa, .int .i64 fl, .int .i64 fa, .int .i64 on, .int .i64 off], .int .i64 kind] w (RetStE (formatS ⟨lnsOf hs, ⟨al, aa⟩, ⟨fl, fa⟩, on, off⟩ kind) w) := by
  subst hn
  have D0 := hid h2
  have L0 := hid h1
  have K := hid (KG.start w [⟨hs, A, false⟩] (by simpa using hd.live))
  have T := hid hT
  have FI := hid hf
  have H2 := hid h2
  have HD0 := hid hd.live
  clear hd h2 hT hf
  unfold formatS
  by_cases c1 : 0 ≤ kind ∧ kind ≤ 3
  · rw [if_pos c1]
    obtain ⟨⟨⟨rd, ⟨ral, raa⟩, ⟨rfl', rfa⟩, ron, roff⟩, er⟩, hr⟩ : ∃ r, eachS (formatL · kind) ⟨lnsOf hs, ⟨al, aa⟩, ⟨fl, fa⟩, on, off⟩ = r := ⟨_, rfl⟩
    rw [hr]
    have HR := hid hr
    clear hr
    have i1 : ¬ (kind < 0) := by omega
    have i2 : ¬ (3 < kind) := by omega
    clear c1
    have EC : Hid (∀ W : World, Below w.heap.size w W → ∀ gk, W.heap[gk]? = some (.cells #[.int .i64 kind] 3 (0, 0)) → Calls Tryz.prog 27 #[.agg #[.slice A hs.length c, .int .i64 al, .int .i64 aa, .int .i64 fl, .int .i64 fa, .int .i64 on, .int .i64 off], .func (.func 28) #[] #[.pointer (some ⟨gk, 0, none⟩)]] W (RetStE (⟨rd, ⟨ral, raa⟩, ⟨rfl', rfa⟩, ron, roff⟩, er) W)) := hid (by
      intro W hb gk hk
      have := each_any hs A _ c _ rfl W (HD0.out.belowM hb (Nat.le_refl _)) L0.out H2.out FI.out (Utf8Tabs_below T.out hb) al aa fl fa on off 28 #[.pointer (some ⟨gk, 0, none⟩)] (formatL · kind) (fun _ _ => by kernel_rfl) (fun x W' hx hb' hl => fmt1_any x kind gk W' hl (by have := (H2.out x hx).1; omega) (by have := (H2.out x hx).2; omega) (FI.out x hx) (Utf8Tabs_below T.out (hb.trans (hb'.mono hb.size))) ((hb'.block gk (Array.getElem?_eq_some_iff.1 hk).1).trans hk))
      rw [HR.out] at this
      exact this)
    go_enter Tryz.func12, Tryz.ntmps12
    go_wp2_with (first
      | go_big_skip
      | ((with_reducible show wpList _ _ _ _ _ _); refine kgBox (by rfl) 26 _ (by rfl) (some 2) (by rfl) (by rfl) [_, _, _, _, _, _, _] (by rfl) K ?_; intro g2 V1 K1; clear K; (have K := K1); clear K1)
      | ((with_reducible show wpList _ _ _ _ _ _); refine kgBox (by rfl) 3 _ (by rfl) (some 3) (by rfl) (v := .int .i64 kind) (by rfl) [.int .i64 kind] (by rfl) K ?_; intro g3 V1 K1; clear K; (have K := K1); clear K1)
      | ((with_reducible show wpList _ _ _ _ _ _); refine kgAlloc (by rfl) 26 (by rfl) (some 4) (by rfl) [.slice none 0 0, .int .i64 0, .int .i64 0, .int .i64 0, .int .i64 0, .int .i64 0, .int .i64 0] (fun _ => by kernel_rfl) K ?_; intro g4 V1 K1; clear K; (have K := K1); clear K1)
      | ((with_reducible show wpList _ _ _ _ _ _); refine kgLoad1 (by rfl) 3 _ (by rfl) _ Tryz.underlying3 rfl K (by rfl) (by repeat (first | exact List.mem_cons_self | refine List.mem_cons_of_mem _ ?_)) (by rfl) ?_)
      | ((with_reducible show wpList _ _ _ _ _ _); refine kgLoadA (by rfl) 26 _ (by rfl) 7 _ Tryz.underlying26 rfl (by kernel_rfl) K (by rfl) (by repeat (first | exact List.mem_cons_self | refine List.mem_cons_of_mem _ ?_)) (part := [_, _, _, _, _, _, _]) (by rfl) (by rfl) ?_)
      | ((with_reducible show wpList _ _ _ _ _ _); refine kgStore (by rfl) 26 (.tmp 4) _ (by rfl) 7 (by kernel_rfl) [] (by exact K) (by rfl) (by rfl) [_, _, _, _, _, _, _] (by rfl) (by rfl) (by simp) (by simp [Value.oneCell']) (cs := [_, _, _, _, _, _, _]) (by rfl) ?_; intro V2 K1; (dsimp only [List.cons_append, List.nil_append] at K1); clear K; (have K := K1); clear K1)
      | (go_at_call 27; (with_reducible refine (EC.out _ K.out.b _ (K.out.bx ⟨g3, 3, [.int .i64 kind]⟩ (by simp)).2).mono ?_); rintro e W3 ⟨A3, n3, c3, hs3, rfl, q1, q2, q3, ho, hb3⟩; (have QQ : Hid (n3 = hs3.length ∧ n3 ≤ c3 ∧ lnsOf hs3 = rd) := hid ⟨q1, q2, q3⟩); unfold stV; dsimp only; (have K2 := hid (K.out.addW hb3 ho)); clear q1 q2 q3 ho hb3 K; (have K := K2); clear K2))
    refine bodyPost_ret (results_ct Tryz.results12 (by rfl) (K.out.loadA (off := 0) (n := 7) (by repeat (first | exact List.mem_cons_self | refine List.mem_cons_of_mem _ ?_)) Tryz.underlying26 rfl (by kernel_rfl) (part := [_, _, _, _, _, _, _]) (by rfl) (by rfl)) (by rfl)) rfl ?_
    exact ⟨A3, n3, c3, hs3, rfl, QQ.out.1, QQ.out.2.1, QQ.out.2.2, K.out.docW (by simp), K.out.b⟩
  · rw [if_neg c1]
    by_cases c0 : kind < 0
    · clear c1
      go_enter Tryz.func12, Tryz.ntmps12
      go_wp2_with (first
        | go_big_skip
        | ((with_reducible show wpList _ _ _ _ _ _); refine kgBox (by rfl) 26 _ (by rfl) (some 2) (by rfl) (by rfl) [_, _, _, _, _, _, _] (by rfl) K ?_; intro g2 V1 K1; clear K; (have K := K1); clear K1)
        | ((with_reducible show wpList _ _ _ _ _ _); refine kgBox (by rfl) 3 _ (by rfl) (some 3) (by rfl) (v := .int .i64 kind) (by rfl) [.int .i64 kind] (by rfl) K ?_; intro g3 V1 K1; clear K; (have K := K1); clear K1)
        | ((with_reducible show wpList _ _ _ _ _ _); refine kgAlloc (by rfl) 26 (by rfl) (some 4) (by rfl) [.slice none 0 0, .int .i64 0, .int .i64 0, .int .i64 0, .int .i64 0, .int .i64 0, .int .i64 0] (fun _ => by kernel_rfl) K ?_; intro g4 V1 K1; clear K; (have K := K1); clear K1)
        | ((with_reducible show wpList _ _ _ _ _ _); refine kgLoad1 (by rfl) 3 _ (by rfl) _ Tryz.underlying3 rfl K (by rfl) (by repeat (first | exact List.mem_cons_self | refine List.mem_cons_of_mem _ ?_)) (by rfl) ?_)
        | ((with_reducible show wpList _ _ _ _ _ _); refine kgLoadA (by rfl) 26 _ (by rfl) 7 _ Tryz.underlying26 rfl (by kernel_rfl) K (by rfl) (by repeat (first | exact List.mem_cons_self | refine List.mem_cons_of_mem _ ?_)) (part := [_, _, _, _, _, _, _]) (by rfl) (by rfl) ?_)
        | ((with_reducible show wpList _ _ _ _ _ _); refine kgStore (by rfl) 26 (.tmp 4) _ (by rfl) 7 (by kernel_rfl) [] (by exact K) (by rfl) (by rfl) [_, _, _, _, _, _, _] (by rfl) (by rfl) (by simp) (by simp [Value.oneCell']) (cs := [_, _, _, _, _, _, _]) (by rfl) ?_; intro V2 K1; (dsimp only [List.cons_append, List.nil_append] at K1); clear K; (have K := K1); clear K1))
      refine bodyPost_ret (results_ct Tryz.results12 (by rfl) (K.out.loadA (off := 0) (n := 7) (by repeat (first | exact List.mem_cons_self | refine List.mem_cons_of_mem _ ?_)) Tryz.underlying26 rfl (by kernel_rfl) (part := [_, _, _, _, _, _, _]) (by rfl) (by rfl)) (by rfl)) rfl ?_
      exact ⟨none, 0, 0, [], rfl, rfl, Nat.le_refl _, rfl, DocW.nil, K.out.b⟩
    · have i2 : 3 < kind := by omega
      clear c1
      go_enter Tryz.func12, Tryz.ntmps12
      go_wp2_with (first
        | go_big_skip
        | ((with_reducible show wpList _ _ _ _ _ _); refine kgBox (by rfl) 26 _ (by rfl) (some 2) (by rfl) (by rfl) [_, _, _, _, _, _, _] (by rfl) K ?_; intro g2 V1 K1; clear K; (have K := K1); clear K1)
        | ((with_reducible show wpList _ _ _ _ _ _); refine kgBox (by rfl) 3 _ (by rfl) (some 3) (by rfl) (v := .int .i64 kind) (by rfl) [.int .i64 kind] (by rfl) K ?_; intro g3 V1 K1; clear K; (have K := K1); clear K1)
        | ((with_reducible show wpList _ _ _ _ _ _); refine kgAlloc (by rfl) 26 (by rfl) (some 4) (by rfl) [.slice none 0 0, .int .i64 0, .int .i64 0, .int .i64 0, .int .i64 0, .int .i64 0, .int .i64 0] (fun _ => by kernel_rfl) K ?_; intro g4 V1 K1; clear K; (have K := K1); clear K1)
        | ((with_reducible show wpList _ _ _ _ _ _); refine kgLoad1 (by rfl) 3 _ (by rfl) _ Tryz.underlying3 rfl K (by rfl) (by repeat (first | exact List.mem_cons_self | refine List.mem_cons_of_mem _ ?_)) (by rfl) ?_)
        | ((with_reducible show wpList _ _ _ _ _ _); refine kgLoadA (by rfl) 26 _ (by rfl) 7 _ Tryz.underlying26 rfl (by kernel_rfl) K (by rfl) (by repeat (first | exact List.mem_cons_self | refine List.mem_cons_of_mem _ ?_)) (part := [_, _, _, _, _, _, _]) (by rfl) (by rfl) ?_)
        | ((with_reducible show wpList _ _ _ _ _ _); refine kgStore (by rfl) 26 (.tmp 4) _ (by rfl) 7 (by kernel_rfl) [] (by exact K) (by rfl) (by rfl) [_, _, _, _, _, _, _] (by rfl) (by rfl) (by simp) (by simp [Value.oneCell']) (cs := [_, _, _, _, _, _, _]) (by rfl) ?_; intro V2 K1; (dsimp only [List.cons_append, List.nil_append] at K1); clear K; (have K := K1); clear K1))
      refine bodyPost_ret (results_ct Tryz.results12 (by rfl) (K.out.loadA (off := 0) (n := 7) (by repeat (first | exact List.mem_cons_self | refine List.mem_cons_of_mem _ ?_)) Tryz.underlying26 rfl (by kernel_rfl) (part := [_, _, _, _, _, _, _]) (by rfl) (by rfl)) (by rfl)) rfl ?_
      exact ⟨none, 0, 0, [], rfl, rfl, Nat.le_refl _, rfl, DocW.nil, K.out.b⟩
end Go.Proofs.YtblbfoniimnkcaaGreatDoor
