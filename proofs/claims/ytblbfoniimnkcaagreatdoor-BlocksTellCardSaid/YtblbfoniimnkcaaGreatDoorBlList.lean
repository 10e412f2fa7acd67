/- The walk of blocks.List. (Printed by wip/bldoc.py.) -/
import Derived.Test.YtblbfoniimnkcaaGreatDoorBlOps
import Derived.Test.YtblbfoniimnkcaaGreatDoorBlListed
import Derived.BigQuiet
import Derived.Deep.QuietTactic
namespace Go.Proofs.YtblbfoniimnkcaaGreatDoor
open Go.RowKit Go.Lib

set_option maxRecDepth 100000 in
set_option maxHeartbeats 4000000 in
theorem bList_0_yes (hs : List Hd) (A : Option Addr) (n c C : Nat) (hn : n = hs.length) (w : World) (hd : DocAt w C A hs) (h1 : hs.length ≤ 1000) (h2 : ∀ h ∈ hs, h.l.ls.length ≤ 1000000 ∧ h.l.cs.length ≤ 1000000) (hf : ∀ h ∈ hs, FineC h.l.cs) (hT : Tb w) (al aa fl fa on off : Int) (ls : Bool) (hls : listedS ⟨lnsOf hs, ⟨al, aa⟩, ⟨fl, fa⟩, on, off⟩ 0 = (true, ls)) :
    Calls Tryz.prog 17 #[.agg #[.slice A n c, .int .i64 al, .int .i64 aa, .int .i64 fl, .int .i64 fa, .int .i64 on, .int .i64 off], .int .i64 0] w (RetStE (eachS outdentL ⟨lnsOf hs, ⟨al, aa⟩, ⟨fl, fa⟩, on, off⟩) w) := by
  subst hn
  have D0 := hid h2
  have L0 := hid h1
  have K := hid (KG.start w [⟨hs, A, false⟩] (by simpa using hd.live))
  have T := hid hT
  have FI := hid hf
  have H2 := hid h2
  have HD0 := hid hd.live
  clear hd h2 hT hf
  have HLS := hid hls
  clear hls
  obtain ⟨⟨⟨rd, ⟨ral, raa⟩, ⟨rfl', rfa⟩, ron, roff⟩, er⟩, hr⟩ : ∃ r, (eachS outdentL ⟨lnsOf hs, ⟨al, aa⟩, ⟨fl, fa⟩, on, off⟩) = r := ⟨_, rfl⟩
  rw [hr]
  have HR := hid hr
  clear hr
  have EC : Hid (∀ W : World, Below w.heap.size w W → Calls Tryz.prog 27 #[.agg #[.slice A hs.length c, .int .i64 al, .int .i64 aa, .int .i64 fl, .int .i64 fa, .int .i64 on, .int .i64 off], .func (.func 32) #[] #[]] W (RetStE (⟨rd, ⟨ral, raa⟩, ⟨rfl', rfa⟩, ron, roff⟩, er) W)) := hid (by
    intro W hb
    have := each_any hs A _ c _ rfl W (HD0.out.belowM hb (Nat.le_refl _)) L0.out H2.out FI.out (Utf8Tabs_below T.out hb) al aa fl fa on off 32 #[] (outdentL) (fun _ _ => by kernel_rfl) (fun x W' hx hb' hl => lOutdent_any x.l x.A _ x.c x.B _ x.d _ rfl rfl W' hl (by have := (H2.out x hx).1; omega) (by have := (H2.out x hx).2; omega) (FI.out x hx) (Utf8Tabs_below T.out (hb.trans (hb'.mono hb.size))))
    rw [HR.out] at this
    exact this)
  go_enter Tryz.func17, Tryz.ntmps17
  go_wp2_with (first
    | go_big_skip
    | ((with_reducible show wpList _ _ _ _ _ _); refine kgBox (by rfl) 26 _ (by rfl) (some 2) (by rfl) (by rfl) [_, _, _, _, _, _, _] (by rfl) K ?_; intro g2 V1 K1; clear K; (have K := K1); clear K1)
    | ((with_reducible show wpList _ _ _ _ _ _); refine kgBox (by rfl) 3 _ (by rfl) (some 3) (by rfl) (v := .int .i64 0) (by rfl) [.int .i64 0] (by rfl) K ?_; intro g3 V1 K1; clear K; (have K := K1); clear K1)
    | ((with_reducible show wpList _ _ _ _ _ _); refine kgAlloc (by rfl) 26 (by rfl) (some 4) (by rfl) [.slice none 0 0, .int .i64 0, .int .i64 0, .int .i64 0, .int .i64 0, .int .i64 0, .int .i64 0] (fun _ => by kernel_rfl) K ?_; intro g4 V1 K1; clear K; (have K := K1); clear K1)
    | ((with_reducible show wpList _ _ _ _ _ _); refine kgLoad1 (by rfl) 3 _ (by rfl) _ Tryz.underlying3 rfl K (by rfl) (by repeat (first | exact List.mem_cons_self | refine List.mem_cons_of_mem _ ?_)) (by rfl) ?_)
    | ((with_reducible show wpList _ _ _ _ _ _); refine kgLoadA (by rfl) 26 _ (by rfl) 7 _ Tryz.underlying26 rfl (by kernel_rfl) K (by rfl) (by repeat (first | exact List.mem_cons_self | refine List.mem_cons_of_mem _ ?_)) (part := [_, _, _, _, _, _, _]) (by rfl) (by rfl) ?_)
    | ((with_reducible show wpList _ _ _ _ _ _); refine kgStore (by rfl) 26 (.tmp 4) _ (by rfl) 7 (by kernel_rfl) [] (by exact K) (by rfl) (by rfl) [_, _, _, _, _, _, _] (by rfl) (by rfl) (by simp) (by simp [Value.oneCell']) (cs := [_, _, _, _, _, _, _]) (by rfl) ?_; intro V2 K1; (dsimp only [List.cons_append, List.nil_append] at K1); clear K; (have K := K1); clear K1)
    | (go_at_call 9; (with_reducible refine (bListed_any hs A _ c _ rfl _ (K.out.at_ (d := ⟨hs, A, false⟩) (by simp)) L0.out H2.out FI.out (Utf8Tabs_below T.out K.out.b) al aa fl fa on off _).mono ?_); rintro e W2 ⟨rfl, hb⟩; rw [HLS.out]; dsimp only; (have K2 := hid (K.out.later hb)); clear hb K; (have K := K2); clear K2)
    | (go_at_call 27; (with_reducible refine (EC.out _ K.out.b).mono ?_); rintro e W3 ⟨A3, n3, c3, hs3, rfl, q1, q2, q3, ho, hb3⟩; (have QQ : Hid (n3 = hs3.length ∧ n3 ≤ c3 ∧ lnsOf hs3 = rd) := hid ⟨q1, q2, q3⟩); unfold stV; dsimp only; (have K2 := hid (K.out.addW hb3 ho)); clear q1 q2 q3 ho hb3 K; (have K := K2); clear K2))
  refine bodyPost_ret (results_ct Tryz.results17 (by rfl) (K.out.loadA (off := 0) (n := 7) (by repeat (first | exact List.mem_cons_self | refine List.mem_cons_of_mem _ ?_)) Tryz.underlying26 rfl (by kernel_rfl) (part := [_, _, _, _, _, _, _]) (by rfl) (by rfl)) (by rfl)) rfl ?_
  exact ⟨A3, n3, c3, hs3, rfl, QQ.out.1, QQ.out.2.1, QQ.out.2.2, K.out.docW (by simp), K.out.b⟩
set_option maxRecDepth 100000 in
set_option maxHeartbeats 4000000 in
theorem bList_0_no (hs : List Hd) (A : Option Addr) (n c C : Nat) (hn : n = hs.length) (w : World) (hd : DocAt w C A hs) (h1 : hs.length ≤ 1000) (h2 : ∀ h ∈ hs, h.l.ls.length ≤ 1000000 ∧ h.l.cs.length ≤ 1000000) (hf : ∀ h ∈ hs, FineC h.l.cs) (hT : Tb w) (al aa fl fa on off : Int) (ls : Bool) (hls : listedS ⟨lnsOf hs, ⟨al, aa⟩, ⟨fl, fa⟩, on, off⟩ 0 = (false, ls)) :
    Calls Tryz.prog 17 #[.agg #[.slice A n c, .int .i64 al, .int .i64 aa, .int .i64 fl, .int .i64 fa, .int .i64 on, .int .i64 off], .int .i64 0] w (RetStE (eachS (listL · 0) ⟨lnsOf hs, ⟨al, aa⟩, ⟨fl, fa⟩, on, off⟩) w) := by
  subst hn
  have D0 := hid h2
  have L0 := hid h1
  have K := hid (KG.start w [⟨hs, A, false⟩] (by simpa using hd.live))
  have T := hid hT
  have FI := hid hf
  have H2 := hid h2
  have HD0 := hid hd.live
  clear hd h2 hT hf
  have HLS := hid hls
  clear hls
  obtain ⟨⟨⟨rd, ⟨ral, raa⟩, ⟨rfl', rfa⟩, ron, roff⟩, er⟩, hr⟩ : ∃ r, (eachS (listL · 0) ⟨lnsOf hs, ⟨al, aa⟩, ⟨fl, fa⟩, on, off⟩) = r := ⟨_, rfl⟩
  rw [hr]
  have HR := hid hr
  clear hr
  have EC : Hid (∀ W : World, Below w.heap.size w W → ∀ gk, W.heap[gk]? = some (.cells #[.int .i64 0] 3 (0, 0)) → Calls Tryz.prog 27 #[.agg #[.slice A hs.length c, .int .i64 al, .int .i64 aa, .int .i64 fl, .int .i64 fa, .int .i64 on, .int .i64 off], .func (.func 33) #[] #[.pointer (some ⟨gk, 0, none⟩)]] W (RetStE (⟨rd, ⟨ral, raa⟩, ⟨rfl', rfa⟩, ron, roff⟩, er) W)) := hid (by
    intro W hb gk hk
    have := each_any hs A _ c _ rfl W (HD0.out.belowM hb (Nat.le_refl _)) L0.out H2.out FI.out (Utf8Tabs_below T.out hb) al aa fl fa on off 33 #[.pointer (some ⟨gk, 0, none⟩)] ((listL · 0)) (fun _ _ => by kernel_rfl) (fun x W' hx hb' hl => lst1_any x 0 gk W' hl (by have := (H2.out x hx).1; omega) (by have := (H2.out x hx).2; omega) (FI.out x hx) (Utf8Tabs_below T.out (hb.trans (hb'.mono hb.size))) ((hb'.block gk (Array.getElem?_eq_some_iff.1 hk).1).trans hk))
    rw [HR.out] at this
    exact this)
  go_enter Tryz.func17, Tryz.ntmps17
  go_wp2_with (first
    | go_big_skip
    | ((with_reducible show wpList _ _ _ _ _ _); refine kgBox (by rfl) 26 _ (by rfl) (some 2) (by rfl) (by rfl) [_, _, _, _, _, _, _] (by rfl) K ?_; intro g2 V1 K1; clear K; (have K := K1); clear K1)
    | ((with_reducible show wpList _ _ _ _ _ _); refine kgBox (by rfl) 3 _ (by rfl) (some 3) (by rfl) (v := .int .i64 0) (by rfl) [.int .i64 0] (by rfl) K ?_; intro g3 V1 K1; clear K; (have K := K1); clear K1)
    | ((with_reducible show wpList _ _ _ _ _ _); refine kgAlloc (by rfl) 26 (by rfl) (some 4) (by rfl) [.slice none 0 0, .int .i64 0, .int .i64 0, .int .i64 0, .int .i64 0, .int .i64 0, .int .i64 0] (fun _ => by kernel_rfl) K ?_; intro g4 V1 K1; clear K; (have K := K1); clear K1)
    | ((with_reducible show wpList _ _ _ _ _ _); refine kgLoad1 (by rfl) 3 _ (by rfl) _ Tryz.underlying3 rfl K (by rfl) (by repeat (first | exact List.mem_cons_self | refine List.mem_cons_of_mem _ ?_)) (by rfl) ?_)
    | ((with_reducible show wpList _ _ _ _ _ _); refine kgLoadA (by rfl) 26 _ (by rfl) 7 _ Tryz.underlying26 rfl (by kernel_rfl) K (by rfl) (by repeat (first | exact List.mem_cons_self | refine List.mem_cons_of_mem _ ?_)) (part := [_, _, _, _, _, _, _]) (by rfl) (by rfl) ?_)
    | ((with_reducible show wpList _ _ _ _ _ _); refine kgStore (by rfl) 26 (.tmp 4) _ (by rfl) 7 (by kernel_rfl) [] (by exact K) (by rfl) (by rfl) [_, _, _, _, _, _, _] (by rfl) (by rfl) (by simp) (by simp [Value.oneCell']) (cs := [_, _, _, _, _, _, _]) (by rfl) ?_; intro V2 K1; (dsimp only [List.cons_append, List.nil_append] at K1); clear K; (have K := K1); clear K1)
    | (go_at_call 9; (with_reducible refine (bListed_any hs A _ c _ rfl _ (K.out.at_ (d := ⟨hs, A, false⟩) (by simp)) L0.out H2.out FI.out (Utf8Tabs_below T.out K.out.b) al aa fl fa on off _).mono ?_); rintro e W2 ⟨rfl, hb⟩; rw [HLS.out]; dsimp only; (have K2 := hid (K.out.later hb)); clear hb K; (have K := K2); clear K2)
    | (go_at_call 27; (with_reducible refine (EC.out _ K.out.b _ (K.out.bx ⟨g3, 3, [.int .i64 0]⟩ (by simp)).2).mono ?_); rintro e W3 ⟨A3, n3, c3, hs3, rfl, q1, q2, q3, ho, hb3⟩; (have QQ : Hid (n3 = hs3.length ∧ n3 ≤ c3 ∧ lnsOf hs3 = rd) := hid ⟨q1, q2, q3⟩); unfold stV; dsimp only; (have K2 := hid (K.out.addW hb3 ho)); clear q1 q2 q3 ho hb3 K; (have K := K2); clear K2))
  refine bodyPost_ret (results_ct Tryz.results17 (by rfl) (K.out.loadA (off := 0) (n := 7) (by repeat (first | exact List.mem_cons_self | refine List.mem_cons_of_mem _ ?_)) Tryz.underlying26 rfl (by kernel_rfl) (part := [_, _, _, _, _, _, _]) (by rfl) (by rfl)) (by rfl)) rfl ?_
  exact ⟨A3, n3, c3, hs3, rfl, QQ.out.1, QQ.out.2.1, QQ.out.2.2, K.out.docW (by simp), K.out.b⟩
set_option maxRecDepth 100000 in
set_option maxHeartbeats 4000000 in
theorem bList_1_yes (hs : List Hd) (A : Option Addr) (n c C : Nat) (hn : n = hs.length) (w : World) (hd : DocAt w C A hs) (h1 : hs.length ≤ 1000) (h2 : ∀ h ∈ hs, h.l.ls.length ≤ 1000000 ∧ h.l.cs.length ≤ 1000000) (hf : ∀ h ∈ hs, FineC h.l.cs) (hT : Tb w) (al aa fl fa on off : Int) (ls : Bool) (hls : listedS ⟨lnsOf hs, ⟨al, aa⟩, ⟨fl, fa⟩, on, off⟩ 1 = (true, ls)) :
    Calls Tryz.prog 17 #[.agg #[.slice A n c, .int .i64 al, .int .i64 aa, .int .i64 fl, .int .i64 fa, .int .i64 on, .int .i64 off], .int .i64 1] w (RetStE (eachS outdentL ⟨lnsOf hs, ⟨al, aa⟩, ⟨fl, fa⟩, on, off⟩) w) := by
  subst hn
  have D0 := hid h2
  have L0 := hid h1
  have K := hid (KG.start w [⟨hs, A, false⟩] (by simpa using hd.live))
  have T := hid hT
  have FI := hid hf
  have H2 := hid h2
  have HD0 := hid hd.live
  clear hd h2 hT hf
  have HLS := hid hls
  clear hls
  obtain ⟨⟨⟨rd, ⟨ral, raa⟩, ⟨rfl', rfa⟩, ron, roff⟩, er⟩, hr⟩ : ∃ r, (eachS outdentL ⟨lnsOf hs, ⟨al, aa⟩, ⟨fl, fa⟩, on, off⟩) = r := ⟨_, rfl⟩
  rw [hr]
  have HR := hid hr
  clear hr
  have EC : Hid (∀ W : World, Below w.heap.size w W → Calls Tryz.prog 27 #[.agg #[.slice A hs.length c, .int .i64 al, .int .i64 aa, .int .i64 fl, .int .i64 fa, .int .i64 on, .int .i64 off], .func (.func 32) #[] #[]] W (RetStE (⟨rd, ⟨ral, raa⟩, ⟨rfl', rfa⟩, ron, roff⟩, er) W)) := hid (by
    intro W hb
    have := each_any hs A _ c _ rfl W (HD0.out.belowM hb (Nat.le_refl _)) L0.out H2.out FI.out (Utf8Tabs_below T.out hb) al aa fl fa on off 32 #[] (outdentL) (fun _ _ => by kernel_rfl) (fun x W' hx hb' hl => lOutdent_any x.l x.A _ x.c x.B _ x.d _ rfl rfl W' hl (by have := (H2.out x hx).1; omega) (by have := (H2.out x hx).2; omega) (FI.out x hx) (Utf8Tabs_below T.out (hb.trans (hb'.mono hb.size))))
    rw [HR.out] at this
    exact this)
  go_enter Tryz.func17, Tryz.ntmps17
  go_wp2_with (first
    | go_big_skip
    | ((with_reducible show wpList _ _ _ _ _ _); refine kgBox (by rfl) 26 _ (by rfl) (some 2) (by rfl) (by rfl) [_, _, _, _, _, _, _] (by rfl) K ?_; intro g2 V1 K1; clear K; (have K := K1); clear K1)
    | ((with_reducible show wpList _ _ _ _ _ _); refine kgBox (by rfl) 3 _ (by rfl) (some 3) (by rfl) (v := .int .i64 1) (by rfl) [.int .i64 1] (by rfl) K ?_; intro g3 V1 K1; clear K; (have K := K1); clear K1)
    | ((with_reducible show wpList _ _ _ _ _ _); refine kgAlloc (by rfl) 26 (by rfl) (some 4) (by rfl) [.slice none 0 0, .int .i64 0, .int .i64 0, .int .i64 0, .int .i64 0, .int .i64 0, .int .i64 0] (fun _ => by kernel_rfl) K ?_; intro g4 V1 K1; clear K; (have K := K1); clear K1)
    | ((with_reducible show wpList _ _ _ _ _ _); refine kgLoad1 (by rfl) 3 _ (by rfl) _ Tryz.underlying3 rfl K (by rfl) (by repeat (first | exact List.mem_cons_self | refine List.mem_cons_of_mem _ ?_)) (by rfl) ?_)
    | ((with_reducible show wpList _ _ _ _ _ _); refine kgLoadA (by rfl) 26 _ (by rfl) 7 _ Tryz.underlying26 rfl (by kernel_rfl) K (by rfl) (by repeat (first | exact List.mem_cons_self | refine List.mem_cons_of_mem _ ?_)) (part := [_, _, _, _, _, _, _]) (by rfl) (by rfl) ?_)
    | ((with_reducible show wpList _ _ _ _ _ _); refine kgStore (by rfl) 26 (.tmp 4) _ (by rfl) 7 (by kernel_rfl) [] (by exact K) (by rfl) (by rfl) [_, _, _, _, _, _, _] (by rfl) (by rfl) (by simp) (by simp [Value.oneCell']) (cs := [_, _, _, _, _, _, _]) (by rfl) ?_; intro V2 K1; (dsimp only [List.cons_append, List.nil_append] at K1); clear K; (have K := K1); clear K1)
    | (go_at_call 9; (with_reducible refine (bListed_any hs A _ c _ rfl _ (K.out.at_ (d := ⟨hs, A, false⟩) (by simp)) L0.out H2.out FI.out (Utf8Tabs_below T.out K.out.b) al aa fl fa on off _).mono ?_); rintro e W2 ⟨rfl, hb⟩; rw [HLS.out]; dsimp only; (have K2 := hid (K.out.later hb)); clear hb K; (have K := K2); clear K2)
    | (go_at_call 27; (with_reducible refine (EC.out _ K.out.b).mono ?_); rintro e W3 ⟨A3, n3, c3, hs3, rfl, q1, q2, q3, ho, hb3⟩; (have QQ : Hid (n3 = hs3.length ∧ n3 ≤ c3 ∧ lnsOf hs3 = rd) := hid ⟨q1, q2, q3⟩); unfold stV; dsimp only; (have K2 := hid (K.out.addW hb3 ho)); clear q1 q2 q3 ho hb3 K; (have K := K2); clear K2))
  refine bodyPost_ret (results_ct Tryz.results17 (by rfl) (K.out.loadA (off := 0) (n := 7) (by repeat (first | exact List.mem_cons_self | refine List.mem_cons_of_mem _ ?_)) Tryz.underlying26 rfl (by kernel_rfl) (part := [_, _, _, _, _, _, _]) (by rfl) (by rfl)) (by rfl)) rfl ?_
  exact ⟨A3, n3, c3, hs3, rfl, QQ.out.1, QQ.out.2.1, QQ.out.2.2, K.out.docW (by simp), K.out.b⟩
set_option maxRecDepth 100000 in
set_option maxHeartbeats 4000000 in
theorem bList_1_no (hs : List Hd) (A : Option Addr) (n c C : Nat) (hn : n = hs.length) (w : World) (hd : DocAt w C A hs) (h1 : hs.length ≤ 1000) (h2 : ∀ h ∈ hs, h.l.ls.length ≤ 1000000 ∧ h.l.cs.length ≤ 1000000) (hf : ∀ h ∈ hs, FineC h.l.cs) (hT : Tb w) (al aa fl fa on off : Int) (ls : Bool) (hls : listedS ⟨lnsOf hs, ⟨al, aa⟩, ⟨fl, fa⟩, on, off⟩ 1 = (false, ls)) :
    Calls Tryz.prog 17 #[.agg #[.slice A n c, .int .i64 al, .int .i64 aa, .int .i64 fl, .int .i64 fa, .int .i64 on, .int .i64 off], .int .i64 1] w (RetStE (eachS (listL · 1) ⟨lnsOf hs, ⟨al, aa⟩, ⟨fl, fa⟩, on, off⟩) w) := by
  subst hn
  have D0 := hid h2
  have L0 := hid h1
  have K := hid (KG.start w [⟨hs, A, false⟩] (by simpa using hd.live))
  have T := hid hT
  have FI := hid hf
  have H2 := hid h2
  have HD0 := hid hd.live
  clear hd h2 hT hf
  have HLS := hid hls
  clear hls
  obtain ⟨⟨⟨rd, ⟨ral, raa⟩, ⟨rfl', rfa⟩, ron, roff⟩, er⟩, hr⟩ : ∃ r, (eachS (listL · 1) ⟨lnsOf hs, ⟨al, aa⟩, ⟨fl, fa⟩, on, off⟩) = r := ⟨_, rfl⟩
  rw [hr]
  have HR := hid hr
  clear hr
  have EC : Hid (∀ W : World, Below w.heap.size w W → ∀ gk, W.heap[gk]? = some (.cells #[.int .i64 1] 3 (0, 0)) → Calls Tryz.prog 27 #[.agg #[.slice A hs.length c, .int .i64 al, .int .i64 aa, .int .i64 fl, .int .i64 fa, .int .i64 on, .int .i64 off], .func (.func 33) #[] #[.pointer (some ⟨gk, 0, none⟩)]] W (RetStE (⟨rd, ⟨ral, raa⟩, ⟨rfl', rfa⟩, ron, roff⟩, er) W)) := hid (by
    intro W hb gk hk
    have := each_any hs A _ c _ rfl W (HD0.out.belowM hb (Nat.le_refl _)) L0.out H2.out FI.out (Utf8Tabs_below T.out hb) al aa fl fa on off 33 #[.pointer (some ⟨gk, 0, none⟩)] ((listL · 1)) (fun _ _ => by kernel_rfl) (fun x W' hx hb' hl => lst1_any x 1 gk W' hl (by have := (H2.out x hx).1; omega) (by have := (H2.out x hx).2; omega) (FI.out x hx) (Utf8Tabs_below T.out (hb.trans (hb'.mono hb.size))) ((hb'.block gk (Array.getElem?_eq_some_iff.1 hk).1).trans hk))
    rw [HR.out] at this
    exact this)
  go_enter Tryz.func17, Tryz.ntmps17
  go_wp2_with (first
    | go_big_skip
    | ((with_reducible show wpList _ _ _ _ _ _); refine kgBox (by rfl) 26 _ (by rfl) (some 2) (by rfl) (by rfl) [_, _, _, _, _, _, _] (by rfl) K ?_; intro g2 V1 K1; clear K; (have K := K1); clear K1)
    | ((with_reducible show wpList _ _ _ _ _ _); refine kgBox (by rfl) 3 _ (by rfl) (some 3) (by rfl) (v := .int .i64 1) (by rfl) [.int .i64 1] (by rfl) K ?_; intro g3 V1 K1; clear K; (have K := K1); clear K1)
    | ((with_reducible show wpList _ _ _ _ _ _); refine kgAlloc (by rfl) 26 (by rfl) (some 4) (by rfl) [.slice none 0 0, .int .i64 0, .int .i64 0, .int .i64 0, .int .i64 0, .int .i64 0, .int .i64 0] (fun _ => by kernel_rfl) K ?_; intro g4 V1 K1; clear K; (have K := K1); clear K1)
    | ((with_reducible show wpList _ _ _ _ _ _); refine kgLoad1 (by rfl) 3 _ (by rfl) _ Tryz.underlying3 rfl K (by rfl) (by repeat (first | exact List.mem_cons_self | refine List.mem_cons_of_mem _ ?_)) (by rfl) ?_)
    | ((with_reducible show wpList _ _ _ _ _ _); refine kgLoadA (by rfl) 26 _ (by rfl) 7 _ Tryz.underlying26 rfl (by kernel_rfl) K (by rfl) (by repeat (first | exact List.mem_cons_self | refine List.mem_cons_of_mem _ ?_)) (part := [_, _, _, _, _, _, _]) (by rfl) (by rfl) ?_)
    | ((with_reducible show wpList _ _ _ _ _ _); refine kgStore (by rfl) 26 (.tmp 4) _ (by rfl) 7 (by kernel_rfl) [] (by exact K) (by rfl) (by rfl) [_, _, _, _, _, _, _] (by rfl) (by rfl) (by simp) (by simp [Value.oneCell']) (cs := [_, _, _, _, _, _, _]) (by rfl) ?_; intro V2 K1; (dsimp only [List.cons_append, List.nil_append] at K1); clear K; (have K := K1); clear K1)
    | (go_at_call 9; (with_reducible refine (bListed_any hs A _ c _ rfl _ (K.out.at_ (d := ⟨hs, A, false⟩) (by simp)) L0.out H2.out FI.out (Utf8Tabs_below T.out K.out.b) al aa fl fa on off _).mono ?_); rintro e W2 ⟨rfl, hb⟩; rw [HLS.out]; dsimp only; (have K2 := hid (K.out.later hb)); clear hb K; (have K := K2); clear K2)
    | (go_at_call 27; (with_reducible refine (EC.out _ K.out.b _ (K.out.bx ⟨g3, 3, [.int .i64 1]⟩ (by simp)).2).mono ?_); rintro e W3 ⟨A3, n3, c3, hs3, rfl, q1, q2, q3, ho, hb3⟩; (have QQ : Hid (n3 = hs3.length ∧ n3 ≤ c3 ∧ lnsOf hs3 = rd) := hid ⟨q1, q2, q3⟩); unfold stV; dsimp only; (have K2 := hid (K.out.addW hb3 ho)); clear q1 q2 q3 ho hb3 K; (have K := K2); clear K2))
  refine bodyPost_ret (results_ct Tryz.results17 (by rfl) (K.out.loadA (off := 0) (n := 7) (by repeat (first | exact List.mem_cons_self | refine List.mem_cons_of_mem _ ?_)) Tryz.underlying26 rfl (by kernel_rfl) (part := [_, _, _, _, _, _, _]) (by rfl) (by rfl)) (by rfl)) rfl ?_
  exact ⟨A3, n3, c3, hs3, rfl, QQ.out.1, QQ.out.2.1, QQ.out.2.2, K.out.docW (by simp), K.out.b⟩
set_option maxRecDepth 100000 in
set_option maxHeartbeats 4000000 in
theorem bList_none (hs : List Hd) (A : Option Addr) (n c C : Nat) (hn : n = hs.length) (w : World) (hd : DocAt w C A hs) (h1 : hs.length ≤ 1000) (h2 : ∀ h ∈ hs, h.l.ls.length ≤ 1000000 ∧ h.l.cs.length ≤ 1000000) (hf : ∀ h ∈ hs, FineC h.l.cs) (hT : Tb w) (al aa fl fa on off kind : Int) (la : Bool) (ls : Bool) (hls : listedS ⟨lnsOf hs, ⟨al, aa⟩, ⟨fl, fa⟩, on, off⟩ kind = (la, ls)) (c0 : kind ≠ 0) (c1 : kind ≠ 1) :
    Calls Tryz.prog 17 #[.agg #[.slice A n c, .int .i64 al, .int .i64 aa, .int .i64 fl, .int .i64 fa, .int .i64 on, .int .i64 off], .int .i64 kind] w (RetStE (zS, 1) w) := by
  subst hn
  have D0 := hid h2
  have L0 := hid h1
  have K := hid (KG.start w [⟨hs, A, false⟩] (by simpa using hd.live))
  have T := hid hT
  have FI := hid hf
  have H2 := hid h2
  have HD0 := hid hd.live
  clear hd h2 hT hf
  have HLS := hid hls
  clear hls
  have b0 : (kind != 0) = true := bne_iff_ne.2 c0
  have b1 : (kind != 1) = true := bne_iff_ne.2 c1
  clear c0 c1
  go_enter Tryz.func17, Tryz.ntmps17
  go_wp2_with (first
    | go_big_skip
    | ((with_reducible show wpList _ _ _ _ _ _); refine kgBox (by rfl) 26 _ (by rfl) (some 2) (by rfl) (by rfl) [_, _, _, _, _, _, _] (by rfl) K ?_; intro g2 V1 K1; clear K; (have K := K1); clear K1)
    | ((with_reducible show wpList _ _ _ _ _ _); refine kgBox (by rfl) 3 _ (by rfl) (some 3) (by rfl) (v := .int .i64 kind) (by rfl) [.int .i64 kind] (by rfl) K ?_; intro g3 V1 K1; clear K; (have K := K1); clear K1)
    | ((with_reducible show wpList _ _ _ _ _ _); refine kgAlloc (by rfl) 26 (by rfl) (some 4) (by rfl) [.slice none 0 0, .int .i64 0, .int .i64 0, .int .i64 0, .int .i64 0, .int .i64 0, .int .i64 0] (fun _ => by kernel_rfl) K ?_; intro g4 V1 K1; clear K; (have K := K1); clear K1)
    | ((with_reducible show wpList _ _ _ _ _ _); refine kgLoad1 (by rfl) 3 _ (by rfl) _ Tryz.underlying3 rfl K (by rfl) (by repeat (first | exact List.mem_cons_self | refine List.mem_cons_of_mem _ ?_)) (by rfl) ?_)
    | ((with_reducible show wpList _ _ _ _ _ _); refine kgLoadA (by rfl) 26 _ (by rfl) 7 _ Tryz.underlying26 rfl (by kernel_rfl) K (by rfl) (by repeat (first | exact List.mem_cons_self | refine List.mem_cons_of_mem _ ?_)) (part := [_, _, _, _, _, _, _]) (by rfl) (by rfl) ?_)
    | ((with_reducible show wpList _ _ _ _ _ _); refine kgStore (by rfl) 26 (.tmp 4) _ (by rfl) 7 (by kernel_rfl) [] (by exact K) (by rfl) (by rfl) [_, _, _, _, _, _, _] (by rfl) (by rfl) (by simp) (by simp [Value.oneCell']) (cs := [_, _, _, _, _, _, _]) (by rfl) ?_; intro V2 K1; (dsimp only [List.cons_append, List.nil_append] at K1); clear K; (have K := K1); clear K1)
    | (go_at_call 9; (with_reducible refine (bListed_any hs A _ c _ rfl _ (K.out.at_ (d := ⟨hs, A, false⟩) (by simp)) L0.out H2.out FI.out (Utf8Tabs_below T.out K.out.b) al aa fl fa on off _).mono ?_); rintro e W2 ⟨rfl, hb⟩; rw [HLS.out]; dsimp only; (have K2 := hid (K.out.later hb)); clear hb K; (have K := K2); clear K2))
  refine bodyPost_ret (results_ct Tryz.results17 (by rfl) (K.out.loadA (off := 0) (n := 7) (by repeat (first | exact List.mem_cons_self | refine List.mem_cons_of_mem _ ?_)) Tryz.underlying26 rfl (by kernel_rfl) (part := [_, _, _, _, _, _, _]) (by rfl) (by rfl)) (by rfl)) rfl ?_
  exact ⟨none, 0, 0, [], rfl, rfl, Nat.le_refl _, rfl, DocW.nil, K.out.b⟩
theorem bList_any (hs : List Hd) (A : Option Addr) (n c C : Nat) (hn : n = hs.length) (w : World) (hd : DocAt w C A hs) (h1 : hs.length ≤ 1000) (h2 : ∀ h ∈ hs, h.l.ls.length ≤ 1000000 ∧ h.l.cs.length ≤ 1000000) (hf : ∀ h ∈ hs, FineC h.l.cs) (hT : Tb w) (al aa fl fa on off kind : Int) :
    Calls Tryz.prog 17 #[.agg #[.slice A n c, .int .i64 al, .int .i64 aa, .int .i64 fl, .int .i64 fa, .int .i64 on, .int .i64 off], .int .i64 kind] w (RetStE (listS ⟨lnsOf hs, ⟨al, aa⟩, ⟨fl, fa⟩, on, off⟩ kind) w) := by
  obtain ⟨⟨la, ls⟩, hls⟩ : ∃ z, listedS ⟨lnsOf hs, ⟨al, aa⟩, ⟨fl, fa⟩, on, off⟩ kind = z := ⟨_, rfl⟩
  unfold listS
  rw [hls]
  dsimp only
  by_cases c0 : kind = 0
  · subst c0
    rw [if_pos (.inl rfl)]
    cases la with
    | true => exact bList_0_yes hs A n c C hn w hd h1 h2 hf hT al aa fl fa on off ls hls
    | false => exact bList_0_no hs A n c C hn w hd h1 h2 hf hT al aa fl fa on off ls hls
  · by_cases c1 : kind = 1
    · subst c1
      rw [if_pos (.inr rfl)]
      cases la with
      | true => exact bList_1_yes hs A n c C hn w hd h1 h2 hf hT al aa fl fa on off ls hls
      | false => exact bList_1_no hs A n c C hn w hd h1 h2 hf hT al aa fl fa on off ls hls
    · rw [if_neg (fun h => h.elim c0 c1)]
      exact bList_none hs A n c C hn w hd h1 h2 hf hT al aa fl fa on off kind la ls hls c0 c1
end Go.Proofs.YtblbfoniimnkcaaGreatDoor
