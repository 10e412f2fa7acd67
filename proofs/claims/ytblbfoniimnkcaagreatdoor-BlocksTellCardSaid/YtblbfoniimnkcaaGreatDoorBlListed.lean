/- The walk of blocks.Listed. (Printed by wip/bldoc.py.) -/
import Derived.Test.YtblbfoniimnkcaaGreatDoorBlList1
import Derived.BigQuiet
import Derived.Deep.QuietTactic
namespace Go.Proofs.YtblbfoniimnkcaaGreatDoor
open Go.RowKit Go.Lib Go.Shelf
attribute [local go_sem] Oper.semAt_some

/-- The two answers, on the way. -/
structure B2 where
  a : Bool
  s : Bool
/-- What a call answers: two Bools. -/
def IsBB (p : Bool × Bool) (w : World) (e : Ending) (w' : World) : Prop := e = .returned (.tuple #[.bool p.1, .bool p.2]) ∧ Below w.heap.size w w'
set_option maxRecDepth 100000 in
set_option maxHeartbeats 4000000 in
theorem listedNo (hs : List Hd) (A : Option Addr) (n c C : Nat) (hn : n = hs.length) (w : World) (hd : DocAt w C A hs) (h1 : hs.length ≤ 1000) (h2 : ∀ h ∈ hs, h.l.ls.length ≤ 1000000 ∧ h.l.cs.length ≤ 1000000) (hf : ∀ h ∈ hs, FineC h.l.cs) (hT : Tb w) (al aa fl fa on off kind : Int) (mb : mayS ⟨lnsOf hs, ⟨al, aa⟩, ⟨fl, fa⟩, on, off⟩ = false) :
    Calls Tryz.prog 9 #[.agg #[.slice A n c, .int .i64 al, .int .i64 aa, .int .i64 fl, .int .i64 fa, .int .i64 on, .int .i64 off], .int .i64 kind] w (IsBB (false, false) w) := by
  subst hn
  have D0 := hid h2
  have L0 := hid h1
  have K := hid (KG.start w [⟨hs, A, false⟩] (by simpa using hd.live))
  have T := hid hT
  have FI := hid hf
  have H2 := hid h2
  have MB := hid mb
  clear hd h2 hT hf mb
  go_enter Tryz.func9, Tryz.ntmps9
  go_wp2_with (first
    | go_big_skip
    | ((with_reducible show wpList _ _ _ _ _ _); refine kgBox (by rfl) 26 _ (by rfl) (some 2) (by rfl) (by rfl) [_, _, _, _, _, _, _] (by rfl) K ?_; intro g2 V1 K1; clear K; (have K := K1); clear K1)
    | ((with_reducible show wpList _ _ _ _ _ _); refine kgBox (by rfl) 3 _ (by rfl) (some 3) (by rfl) (v := .int .i64 kind) (by rfl) [.int .i64 kind] (by rfl) K ?_; intro g3 V1 K1; clear K; (have K := K1); clear K1)
    | ((with_reducible show wpList _ _ _ _ _ _); refine kgAlloc (by rfl) 4 (by rfl) (some 4) (by rfl) [.bool false] (fun _ => by kernel_rfl) K ?_; intro g4 V1 K1; clear K; (have K := K1); clear K1)
    | ((with_reducible show wpList _ _ _ _ _ _); refine kgAlloc (by rfl) 4 (by rfl) (some 5) (by rfl) [.bool false] (fun _ => by kernel_rfl) K ?_; intro g5 V1 K1; clear K; (have K := K1); clear K1)
    | ((with_reducible show wpList _ _ _ _ _ _); refine kgLoadA (by rfl) 26 _ (by rfl) 7 _ Tryz.underlying26 rfl (by kernel_rfl) K (by rfl) (by repeat (first | exact List.mem_cons_self | refine List.mem_cons_of_mem _ ?_)) (part := [_, _, _, _, _, _, _]) (by rfl) (by rfl) ?_)
    | (go_at_call 21; (with_reducible refine (tMay_any hs A _ c _ rfl _ (K.out.at_ (d := ⟨hs, A, false⟩) (by simp)) h1 H2.out FI.out (Utf8Tabs_below T.out K.out.b) al aa fl fa on off).mono ?_); rintro e W2 ⟨rfl, hb⟩; rw [MB.out]; (have K2 := hid (K.out.later hb)); clear hb K; (have K := K2); clear K2)
    | ((with_reducible show wpList _ _ _ _ _ _); refine kgStore (by rfl) 4 (.tmp 4) _ (by rfl) 1 (by kernel_rfl) [_] (by exact K) (by rfl) (v := .bool false) (by rfl) [.bool false] (by rfl) (by rfl) (by simp) (by simp [Value.oneCell']) (cs := [_]) (by rfl) ?_; intro V2 K1; (dsimp only [List.cons_append, List.nil_append] at K1); clear K; (have K := K1); clear K1)
    | ((with_reducible show wpList _ _ _ _ _ _); refine kgStore (by rfl) 4 (.tmp 5) _ (by rfl) 1 (by kernel_rfl) [] (by exact K) (by rfl) (v := .bool false) (by rfl) [.bool false] (by rfl) (by rfl) (by simp) (by simp [Value.oneCell']) (cs := [_]) (by rfl) ?_; intro V2 K1; (dsimp only [List.cons_append, List.nil_append] at K1); clear K; (have K := K1); clear K1))
  refine bodyPost_ret (results_cc Tryz.results9 (by rfl) (K.out.load1 (off := 0) (by repeat (first | exact List.mem_cons_self | refine List.mem_cons_of_mem _ ?_)) Tryz.underlying4 rfl (by rfl)) (by rfl) (K.out.load1 (off := 0) (by repeat (first | exact List.mem_cons_self | refine List.mem_cons_of_mem _ ?_)) Tryz.underlying4 rfl (by rfl))) rfl ?_
  exact ⟨rfl, K.out.b⟩
set_option maxRecDepth 100000 in
set_option maxHeartbeats 16000000 in
theorem listedYes (hs : List Hd) (A : Option Addr) (n c C : Nat) (hn : n = hs.length) (w : World) (hd : DocAt w C A hs) (h1 : hs.length ≤ 1000) (h2 : ∀ h ∈ hs, h.l.ls.length ≤ 1000000 ∧ h.l.cs.length ≤ 1000000) (hf : ∀ h ∈ hs, FineC h.l.cs) (hT : Tb w) (al aa fl fa on off kind : Int) (mb : mayS ⟨lnsOf hs, ⟨al, aa⟩, ⟨fl, fa⟩, on, off⟩ = true) :
    Calls Tryz.prog 9 #[.agg #[.slice A n c, .int .i64 al, .int .i64 aa, .int .i64 fl, .int .i64 fa, .int .i64 on, .int .i64 off], .int .i64 kind] w (IsBB (listedS ⟨lnsOf hs, ⟨al, aa⟩, ⟨fl, fa⟩, on, off⟩ kind) w) := by
  obtain ⟨z1, z2, z3, z4⟩ := mayS_in mb
  dsimp only at z3 z4
  rw [lnsOf_len] at z3 z4
  obtain ⟨f, hf0⟩ : ∃ f, (fromS ⟨lnsOf hs, ⟨al, aa⟩, ⟨fl, fa⟩, on, off⟩).l.toNat = f := ⟨_, rfl⟩
  obtain ⟨cnt, hc0⟩ : ∃ cnt, (toS ⟨lnsOf hs, ⟨al, aa⟩, ⟨fl, fa⟩, on, off⟩).l.toNat + 1 - f = cnt := ⟨_, rfl⟩
  have YF : Hid ((fromS ⟨lnsOf hs, ⟨al, aa⟩, ⟨fl, fa⟩, on, off⟩).l = f) := hid (by omega)
  have YT : Hid ((toS ⟨lnsOf hs, ⟨al, aa⟩, ⟨fl, fa⟩, on, off⟩).l + 1 = ((f + cnt : Nat) : Int)) := hid (by omega)
  have YL : Hid (f + cnt ≤ hs.length) := hid (by omega)
  have SEL := hid (sel_its ⟨lnsOf hs, ⟨al, aa⟩, ⟨fl, fa⟩, on, off⟩ hs rfl f cnt YF.out YT.out YL.out (by omega))
  have HD := hid hd.live
  clear z1 z2 z3 z4 hf0 hc0
  obtain ⟨r, hr⟩ : ∃ r, listedS ⟨lnsOf hs, ⟨al, aa⟩, ⟨fl, fa⟩, on, off⟩ kind = r := ⟨_, rfl⟩
  rw [hr]
  have HR : Hid (((sel ⟨lnsOf hs, ⟨al, aa⟩, ⟨fl, fa⟩, on, off⟩).all (listedL kind), (sel ⟨lnsOf hs, ⟨al, aa⟩, ⟨fl, fa⟩, on, off⟩).any (listedL kind)) = r) := hid (by rw [← hr]; unfold listedS; rw [if_pos mb])
  clear hr
  subst hn
  have D0 := hid h2
  have L0 := hid h1
  have K := hid (KG.start w [⟨hs, A, false⟩] (by simpa using hd.live))
  have T := hid hT
  have FI := hid hf
  have H2 := hid h2
  have MB := hid mb
  clear hd h2 hT hf mb
  refine (callsIn_wide (n := 6)).1 ?_
  refine callsIn_of_wp_marks Tryz.func9 rfl trivial ?_ rfl
  simp only [Tryz.ntmps9, List.size_toArray, List.length_cons, List.length_nil, Nat.reduceAdd, Nat.reduceSub, Array.replicate_succ, Array.replicate_zero, List.push_toArray, List.append_toArray, List.nil_append, List.cons_append]
  gi_wp2_with (first
    | gi_big_skip
    | ((with_reducible show wpListIn _ _ _ _ _ _ _ _); refine kiBox (by rfl) 26 _ (by rfl) (some 2) (by rfl) (by rfl) [_, _, _, _, _, _, _] (by rfl) K ?_; intro g2 V1 K1; clear K; (have K := K1); clear K1)
    | ((with_reducible show wpListIn _ _ _ _ _ _ _ _); refine kiBox (by rfl) 3 _ (by rfl) (some 3) (by rfl) (v := .int .i64 kind) (by rfl) [.int .i64 kind] (by rfl) K ?_; intro g3 V1 K1; clear K; (have K := K1); clear K1)
    | ((with_reducible show wpListIn _ _ _ _ _ _ _ _); refine kiAlloc (by rfl) 4 (by rfl) (some 4) (by rfl) [.bool false] (fun _ => by kernel_rfl) K ?_; intro g4 V1 K1; clear K; (have K := K1); clear K1)
    | ((with_reducible show wpListIn _ _ _ _ _ _ _ _); refine kiAlloc (by rfl) 4 (by rfl) (some 5) (by rfl) [.bool false] (fun _ => by kernel_rfl) K ?_; intro g5 V1 K1; clear K; (have K := K1); clear K1)
    | ((with_reducible show wpListIn _ _ _ _ _ _ _ _); refine kiLoadA (by rfl) 26 _ (by rfl) 7 _ Tryz.underlying26 rfl (by kernel_rfl) K (by rfl) (by repeat (first | exact List.mem_cons_self | refine List.mem_cons_of_mem _ ?_)) (part := [_, _, _, _, _, _, _]) (by rfl) (by rfl) ?_)
    | ((first | refine ⟨trivial, (fun h => by cases h), ?_⟩ | refine ⟨trivial, ?_⟩); gi_at_call 21; (with_reducible refine (callsIn_wide.2 (tMay_any hs A _ c _ rfl _ (K.out.at_ (d := ⟨hs, A, false⟩) (by simp)) h1 H2.out FI.out (Utf8Tabs_below T.out K.out.b) al aa fl fa on off)).mono ?_); rintro e W2 ⟨rfl, hb⟩; rw [MB.out]; (have K2 := hid (K.out.later hb)); clear hb K; (have K := K2); clear K2)
    | ((with_reducible show wpListIn _ _ _ _ _ _ _ _); refine kiStore (by rfl) 4 (.tmp 4) _ (by rfl) 1 (by kernel_rfl) [_] (by exact K) (by rfl) (v := .bool true) (by rfl) [.bool true] (by rfl) (by rfl) (by simp) (by simp [Value.oneCell']) (cs := [_]) (by rfl) ?_; intro V2 K1; (dsimp only [List.cons_append, List.nil_append] at K1); clear K; (have K := K1); clear K1)
    | ((first | refine ⟨trivial, (fun h => by cases h), ?_⟩ | refine ⟨trivial, ?_⟩); gi_at_call 22; (with_reducible refine (callsIn_wide.2 (selected_any (.slice A hs.length c) al aa fl fa on off ⟨_, _, _, rfl⟩ _)).mono ?_); rintro e W5 ⟨gs, rfl, hgs, hW5⟩; (have K2 := hid (K.out.new 26 [.slice A hs.length c, .int .i64 al, .int .i64 aa, .int .i64 fl, .int .i64 fa, .int .i64 on, .int .i64 off] hgs hW5)); (have LT := hid (show gs + 1 = W5.heap.size by rw [hW5, World.size_alloc, hgs])); clear hgs hW5 K; (have K := K2); clear K2))
  have KB := hid (KG.bare K.out)
  have SEQ := hid (sel_seq 5 gs gs w W5 ⟨lnsOf hs, ⟨al, aa⟩, ⟨fl, fa⟩, on, off⟩ hs A c HD.out KB.out.b (KB.out.bx ⟨gs, 26, [.slice A hs.length c, .int .i64 al, .int .i64 aa, .int .i64 fl, .int .i64 fa, .int .i64 on, .int .i64 off]⟩ (by simp)).1 (Nat.le_refl _) f cnt YF.out YT.out YL.out L0.out (KB.out.bx ⟨gs, 26, [.slice A hs.length c, .int .i64 al, .int .i64 aa, .int .i64 fl, .int .i64 fa, .int .i64 on, .int .i64 off]⟩ (by simp)).2)
  have HSZ := hid KB.out.b.size
  have LGS : Hid (gs < W5.heap.size) := hid (KB.out.lt (x := ⟨gs, 26, [.slice A hs.length c, .int .i64 al, .int .i64 aa, .int .i64 fl, .int .i64 fa, .int .i64 on, .int .i64 off]⟩) (by simp))
  have NDs := hid KB.out.nd
  have Lg4 : Hid (g4 < gs) := hid (by
    have h1 := KB.out.lt (x := ⟨g4, 4, [.bool true]⟩) (by simp)
    have h2 := LT.out
    have h3 : gs ≠ g4 := (List.pairwise_cons.1 NDs.out).1 ⟨g4, 4, [.bool true]⟩ (by simp)
    have h1' : g4 < W5.heap.size := h1
    omega)
  have Mg4 : Hid (w.heap.size ≤ g4) := hid (KB.out.bx ⟨g4, 4, [.bool true]⟩ (by simp)).1
  have Lg5 : Hid (g5 < gs) := hid (by
    have h1 := KB.out.lt (x := ⟨g5, 4, [.bool false]⟩) (by simp)
    have h2 := LT.out
    have h3 : gs ≠ g5 := (List.pairwise_cons.1 NDs.out).1 ⟨g5, 4, [.bool false]⟩ (by simp)
    have h1' : g5 < W5.heap.size := h1
    omega)
  have Mg5 : Hid (w.heap.size ≤ g5) := hid (KB.out.bx ⟨g5, 4, [.bool false]⟩ (by simp)).1
  have I0 : (fun (pre : List (ItV hs)) (W : World) => ∃ (p : B2), Hid (KG w W [⟨gs, 26, [.slice A hs.length c, .int .i64 al, .int .i64 aa, .int .i64 fl, .int .i64 fa, .int .i64 on, .int .i64 off]⟩, ⟨g5, 4, [.bool p.s]⟩, ⟨g4, 4, [.bool p.a]⟩, ⟨g3, 3, [.int .i64 kind]⟩, ⟨g2, 26, [.slice A hs.length c, .int .i64 al, .int .i64 aa, .int .i64 fl, .int .i64 fa, .int .i64 on, .int .i64 off]⟩] []) ∧ Hid (p.a = (pre.map (·.1)).all fun x => listedL kind x.h.l) ∧ Hid (p.s = (pre.map (·.1)).any fun x => listedL kind x.h.l)) [] W5 := ⟨⟨true, false⟩, KB, hid rfl, hid rfl⟩
  have OI : ∀ B, w.heap.size ≤ B → OwnFrom B (fun (pre : List (ItV hs)) (W : World) => ∃ (p : B2), Hid (KG w W [⟨gs, 26, [.slice A hs.length c, .int .i64 al, .int .i64 aa, .int .i64 fl, .int .i64 fa, .int .i64 on, .int .i64 off]⟩, ⟨g5, 4, [.bool p.s]⟩, ⟨g4, 4, [.bool p.a]⟩, ⟨g3, 3, [.int .i64 kind]⟩, ⟨g2, 26, [.slice A hs.length c, .int .i64 al, .int .i64 aa, .int .i64 fl, .int .i64 fa, .int .i64 on, .int .i64 off]⟩] []) ∧ Hid (p.a = (pre.map (·.1)).all fun x => listedL kind x.h.l) ∧ Hid (p.s = (pre.map (·.1)).any fun x => listedL kind x.h.l)) := by
    rintro B hB pre V V' row ⟨p, K, H0, H1⟩ hg hr
    exact ⟨p, hid (K.out.own hg fun r h => ⟨Nat.le_trans hB (hr r h).1, (hr r h).2⟩), H0, H1⟩
  replace I0 := hid I0
  replace OI := hid OI
  have H3 := H2
  clear K KB NDs D0 H2 MB
  refine wpIn_rangeFunc_ownH rfl (by omega) (gf := 38) (lb := #[.pointer (some ⟨gs, 0, none⟩)]) rfl trivial (enters_of Tryz.func38 (by kernel_rfl) rfl)
    SEQ.out KpS.trans (KpS.put HSZ.out) (Below.refl _ _) ?hps
    (fun pre W => ∃ (p : B2), Hid (KG w W [⟨gs, 26, [.slice A hs.length c, .int .i64 al, .int .i64 aa, .int .i64 fl, .int .i64 fa, .int .i64 on, .int .i64 off]⟩, ⟨g5, 4, [.bool p.s]⟩, ⟨g4, 4, [.bool p.a]⟩, ⟨g3, 3, [.int .i64 kind]⟩, ⟨g2, 26, [.slice A hs.length c, .int .i64 al, .int .i64 aa, .int .i64 fl, .int .i64 fa, .int .i64 on, .int .i64 off]⟩] []) ∧ Hid (p.a = (pre.map (·.1)).all fun x => listedL kind x.h.l) ∧ Hid (p.s = (pre.map (·.1)).any fun x => listedL kind x.h.l)) (fun _ _ _ => False) (OI.out _ HSZ.out) (fun _ _ _ _ _ hs _ _ => hs)
    I0.out
    (fun x a' W => ∃ g7, W.heap[g7]? = some (.cells #[.int .i64 x.1.h.l.q, .slice x.1.h.A x.1.h.l.ls.length x.1.h.c, .int .i64 x.1.h.l.k, .slice x.1.h.B x.1.h.l.cs.length x.1.h.d] 46 (0, 0)) ∧ a' = { tmps := #[.agg #[.slice A hs.length c, .int .i64 al, .int .i64 aa, .int .i64 fl, .int .i64 fa, .int .i64 on, .int .i64 off], .int .i64 kind, .pointer (some ⟨g2, 0, none⟩), .pointer (some ⟨g3, 0, none⟩), .pointer (some ⟨g4, 0, none⟩), .pointer (some ⟨g5, 0, none⟩), undef, .pointer (some ⟨g7, 0, none⟩), undef, .agg #[.slice A hs.length c, .int .i64 al, .int .i64 aa, .int .i64 fl, .int .i64 fa, .int .i64 on, .int .i64 off], .bool true, .bool false, .agg #[.slice A hs.length c, .int .i64 al, .int .i64 aa, .int .i64 fl, .int .i64 fa, .int .i64 on, .int .i64 off], .func (.func 38) #[] #[.pointer (some ⟨gs, 0, none⟩)], .int .i64 x.1.i, .agg #[.int .i64 x.1.h.l.q, .slice x.1.h.A x.1.h.l.ls.length x.1.h.c, .int .i64 x.1.h.l.k, .slice x.1.h.B x.1.h.l.cs.length x.1.h.d], undef, undef, undef, undef, undef, undef, undef, undef, undef, undef, undef, undef, undef], defers := [] })
    (fun x a' _ X Y row hs hg hr => by
      obtain ⟨gx, h1, h2⟩ := hs
      refine ⟨gx, (hg.block gx (Array.getElem?_eq_some_iff.1 h1).1 ?_).trans h1, h2⟩
      rintro rfl
      obtain ⟨_, o, ho, hc⟩ := hr _ rfl
      rw [h1] at ho
      injection ho with ho
      subst ho
      cases hc)
    ?assign ?body ?done ?stop
  case hps => intro x; rfl
  case assign =>
    rintro l pre x W KX hI hKX
    have HI := hid hI
    have HX := hid hKX
    have SZ : Hid (W5.heap.size ≤ W.heap.size) := hid (by
      obtain ⟨p, K, -⟩ := HI.out
      have h1 := K.out.lt (x := ⟨gs, 26, [.slice A hs.length c, .int .i64 al, .int .i64 aa, .int .i64 fl, .int .i64 fa, .int .i64 on, .int .i64 off]⟩) (by simp)
      have h2 := LT.out
      have h1' : gs < W.heap.size := h1
      omega)
    have K := hid (KG.start W [] (by simp))
    clear hI hKX
    dsimp only [encsI]
    simp only [List.zip_toArray, List.zip_cons_cons, List.zip_nil_right, List.foldl_toArray, List.foldl_cons, List.foldl_nil, List.setIfInBounds_toArray, List.set_cons_succ, List.set_cons_zero]
    gi_wp2_with (first
      | gi_big_skip
      | ((with_reducible show wpListIn _ _ _ _ _ _ _ _); refine kiAlloc (by rfl) 46 (by rfl) (some 7) (by rfl) [.int .i64 0, .slice none 0 0, .int .i64 0, .slice none 0 0] (fun _ => by kernel_rfl) K ?_; intro g7 V1 K1; clear K; (have K := K1); clear K1)
      | ((with_reducible show wpListIn _ _ _ _ _ _ _ _); refine kiStore (by rfl) 46 (.tmp 7) _ (by rfl) 4 (by kernel_rfl) [] (by exact K) (by rfl) (by rfl) [_, _, _, _] (by rfl) (by rfl) (by simp) (by simp [Value.oneCell']) (cs := [_, _, _, _]) (by rfl) ?_; intro V2 K1; (dsimp only [List.cons_append, List.nil_append] at K1); clear K; (have K := K1); clear K1))
    exact HX.out _ _ (KeepsFrom.below K.out.b) (KpS.later K.out.b (Nat.le_trans HSZ.out SZ.out)) (OI.out _ (Nat.le_refl _) pre W V2 none HI.out (grownB K.out.b) (fun r h => by cases h)) ⟨g7, (K.out.bx ⟨g7, 46, [.int .i64 x.1.h.l.q, .slice x.1.h.A x.1.h.l.ls.length x.1.h.c, .int .i64 x.1.h.l.k, .slice x.1.h.B x.1.h.l.cs.length x.1.h.d]⟩ (by simp)).2, rfl⟩
  case body =>
    rintro l pre x a' W hl' ⟨r', hr'⟩ ⟨p, KO, H0, H1⟩ ⟨g7, hg9, rfl⟩ hlt
    have SZ : Hid (W5.heap.size ≤ W.heap.size) := hid (by have := (Array.getElem?_eq_some_iff.1 hr').1; omega)
    have K := hid (KG.start W [] (by simp))
    have G9 := hid hg9
    have L9 := hid (Array.getElem?_eq_some_iff.1 hg9).1
    have XM : Hid (x.1.h ∈ hs) := hid (List.mem_of_getElem? x.2)
    have BW : Hid (Below w.heap.size w W) := hid KO.out.b
    have LX := hid (HD.out.ln x.2)
    clear hr' hlt hl' hg9
    have XB : Hid (x.1.h.l.ls.length ≤ 1000000000) := hid (by have := (H3.out x.1.h XM.out).1; omega)
    obtain ⟨bv, hbv⟩ : ∃ b, listedL kind x.1.h.l = b := ⟨_, rfl⟩
    have HBV := hid hbv
    clear hbv
    obtain ⟨av, sv⟩ := p
    dsimp only at KO H0 H1
    cases av <;> cases sv <;> cases bv
    all_goals
      gi_wp2_with (first
        | gi_big_skip
        | ((with_reducible show wpListIn _ _ _ _ _ _ _ _); refine wpListIn_loadV (by rfl) 46 (.tmp 7) (by rfl) (by rfl) (run_loadVar_row _ g7 46 46 _ (0, 0) _ ((K.out.b.block g7 L9.out).trans G9.out) Tryz.underlying46 rfl (by kernel_rfl)) ?_)
        | ((with_reducible show wpListIn _ _ _ _ _ _ _ _); refine kiOld1 (by rfl) 3 (.tmp 3) (by rfl) _ Tryz.underlying3 rfl KO K (by rfl) (by repeat (first | exact List.mem_cons_self | refine List.mem_cons_of_mem _ ?_)) (v := .int .i64 kind) (by rfl) ?_)
        | ((with_reducible show wpListIn _ _ _ _ _ _ _ _); refine kiOld1 (by rfl) 4 (.tmp 4) (by rfl) _ Tryz.underlying4 rfl KO K (by rfl) (by repeat (first | exact List.mem_cons_self | refine List.mem_cons_of_mem _ ?_)) (v := .bool _) (by rfl) ?_)
        | ((with_reducible show wpListIn _ _ _ _ _ _ _ _); refine kiOld1 (by rfl) 4 (.tmp 5) (by rfl) _ Tryz.underlying4 rfl KO K (by rfl) (by repeat (first | exact List.mem_cons_self | refine List.mem_cons_of_mem _ ?_)) (v := .bool _) (by rfl) ?_)
        | ((first | refine ⟨trivial, (fun h => by cases h), ?_⟩ | refine ⟨trivial, ?_⟩); gi_at_call 25; (refine (CallsIn.inRound _ (callsIn_wide.2 (listed_any x.1.h.l x.1.h.A _ x.1.h.c x.1.h.B _ x.1.h.d _ kind rfl _ (LX.out.belowM (BW.out.trans (K.out.b.mono BW.out.size)) (Nat.le_refl _)) XB.out rfl))).mono ?_); rintro e0 W3 ⟨rfl, hb3⟩; rw [HBV.out]; (have K2 := hid (K.out.later hb3)); clear hb3 K; (have K := K2); clear K2)
        | ((with_reducible show wpListIn _ _ _ _ _ _ _ _); (have B4 := hid K.out.b); (have KM := hid (KO.out.merge K.out)); refine kiStoreT (by rfl) 4 (.tmp 4) _ (by rfl) 1 (by kernel_rfl) [_, _] (by exact KM) (by rfl) (v := .bool _) (by rfl) [.bool _] (by rfl) (by rfl) (by simp) (by simp [Value.oneCell']) (cs := [_]) (by rfl) ?_; intro V2 ON1 K1; (dsimp only [List.cons_append, List.nil_append] at K1); clear K KM; (have K := K1); clear K1)
        | ((with_reducible show wpListIn _ _ _ _ _ _ _ _); refine kiStoreT (by rfl) 4 (.tmp 5) _ (by rfl) 1 (by kernel_rfl) [_] (by exact K) (by rfl) (v := .bool _) (by rfl) [.bool _] (by rfl) (by rfl) (by simp) (by simp [Value.oneCell']) (cs := [_]) (by rfl) ?_; intro V2 ON2 K1; (dsimp only [List.cons_append, List.nil_append] at K1); clear K; (have K := K1); clear K1))
      refine ⟨KeepsFrom.onl (KeepsFrom.onl (KeepsFrom.below B4.out) ON1.out (Nat.lt_trans Lg4.out LGS.out)) ON2.out (Nat.lt_trans Lg5.out LGS.out), ((KpS.later B4.out BW.out.size).onl ON1.out Mg4.out Lg4.out).onl ON2.out Mg5.out Lg5.out, ⟨_, _⟩, K, hid ?_, hid ?_⟩
      · show _ = (((pre ++ [x]).map (·.1)).all fun x => listedL kind x.h.l)
        rw [List.map_append, List.all_append, ← H0.out]
        simp only [List.map_cons, List.map_nil, List.all_cons, List.all_nil, HBV.out]
        rfl
      · show _ = (((pre ++ [x]).map (·.1)).any fun x => listedL kind x.h.l)
        rw [List.map_append, List.any_append, ← H1.out]
        simp only [List.map_cons, List.map_nil, List.any_cons, List.any_nil, HBV.out]
        rfl
  case stop =>
    rintro D c' pre W _ _ h _
    exact h.elim
  case done =>
    rintro D ys W hD hS ⟨⟨av, sv⟩, K, H0, H1⟩ hK
    dsimp only at K H0 H1
    have HKD := hid hK
    have DW : Hid (w.heap.size ≤ D) := hid (Nat.le_trans HSZ.out hD)
    have RA : Hid ((av, sv) = r) := hid (by
      rw [← HR.out, ← SEL.out, ← hS, H0.out, H1.out]
      simp [List.all_map, List.any_map, Function.comp_def])
    have DG4 : Hid (g4 < D) := hid (by have h1 := Lg4.out; have h2 := LGS.out; omega)
    have DG5 : Hid (g5 < D) := hid (by have h1 := Lg5.out; have h2 := LGS.out; omega)
    clear hK hD H0 H1 hS
    gi_wp2_with (fail)
    refine wpIn_wide.2 ?_
    have K := hid (And.intro K.out HKD.out)
    obtain ⟨J, hJ⟩ : ∃ J : (Nat → Bool) → World → Prop, J = fun _ W => (Hid (KG w W [⟨gs, 26, [.slice A hs.length c, .int .i64 al, .int .i64 aa, .int .i64 fl, .int .i64 fa, .int .i64 on, .int .i64 off]⟩, ⟨g5, 4, [.bool sv]⟩, ⟨g4, 4, [.bool av]⟩, ⟨g3, 3, [.int .i64 kind]⟩, ⟨g2, 26, [.slice A hs.length c, .int .i64 al, .int .i64 aa, .int .i64 fl, .int .i64 fa, .int .i64 on, .int .i64 off]⟩] []) ∧ Hid (W.heap[D]? = some (.deferred (some [])))) := ⟨_, rfl⟩
    replace hJ := hid hJ
    refine wp_drawn_det [.bool av, .bool sv, undef, undef] (by kernel_rfl) (by kernel_rfl) rfl J (by rw [hJ.out]; exact ⟨hid (K.out.1.quiet ⟨1, rfl⟩), hid K.out.2⟩) ?step ?fin
    case step =>
      clear K
      intro i o b W ho hb hw K
      rw [hJ.out] at K
      simp only [drFrame, List.setIfInBounds_toArray, List.set_cons_succ, List.set_cons_zero]
      obtain ⟨K, HZ⟩ := K
      rcases i with _ | i
      · obtain rfl := Option.some.inj ho
        clear ho hb hw
        go_wp2_with (first
          | go_big_skip
          | ((with_reducible show wpList _ _ _ _ _ _); refine kgLoad1 (by rfl) 4 _ (by rfl) _ Tryz.underlying4 rfl K (by rfl) (by repeat (first | exact List.mem_cons_self | refine List.mem_cons_of_mem _ ?_)) (by rfl) ?_))
        refine ⟨rfl, rfl, ?_⟩
        rw [hJ.out]
        exact ⟨K, HZ⟩
      rcases i with _ | i
      · obtain rfl := Option.some.inj ho
        clear ho hb hw
        go_wp2_with (first
          | go_big_skip
          | ((with_reducible show wpList _ _ _ _ _ _); refine kgLoad1 (by rfl) 4 _ (by rfl) _ Tryz.underlying4 rfl K (by rfl) (by repeat (first | exact List.mem_cons_self | refine List.mem_cons_of_mem _ ?_)) (by rfl) ?_))
        refine ⟨rfl, rfl, ?_⟩
        rw [hJ.out]
        exact ⟨K, HZ⟩
      rcases i with _ | i
      · obtain rfl := Option.some.inj ho
        clear ho hb hw
        go_wp2_with (first
          | go_big_skip
          | ((with_reducible show wpList _ _ _ _ _ _); refine kgStoreT (by rfl) 4 (.tmp 4) _ (by rfl) 1 (by kernel_rfl) [_, _] (by exact K) (by rfl) (v := .bool av) (by rfl) [.bool av] (by rfl) (by rfl) (by simp) (by simp [Value.oneCell']) (cs := [_]) (by rfl) ?_; intro V2 ON4 K1; (dsimp only [List.cons_append, List.nil_append] at K1); clear K; (have K := K1); clear K1))
        refine ⟨rfl, trivial, ?_⟩
        rw [hJ.out]
        exact ⟨K, hid ((ON4.out.block D (by have := DG4.out; omega)).trans HZ.out)⟩
      rcases i with _ | i
      · obtain rfl := Option.some.inj ho
        clear ho hb hw
        go_wp2_with (first
          | go_big_skip
          | ((with_reducible show wpList _ _ _ _ _ _); refine kgStoreT (by rfl) 4 (.tmp 5) _ (by rfl) 1 (by kernel_rfl) [_] (by exact K) (by rfl) (v := .bool sv) (by rfl) [.bool sv] (by rfl) (by rfl) (by simp) (by simp [Value.oneCell']) (cs := [_]) (by rfl) ?_; intro V2 ON5 K1; (dsimp only [List.cons_append, List.nil_append] at K1); clear K; (have K := K1); clear K1))
        refine ⟨rfl, trivial, ?_⟩
        rw [hJ.out]
        exact ⟨K, hid ((ON5.out.block D (by have := DG5.out; omega)).trans HZ.out)⟩
      · cases ho
    case fin =>
      clear K
      intro b W hb K
      rw [hJ.out] at K
      simp only [drFrame, List.setIfInBounds_toArray, List.set_cons_succ, List.set_cons_zero]
      clear hb hJ
      obtain ⟨K, HZ⟩ := K
      gi_wp2_with (first
        | fail)
      have HK2 := hid HZ.out
      refine ⟨by simp, .inl ⟨D, _, rfl, run_takeDeferred HK2.out, ?_⟩⟩
      have OWN : ∀ r, some D = some r → w.heap.size ≤ r ∧ ∃ o : Obj, W.heap[r]? = some o ∧ o.isCells = false := fun r h => by injection h with h; subst h; exact ⟨DW.out, _, HK2.out, rfl⟩
      have K3 := hid (K.out.own (grownBy_putObj' W D (.deferred none)) OWN)
      refine ⟨_, results_cc Tryz.results9 (by rfl) (K3.out.load1 (off := 0) (by repeat (first | exact List.mem_cons_self | refine List.mem_cons_of_mem _ ?_)) Tryz.underlying4 rfl (by rfl)) (by rfl) (K3.out.load1 (off := 0) (by repeat (first | exact List.mem_cons_self | refine List.mem_cons_of_mem _ ?_)) Tryz.underlying4 rfl (by rfl)), ?_⟩
      rw [← RA.out]
      exact ⟨rfl, K3.out.b⟩
theorem bListed_any (hs : List Hd) (A : Option Addr) (n c C : Nat) (hn : n = hs.length) (w : World) (hd : DocAt w C A hs) (h1 : hs.length ≤ 1000) (h2 : ∀ h ∈ hs, h.l.ls.length ≤ 1000000 ∧ h.l.cs.length ≤ 1000000) (hf : ∀ h ∈ hs, FineC h.l.cs) (hT : Tb w) (al aa fl fa on off kind : Int) :
    Calls Tryz.prog 9 #[.agg #[.slice A n c, .int .i64 al, .int .i64 aa, .int .i64 fl, .int .i64 fa, .int .i64 on, .int .i64 off], .int .i64 kind] w (IsBB (listedS ⟨lnsOf hs, ⟨al, aa⟩, ⟨fl, fa⟩, on, off⟩ kind) w) := by
  cases mb : mayS ⟨lnsOf hs, ⟨al, aa⟩, ⟨fl, fa⟩, on, off⟩ with
  | false =>
    have e : listedS ⟨lnsOf hs, ⟨al, aa⟩, ⟨fl, fa⟩, on, off⟩ kind = (false, false) := by unfold listedS; rw [mb]; rfl
    rw [e]
    exact listedNo hs A n c C hn w hd h1 h2 hf hT al aa fl fa on off kind mb
  | true => exact listedYes hs A n c C hn w hd h1 h2 hf hT al aa fl fa on off kind mb
end Go.Proofs.YtblbfoniimnkcaaGreatDoor
