/- The walk of blocks.each: what is done to each line that is selected. (Printed by wip/bldoc.py.) -/
import Derived.Test.YtblbfoniimnkcaaGreatDoorBgIt
import Derived.Test.YtblbfoniimnkcaaGreatDoorTSelect
import Derived.BigQuiet
import Derived.Deep.QuietTactic
namespace Go.Proofs.YtblbfoniimnkcaaGreatDoor
open Go.RowKit Go.Lib Go.Shelf
attribute [local go_sem] Oper.semAt_some


/-- Lines turned, as they came. -/
def tF (f : Ln → Ln × Int) (d : List Ln) (pre : List It) : List Ln := pre.foldl (fun d x => if (f x.h.l).2 = 0 then d.set x.i (f x.h.l).1 else d) d
def sF (f : Ln → Ln × Int) (pre : List It) : Bool := pre.any fun x => decide ((f x.h.l).2 = 0)
theorem tF_snoc (f : Ln → Ln × Int) (d : List Ln) (pre : List It) (x : It) : tF f d (pre ++ [x]) = if (f x.h.l).2 = 0 then (tF f d pre).set x.i (f x.h.l).1 else tF f d pre := by unfold tF; rw [List.foldl_append]; rfl
theorem sF_snoc (f : Ln → Ln × Int) (pre : List It) (x : It) : sF f (pre ++ [x]) = (sF f pre || decide ((f x.h.l).2 = 0)) := by unfold sF; rw [List.any_append]; simp
theorem tF_its (f : Ln → Ln × Int) (hs : List Hd) (i : Nat) : ∀ n, i + n ≤ hs.length → tF f (lnsOf hs) (itsF hs i n) = turnsN f (lnsOf hs) i n ∧ sF f (itsF hs i n) = someN f (lnsOf hs) i n := by
  intro n
  induction n with
  | zero => intro _; exact ⟨rfl, rfl⟩
  | succ n ih =>
    intro h
    obtain ⟨h1, h2⟩ := ih (by omega)
    have hx : hs[i + n]? = some (hs[i + n]'(by omega)) := List.getElem?_eq_getElem (by omega)
    rw [itsF_step hx, tF_snoc, sF_snoc, h1, h2]
    dsimp only
    by_cases h0 : (f (hs[i + n]'(by omega)).l).2 = 0
    · obtain ⟨e1, e2⟩ := turnsN_yes f (lnsOf hs) i n (lnsOf_get hx) h0
      rw [if_pos h0, e1, e2, decide_eq_true h0, Bool.or_true]
      exact ⟨rfl, rfl⟩
    · obtain ⟨e1, e2⟩ := turnsN_no f (lnsOf hs) i n (lnsOf_get hx) h0
      rw [if_neg h0, e1, e2, decide_eq_false h0, Bool.or_false]
      exact ⟨rfl, rfl⟩
set_option maxRecDepth 100000 in
set_option maxHeartbeats 8000000 in
theorem each_no (hs : List Hd) (A : Option Addr) (n c C : Nat) (hn : n = hs.length) (w : World) (hd : DocAt w C A hs) (h1 : hs.length ≤ 1000) (h2 : ∀ h ∈ hs, h.l.ls.length ≤ 1000000 ∧ h.l.cs.length ≤ 1000000) (hf : ∀ h ∈ hs, FineC h.l.cs) (hT : Tb w) (al aa fl fa on off : Int) (fv : Value) (hfv : ∃ a b c, fv = .func a b c) (mb : mayS ⟨lnsOf hs, ⟨al, aa⟩, ⟨fl, fa⟩, on, off⟩ = false) :
    Calls Tryz.prog 27 #[.agg #[.slice A n c, .int .i64 al, .int .i64 aa, .int .i64 fl, .int .i64 fa, .int .i64 on, .int .i64 off], fv] w (RetStE (zS, 1) w) := by
  obtain ⟨fv1, fv2, fv3, rfl⟩ := hfv
  subst hn
  have D0 := hid h2
  have L0 := hid h1
  have K := hid (KG.start w [⟨hs, A, false⟩] (by simpa using hd.live))
  have T := hid hT
  have FI := hid hf
  have H2 := hid h2
  have MB := hid mb
  clear hd h2 hT hf mb
  go_enter Tryz.func27, Tryz.ntmps27
  go_wp2_with (first
    | go_big_skip
    | ((with_reducible show wpList _ _ _ _ _ _); refine kgBox (by rfl) 26 _ (by rfl) (some 2) (by rfl) (by rfl) [_, _, _, _, _, _, _] (by rfl) K ?_; intro g2 V1 K1; clear K; (have K := K1); clear K1)
    | ((with_reducible show wpList _ _ _ _ _ _); refine kgBox (by rfl) 57 _ (by rfl) (some 3) (by rfl) (v := .func fv1 fv2 fv3) (by rfl) [.func fv1 fv2 fv3] (by rfl) K ?_; intro g3 V1 K1; clear K; (have K := K1); clear K1)
    | ((with_reducible show wpList _ _ _ _ _ _); refine kgAlloc (by rfl) 26 (by rfl) (some 4) (by rfl) [.slice none 0 0, .int .i64 0, .int .i64 0, .int .i64 0, .int .i64 0, .int .i64 0, .int .i64 0] (fun _ => by kernel_rfl) K ?_; intro g4 V1 K1; clear K; (have K := K1); clear K1)
    | ((with_reducible show wpList _ _ _ _ _ _); refine kgLoadA (by rfl) 26 _ (by rfl) 7 _ Tryz.underlying26 rfl (by kernel_rfl) K (by rfl) (by repeat (first | exact List.mem_cons_self | refine List.mem_cons_of_mem _ ?_)) (part := [_, _, _, _, _, _, _]) (by rfl) (by rfl) ?_)
    | (go_at_call 21; (with_reducible refine (tMay_any hs A _ c _ rfl _ (K.out.at_ (d := ⟨hs, A, false⟩) (by simp)) h1 H2.out FI.out (Utf8Tabs_below T.out K.out.b) al aa fl fa on off).mono ?_); rintro e W2 ⟨rfl, hb⟩; rw [MB.out]; (have K2 := hid (K.out.later hb)); clear hb K; (have K := K2); clear K2)
    | ((with_reducible show wpList _ _ _ _ _ _); refine kgStore (by rfl) 26 (.tmp 4) _ (by rfl) 7 (by kernel_rfl) [] (by exact K) (by rfl) (by rfl) [_, _, _, _, _, _, _] (by rfl) (by rfl) (by simp) (by simp [Value.oneCell']) (cs := [_, _, _, _, _, _, _]) (by rfl) ?_; intro V2 K1; (dsimp only [List.cons_append, List.nil_append] at K1); clear K; (have K := K1); clear K1))
  refine bodyPost_ret (results_ct Tryz.results27 (by rfl) (K.out.loadA (off := 0) (n := 7) (by repeat (first | exact List.mem_cons_self | refine List.mem_cons_of_mem _ ?_)) Tryz.underlying26 rfl (by kernel_rfl) (part := [_, _, _, _, _, _, _]) (by rfl) (by rfl)) (by rfl)) rfl ?_
  exact ⟨none, 0, 0, [], rfl, rfl, Nat.le_refl _, rfl, DocW.nil, K.out.b⟩
set_option maxRecDepth 100000 in
set_option maxHeartbeats 16000000 in
theorem each_yes (hs : List Hd) (A : Option Addr) (n c C : Nat) (hn : n = hs.length) (w : World) (hd : DocAt w C A hs) (h1 : hs.length ≤ 1000) (h2 : ∀ h ∈ hs, h.l.ls.length ≤ 1000000 ∧ h.l.cs.length ≤ 1000000) (hf : ∀ h ∈ hs, FineC h.l.cs) (hT : Tb w) (al aa fl fa on off : Int) (fid : Nat) (lb : Array Value) (fL : Ln → Ln × Int) (hfid : ∀ v w, (callFunc fid (#[v] ++ lb)).run Tryz.prog w = .ok (.enter fid (#[v] ++ lb)) w) (hcall : ∀ (x : Hd) (W : World), x ∈ hs → Below w.heap.size w W → LnAt W W.heap.size x.l x.A x.B → Calls Tryz.prog fid (#[lnV x.l x.A x.c x.B x.d] ++ lb) W (RetLnE (fL x.l) W)) (mb : mayS ⟨lnsOf hs, ⟨al, aa⟩, ⟨fl, fa⟩, on, off⟩ = true) :
    Calls Tryz.prog 27 #[.agg #[.slice A n c, .int .i64 al, .int .i64 aa, .int .i64 fl, .int .i64 fa, .int .i64 on, .int .i64 off], .func (.func fid) #[] lb] w (RetStE (eachS fL ⟨lnsOf hs, ⟨al, aa⟩, ⟨fl, fa⟩, on, off⟩) w) := by
  obtain ⟨z1, z2, z3, z4⟩ := mayS_in mb
  have R := hid (show eachS fL ⟨lnsOf hs, ⟨al, aa⟩, ⟨fl, fa⟩, on, off⟩ = if someN fL (lnsOf hs) (fromS ⟨lnsOf hs, ⟨al, aa⟩, ⟨fl, fa⟩, on, off⟩).l.toNat ((toS ⟨lnsOf hs, ⟨al, aa⟩, ⟨fl, fa⟩, on, off⟩).l.toNat + 1 - (fromS ⟨lnsOf hs, ⟨al, aa⟩, ⟨fl, fa⟩, on, off⟩).l.toNat) then (⟨turnsN fL (lnsOf hs) (fromS ⟨lnsOf hs, ⟨al, aa⟩, ⟨fl, fa⟩, on, off⟩).l.toNat ((toS ⟨lnsOf hs, ⟨al, aa⟩, ⟨fl, fa⟩, on, off⟩).l.toNat + 1 - (fromS ⟨lnsOf hs, ⟨al, aa⟩, ⟨fl, fa⟩, on, off⟩).l.toNat), ⟨al, aa⟩, ⟨fl, fa⟩, 0, 0⟩, 0) else (zS, 7) from by unfold eachS; rw [if_pos mb])
  rw [R.out]
  clear R
  dsimp only at z3 z4
  rw [lnsOf_len] at z3 z4
  obtain ⟨f, hf0⟩ : ∃ f, (fromS ⟨lnsOf hs, ⟨al, aa⟩, ⟨fl, fa⟩, on, off⟩).l.toNat = f := ⟨_, rfl⟩
  obtain ⟨cnt, hc0⟩ : ∃ cnt, (toS ⟨lnsOf hs, ⟨al, aa⟩, ⟨fl, fa⟩, on, off⟩).l.toNat + 1 - f = cnt := ⟨_, rfl⟩
  rw [hf0, hc0]
  have YF : Hid ((fromS ⟨lnsOf hs, ⟨al, aa⟩, ⟨fl, fa⟩, on, off⟩).l = f) := hid (by omega)
  have YT : Hid ((toS ⟨lnsOf hs, ⟨al, aa⟩, ⟨fl, fa⟩, on, off⟩).l + 1 = ((f + cnt : Nat) : Int)) := hid (by omega)
  have YL : Hid (f + cnt ≤ hs.length) := hid (by omega)
  have YN : Hid (hs ≠ []) := hid (by rintro rfl; simp at z3; omega)
  obtain ⟨r, hr⟩ : ∃ r, (if someN fL (lnsOf hs) f cnt then ((⟨turnsN fL (lnsOf hs) f cnt, ⟨al, aa⟩, ⟨fl, fa⟩, 0, 0⟩, 0) : Stt × Int) else (zS, 7)) = r := ⟨_, rfl⟩
  rw [hr]
  have HR := hid hr
  clear hr
  have TF := hid (tF_its fL hs f cnt YL.out)
  have HF := hid hfid
  have CC := hid hcall
  have HD := hid hd.live
  have YW := hid (rfl : w.heap.size = w.heap.size)
  subst hn
  have D0 := hid h2
  have L0 := hid h1
  have K := hid (KG.start w [⟨hs, A, false⟩] (by simpa using hd.live))
  have T := hid hT
  have FI := hid hf
  have H2 := hid h2
  have MB := hid mb
  clear hd h2 hT hf mb hfid hcall z1 z2 z3 z4 hf0 hc0 YW
  refine (callsIn_wide (n := 6)).1 ?_
  refine callsIn_of_wp_marks Tryz.func27 rfl trivial ?_ rfl
  simp only [Tryz.ntmps27, List.size_toArray, List.length_cons, List.length_nil, Nat.reduceAdd, Nat.reduceSub, Array.replicate_succ, Array.replicate_zero, List.push_toArray, List.append_toArray, List.nil_append, List.cons_append]
  gi_wp2_with (first
    | gi_big_skip
    | ((with_reducible show wpListIn _ _ _ _ _ _ _ _); refine kiBox (by rfl) 26 _ (by rfl) (some 2) (by rfl) (by rfl) [_, _, _, _, _, _, _] (by rfl) K ?_; intro g2 V1 K1; clear K; (have K := K1); clear K1)
    | ((with_reducible show wpListIn _ _ _ _ _ _ _ _); refine kiBox (by rfl) 57 _ (by rfl) (some 3) (by rfl) (v := .func (.func fid) #[] lb) (by rfl) [.func (.func fid) #[] lb] (by rfl) K ?_; intro g3 V1 K1; clear K; (have K := K1); clear K1)
    | ((with_reducible show wpListIn _ _ _ _ _ _ _ _); refine kiAlloc (by rfl) 26 (by rfl) (some 4) (by rfl) [.slice none 0 0, .int .i64 0, .int .i64 0, .int .i64 0, .int .i64 0, .int .i64 0, .int .i64 0] (fun _ => by kernel_rfl) K ?_; intro g4 V1 K1; clear K; (have K := K1); clear K1)
    | ((with_reducible show wpListIn _ _ _ _ _ _ _ _); refine kiLoadA (by rfl) 26 _ (by rfl) 7 _ Tryz.underlying26 rfl (by kernel_rfl) K (by rfl) (by repeat (first | exact List.mem_cons_self | refine List.mem_cons_of_mem _ ?_)) (part := [_, _, _, _, _, _, _]) (by rfl) (by rfl) ?_)
    | ((first | refine ⟨trivial, (fun h => by cases h), ?_⟩ | refine ⟨trivial, ?_⟩); gi_at_call 21; (with_reducible refine (callsIn_wide.2 (tMay_any hs A _ c _ rfl _ (K.out.at_ (d := ⟨hs, A, false⟩) (by simp)) h1 H2.out FI.out (Utf8Tabs_below T.out K.out.b) al aa fl fa on off)).mono ?_); rintro e W2 ⟨rfl, hb⟩; rw [MB.out]; (have K2 := hid (K.out.later hb)); clear hb K; (have K := K2); clear K2)
    | ((first | refine ⟨trivial, (fun h => by cases h), ?_⟩ | refine ⟨trivial, ?_⟩); gi_at_call 44; (with_reducible refine (callsIn_wide.2 (tOwn_any hs A _ c _ rfl _ (K.out.at_ (d := ⟨hs, A, false⟩) (by simp)) h1 H2.out al aa fl fa on off)).mono ?_); rintro e W3 ⟨A3, n3, c3, hs3, rfl, q1, q2, q3, ho, hb3⟩; (have Q1 := hid q1); (have Q2 := hid q2); (have Q3 := hid q3); (have K2 := hid (K.out.addW hb3 ho)); clear q1 q2 q3 ho hb3 K; (have K := K2); clear K2; unfold stV; dsimp only)
    | ((with_reducible show wpListIn _ _ _ _ _ _ _ _); refine kiAlloc (by rfl) 26 (by rfl) (some 6) (by rfl) [.slice none 0 0, .int .i64 0, .int .i64 0, .int .i64 0, .int .i64 0, .int .i64 0, .int .i64 0] (fun _ => by kernel_rfl) K ?_; intro g6 V1 K1; clear K; (have K := K1); clear K1)
    | ((with_reducible show wpListIn _ _ _ _ _ _ _ _); refine kiStore (by rfl) 26 (.tmp 6) _ (by rfl) 7 (by kernel_rfl) [] (by exact K) (by rfl) (by rfl) [_, _, _, _, _, _, _] (by rfl) (by rfl) (by simp) (by simp [Value.oneCell']) (cs := [_, _, _, _, _, _, _]) (by rfl) ?_; intro V2 K1; (dsimp only [List.cons_append, List.nil_append] at K1); clear K; (have K := K1); clear K1)
    | ((with_reducible show wpListIn _ _ _ _ _ _ _ _); refine kiStore (by rfl) 3 (.tmp 18) _ (by rfl) 1 (by kernel_rfl) [] (by exact K) (by rfl) (v := .int .i64 0) (by rfl) [.int .i64 0] (by rfl) (by rfl) (by simp) (by simp [Value.oneCell']) (cs := [_, _, _, _, _, _, _]) (by rfl) ?_; intro V2 K1; (dsimp only [List.cons_append, List.nil_append] at K1); clear K; (have K := K1); clear K1)
    | ((with_reducible show wpListIn _ _ _ _ _ _ _ _); refine kiStore (by rfl) 3 (.tmp 19) _ (by rfl) 1 (by kernel_rfl) [] (by exact K) (by rfl) (v := .int .i64 0) (by rfl) [.int .i64 0] (by rfl) (by rfl) (by simp) (by simp [Value.oneCell']) (cs := [_, _, _, _, _, _, _]) (by rfl) ?_; intro V2 K1; (dsimp only [List.cons_append, List.nil_append] at K1); clear K; (have K := K1); clear K1)
    | ((with_reducible show wpListIn _ _ _ _ _ _ _ _); refine kiAlloc (by rfl) 35 (by rfl) (some 7) (by rfl) [.int .i64 0] (fun _ => by kernel_rfl) K ?_; intro g7 V1 K1; clear K; (have K := K1); clear K1)
    | ((with_reducible show wpListIn _ _ _ _ _ _ _ _); refine kiStore (by rfl) 35 (.tmp 7) _ (by rfl) 1 (by kernel_rfl) [] (by exact K) (by rfl) (v := .int .i64 7) (by rfl) [.int .i64 7] (by rfl) (by rfl) (by simp) (by simp [Value.oneCell']) (cs := [_]) (by rfl) ?_; intro V2 K1; (dsimp only [List.cons_append, List.nil_append] at K1); clear K; (have K := K1); clear K1)
    | ((first | refine ⟨trivial, (fun h => by cases h), ?_⟩ | refine ⟨trivial, ?_⟩); gi_at_call 22; (with_reducible refine (callsIn_wide.2 (selected_any (.slice A hs.length c) al aa fl fa on off ⟨_, _, _, rfl⟩ _)).mono ?_); rintro e W5 ⟨gs, rfl, hgs, hW5⟩; (have K2 := hid (K.out.new 26 [.slice A hs.length c, .int .i64 al, .int .i64 aa, .int .i64 fl, .int .i64 fa, .int .i64 on, .int .i64 off] hgs hW5)); (have LT := hid (show gs + 1 = W5.heap.size by rw [hW5, World.size_alloc, hgs])); clear hgs hW5 K; (have K := K2); clear K2))
  obtain ⟨gr, ro, cur0, eA, K2, q4, q5, q6⟩ := KG.row K.out (by intro e; have h1 := Q3.out; rw [e] at h1; exact YN.out (List.eq_nil_of_length_eq_zero (by have := congrArg List.length h1; rw [lnsOf_len, lnsOf_len] at this; exact this.symm)))
  subst eA
  have KB := hid K2
  have HL0 := hid q6
  have HC0 := hid (And.intro q4 q5)
  have N3 : Hid (hs3.length = hs.length) := hid (by rw [← lnsOf_len, Q3.out, lnsOf_len])
  have SEQ := hid (sel_seq 5 gs gs w W5 ⟨lnsOf hs, ⟨al, aa⟩, ⟨fl, fa⟩, on, off⟩ hs A c HD.out KB.out.b (KB.out.bx ⟨gs, 26, [.slice A hs.length c, .int .i64 al, .int .i64 aa, .int .i64 fl, .int .i64 fa, .int .i64 on, .int .i64 off]⟩ (by simp)).1 (Nat.le_refl _) f cnt YF.out YT.out YL.out L0.out (KB.out.bx ⟨gs, 26, [.slice A hs.length c, .int .i64 al, .int .i64 aa, .int .i64 fl, .int .i64 fa, .int .i64 on, .int .i64 off]⟩ (by simp)).2)
  have HSZ := hid KB.out.b.size
  have LGS : Hid (gs < W5.heap.size) := hid (KB.out.lt (x := ⟨gs, 26, [.slice A hs.length c, .int .i64 al, .int .i64 aa, .int .i64 fl, .int .i64 fa, .int .i64 on, .int .i64 off]⟩) (by simp))
  have NDs := hid KB.out.nd
  have LGR : Hid (gr < gs) := hid (by
    have h1 := KB.out.lt (x := ⟨gr, 46, cur0⟩) (by simp)
    have h2 := LT.out
    have h3 : gr ≠ gs := (List.pairwise_cons.1 NDs.out).1 ⟨gs, 26, [.slice A hs.length c, .int .i64 al, .int .i64 aa, .int .i64 fl, .int .i64 fa, .int .i64 on, .int .i64 off]⟩ (by simp)
    have h1' : gr < W5.heap.size := h1
    omega)
  have LG7 : Hid (g7 < gs) := hid (by
    have h1 := KB.out.lt (x := ⟨g7, 35, [.int .i64 7]⟩) (by simp)
    have h2 := LT.out
    have h3 : gs ≠ g7 := (List.pairwise_cons.1 (List.pairwise_cons.1 NDs.out).2).1 ⟨g7, 35, [.int .i64 7]⟩ (by simp)
    have h1' : g7 < W5.heap.size := h1
    omega)
  have LG4 : Hid (g4 < W5.heap.size) := hid (KB.out.lt (x := ⟨g4, 26, [.slice none 0 0, .int .i64 0, .int .i64 0, .int .i64 0, .int .i64 0, .int .i64 0, .int .i64 0]⟩) (by simp))
  have LWR : Hid (w.heap.size ≤ gr) := hid (KB.out.bx ⟨gr, 46, cur0⟩ (by simp)).1
  have LW7 : Hid (w.heap.size ≤ g7) := hid (KB.out.bx ⟨g7, 35, [.int .i64 7]⟩ (by simp)).1
  have I0 : (fun (pre : List (ItV hs)) (W : World) => ∃ (cur : List Value) (rs : List Hd) (e : Int), Hid (KG w W [⟨gr, 46, cur⟩, ⟨gs, 26, [.slice A hs.length c, .int .i64 al, .int .i64 aa, .int .i64 fl, .int .i64 fa, .int .i64 on, .int .i64 off]⟩, ⟨g7, 35, [.int .i64 e]⟩, ⟨g6, 26, [.slice (some ⟨gr, ro, none⟩) n3 c3, .int .i64 al, .int .i64 aa, .int .i64 fl, .int .i64 fa, .int .i64 0, .int .i64 0]⟩, ⟨g4, 26, [.slice none 0 0, .int .i64 0, .int .i64 0, .int .i64 0, .int .i64 0, .int .i64 0, .int .i64 0]⟩, ⟨g3, 57, [.func (.func fid) #[] lb]⟩, ⟨g2, 26, [.slice A hs.length c, .int .i64 al, .int .i64 aa, .int .i64 fl, .int .i64 fa, .int .i64 on, .int .i64 off]⟩] []) ∧ Hid (∀ x ∈ rs, HdW W w.heap.size x) ∧ Hid (ro + rs.length * 4 ≤ cur.length ∧ (cur.drop ro).take (rs.length * 4) = rs.flatMap encH) ∧ Hid (rs.length = hs.length) ∧ Hid (lnsOf rs = tF fL (lnsOf hs) (pre.map (·.1))) ∧ Hid (e = if sF fL (pre.map (·.1)) then 0 else 7)) [] W5 := ⟨cur0, hs3, 7, KB, HL0, HC0, N3, hid Q3.out, hid rfl⟩
  have OI : ∀ B, w.heap.size ≤ B → OwnFrom B (fun (pre : List (ItV hs)) (W : World) => ∃ (cur : List Value) (rs : List Hd) (e : Int), Hid (KG w W [⟨gr, 46, cur⟩, ⟨gs, 26, [.slice A hs.length c, .int .i64 al, .int .i64 aa, .int .i64 fl, .int .i64 fa, .int .i64 on, .int .i64 off]⟩, ⟨g7, 35, [.int .i64 e]⟩, ⟨g6, 26, [.slice (some ⟨gr, ro, none⟩) n3 c3, .int .i64 al, .int .i64 aa, .int .i64 fl, .int .i64 fa, .int .i64 0, .int .i64 0]⟩, ⟨g4, 26, [.slice none 0 0, .int .i64 0, .int .i64 0, .int .i64 0, .int .i64 0, .int .i64 0, .int .i64 0]⟩, ⟨g3, 57, [.func (.func fid) #[] lb]⟩, ⟨g2, 26, [.slice A hs.length c, .int .i64 al, .int .i64 aa, .int .i64 fl, .int .i64 fa, .int .i64 on, .int .i64 off]⟩] []) ∧ Hid (∀ x ∈ rs, HdW W w.heap.size x) ∧ Hid (ro + rs.length * 4 ≤ cur.length ∧ (cur.drop ro).take (rs.length * 4) = rs.flatMap encH) ∧ Hid (rs.length = hs.length) ∧ Hid (lnsOf rs = tF fL (lnsOf hs) (pre.map (·.1))) ∧ Hid (e = if sF fL (pre.map (·.1)) then 0 else 7)) := by
    rintro B hB pre V V' row ⟨cur, rs, e, K, HL, HC, HN, HT, HE⟩ hg hr
    exact ⟨cur, rs, e, hid (K.out.own hg fun r h => ⟨Nat.le_trans hB (hr r h).1, (hr r h).2⟩), hid (fun x hx => (HL.out x hx).own hg fun r h => (hr r h).2), HC, HN, HT, HE⟩
  replace I0 := hid I0
  replace OI := hid OI
  clear K K2 q4 q5 q6 KB HL0 HC0 NDs D0 H2 MB Q3
  refine wpIn_rangeFunc_ownH rfl (by omega) (gf := 38) (lb := #[.pointer (some ⟨gs, 0, none⟩)]) rfl trivial (enters_of Tryz.func38 (by kernel_rfl) rfl)
    SEQ.out KpS.trans (KpS.put HSZ.out) (Below.refl _ _) ?hps
    (fun pre W => ∃ (cur : List Value) (rs : List Hd) (e : Int), Hid (KG w W [⟨gr, 46, cur⟩, ⟨gs, 26, [.slice A hs.length c, .int .i64 al, .int .i64 aa, .int .i64 fl, .int .i64 fa, .int .i64 on, .int .i64 off]⟩, ⟨g7, 35, [.int .i64 e]⟩, ⟨g6, 26, [.slice (some ⟨gr, ro, none⟩) n3 c3, .int .i64 al, .int .i64 aa, .int .i64 fl, .int .i64 fa, .int .i64 0, .int .i64 0]⟩, ⟨g4, 26, [.slice none 0 0, .int .i64 0, .int .i64 0, .int .i64 0, .int .i64 0, .int .i64 0, .int .i64 0]⟩, ⟨g3, 57, [.func (.func fid) #[] lb]⟩, ⟨g2, 26, [.slice A hs.length c, .int .i64 al, .int .i64 aa, .int .i64 fl, .int .i64 fa, .int .i64 on, .int .i64 off]⟩] []) ∧ Hid (∀ x ∈ rs, HdW W w.heap.size x) ∧ Hid (ro + rs.length * 4 ≤ cur.length ∧ (cur.drop ro).take (rs.length * 4) = rs.flatMap encH) ∧ Hid (rs.length = hs.length) ∧ Hid (lnsOf rs = tF fL (lnsOf hs) (pre.map (·.1))) ∧ Hid (e = if sF fL (pre.map (·.1)) then 0 else 7)) (fun _ _ _ => False) (OI.out _ HSZ.out) (fun _ _ _ _ _ hs _ _ => hs)
    I0.out
    (fun x a' W => ∃ g9, W.heap[g9]? = some (.cells #[.int .i64 x.1.h.l.q, .slice x.1.h.A x.1.h.l.ls.length x.1.h.c, .int .i64 x.1.h.l.k, .slice x.1.h.B x.1.h.l.cs.length x.1.h.d] 46 (0, 0)) ∧ a' = { tmps := #[.agg #[.slice A hs.length c, .int .i64 al, .int .i64 aa, .int .i64 fl, .int .i64 fa, .int .i64 on, .int .i64 off], .func (.func fid) #[] lb, .pointer (some ⟨g2, 0, none⟩), .pointer (some ⟨g3, 0, none⟩), .pointer (some ⟨g4, 0, none⟩), .int .i64 0, .pointer (some ⟨g6, 0, none⟩), .pointer (some ⟨g7, 0, none⟩), .int .i64 x.1.i, .pointer (some ⟨g9, 0, none⟩), undef, undef, .agg #[.slice A hs.length c, .int .i64 al, .int .i64 aa, .int .i64 fl, .int .i64 fa, .int .i64 on, .int .i64 off], .bool true, .bool false, undef, .agg #[.slice A hs.length c, .int .i64 al, .int .i64 aa, .int .i64 fl, .int .i64 fa, .int .i64 on, .int .i64 off], .agg #[.slice (some ⟨gr, ro, none⟩) n3 c3, .int .i64 al, .int .i64 aa, .int .i64 fl, .int .i64 fa, .int .i64 on, .int .i64 off], .pointer (some ⟨g6, 5, none⟩), .pointer (some ⟨g6, 6, none⟩), .agg #[.slice A hs.length c, .int .i64 al, .int .i64 aa, .int .i64 fl, .int .i64 fa, .int .i64 on, .int .i64 off], .func (.func 38) #[] #[.pointer (some ⟨gs, 0, none⟩)], .int .i64 x.1.i, .agg #[.int .i64 x.1.h.l.q, .slice x.1.h.A x.1.h.l.ls.length x.1.h.c, .int .i64 x.1.h.l.k, .slice x.1.h.B x.1.h.l.cs.length x.1.h.d], undef, undef, undef, undef, undef, undef, undef, undef, undef, undef, undef, undef, undef, undef, undef, undef, undef, undef], defers := [] })
    (fun x a' _ X Y row hs hg hr => by
      obtain ⟨g9, h1, h2⟩ := hs
      refine ⟨g9, (hg.block g9 (Array.getElem?_eq_some_iff.1 h1).1 ?_).trans h1, h2⟩
      rintro rfl
      obtain ⟨_, o, ho, hc⟩ := hr _ rfl
      rw [h1] at ho
      injection ho with ho
      subst ho
      cases hc)
    ?assign ?body ?done ?stop
  case hps => intro x; rfl
  case assign =>
    rintro l pre x W KX hI hKX
    have HI := hid hI
    have HX := hid hKX
    have SZ : Hid (W5.heap.size ≤ W.heap.size) := hid (by
      obtain ⟨cur, rs, e, K, -⟩ := HI.out
      have h1 := K.out.lt (x := ⟨gs, 26, [.slice A hs.length c, .int .i64 al, .int .i64 aa, .int .i64 fl, .int .i64 fa, .int .i64 on, .int .i64 off]⟩) (by simp)
      have h2 := LT.out
      have h1' : gs < W.heap.size := h1
      omega)
    have K := hid (KG.start W [] (by simp))
    clear hI hKX
    dsimp only [encsI]
    simp only [List.zip_toArray, List.zip_cons_cons, List.zip_nil_right, List.foldl_toArray, List.foldl_cons, List.foldl_nil, List.setIfInBounds_toArray, List.set_cons_succ, List.set_cons_zero]
    gi_wp2_with (first
      | gi_big_skip
      | ((with_reducible show wpListIn _ _ _ _ _ _ _ _); refine kiAlloc (by rfl) 46 (by rfl) (some 9) (by rfl) [.int .i64 0, .slice none 0 0, .int .i64 0, .slice none 0 0] (fun _ => by kernel_rfl) K ?_; intro g9 V1 K1; clear K; (have K := K1); clear K1)
      | ((with_reducible show wpListIn _ _ _ _ _ _ _ _); refine kiStore (by rfl) 46 (.tmp 9) _ (by rfl) 4 (by kernel_rfl) [] (by exact K) (by rfl) (by rfl) [_, _, _, _] (by rfl) (by rfl) (by simp) (by simp [Value.oneCell']) (cs := [_, _, _, _]) (by rfl) ?_; intro V2 K1; (dsimp only [List.cons_append, List.nil_append] at K1); clear K; (have K := K1); clear K1))
    exact HX.out _ _ (KeepsFrom.below K.out.b) (KpS.later K.out.b (Nat.le_trans HSZ.out SZ.out)) (OI.out _ (Nat.le_refl _) pre W V2 none HI.out (grownB K.out.b) (fun r h => by cases h)) ⟨g9, (K.out.bx ⟨g9, 46, [.int .i64 x.1.h.l.q, .slice x.1.h.A x.1.h.l.ls.length x.1.h.c, .int .i64 x.1.h.l.k, .slice x.1.h.B x.1.h.l.cs.length x.1.h.d]⟩ (by simp)).2, rfl⟩
  case body =>
    rintro l pre x a' W hl' ⟨r', hr'⟩ ⟨cur, rs, e, KO, HL, HC, HN, HT, HE⟩ ⟨g9, hg9, rfl⟩ hlt
    have SZ : Hid (W5.heap.size ≤ W.heap.size) := hid (by have := (Array.getElem?_eq_some_iff.1 hr').1; omega)
    have K := hid (KG.start W [] (by simp))
    have G9 := hid hg9
    have L9 := hid (Array.getElem?_eq_some_iff.1 hg9).1
    have XI : Hid (x.1.i < hs.length) := hid (List.getElem?_eq_some_iff.1 x.2).1
    have XM : Hid (x.1.h ∈ hs) := hid (List.mem_of_getElem? x.2)
    have BW : Hid (Below w.heap.size w W) := hid KO.out.b
    have hi1 : (x.1.i : Int) < (n3 : Int) := by have h1 := Q1.out; have h2 := N3.out; have h3 := XI.out; omega
    obtain ⟨⟨m, ec⟩, hfl⟩ : ∃ z, fL x.1.h.l = z := ⟨_, rfl⟩
    have FL := hid hfl
    have C1 := hid (CC.out x.1.h)
    rw [FL.out] at C1
    have LX := hid (HD.out.ln x.2)
    clear hfl hr' hlt hl' hg9
    by_cases h0 : ec = 0
    · subst h0
      have SS1 := hid (sF_snoc fL (pre.map (·.1)) x.1)
      have TS1 := hid (tF_snoc fL (lnsOf hs) (pre.map (·.1)) x.1)
      rw [FL.out] at SS1 TS1
      obtain ⟨y, hy⟩ : ∃ y, rs[x.1.i]? = some y := ⟨_, List.getElem?_eq_getElem (by rw [HN.out]; exact XI.out)⟩
      have HY := hid hy
      have HLE : Hid (ro + x.1.i * 4 + 4 ≤ cur.length) := hid (by have h1 := HC.out.1; have h2 := HN.out; have h3 := XI.out; omega)
      clear hy
      gi_wp2_with (first
        | gi_big_skip
        | ((with_reducible show wpListIn _ _ _ _ _ _ _ _); refine kiOld1 (by rfl) 57 (.tmp 3) (by rfl) _ Tryz.underlying57 rfl KO K (by rfl) (by repeat (first | exact List.mem_cons_self | refine List.mem_cons_of_mem _ ?_)) (v := .func (.func fid) #[] lb) (by rfl) ?_)
        | ((with_reducible show wpListIn _ _ _ _ _ _ _ _); refine wpListIn_loadV (by rfl) 46 (.tmp 9) (by rfl) (by rfl) (run_loadVar_row _ g9 46 46 _ (0, 0) _ ((K.out.b.block g9 L9.out).trans G9.out) Tryz.underlying46 rfl (by kernel_rfl)) ?_)
        | ((with_reducible show wpListIn _ _ _ _ _ _ _ _); refine kiCallV (by rfl) (.tmp 25) (.tmp 26) _ (by rfl) (fid := fid) (lb := lb) (by rfl) (v := lnV x.1.h.l x.1.h.A x.1.h.c x.1.h.B x.1.h.d) (by rfl) (fun w => HF.out _ w) (fun _ => trivial) (fun h => by cases h) (CallsIn.inRound l (callsIn_wide.2 (C1.out _ XM.out (BW.out.trans (K.out.b.mono BW.out.size)) ((LX.out.belowM (BW.out.trans (K.out.b.mono BW.out.size)) (Nat.le_refl _)).live)))) ?_; rintro e0 W3 ⟨A9, c9, B9, d9, rfl, le1, le2, wr, hb3⟩; refine ⟨_, rfl, ?_⟩; (have HX9 : Hid (HdW W3 w.heap.size (⟨m, A9, c9, B9, d9⟩ : Hd)) := hid ⟨wr.based (Nat.le_trans BW.out.size K.out.b.size), le1, le2⟩); clear le1 le2 wr; simp only [lnV]; (have B3 := hid (K.out.b.trans (hb3.mono K.out.b.size))); (have K2 := hid (K.out.later hb3)); clear hb3 K; (have K := K2); clear K2)
        | ((with_reducible show wpListIn _ _ _ _ _ _ _ _); refine kiAllocB (by rfl) 46 (by rfl) (some 10) (by rfl) [.int .i64 0, .slice none 0 0, .int .i64 0, .slice none 0 0] (fun _ => by kernel_rfl) K ?_; intro g10 V1 BA1 K1; clear K; (have K := K1); clear K1; (have HXA := hid (HX9.out.later BA1.out)))
        | ((with_reducible show wpListIn _ _ _ _ _ _ _ _); (have KQ := K); refine kiStoreT (by rfl) 46 (.tmp 10) _ (by rfl) 4 (by kernel_rfl) [] (by exact K) (by rfl) (by rfl) [_, _, _, _] (by rfl) (by rfl) (by simp) (by simp [Value.oneCell']) (cs := [_, _, _, _]) (by rfl) ?_; intro V2 ON0 K1; (dsimp only [List.cons_append, List.nil_append] at K1); clear K; (have K := K1); clear K1; (have E0 := hid (KQ.out.bx ⟨g10, 46, [.int .i64 0, .slice none 0 0, .int .i64 0, .slice none 0 0]⟩ (by simp)).2); (have HXB := hid (HXA.out.onl (t := 46) ON0.out E0.out (by decide) (by decide))); clear KQ E0)
        | ((with_reducible show wpListIn _ _ _ _ _ _ _ _); refine kiOld1 (by rfl) 22 (.tmp 32) (by rfl) _ Tryz.underlying22 rfl KO K (by rfl) (by repeat (first | exact List.mem_cons_self | refine List.mem_cons_of_mem _ ?_)) (v := .slice (some ⟨gr, ro, none⟩) n3 c3) (by rfl) ?_)
        | ((with_reducible show wpListIn _ _ _ _ _ _ _ _); refine kiLoadA (by rfl) 46 _ (by rfl) 4 _ Tryz.underlying46 rfl (by kernel_rfl) K (by rfl) (by repeat (first | exact List.mem_cons_self | refine List.mem_cons_of_mem _ ?_)) (part := [_, _, _, _]) (by rfl) (by rfl) ?_)
        | ((with_reducible show wpListIn _ _ _ _ _ _ _ _); (have B4 := hid K.out.b); (have KM := hid (KO.out.merge K.out)); refine kiStoreT (by rfl) 46 (.tmp 36) _ (by rfl) 4 (by kernel_rfl) [_] (by exact KM) (off := ro + x.1.i * 4) (by rfl) (by rfl) [_, _, _, _] (by rfl) (by rfl) HLE.out (by simp [Value.oneCell']) (cs := set2 cur (ro + x.1.i * 4) (encH (⟨m, A9, c9, B9, d9⟩ : Hd))) (by rfl) ?_; intro V2 ON1 K1; (dsimp only [List.cons_append, List.nil_append] at K1); clear K; (have KM1 := KM); clear KM; (have K := K1); clear K1)
        | ((with_reducible show wpListIn _ _ _ _ _ _ _ _); (have KP := K); refine kiStoreT (by rfl) 35 (.tmp 7) _ (by rfl) 1 (by kernel_rfl) [_, _, _] (by exact K) (by rfl) (v := .int .i64 0) (by rfl) [.int .i64 0] (by rfl) (by rfl) (by simp) (by simp [Value.oneCell']) (cs := [_]) (by rfl) ?_; intro V2 ON2 K1; (dsimp only [List.cons_append, List.nil_append] at K1); clear K; (have K := K1); clear K1))
      have E1 := hid (KM1.out.bx ⟨gr, 46, cur⟩ (by simp)).2
      have E2 := hid (KP.out.bx ⟨g7, 35, [.int .i64 e]⟩ (by simp)).2
      refine ⟨KeepsFrom.onl (KeepsFrom.onl (KeepsFrom.below B4.out) ON1.out (Nat.lt_trans LGR.out LGS.out)) ON2.out (Nat.lt_trans LG7.out LGS.out), ((KpS.later B4.out BW.out.size).onl ON1.out LWR.out LGR.out).onl ON2.out LW7.out LG7.out,
        _, rs.set x.1.i ⟨m, A9, c9, B9, d9⟩, 0, hid (K.out.less (List.sublist_cons_self _ _) (fun d h => h)), hid (fun z hz => ?_), hid (set2_row HC.out.1 HC.out.2 HY.out), hid (by rw [List.length_set]; exact HN.out), hid ?_, hid ?_⟩
      · have st : ∀ z, HdW _ w.heap.size z → HdW _ w.heap.size z := fun z hz => (hz.onl (t := 46) ON1.out E1.out (by decide) (by decide)).onl (t := 35) ON2.out E2.out (by decide) (by decide)
        rcases List.mem_or_eq_of_mem_set hz with hz | rfl
        · exact st _ ((HL.out z hz).later B4.out)
        · exact st _ HXB.out
      · show lnsOf (rs.set x.1.i ⟨m, A9, c9, B9, d9⟩) = tF fL (lnsOf hs) ((pre ++ [x]).map (·.1))
        rw [List.map_append]
        show lnsOf (rs.set x.1.i ⟨m, A9, c9, B9, d9⟩) = tF fL (lnsOf hs) (pre.map (·.1) ++ [x.1])
        rw [TS1.out, ← HT.out]
        unfold lnsOf
        rw [List.map_set]
        rfl
      · show (0 : Int) = if sF fL ((pre ++ [x]).map (·.1)) = true then 0 else 7
        rw [List.map_append]
        show (0 : Int) = if sF fL (pre.map (·.1) ++ [x.1]) = true then 0 else 7
        rw [SS1.out]
        simp
    · have b0 : (ec == 0) = false := beq_eq_false_iff_ne.2 h0
      have SS1 := hid (sF_snoc fL (pre.map (·.1)) x.1)
      have TS1 := hid (tF_snoc fL (lnsOf hs) (pre.map (·.1)) x.1)
      rw [FL.out] at SS1 TS1
      dsimp only at SS1 TS1
      have N0 := hid h0
      clear h0
      gi_wp2_with (first
        | gi_big_skip
        | ((with_reducible show wpListIn _ _ _ _ _ _ _ _); refine kiOld1 (by rfl) 57 (.tmp 3) (by rfl) _ Tryz.underlying57 rfl KO K (by rfl) (by repeat (first | exact List.mem_cons_self | refine List.mem_cons_of_mem _ ?_)) (v := .func (.func fid) #[] lb) (by rfl) ?_)
        | ((with_reducible show wpListIn _ _ _ _ _ _ _ _); refine wpListIn_loadV (by rfl) 46 (.tmp 9) (by rfl) (by rfl) (run_loadVar_row _ g9 46 46 _ (0, 0) _ ((K.out.b.block g9 L9.out).trans G9.out) Tryz.underlying46 rfl (by kernel_rfl)) ?_)
        | ((with_reducible show wpListIn _ _ _ _ _ _ _ _); refine kiCallV (by rfl) (.tmp 25) (.tmp 26) _ (by rfl) (fid := fid) (lb := lb) (by rfl) (v := lnV x.1.h.l x.1.h.A x.1.h.c x.1.h.B x.1.h.d) (by rfl) (fun w => HF.out _ w) (fun _ => trivial) (fun h => by cases h) (CallsIn.inRound l (callsIn_wide.2 (C1.out _ XM.out (BW.out.trans (K.out.b.mono BW.out.size)) ((LX.out.belowM (BW.out.trans (K.out.b.mono BW.out.size)) (Nat.le_refl _)).live)))) ?_; rintro e0 W3 ⟨A9, c9, B9, d9, rfl, le1, le2, wr, hb3⟩; refine ⟨_, rfl, ?_⟩; (have HX9 : Hid (HdW W3 w.heap.size (⟨m, A9, c9, B9, d9⟩ : Hd)) := hid ⟨wr.based (Nat.le_trans BW.out.size K.out.b.size), le1, le2⟩); clear le1 le2 wr; simp only [lnV]; (have B3 := hid (K.out.b.trans (hb3.mono K.out.b.size))); (have K2 := hid (K.out.later hb3)); clear hb3 K; (have K := K2); clear K2)
        | ((with_reducible show wpListIn _ _ _ _ _ _ _ _); refine kiAlloc (by rfl) 46 (by rfl) (some 10) (by rfl) [.int .i64 0, .slice none 0 0, .int .i64 0, .slice none 0 0] (fun _ => by kernel_rfl) K ?_; intro g10 V1 K1; clear K; (have K := K1); clear K1)
        | ((with_reducible show wpListIn _ _ _ _ _ _ _ _); refine kiStore (by rfl) 46 (.tmp 10) _ (by rfl) 4 (by kernel_rfl) [] (by exact K) (by rfl) (by rfl) [_, _, _, _] (by rfl) (by rfl) (by simp) (by simp [Value.oneCell']) (cs := [_, _, _, _]) (by rfl) ?_; intro V2 K1; (dsimp only [List.cons_append, List.nil_append] at K1); clear K; (have K := K1); clear K1))
      have B4 := hid K.out.b
      refine ⟨KeepsFrom.below B4.out, KpS.later B4.out BW.out.size, cur, rs, e, hid ((KO.out.merge K.out).less (List.sublist_cons_self _ _) (fun d h => h)), hid (fun z hz => (HL.out z hz).later B4.out), HC, HN, hid ?_, hid ?_⟩
      · show lnsOf rs = tF fL (lnsOf hs) ((pre ++ [x]).map (·.1))
        rw [List.map_append]
        show lnsOf rs = tF fL (lnsOf hs) (pre.map (·.1) ++ [x.1])
        rw [TS1.out, if_neg N0.out]
        exact HT.out
      · show e = if sF fL ((pre ++ [x]).map (·.1)) = true then 0 else 7
        rw [List.map_append]
        show e = if sF fL (pre.map (·.1) ++ [x.1]) = true then 0 else 7
        rw [SS1.out, decide_eq_false N0.out, Bool.or_false]
        exact HE.out
  case stop =>
    rintro D c' pre W _ _ h _
    exact h.elim
  case done =>
    rintro D ys W hD hS ⟨cur, rs, e, K, HL, HC, HN, HT, HE⟩ hK
    have HKD := hid hK
    have BD := hid hD
    have HT2 := hid HT.out
    rw [hS, TF.out.1] at HT2
    have HE2 := hid HE.out
    rw [hS, TF.out.2] at HE2
    have G4L : Hid (g4 < D) := hid (Nat.lt_of_lt_of_le LG4.out BD.out)
    have DW : Hid (w.heap.size ≤ D) := hid (Nat.le_trans HSZ.out BD.out)
    clear hK hD HT HE hS
    have HRr := HR.out
    cases hsm : someN fL (lnsOf hs) f cnt with
    | true =>
      rw [hsm] at HRr HE2
      simp only [if_true] at HRr HE2
      subst HRr
      obtain rfl : e = 0 := HE2
      clear HR hsm
      gi_wp2_with (first
        | gi_big_skip
        | ((with_reducible show wpListIn _ _ _ _ _ _ _ _); refine kiLoad1 (by rfl) 35 _ (by rfl) _ Tryz.underlying35 rfl K (by rfl) (by repeat (first | exact List.mem_cons_self | refine List.mem_cons_of_mem _ ?_)) (by rfl) ?_)
        | ((with_reducible show wpListIn _ _ _ _ _ _ _ _); refine kiLoadA (by rfl) 26 _ (by rfl) 7 _ Tryz.underlying26 rfl (by kernel_rfl) K (by rfl) (by repeat (first | exact List.mem_cons_self | refine List.mem_cons_of_mem _ ?_)) (part := [_, _, _, _, _, _, _]) (by rfl) (by rfl) ?_)
        | ((with_reducible show wpListIn _ _ _ _ _ _ _ _); (have KQ := K); refine kiStoreT (by rfl) 26 (.tmp 4) _ (by rfl) 7 (by kernel_rfl) [_, _, _, _] (by exact K) (by rfl) (by rfl) [_, _, _, _, _, _, _] (by rfl) (by rfl) (by simp) (by simp [Value.oneCell']) (cs := [_, _, _, _, _, _, _]) (by rfl) ?_; intro V2 ON4 K1; (dsimp only [List.cons_append, List.nil_append] at K1); clear K; (have K := K1); clear K1; (have E4 := hid (KQ.out.bx ⟨g4, 26, [.slice none 0 0, .int .i64 0, .int .i64 0, .int .i64 0, .int .i64 0, .int .i64 0, .int .i64 0]⟩ (by simp)).2); clear KQ))
      have HK2 := hid ((ON4.out.block D (by have := G4L.out; omega)).trans HKD.out)
      refine ⟨by simp, .inl ⟨D, _, rfl, run_takeDeferred HK2.out, ?_⟩⟩
      have OWN : ∀ r, some D = some r → w.heap.size ≤ r ∧ ∃ o : Obj, V2.heap[r]? = some o ∧ o.isCells = false := fun r h => by injection h with h; subst h; exact ⟨DW.out, _, HK2.out, rfl⟩
      have K3 := hid (K.out.own (grownBy_putObj' V2 D (.deferred none)) OWN)
      refine ⟨_, results_ct Tryz.results27 (by rfl) (K3.out.loadA (off := 0) (n := 7) (by repeat (first | exact List.mem_cons_self | refine List.mem_cons_of_mem _ ?_)) Tryz.underlying26 rfl (by kernel_rfl) (part := [_, _, _, _, _, _, _]) (by rfl) (by rfl)) (by rfl), ?_⟩
      refine ⟨some ⟨gr, ro, none⟩, n3, c3, rs, rfl, by rw [Q1.out, N3.out, HN.out], Q2.out, HT2, ⟨K3.out.wr (cur := cur) (by simp) HC.out.1 HC.out.2, fun z hz => ?_⟩, K3.out.b⟩
      exact ((HL.out z hz).onl (t := 26) ON4.out E4.out (by decide) (by decide)).own (grownBy_putObj' V2 D (.deferred none)) fun r h => (OWN r h).2
    | false =>
      rw [hsm] at HRr HE2
      simp only [Bool.false_eq_true, if_false] at HRr HE2
      subst HRr
      obtain rfl : e = 7 := HE2
      clear HR hsm
      gi_wp2_with (first
        | gi_big_skip
        | ((with_reducible show wpListIn _ _ _ _ _ _ _ _); refine kiLoad1 (by rfl) 35 _ (by rfl) _ Tryz.underlying35 rfl K (by rfl) (by repeat (first | exact List.mem_cons_self | refine List.mem_cons_of_mem _ ?_)) (by rfl) ?_))
      refine wpIn_wide.2 ?_
      have K := hid (And.intro K.out HKD.out)
      obtain ⟨J, hJ⟩ : ∃ J : (Nat → Bool) → World → Prop, J = fun _ W => (Hid (KG w W [⟨gr, 46, cur⟩, ⟨gs, 26, [.slice A hs.length c, .int .i64 al, .int .i64 aa, .int .i64 fl, .int .i64 fa, .int .i64 on, .int .i64 off]⟩, ⟨g7, 35, [.int .i64 7]⟩, ⟨g6, 26, [.slice (some ⟨gr, ro, none⟩) n3 c3, .int .i64 al, .int .i64 aa, .int .i64 fl, .int .i64 fa, .int .i64 0, .int .i64 0]⟩, ⟨g4, 26, [.slice none 0 0, .int .i64 0, .int .i64 0, .int .i64 0, .int .i64 0, .int .i64 0, .int .i64 0]⟩, ⟨g3, 57, [.func (.func fid) #[] lb]⟩, ⟨g2, 26, [.slice A hs.length c, .int .i64 al, .int .i64 aa, .int .i64 fl, .int .i64 fa, .int .i64 on, .int .i64 off]⟩] []) ∧ Hid (W.heap[D]? = some (.deferred (some [])) ∧ ∀ z ∈ rs, HdW W w.heap.size z)) := ⟨_, rfl⟩
      replace hJ := hid hJ
      refine wp_drawn_det [.agg #[.slice none 0 0, .int .i64 0, .int .i64 0, .int .i64 0, .int .i64 0, .int .i64 0, .int .i64 0], .int .i64 7, undef, .int .i64 7] (by kernel_rfl) (by kernel_rfl) rfl J (by rw [hJ.out]; exact ⟨hid (K.out.1.quiet ⟨1, rfl⟩), hid ⟨K.out.2, fun z hz => (HL.out z hz).later (below_drewN (Below.refl _ W) 1)⟩⟩) ?step ?fin
      case step =>
        clear K
        intro i o b W ho hb hw K
        rw [hJ.out] at K
        simp only [drFrame, List.setIfInBounds_toArray, List.set_cons_succ, List.set_cons_zero]
        obtain ⟨K, HZ⟩ := K
        rcases i with _ | i
        · obtain rfl := Option.some.inj ho
          clear ho hb hw
          go_wp2_with (first
            | fail)
          refine ⟨rfl, rfl, ?_⟩
          rw [hJ.out]
          exact ⟨K, HZ⟩
        rcases i with _ | i
        · obtain rfl := Option.some.inj ho
          clear ho hb hw
          go_wp2_with (first
            | go_big_skip
            | ((with_reducible show wpList _ _ _ _ _ _); refine kgLoad1 (by rfl) 35 _ (by rfl) _ Tryz.underlying35 rfl K (by rfl) (by repeat (first | exact List.mem_cons_self | refine List.mem_cons_of_mem _ ?_)) (by rfl) ?_))
          refine ⟨rfl, rfl, ?_⟩
          rw [hJ.out]
          exact ⟨K, HZ⟩
        rcases i with _ | i
        · obtain rfl := Option.some.inj ho
          clear ho hb hw
          go_wp2_with (first
            | go_big_skip
            | ((with_reducible show wpList _ _ _ _ _ _); (have KQ := K); refine kgStoreT (by rfl) 26 (.tmp 4) _ (by rfl) 7 (by kernel_rfl) [_, _, _, _] (by exact K) (by rfl) (by rfl) [_, _, _, _, _, _, _] (by rfl) (by rfl) (by simp) (by simp [Value.oneCell']) (cs := [_, _, _, _, _, _, _]) (by rfl) ?_; intro V2 ON4 K1; (dsimp only [List.cons_append, List.nil_append] at K1); clear K; (have K := K1); clear K1; (have E4 := hid (KQ.out.bx ⟨g4, 26, [.slice none 0 0, .int .i64 0, .int .i64 0, .int .i64 0, .int .i64 0, .int .i64 0, .int .i64 0]⟩ (by simp)).2); clear KQ))
          refine ⟨rfl, trivial, ?_⟩
          rw [hJ.out]
          exact ⟨K, hid ⟨(ON4.out.block D (by have := G4L.out; omega)).trans HZ.out.1, fun z hz => (HZ.out.2 z hz).onl (t := 26) ON4.out E4.out (by decide) (by decide)⟩⟩
        rcases i with _ | i
        · obtain rfl := Option.some.inj ho
          clear ho hb hw
          go_wp2_with (first
            | fail)
          refine ⟨rfl, rfl, ?_⟩
          rw [hJ.out]
          exact ⟨K, HZ⟩
        · cases ho
      case fin =>
        clear K
        intro b W hb K
        rw [hJ.out] at K
        simp only [drFrame, List.setIfInBounds_toArray, List.set_cons_succ, List.set_cons_zero]
        clear hb hJ
        obtain ⟨K, HZ⟩ := K
        gi_wp2_with (first
          | fail)
        have HK2 := hid HZ.out.1
        refine ⟨by simp, .inl ⟨D, _, rfl, run_takeDeferred HK2.out, ?_⟩⟩
        have OWN : ∀ r, some D = some r → w.heap.size ≤ r ∧ ∃ o : Obj, W.heap[r]? = some o ∧ o.isCells = false := fun r h => by injection h with h; subst h; exact ⟨DW.out, _, HK2.out, rfl⟩
        have K3 := hid (K.out.own (grownBy_putObj' W D (.deferred none)) OWN)
        refine ⟨_, results_ct Tryz.results27 (by rfl) (K3.out.loadA (off := 0) (n := 7) (by repeat (first | exact List.mem_cons_self | refine List.mem_cons_of_mem _ ?_)) Tryz.underlying26 rfl (by kernel_rfl) (part := [_, _, _, _, _, _, _]) (by rfl) (by rfl)) (by rfl), ?_⟩
        exact ⟨none, 0, 0, [], rfl, rfl, Nat.le_refl _, rfl, DocW.nil, K3.out.b⟩
theorem each_any (hs : List Hd) (A : Option Addr) (n c C : Nat) (hn : n = hs.length) (w : World) (hd : DocAt w C A hs) (h1 : hs.length ≤ 1000) (h2 : ∀ h ∈ hs, h.l.ls.length ≤ 1000000 ∧ h.l.cs.length ≤ 1000000) (hf : ∀ h ∈ hs, FineC h.l.cs) (hT : Tb w) (al aa fl fa on off : Int) (fid : Nat) (lb : Array Value) (fL : Ln → Ln × Int) (hfid : ∀ v w, (callFunc fid (#[v] ++ lb)).run Tryz.prog w = .ok (.enter fid (#[v] ++ lb)) w) (hcall : ∀ (x : Hd) (W : World), x ∈ hs → Below w.heap.size w W → LnAt W W.heap.size x.l x.A x.B → Calls Tryz.prog fid (#[lnV x.l x.A x.c x.B x.d] ++ lb) W (RetLnE (fL x.l) W)) :
    Calls Tryz.prog 27 #[.agg #[.slice A n c, .int .i64 al, .int .i64 aa, .int .i64 fl, .int .i64 fa, .int .i64 on, .int .i64 off], .func (.func fid) #[] lb] w (RetStE (eachS fL ⟨lnsOf hs, ⟨al, aa⟩, ⟨fl, fa⟩, on, off⟩) w) := by
  cases mb : mayS ⟨lnsOf hs, ⟨al, aa⟩, ⟨fl, fa⟩, on, off⟩ with
  | false =>
    have e : eachS fL ⟨lnsOf hs, ⟨al, aa⟩, ⟨fl, fa⟩, on, off⟩ = (zS, 1) := by unfold eachS; rw [mb]; rfl
    rw [e]
    exact each_no hs A n c C hn w hd h1 h2 hf hT al aa fl fa on off _ ⟨_, _, _, rfl⟩ mb
  | true => exact each_yes hs A n c C hn w hd h1 h2 hf hT al aa fl fa on off fid lb fL hfid hcall mb
end Go.Proofs.YtblbfoniimnkcaaGreatDoor
