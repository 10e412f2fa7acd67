/- Texts on cells and lines, put together: BlEach, BlList1, BlListed, BlKind, BlOps, BlList. -/
import Derived.Test.YtblbfoniimnkcaaGreatDoorBgIt
import Derived.Test.YtblbfoniimnkcaaGreatDoorTSelect
import Derived.BigQuiet
import Derived.Deep.QuietTactic
import Derived.Test.YtblbfoniimnkcaaGreatDoorLnLaws
import Derived.Test.YtblbfoniimnkcaaGreatDoorLnTs
/- The walk of blocks.each: what is done to each line that is selected. (Printed by wip/bldoc.py.) -/
namespace Go.Proofs.YtblbfoniimnkcaaGreatDoor
open Go.RowKit Go.Lib Go.Shelf
attribute [local go_sem] Oper.semAt_some


/-- Lines turned, as they came. -/
def tF (f : Ln → Ln × Int) (d : List Ln) (pre : List It) : List Ln := pre.foldl (fun d x => if (f x.h.l).2 = 0 then d.set x.i (f x.h.l).1 else d) d
def sF (f : Ln → Ln × Int) (pre : List It) : Bool := pre.any fun x => decide ((f x.h.l).2 = 0)
theorem tF_snoc (f : Ln → Ln × Int) (d : List Ln) (pre : List It) (x : It) : tF f d (pre ++ [x]) = if (f x.h.l).2 = 0 then (tF f d pre).set x.i (f x.h.l).1 else tF f d pre := by unfold tF; rw [List.foldl_append]; rfl
theorem sF_snoc (f : Ln → Ln × Int) (pre : List It) (x : It) : sF f (pre ++ [x]) = (sF f pre || decide ((f x.h.l).2 = 0)) := by unfold sF; rw [List.any_append]; simp
theorem tF_its (f : Ln → Ln × Int) (hs : List Hd) (i : Nat) : ∀ n, i + n ≤ hs.length → tF f (lnsOf hs) (itsF hs i n) = turnsN f (lnsOf hs) i n ∧ sF f (itsF hs i n) = someN f (lnsOf hs) i n := by
  intro n
  induction n with
  | zero => intro _; exact ⟨rfl, rfl⟩
  | succ n ih =>
    intro h
    obtain ⟨h1, h2⟩ := ih (by omega)
    have hx : hs[i + n]? = some (hs[i + n]'(by omega)) := List.getElem?_eq_getElem (by omega)
    rw [itsF_step hx, tF_snoc, sF_snoc, h1, h2]
    dsimp only
    by_cases h0 : (f (hs[i + n]'(by omega)).l).2 = 0
    · obtain ⟨e1, e2⟩ := turnsN_yes f (lnsOf hs) i n (lnsOf_get hx) h0
      rw [if_pos h0, e1, e2, decide_eq_true h0, Bool.or_true]
      exact ⟨rfl, rfl⟩
    · obtain ⟨e1, e2⟩ := turnsN_no f (lnsOf hs) i n (lnsOf_get hx) h0
      rw [if_neg h0, e1, e2, decide_eq_false h0, Bool.or_false]
      exact ⟨rfl, rfl⟩
set_option maxRecDepth 100000 in
set_option maxHeartbeats 8000000 in
theorem each_no (hs : List Hd) (A : Option Addr) (n c C : Nat) (hn : n = hs.length) (w : World) (hd : DocAt w C A hs) (h1 : hs.length ≤ 1000) (h2 : ∀ h ∈ hs, h.l.ls.length ≤ 1000000 ∧ h.l.cs.length ≤ 1000000) (hf : ∀ h ∈ hs, FineC h.l.cs) (hT : Tb w) (al aa fl fa on off : Int) (fv : Value) (hfv : ∃ a b c, fv = .func a b c) (mb : mayS ⟨lnsOf hs, ⟨al, aa⟩, ⟨fl, fa⟩, on, off⟩ = false) :
    Calls Tryz.prog 27 #[.agg #[.slice A n c, .int .i64 al, .int .i64 aa, .int .i64 fl, .int .i64 fa, .int .i64 on, .int .i64 off], fv] w (RetStE (zS, 1) w) := by
  obtain ⟨fv1, fv2, fv3, rfl⟩ := hfv
  subst hn
  have D0 := hid h2
  have L0 := hid h1
  have K := hid (KG.start w [⟨hs, A, false⟩] (by simpa using hd.live))
  have T := hid hT
  have FI := hid hf
  have H2 := hid h2
  have MB := hid mb
  clear hd h2 hT hf mb
  go_enter Tryz.func27, Tryz.ntmps27
  go_wp2_with (first
    | go_big_skip
    | ((with_reducible show wpList _ _ _ _ _ _); refine kgBox (by rfl) 26 _ (by rfl) (some 2) (by rfl) (by rfl) [_, _, _, _, _, _, _] (by rfl) K ?_; intro g2 V1 K1; clear K; (have K := K1); clear K1)
    | ((with_reducible show wpList _ _ _ _ _ _); refine kgBox (by rfl) 57 _ (by rfl) (some 3) (by rfl) (v := .func fv1 fv2 fv3) (by rfl) [.func fv1 fv2 fv3] (by rfl) K ?_; intro g3 V1 K1; clear K; (have K := K1); clear K1)
    | ((with_reducible show wpList _ _ _ _ _ _); refine kgAlloc (by rfl) 26 (by rfl) (some 4) (by rfl) [.slice none 0 0, .int .i64 0, .int .i64 0, .int .i64 0, .int .i64 0, .int .i64 0, .int .i64 0] (fun _ => by kernel_rfl) K ?_; intro g4 V1 K1; clear K; (have K := K1); clear K1)
    | ((with_reducible show wpList _ _ _ _ _ _); refine kgLoadA (by rfl) 26 _ (by rfl) 7 _ Tryz.underlying26 rfl (by kernel_rfl) K (by rfl) (by repeat (first | exact List.mem_cons_self | refine List.mem_cons_of_mem _ ?_)) (part := [_, _, _, _, _, _, _]) (by rfl) (by rfl) ?_)
    | (go_at_call 21; (with_reducible refine (tMay_any hs A _ c _ rfl _ (K.out.at_ (d := ⟨hs, A, false⟩) (by simp)) h1 H2.out FI.out (Utf8Tabs_below T.out K.out.b) al aa fl fa on off).mono ?_); rintro e W2 ⟨rfl, hb⟩; rw [MB.out]; (have K2 := hid (K.out.later hb)); clear hb K; (have K := K2); clear K2)
    | ((with_reducible show wpList _ _ _ _ _ _); refine kgStore (by rfl) 26 (.tmp 4) _ (by rfl) 7 (by kernel_rfl) [] (by exact K) (by rfl) (by rfl) [_, _, _, _, _, _, _] (by rfl) (by rfl) (by simp) (by simp [Value.oneCell']) (cs := [_, _, _, _, _, _, _]) (by rfl) ?_; intro V2 K1; (dsimp only [List.cons_append, List.nil_append] at K1); clear K; (have K := K1); clear K1))
  refine bodyPost_ret (results_ct Tryz.results27 (by rfl) (K.out.loadA (off := 0) (n := 7) (by repeat (first | exact List.mem_cons_self | refine List.mem_cons_of_mem _ ?_)) Tryz.underlying26 rfl (by kernel_rfl) (part := [_, _, _, _, _, _, _]) (by rfl) (by rfl)) (by rfl)) rfl ?_
  exact ⟨none, 0, 0, [], rfl, rfl, Nat.le_refl _, rfl, DocW.nil, K.out.b⟩
set_option maxRecDepth 100000 in
set_option maxHeartbeats 16000000 in
theorem each_yes (hs : List Hd) (A : Option Addr) (n c C : Nat) (hn : n = hs.length) (w : World) (hd : DocAt w C A hs) (h1 : hs.length ≤ 1000) (h2 : ∀ h ∈ hs, h.l.ls.length ≤ 1000000 ∧ h.l.cs.length ≤ 1000000) (hf : ∀ h ∈ hs, FineC h.l.cs) (hT : Tb w) (al aa fl fa on off : Int) (fid : Nat) (lb : Array Value) (fL : Ln → Ln × Int) (hfid : ∀ v w, (callFunc fid (#[v] ++ lb)).run Tryz.prog w = .ok (.enter fid (#[v] ++ lb)) w) (hcall : ∀ (x : Hd) (W : World), x ∈ hs → Below w.heap.size w W → LnAt W W.heap.size x.l x.A x.B → Calls Tryz.prog fid (#[lnV x.l x.A x.c x.B x.d] ++ lb) W (RetLnE (fL x.l) W)) (mb : mayS ⟨lnsOf hs, ⟨al, aa⟩, ⟨fl, fa⟩, on, off⟩ = true) :
    Calls Tryz.prog 27 #[.agg #[.slice A n c, .int .i64 al, .int .i64 aa, .int .i64 fl, .int .i64 fa, .int .i64 on, .int .i64 off], .func (.func fid) #[] lb] w (RetStE (eachS fL ⟨lnsOf hs, ⟨al, aa⟩, ⟨fl, fa⟩, on, off⟩) w) := by
  obtain ⟨z1, z2, z3, z4⟩ := mayS_in mb
  have R := hid (show eachS fL ⟨lnsOf hs, ⟨al, aa⟩, ⟨fl, fa⟩, on, off⟩ = if someN fL (lnsOf hs) (fromS ⟨lnsOf hs, ⟨al, aa⟩, ⟨fl, fa⟩, on, off⟩).l.toNat ((toS ⟨lnsOf hs, ⟨al, aa⟩, ⟨fl, fa⟩, on, off⟩).l.toNat + 1 - (fromS ⟨lnsOf hs, ⟨al, aa⟩, ⟨fl, fa⟩, on, off⟩).l.toNat) then (⟨turnsN fL (lnsOf hs) (fromS ⟨lnsOf hs, ⟨al, aa⟩, ⟨fl, fa⟩, on, off⟩).l.toNat ((toS ⟨lnsOf hs, ⟨al, aa⟩, ⟨fl, fa⟩, on, off⟩).l.toNat + 1 - (fromS ⟨lnsOf hs, ⟨al, aa⟩, ⟨fl, fa⟩, on, off⟩).l.toNat), ⟨al, aa⟩, ⟨fl, fa⟩, 0, 0⟩, 0) else (zS, 7) from by unfold eachS; rw [if_pos mb])
  rw [R.out]
  clear R
  dsimp only at z3 z4
  rw [lnsOf_len] at z3 z4
  obtain ⟨f, hf0⟩ : ∃ f, (fromS ⟨lnsOf hs, ⟨al, aa⟩, ⟨fl, fa⟩, on, off⟩).l.toNat = f := ⟨_, rfl⟩
  obtain ⟨cnt, hc0⟩ : ∃ cnt, (toS ⟨lnsOf hs, ⟨al, aa⟩, ⟨fl, fa⟩, on, off⟩).l.toNat + 1 - f = cnt := ⟨_, rfl⟩
  rw [hf0, hc0]
  have YF : Hid ((fromS ⟨lnsOf hs, ⟨al, aa⟩, ⟨fl, fa⟩, on, off⟩).l = f) := hid (by omega)
  have YT : Hid ((toS ⟨lnsOf hs, ⟨al, aa⟩, ⟨fl, fa⟩, on, off⟩).l + 1 = ((f + cnt : Nat) : Int)) := hid (by omega)
  have YL : Hid (f + cnt ≤ hs.length) := hid (by omega)
  have YN : Hid (hs ≠ []) := hid (by rintro rfl; simp at z3; omega)
  obtain ⟨r, hr⟩ : ∃ r, (if someN fL (lnsOf hs) f cnt then ((⟨turnsN fL (lnsOf hs) f cnt, ⟨al, aa⟩, ⟨fl, fa⟩, 0, 0⟩, 0) : Stt × Int) else (zS, 7)) = r := ⟨_, rfl⟩
  rw [hr]
  have HR := hid hr
  clear hr
  have TF := hid (tF_its fL hs f cnt YL.out)
  have HF := hid hfid
  have CC := hid hcall
  have HD := hid hd.live
  have YW := hid (rfl : w.heap.size = w.heap.size)
  subst hn
  have D0 := hid h2
  have L0 := hid h1
  have K := hid (KG.start w [⟨hs, A, false⟩] (by simpa using hd.live))
  have T := hid hT
  have FI := hid hf
  have H2 := hid h2
  have MB := hid mb
  clear hd h2 hT hf mb hfid hcall z1 z2 z3 z4 hf0 hc0 YW
  refine (callsIn_wide (n := 6)).1 ?_
  refine callsIn_of_wp_marks Tryz.func27 rfl trivial ?_ rfl
  simp only [Tryz.ntmps27, List.size_toArray, List.length_cons, List.length_nil, Nat.reduceAdd, Nat.reduceSub, Array.replicate_succ, Array.replicate_zero, List.push_toArray, List.append_toArray, List.nil_append, List.cons_append]
  gi_wp2_with (first
    | gi_big_skip
    | ((with_reducible show wpListIn _ _ _ _ _ _ _ _); refine kiBox (by rfl) 26 _ (by rfl) (some 2) (by rfl) (by rfl) [_, _, _, _, _, _, _] (by rfl) K ?_; intro g2 V1 K1; clear K; (have K := K1); clear K1)
    | ((with_reducible show wpListIn _ _ _ _ _ _ _ _); refine kiBox (by rfl) 57 _ (by rfl) (some 3) (by rfl) (v := .func (.func fid) #[] lb) (by rfl) [.func (.func fid) #[] lb] (by rfl) K ?_; intro g3 V1 K1; clear K; (have K := K1); clear K1)
    | ((with_reducible show wpListIn _ _ _ _ _ _ _ _); refine kiAlloc (by rfl) 26 (by rfl) (some 4) (by rfl) [.slice none 0 0, .int .i64 0, .int .i64 0, .int .i64 0, .int .i64 0, .int .i64 0, .int .i64 0] (fun _ => by kernel_rfl) K ?_; intro g4 V1 K1; clear K; (have K := K1); clear K1)
    | ((with_reducible show wpListIn _ _ _ _ _ _ _ _); refine kiLoadA (by rfl) 26 _ (by rfl) 7 _ Tryz.underlying26 rfl (by kernel_rfl) K (by rfl) (by repeat (first | exact List.mem_cons_self | refine List.mem_cons_of_mem _ ?_)) (part := [_, _, _, _, _, _, _]) (by rfl) (by rfl) ?_)
    | ((first | refine ⟨trivial, (fun h => by cases h), ?_⟩ | refine ⟨trivial, ?_⟩); gi_at_call 21; (with_reducible refine (callsIn_wide.2 (tMay_any hs A _ c _ rfl _ (K.out.at_ (d := ⟨hs, A, false⟩) (by simp)) h1 H2.out FI.out (Utf8Tabs_below T.out K.out.b) al aa fl fa on off)).mono ?_); rintro e W2 ⟨rfl, hb⟩; rw [MB.out]; (have K2 := hid (K.out.later hb)); clear hb K; (have K := K2); clear K2)
    | ((first | refine ⟨trivial, (fun h => by cases h), ?_⟩ | refine ⟨trivial, ?_⟩); gi_at_call 44; (with_reducible refine (callsIn_wide.2 (tOwn_any hs A _ c _ rfl _ (K.out.at_ (d := ⟨hs, A, false⟩) (by simp)) h1 H2.out al aa fl fa on off)).mono ?_); rintro e W3 ⟨A3, n3, c3, hs3, rfl, q1, q2, q3, ho, hb3⟩; (have Q1 := hid q1); (have Q2 := hid q2); (have Q3 := hid q3); (have K2 := hid (K.out.addW hb3 ho)); clear q1 q2 q3 ho hb3 K; (have K := K2); clear K2; unfold stV; dsimp only)
    | ((with_reducible show wpListIn _ _ _ _ _ _ _ _); refine kiAlloc (by rfl) 26 (by rfl) (some 6) (by rfl) [.slice none 0 0, .int .i64 0, .int .i64 0, .int .i64 0, .int .i64 0, .int .i64 0, .int .i64 0] (fun _ => by kernel_rfl) K ?_; intro g6 V1 K1; clear K; (have K := K1); clear K1)
    | ((with_reducible show wpListIn _ _ _ _ _ _ _ _); refine kiStore (by rfl) 26 (.tmp 6) _ (by rfl) 7 (by kernel_rfl) [] (by exact K) (by rfl) (by rfl) [_, _, _, _, _, _, _] (by rfl) (by rfl) (by simp) (by simp [Value.oneCell']) (cs := [_, _, _, _, _, _, _]) (by rfl) ?_; intro V2 K1; (dsimp only [List.cons_append, List.nil_append] at K1); clear K; (have K := K1); clear K1)
    | ((with_reducible show wpListIn _ _ _ _ _ _ _ _); refine kiStore (by rfl) 3 (.tmp 18) _ (by rfl) 1 (by kernel_rfl) [] (by exact K) (by rfl) (v := .int .i64 0) (by rfl) [.int .i64 0] (by rfl) (by rfl) (by simp) (by simp [Value.oneCell']) (cs := [_, _, _, _, _, _, _]) (by rfl) ?_; intro V2 K1; (dsimp only [List.cons_append, List.nil_append] at K1); clear K; (have K := K1); clear K1)
    | ((with_reducible show wpListIn _ _ _ _ _ _ _ _); refine kiStore (by rfl) 3 (.tmp 19) _ (by rfl) 1 (by kernel_rfl) [] (by exact K) (by rfl) (v := .int .i64 0) (by rfl) [.int .i64 0] (by rfl) (by rfl) (by simp) (by simp [Value.oneCell']) (cs := [_, _, _, _, _, _, _]) (by rfl) ?_; intro V2 K1; (dsimp only [List.cons_append, List.nil_append] at K1); clear K; (have K := K1); clear K1)
    | ((with_reducible show wpListIn _ _ _ _ _ _ _ _); refine kiAlloc (by rfl) 35 (by rfl) (some 7) (by rfl) [.int .i64 0] (fun _ => by kernel_rfl) K ?_; intro g7 V1 K1; clear K; (have K := K1); clear K1)
    | ((with_reducible show wpListIn _ _ _ _ _ _ _ _); refine kiStore (by rfl) 35 (.tmp 7) _ (by rfl) 1 (by kernel_rfl) [] (by exact K) (by rfl) (v := .int .i64 7) (by rfl) [.int .i64 7] (by rfl) (by rfl) (by simp) (by simp [Value.oneCell']) (cs := [_]) (by rfl) ?_; intro V2 K1; (dsimp only [List.cons_append, List.nil_append] at K1); clear K; (have K := K1); clear K1)
    | ((first | refine ⟨trivial, (fun h => by cases h), ?_⟩ | refine ⟨trivial, ?_⟩); gi_at_call 22; (with_reducible refine (callsIn_wide.2 (selected_any (.slice A hs.length c) al aa fl fa on off ⟨_, _, _, rfl⟩ _)).mono ?_); rintro e W5 ⟨gs, rfl, hgs, hW5⟩; (have K2 := hid (K.out.new 26 [.slice A hs.length c, .int .i64 al, .int .i64 aa, .int .i64 fl, .int .i64 fa, .int .i64 on, .int .i64 off] hgs hW5)); (have LT := hid (show gs + 1 = W5.heap.size by rw [hW5, World.size_alloc, hgs])); clear hgs hW5 K; (have K := K2); clear K2))
  obtain ⟨gr, ro, cur0, eA, K2, q4, q5, q6⟩ := KG.row K.out (by intro e; have h1 := Q3.out; rw [e] at h1; exact YN.out (List.eq_nil_of_length_eq_zero (by have := congrArg List.length h1; rw [lnsOf_len, lnsOf_len] at this; exact this.symm)))
  subst eA
  have KB := hid K2
  have HL0 := hid q6
  have HC0 := hid (And.intro q4 q5)
  have N3 : Hid (hs3.length = hs.length) := hid (by rw [← lnsOf_len, Q3.out, lnsOf_len])
  have SEQ := hid (sel_seq 5 gs gs w W5 ⟨lnsOf hs, ⟨al, aa⟩, ⟨fl, fa⟩, on, off⟩ hs A c HD.out KB.out.b (KB.out.bx ⟨gs, 26, [.slice A hs.length c, .int .i64 al, .int .i64 aa, .int .i64 fl, .int .i64 fa, .int .i64 on, .int .i64 off]⟩ (by simp)).1 (Nat.le_refl _) f cnt YF.out YT.out YL.out L0.out (KB.out.bx ⟨gs, 26, [.slice A hs.length c, .int .i64 al, .int .i64 aa, .int .i64 fl, .int .i64 fa, .int .i64 on, .int .i64 off]⟩ (by simp)).2)
  have HSZ := hid KB.out.b.size
  have LGS : Hid (gs < W5.heap.size) := hid (KB.out.lt (x := ⟨gs, 26, [.slice A hs.length c, .int .i64 al, .int .i64 aa, .int .i64 fl, .int .i64 fa, .int .i64 on, .int .i64 off]⟩) (by simp))
  have NDs := hid KB.out.nd
  have LGR : Hid (gr < gs) := hid (by
    have h1 := KB.out.lt (x := ⟨gr, 46, cur0⟩) (by simp)
    have h2 := LT.out
    have h3 : gr ≠ gs := (List.pairwise_cons.1 NDs.out).1 ⟨gs, 26, [.slice A hs.length c, .int .i64 al, .int .i64 aa, .int .i64 fl, .int .i64 fa, .int .i64 on, .int .i64 off]⟩ (by simp)
    have h1' : gr < W5.heap.size := h1
    omega)
  have LG7 : Hid (g7 < gs) := hid (by
    have h1 := KB.out.lt (x := ⟨g7, 35, [.int .i64 7]⟩) (by simp)
    have h2 := LT.out
    have h3 : gs ≠ g7 := (List.pairwise_cons.1 (List.pairwise_cons.1 NDs.out).2).1 ⟨g7, 35, [.int .i64 7]⟩ (by simp)
    have h1' : g7 < W5.heap.size := h1
    omega)
  have LG4 : Hid (g4 < W5.heap.size) := hid (KB.out.lt (x := ⟨g4, 26, [.slice none 0 0, .int .i64 0, .int .i64 0, .int .i64 0, .int .i64 0, .int .i64 0, .int .i64 0]⟩) (by simp))
  have LWR : Hid (w.heap.size ≤ gr) := hid (KB.out.bx ⟨gr, 46, cur0⟩ (by simp)).1
  have LW7 : Hid (w.heap.size ≤ g7) := hid (KB.out.bx ⟨g7, 35, [.int .i64 7]⟩ (by simp)).1
  have I0 : (fun (pre : List (ItV hs)) (W : World) => ∃ (cur : List Value) (rs : List Hd) (e : Int), Hid (KG w W [⟨gr, 46, cur⟩, ⟨gs, 26, [.slice A hs.length c, .int .i64 al, .int .i64 aa, .int .i64 fl, .int .i64 fa, .int .i64 on, .int .i64 off]⟩, ⟨g7, 35, [.int .i64 e]⟩, ⟨g6, 26, [.slice (some ⟨gr, ro, none⟩) n3 c3, .int .i64 al, .int .i64 aa, .int .i64 fl, .int .i64 fa, .int .i64 0, .int .i64 0]⟩, ⟨g4, 26, [.slice none 0 0, .int .i64 0, .int .i64 0, .int .i64 0, .int .i64 0, .int .i64 0, .int .i64 0]⟩, ⟨g3, 57, [.func (.func fid) #[] lb]⟩, ⟨g2, 26, [.slice A hs.length c, .int .i64 al, .int .i64 aa, .int .i64 fl, .int .i64 fa, .int .i64 on, .int .i64 off]⟩] []) ∧ Hid (∀ x ∈ rs, HdW W w.heap.size x) ∧ Hid (ro + rs.length * 4 ≤ cur.length ∧ (cur.drop ro).take (rs.length * 4) = rs.flatMap encH) ∧ Hid (rs.length = hs.length) ∧ Hid (lnsOf rs = tF fL (lnsOf hs) (pre.map (·.1))) ∧ Hid (e = if sF fL (pre.map (·.1)) then 0 else 7)) [] W5 := ⟨cur0, hs3, 7, KB, HL0, HC0, N3, hid Q3.out, hid rfl⟩
  have OI : ∀ B, w.heap.size ≤ B → OwnFrom B (fun (pre : List (ItV hs)) (W : World) => ∃ (cur : List Value) (rs : List Hd) (e : Int), Hid (KG w W [⟨gr, 46, cur⟩, ⟨gs, 26, [.slice A hs.length c, .int .i64 al, .int .i64 aa, .int .i64 fl, .int .i64 fa, .int .i64 on, .int .i64 off]⟩, ⟨g7, 35, [.int .i64 e]⟩, ⟨g6, 26, [.slice (some ⟨gr, ro, none⟩) n3 c3, .int .i64 al, .int .i64 aa, .int .i64 fl, .int .i64 fa, .int .i64 0, .int .i64 0]⟩, ⟨g4, 26, [.slice none 0 0, .int .i64 0, .int .i64 0, .int .i64 0, .int .i64 0, .int .i64 0, .int .i64 0]⟩, ⟨g3, 57, [.func (.func fid) #[] lb]⟩, ⟨g2, 26, [.slice A hs.length c, .int .i64 al, .int .i64 aa, .int .i64 fl, .int .i64 fa, .int .i64 on, .int .i64 off]⟩] []) ∧ Hid (∀ x ∈ rs, HdW W w.heap.size x) ∧ Hid (ro + rs.length * 4 ≤ cur.length ∧ (cur.drop ro).take (rs.length * 4) = rs.flatMap encH) ∧ Hid (rs.length = hs.length) ∧ Hid (lnsOf rs = tF fL (lnsOf hs) (pre.map (·.1))) ∧ Hid (e = if sF fL (pre.map (·.1)) then 0 else 7)) := by
    rintro B hB pre V V' row ⟨cur, rs, e, K, HL, HC, HN, HT, HE⟩ hg hr
    exact ⟨cur, rs, e, hid (K.out.own hg fun r h => ⟨Nat.le_trans hB (hr r h).1, (hr r h).2⟩), hid (fun x hx => (HL.out x hx).own hg fun r h => (hr r h).2), HC, HN, HT, HE⟩
  replace I0 := hid I0
  replace OI := hid OI
  clear K K2 q4 q5 q6 KB HL0 HC0 NDs D0 H2 MB Q3
  refine wpIn_rangeFunc_ownH rfl (by omega) (gf := 38) (lb := #[.pointer (some ⟨gs, 0, none⟩)]) rfl trivial (enters_of Tryz.func38 (by kernel_rfl) rfl)
    SEQ.out KpS.trans (KpS.put HSZ.out) (Below.refl _ _) ?hps
    (fun pre W => ∃ (cur : List Value) (rs : List Hd) (e : Int), Hid (KG w W [⟨gr, 46, cur⟩, ⟨gs, 26, [.slice A hs.length c, .int .i64 al, .int .i64 aa, .int .i64 fl, .int .i64 fa, .int .i64 on, .int .i64 off]⟩, ⟨g7, 35, [.int .i64 e]⟩, ⟨g6, 26, [.slice (some ⟨gr, ro, none⟩) n3 c3, .int .i64 al, .int .i64 aa, .int .i64 fl, .int .i64 fa, .int .i64 0, .int .i64 0]⟩, ⟨g4, 26, [.slice none 0 0, .int .i64 0, .int .i64 0, .int .i64 0, .int .i64 0, .int .i64 0, .int .i64 0]⟩, ⟨g3, 57, [.func (.func fid) #[] lb]⟩, ⟨g2, 26, [.slice A hs.length c, .int .i64 al, .int .i64 aa, .int .i64 fl, .int .i64 fa, .int .i64 on, .int .i64 off]⟩] []) ∧ Hid (∀ x ∈ rs, HdW W w.heap.size x) ∧ Hid (ro + rs.length * 4 ≤ cur.length ∧ (cur.drop ro).take (rs.length * 4) = rs.flatMap encH) ∧ Hid (rs.length = hs.length) ∧ Hid (lnsOf rs = tF fL (lnsOf hs) (pre.map (·.1))) ∧ Hid (e = if sF fL (pre.map (·.1)) then 0 else 7)) (fun _ _ _ => False) (OI.out _ HSZ.out) (fun _ _ _ _ _ hs _ _ => hs)
    I0.out
    (fun x a' W => ∃ g9, W.heap[g9]? = some (.cells #[.int .i64 x.1.h.l.q, .slice x.1.h.A x.1.h.l.ls.length x.1.h.c, .int .i64 x.1.h.l.k, .slice x.1.h.B x.1.h.l.cs.length x.1.h.d] 46 (0, 0)) ∧ a' = { tmps := #[.agg #[.slice A hs.length c, .int .i64 al, .int .i64 aa, .int .i64 fl, .int .i64 fa, .int .i64 on, .int .i64 off], .func (.func fid) #[] lb, .pointer (some ⟨g2, 0, none⟩), .pointer (some ⟨g3, 0, none⟩), .pointer (some ⟨g4, 0, none⟩), .int .i64 0, .pointer (some ⟨g6, 0, none⟩), .pointer (some ⟨g7, 0, none⟩), .int .i64 x.1.i, .pointer (some ⟨g9, 0, none⟩), undef, undef, .agg #[.slice A hs.length c, .int .i64 al, .int .i64 aa, .int .i64 fl, .int .i64 fa, .int .i64 on, .int .i64 off], .bool true, .bool false, undef, .agg #[.slice A hs.length c, .int .i64 al, .int .i64 aa, .int .i64 fl, .int .i64 fa, .int .i64 on, .int .i64 off], .agg #[.slice (some ⟨gr, ro, none⟩) n3 c3, .int .i64 al, .int .i64 aa, .int .i64 fl, .int .i64 fa, .int .i64 on, .int .i64 off], .pointer (some ⟨g6, 5, none⟩), .pointer (some ⟨g6, 6, none⟩), .agg #[.slice A hs.length c, .int .i64 al, .int .i64 aa, .int .i64 fl, .int .i64 fa, .int .i64 on, .int .i64 off], .func (.func 38) #[] #[.pointer (some ⟨gs, 0, none⟩)], .int .i64 x.1.i, .agg #[.int .i64 x.1.h.l.q, .slice x.1.h.A x.1.h.l.ls.length x.1.h.c, .int .i64 x.1.h.l.k, .slice x.1.h.B x.1.h.l.cs.length x.1.h.d], undef, undef, undef, undef, undef, undef, undef, undef, undef, undef, undef, undef, undef, undef, undef, undef, undef, undef], defers := [] })
    (fun x a' _ X Y row hs hg hr => by
      obtain ⟨g9, h1, h2⟩ := hs
      refine ⟨g9, (hg.block g9 (Array.getElem?_eq_some_iff.1 h1).1 ?_).trans h1, h2⟩
      rintro rfl
      obtain ⟨_, o, ho, hc⟩ := hr _ rfl
      rw [h1] at ho
      injection ho with ho
      subst ho
      cases hc)
    ?assign ?body ?done ?stop
  case hps => intro x; rfl
  case assign =>
    rintro l pre x W KX hI hKX
    have HI := hid hI
    have HX := hid hKX
    have SZ : Hid (W5.heap.size ≤ W.heap.size) := hid (by
      obtain ⟨cur, rs, e, K, -⟩ := HI.out
      have h1 := K.out.lt (x := ⟨gs, 26, [.slice A hs.length c, .int .i64 al, .int .i64 aa, .int .i64 fl, .int .i64 fa, .int .i64 on, .int .i64 off]⟩) (by simp)
      have h2 := LT.out
      have h1' : gs < W.heap.size := h1
      omega)
    have K := hid (KG.start W [] (by simp))
    clear hI hKX
    dsimp only [encsI]
    simp only [List.zip_toArray, List.zip_cons_cons, List.zip_nil_right, List.foldl_toArray, List.foldl_cons, List.foldl_nil, List.setIfInBounds_toArray, List.set_cons_succ, List.set_cons_zero]
    gi_wp2_with (first
      | gi_big_skip
      | ((with_reducible show wpListIn _ _ _ _ _ _ _ _); refine kiAlloc (by rfl) 46 (by rfl) (some 9) (by rfl) [.int .i64 0, .slice none 0 0, .int .i64 0, .slice none 0 0] (fun _ => by kernel_rfl) K ?_; intro g9 V1 K1; clear K; (have K := K1); clear K1)
      | ((with_reducible show wpListIn _ _ _ _ _ _ _ _); refine kiStore (by rfl) 46 (.tmp 9) _ (by rfl) 4 (by kernel_rfl) [] (by exact K) (by rfl) (by rfl) [_, _, _, _] (by rfl) (by rfl) (by simp) (by simp [Value.oneCell']) (cs := [_, _, _, _]) (by rfl) ?_; intro V2 K1; (dsimp only [List.cons_append, List.nil_append] at K1); clear K; (have K := K1); clear K1))
    exact HX.out _ _ (KeepsFrom.below K.out.b) (KpS.later K.out.b (Nat.le_trans HSZ.out SZ.out)) (OI.out _ (Nat.le_refl _) pre W V2 none HI.out (grownB K.out.b) (fun r h => by cases h)) ⟨g9, (K.out.bx ⟨g9, 46, [.int .i64 x.1.h.l.q, .slice x.1.h.A x.1.h.l.ls.length x.1.h.c, .int .i64 x.1.h.l.k, .slice x.1.h.B x.1.h.l.cs.length x.1.h.d]⟩ (by simp)).2, rfl⟩
  case body =>
    rintro l pre x a' W hl' ⟨r', hr'⟩ ⟨cur, rs, e, KO, HL, HC, HN, HT, HE⟩ ⟨g9, hg9, rfl⟩ hlt
    have SZ : Hid (W5.heap.size ≤ W.heap.size) := hid (by have := (Array.getElem?_eq_some_iff.1 hr').1; omega)
    have K := hid (KG.start W [] (by simp))
    have G9 := hid hg9
    have L9 := hid (Array.getElem?_eq_some_iff.1 hg9).1
    have XI : Hid (x.1.i < hs.length) := hid (List.getElem?_eq_some_iff.1 x.2).1
    have XM : Hid (x.1.h ∈ hs) := hid (List.mem_of_getElem? x.2)
    have BW : Hid (Below w.heap.size w W) := hid KO.out.b
    have hi1 : (x.1.i : Int) < (n3 : Int) := by have h1 := Q1.out; have h2 := N3.out; have h3 := XI.out; omega
    obtain ⟨⟨m, ec⟩, hfl⟩ : ∃ z, fL x.1.h.l = z := ⟨_, rfl⟩
    have FL := hid hfl
    have C1 := hid (CC.out x.1.h)
    rw [FL.out] at C1
    have LX := hid (HD.out.ln x.2)
    clear hfl hr' hlt hl' hg9
    by_cases h0 : ec = 0
    · subst h0
      have SS1 := hid (sF_snoc fL (pre.map (·.1)) x.1)
      have TS1 := hid (tF_snoc fL (lnsOf hs) (pre.map (·.1)) x.1)
      rw [FL.out] at SS1 TS1
      obtain ⟨y, hy⟩ : ∃ y, rs[x.1.i]? = some y := ⟨_, List.getElem?_eq_getElem (by rw [HN.out]; exact XI.out)⟩
      have HY := hid hy
      have HLE : Hid (ro + x.1.i * 4 + 4 ≤ cur.length) := hid (by have h1 := HC.out.1; have h2 := HN.out; have h3 := XI.out; omega)
      clear hy
      gi_wp2_with (first
        | gi_big_skip
        | ((with_reducible show wpListIn _ _ _ _ _ _ _ _); refine kiOld1 (by rfl) 57 (.tmp 3) (by rfl) _ Tryz.underlying57 rfl KO K (by rfl) (by repeat (first | exact List.mem_cons_self | refine List.mem_cons_of_mem _ ?_)) (v := .func (.func fid) #[] lb) (by rfl) ?_)
        | ((with_reducible show wpListIn _ _ _ _ _ _ _ _); refine wpListIn_loadV (by rfl) 46 (.tmp 9) (by rfl) (by rfl) (run_loadVar_row _ g9 46 46 _ (0, 0) _ ((K.out.b.block g9 L9.out).trans G9.out) Tryz.underlying46 rfl (by kernel_rfl)) ?_)
        | ((with_reducible show wpListIn _ _ _ _ _ _ _ _); refine kiCallV (by rfl) (.tmp 25) (.tmp 26) _ (by rfl) (fid := fid) (lb := lb) (by rfl) (v := lnV x.1.h.l x.1.h.A x.1.h.c x.1.h.B x.1.h.d) (by rfl) (fun w => HF.out _ w) (fun _ => trivial) (fun h => by cases h) (CallsIn.inRound l (callsIn_wide.2 (C1.out _ XM.out (BW.out.trans (K.out.b.mono BW.out.size)) ((LX.out.belowM (BW.out.trans (K.out.b.mono BW.out.size)) (Nat.le_refl _)).live)))) ?_; rintro e0 W3 ⟨A9, c9, B9, d9, rfl, le1, le2, wr, hb3⟩; refine ⟨_, rfl, ?_⟩; (have HX9 : Hid (HdW W3 w.heap.size (⟨m, A9, c9, B9, d9⟩ : Hd)) := hid ⟨wr.based (Nat.le_trans BW.out.size K.out.b.size), le1, le2⟩); clear le1 le2 wr; simp only [lnV]; (have B3 := hid (K.out.b.trans (hb3.mono K.out.b.size))); (have K2 := hid (K.out.later hb3)); clear hb3 K; (have K := K2); clear K2)
        | ((with_reducible show wpListIn _ _ _ _ _ _ _ _); refine kiAllocB (by rfl) 46 (by rfl) (some 10) (by rfl) [.int .i64 0, .slice none 0 0, .int .i64 0, .slice none 0 0] (fun _ => by kernel_rfl) K ?_; intro g10 V1 BA1 K1; clear K; (have K := K1); clear K1; (have HXA := hid (HX9.out.later BA1.out)))
        | ((with_reducible show wpListIn _ _ _ _ _ _ _ _); (have KQ := K); refine kiStoreT (by rfl) 46 (.tmp 10) _ (by rfl) 4 (by kernel_rfl) [] (by exact K) (by rfl) (by rfl) [_, _, _, _] (by rfl) (by rfl) (by simp) (by simp [Value.oneCell']) (cs := [_, _, _, _]) (by rfl) ?_; intro V2 ON0 K1; (dsimp only [List.cons_append, List.nil_append] at K1); clear K; (have K := K1); clear K1; (have E0 := hid (KQ.out.bx ⟨g10, 46, [.int .i64 0, .slice none 0 0, .int .i64 0, .slice none 0 0]⟩ (by simp)).2); (have HXB := hid (HXA.out.onl (t := 46) ON0.out E0.out (by decide) (by decide))); clear KQ E0)
        | ((with_reducible show wpListIn _ _ _ _ _ _ _ _); refine kiOld1 (by rfl) 22 (.tmp 32) (by rfl) _ Tryz.underlying22 rfl KO K (by rfl) (by repeat (first | exact List.mem_cons_self | refine List.mem_cons_of_mem _ ?_)) (v := .slice (some ⟨gr, ro, none⟩) n3 c3) (by rfl) ?_)
        | ((with_reducible show wpListIn _ _ _ _ _ _ _ _); refine kiLoadA (by rfl) 46 _ (by rfl) 4 _ Tryz.underlying46 rfl (by kernel_rfl) K (by rfl) (by repeat (first | exact List.mem_cons_self | refine List.mem_cons_of_mem _ ?_)) (part := [_, _, _, _]) (by rfl) (by rfl) ?_)
        | ((with_reducible show wpListIn _ _ _ _ _ _ _ _); (have B4 := hid K.out.b); (have KM := hid (KO.out.merge K.out)); refine kiStoreT (by rfl) 46 (.tmp 36) _ (by rfl) 4 (by kernel_rfl) [_] (by exact KM) (off := ro + x.1.i * 4) (by rfl) (by rfl) [_, _, _, _] (by rfl) (by rfl) HLE.out (by simp [Value.oneCell']) (cs := set2 cur (ro + x.1.i * 4) (encH (⟨m, A9, c9, B9, d9⟩ : Hd))) (by rfl) ?_; intro V2 ON1 K1; (dsimp only [List.cons_append, List.nil_append] at K1); clear K; (have KM1 := KM); clear KM; (have K := K1); clear K1)
        | ((with_reducible show wpListIn _ _ _ _ _ _ _ _); (have KP := K); refine kiStoreT (by rfl) 35 (.tmp 7) _ (by rfl) 1 (by kernel_rfl) [_, _, _] (by exact K) (by rfl) (v := .int .i64 0) (by rfl) [.int .i64 0] (by rfl) (by rfl) (by simp) (by simp [Value.oneCell']) (cs := [_]) (by rfl) ?_; intro V2 ON2 K1; (dsimp only [List.cons_append, List.nil_append] at K1); clear K; (have K := K1); clear K1))
      have E1 := hid (KM1.out.bx ⟨gr, 46, cur⟩ (by simp)).2
      have E2 := hid (KP.out.bx ⟨g7, 35, [.int .i64 e]⟩ (by simp)).2
      refine ⟨KeepsFrom.onl (KeepsFrom.onl (KeepsFrom.below B4.out) ON1.out (Nat.lt_trans LGR.out LGS.out)) ON2.out (Nat.lt_trans LG7.out LGS.out), ((KpS.later B4.out BW.out.size).onl ON1.out LWR.out LGR.out).onl ON2.out LW7.out LG7.out,
        _, rs.set x.1.i ⟨m, A9, c9, B9, d9⟩, 0, hid (K.out.less (List.sublist_cons_self _ _) (fun d h => h)), hid (fun z hz => ?_), hid (set2_row HC.out.1 HC.out.2 HY.out), hid (by rw [List.length_set]; exact HN.out), hid ?_, hid ?_⟩
      · have st : ∀ z, HdW _ w.heap.size z → HdW _ w.heap.size z := fun z hz => (hz.onl (t := 46) ON1.out E1.out (by decide) (by decide)).onl (t := 35) ON2.out E2.out (by decide) (by decide)
        rcases List.mem_or_eq_of_mem_set hz with hz | rfl
        · exact st _ ((HL.out z hz).later B4.out)
        · exact st _ HXB.out
      · show lnsOf (rs.set x.1.i ⟨m, A9, c9, B9, d9⟩) = tF fL (lnsOf hs) ((pre ++ [x]).map (·.1))
        rw [List.map_append]
        show lnsOf (rs.set x.1.i ⟨m, A9, c9, B9, d9⟩) = tF fL (lnsOf hs) (pre.map (·.1) ++ [x.1])
        rw [TS1.out, ← HT.out]
        unfold lnsOf
        rw [List.map_set]
        rfl
      · show (0 : Int) = if sF fL ((pre ++ [x]).map (·.1)) = true then 0 else 7
        rw [List.map_append]
        show (0 : Int) = if sF fL (pre.map (·.1) ++ [x.1]) = true then 0 else 7
        rw [SS1.out]
        simp
    · have b0 : (ec == 0) = false := beq_eq_false_iff_ne.2 h0
      have SS1 := hid (sF_snoc fL (pre.map (·.1)) x.1)
      have TS1 := hid (tF_snoc fL (lnsOf hs) (pre.map (·.1)) x.1)
      rw [FL.out] at SS1 TS1
      dsimp only at SS1 TS1
      have N0 := hid h0
      clear h0
      gi_wp2_with (first
        | gi_big_skip
        | ((with_reducible show wpListIn _ _ _ _ _ _ _ _); refine kiOld1 (by rfl) 57 (.tmp 3) (by rfl) _ Tryz.underlying57 rfl KO K (by rfl) (by repeat (first | exact List.mem_cons_self | refine List.mem_cons_of_mem _ ?_)) (v := .func (.func fid) #[] lb) (by rfl) ?_)
        | ((with_reducible show wpListIn _ _ _ _ _ _ _ _); refine wpListIn_loadV (by rfl) 46 (.tmp 9) (by rfl) (by rfl) (run_loadVar_row _ g9 46 46 _ (0, 0) _ ((K.out.b.block g9 L9.out).trans G9.out) Tryz.underlying46 rfl (by kernel_rfl)) ?_)
        | ((with_reducible show wpListIn _ _ _ _ _ _ _ _); refine kiCallV (by rfl) (.tmp 25) (.tmp 26) _ (by rfl) (fid := fid) (lb := lb) (by rfl) (v := lnV x.1.h.l x.1.h.A x.1.h.c x.1.h.B x.1.h.d) (by rfl) (fun w => HF.out _ w) (fun _ => trivial) (fun h => by cases h) (CallsIn.inRound l (callsIn_wide.2 (C1.out _ XM.out (BW.out.trans (K.out.b.mono BW.out.size)) ((LX.out.belowM (BW.out.trans (K.out.b.mono BW.out.size)) (Nat.le_refl _)).live)))) ?_; rintro e0 W3 ⟨A9, c9, B9, d9, rfl, le1, le2, wr, hb3⟩; refine ⟨_, rfl, ?_⟩; (have HX9 : Hid (HdW W3 w.heap.size (⟨m, A9, c9, B9, d9⟩ : Hd)) := hid ⟨wr.based (Nat.le_trans BW.out.size K.out.b.size), le1, le2⟩); clear le1 le2 wr; simp only [lnV]; (have B3 := hid (K.out.b.trans (hb3.mono K.out.b.size))); (have K2 := hid (K.out.later hb3)); clear hb3 K; (have K := K2); clear K2)
        | ((with_reducible show wpListIn _ _ _ _ _ _ _ _); refine kiAlloc (by rfl) 46 (by rfl) (some 10) (by rfl) [.int .i64 0, .slice none 0 0, .int .i64 0, .slice none 0 0] (fun _ => by kernel_rfl) K ?_; intro g10 V1 K1; clear K; (have K := K1); clear K1)
        | ((with_reducible show wpListIn _ _ _ _ _ _ _ _); refine kiStore (by rfl) 46 (.tmp 10) _ (by rfl) 4 (by kernel_rfl) [] (by exact K) (by rfl) (by rfl) [_, _, _, _] (by rfl) (by rfl) (by simp) (by simp [Value.oneCell']) (cs := [_, _, _, _]) (by rfl) ?_; intro V2 K1; (dsimp only [List.cons_append, List.nil_append] at K1); clear K; (have K := K1); clear K1))
      have B4 := hid K.out.b
      refine ⟨KeepsFrom.below B4.out, KpS.later B4.out BW.out.size, cur, rs, e, hid ((KO.out.merge K.out).less (List.sublist_cons_self _ _) (fun d h => h)), hid (fun z hz => (HL.out z hz).later B4.out), HC, HN, hid ?_, hid ?_⟩
      · show lnsOf rs = tF fL (lnsOf hs) ((pre ++ [x]).map (·.1))
        rw [List.map_append]
        show lnsOf rs = tF fL (lnsOf hs) (pre.map (·.1) ++ [x.1])
        rw [TS1.out, if_neg N0.out]
        exact HT.out
      · show e = if sF fL ((pre ++ [x]).map (·.1)) = true then 0 else 7
        rw [List.map_append]
        show e = if sF fL (pre.map (·.1) ++ [x.1]) = true then 0 else 7
        rw [SS1.out, decide_eq_false N0.out, Bool.or_false]
        exact HE.out
  case stop =>
    rintro D c' pre W _ _ h _
    exact h.elim
  case done =>
    rintro D ys W hD hS ⟨cur, rs, e, K, HL, HC, HN, HT, HE⟩ hK
    have HKD := hid hK
    have BD := hid hD
    have HT2 := hid HT.out
    rw [hS, TF.out.1] at HT2
    have HE2 := hid HE.out
    rw [hS, TF.out.2] at HE2
    have G4L : Hid (g4 < D) := hid (Nat.lt_of_lt_of_le LG4.out BD.out)
    have DW : Hid (w.heap.size ≤ D) := hid (Nat.le_trans HSZ.out BD.out)
    clear hK hD HT HE hS
    have HRr := HR.out
    cases hsm : someN fL (lnsOf hs) f cnt with
    | true =>
      rw [hsm] at HRr HE2
      simp only [if_true] at HRr HE2
      subst HRr
      obtain rfl : e = 0 := HE2
      clear HR hsm
      gi_wp2_with (first
        | gi_big_skip
        | ((with_reducible show wpListIn _ _ _ _ _ _ _ _); refine kiLoad1 (by rfl) 35 _ (by rfl) _ Tryz.underlying35 rfl K (by rfl) (by repeat (first | exact List.mem_cons_self | refine List.mem_cons_of_mem _ ?_)) (by rfl) ?_)
        | ((with_reducible show wpListIn _ _ _ _ _ _ _ _); refine kiLoadA (by rfl) 26 _ (by rfl) 7 _ Tryz.underlying26 rfl (by kernel_rfl) K (by rfl) (by repeat (first | exact List.mem_cons_self | refine List.mem_cons_of_mem _ ?_)) (part := [_, _, _, _, _, _, _]) (by rfl) (by rfl) ?_)
        | ((with_reducible show wpListIn _ _ _ _ _ _ _ _); (have KQ := K); refine kiStoreT (by rfl) 26 (.tmp 4) _ (by rfl) 7 (by kernel_rfl) [_, _, _, _] (by exact K) (by rfl) (by rfl) [_, _, _, _, _, _, _] (by rfl) (by rfl) (by simp) (by simp [Value.oneCell']) (cs := [_, _, _, _, _, _, _]) (by rfl) ?_; intro V2 ON4 K1; (dsimp only [List.cons_append, List.nil_append] at K1); clear K; (have K := K1); clear K1; (have E4 := hid (KQ.out.bx ⟨g4, 26, [.slice none 0 0, .int .i64 0, .int .i64 0, .int .i64 0, .int .i64 0, .int .i64 0, .int .i64 0]⟩ (by simp)).2); clear KQ))
      have HK2 := hid ((ON4.out.block D (by have := G4L.out; omega)).trans HKD.out)
      refine ⟨by simp, .inl ⟨D, _, rfl, run_takeDeferred HK2.out, ?_⟩⟩
      have OWN : ∀ r, some D = some r → w.heap.size ≤ r ∧ ∃ o : Obj, V2.heap[r]? = some o ∧ o.isCells = false := fun r h => by injection h with h; subst h; exact ⟨DW.out, _, HK2.out, rfl⟩
      have K3 := hid (K.out.own (grownBy_putObj' V2 D (.deferred none)) OWN)
      refine ⟨_, results_ct Tryz.results27 (by rfl) (K3.out.loadA (off := 0) (n := 7) (by repeat (first | exact List.mem_cons_self | refine List.mem_cons_of_mem _ ?_)) Tryz.underlying26 rfl (by kernel_rfl) (part := [_, _, _, _, _, _, _]) (by rfl) (by rfl)) (by rfl), ?_⟩
      refine ⟨some ⟨gr, ro, none⟩, n3, c3, rs, rfl, by rw [Q1.out, N3.out, HN.out], Q2.out, HT2, ⟨K3.out.wr (cur := cur) (by simp) HC.out.1 HC.out.2, fun z hz => ?_⟩, K3.out.b⟩
      exact ((HL.out z hz).onl (t := 26) ON4.out E4.out (by decide) (by decide)).own (grownBy_putObj' V2 D (.deferred none)) fun r h => (OWN r h).2
    | false =>
      rw [hsm] at HRr HE2
      simp only [Bool.false_eq_true, if_false] at HRr HE2
      subst HRr
      obtain rfl : e = 7 := HE2
      clear HR hsm
      gi_wp2_with (first
        | gi_big_skip
        | ((with_reducible show wpListIn _ _ _ _ _ _ _ _); refine kiLoad1 (by rfl) 35 _ (by rfl) _ Tryz.underlying35 rfl K (by rfl) (by repeat (first | exact List.mem_cons_self | refine List.mem_cons_of_mem _ ?_)) (by rfl) ?_))
      refine wpIn_wide.2 ?_
      have K := hid (And.intro K.out HKD.out)
      obtain ⟨J, hJ⟩ : ∃ J : (Nat → Bool) → World → Prop, J = fun _ W => (Hid (KG w W [⟨gr, 46, cur⟩, ⟨gs, 26, [.slice A hs.length c, .int .i64 al, .int .i64 aa, .int .i64 fl, .int .i64 fa, .int .i64 on, .int .i64 off]⟩, ⟨g7, 35, [.int .i64 7]⟩, ⟨g6, 26, [.slice (some ⟨gr, ro, none⟩) n3 c3, .int .i64 al, .int .i64 aa, .int .i64 fl, .int .i64 fa, .int .i64 0, .int .i64 0]⟩, ⟨g4, 26, [.slice none 0 0, .int .i64 0, .int .i64 0, .int .i64 0, .int .i64 0, .int .i64 0, .int .i64 0]⟩, ⟨g3, 57, [.func (.func fid) #[] lb]⟩, ⟨g2, 26, [.slice A hs.length c, .int .i64 al, .int .i64 aa, .int .i64 fl, .int .i64 fa, .int .i64 on, .int .i64 off]⟩] []) ∧ Hid (W.heap[D]? = some (.deferred (some [])) ∧ ∀ z ∈ rs, HdW W w.heap.size z)) := ⟨_, rfl⟩
      replace hJ := hid hJ
      refine wp_drawn_det [.agg #[.slice none 0 0, .int .i64 0, .int .i64 0, .int .i64 0, .int .i64 0, .int .i64 0, .int .i64 0], .int .i64 7, undef, .int .i64 7] (by kernel_rfl) (by kernel_rfl) rfl J (by rw [hJ.out]; exact ⟨hid (K.out.1.quiet ⟨1, rfl⟩), hid ⟨K.out.2, fun z hz => (HL.out z hz).later (below_drewN (Below.refl _ W) 1)⟩⟩) ?step ?fin
      case step =>
        clear K
        intro i o b W ho hb hw K
        rw [hJ.out] at K
        simp only [drFrame, List.setIfInBounds_toArray, List.set_cons_succ, List.set_cons_zero]
        obtain ⟨K, HZ⟩ := K
        rcases i with _ | i
        · obtain rfl := Option.some.inj ho
          clear ho hb hw
          go_wp2_with (first
            | fail)
          refine ⟨rfl, rfl, ?_⟩
          rw [hJ.out]
          exact ⟨K, HZ⟩
        rcases i with _ | i
        · obtain rfl := Option.some.inj ho
          clear ho hb hw
          go_wp2_with (first
            | go_big_skip
            | ((with_reducible show wpList _ _ _ _ _ _); refine kgLoad1 (by rfl) 35 _ (by rfl) _ Tryz.underlying35 rfl K (by rfl) (by repeat (first | exact List.mem_cons_self | refine List.mem_cons_of_mem _ ?_)) (by rfl) ?_))
          refine ⟨rfl, rfl, ?_⟩
          rw [hJ.out]
          exact ⟨K, HZ⟩
        rcases i with _ | i
        · obtain rfl := Option.some.inj ho
          clear ho hb hw
          go_wp2_with (first
            | go_big_skip
            | ((with_reducible show wpList _ _ _ _ _ _); (have KQ := K); refine kgStoreT (by rfl) 26 (.tmp 4) _ (by rfl) 7 (by kernel_rfl) [_, _, _, _] (by exact K) (by rfl) (by rfl) [_, _, _, _, _, _, _] (by rfl) (by rfl) (by simp) (by simp [Value.oneCell']) (cs := [_, _, _, _, _, _, _]) (by rfl) ?_; intro V2 ON4 K1; (dsimp only [List.cons_append, List.nil_append] at K1); clear K; (have K := K1); clear K1; (have E4 := hid (KQ.out.bx ⟨g4, 26, [.slice none 0 0, .int .i64 0, .int .i64 0, .int .i64 0, .int .i64 0, .int .i64 0, .int .i64 0]⟩ (by simp)).2); clear KQ))
          refine ⟨rfl, trivial, ?_⟩
          rw [hJ.out]
          exact ⟨K, hid ⟨(ON4.out.block D (by have := G4L.out; omega)).trans HZ.out.1, fun z hz => (HZ.out.2 z hz).onl (t := 26) ON4.out E4.out (by decide) (by decide)⟩⟩
        rcases i with _ | i
        · obtain rfl := Option.some.inj ho
          clear ho hb hw
          go_wp2_with (first
            | fail)
          refine ⟨rfl, rfl, ?_⟩
          rw [hJ.out]
          exact ⟨K, HZ⟩
        · cases ho
      case fin =>
        clear K
        intro b W hb K
        rw [hJ.out] at K
        simp only [drFrame, List.setIfInBounds_toArray, List.set_cons_succ, List.set_cons_zero]
        clear hb hJ
        obtain ⟨K, HZ⟩ := K
        gi_wp2_with (first
          | fail)
        have HK2 := hid HZ.out.1
        refine ⟨by simp, .inl ⟨D, _, rfl, run_takeDeferred HK2.out, ?_⟩⟩
        have OWN : ∀ r, some D = some r → w.heap.size ≤ r ∧ ∃ o : Obj, W.heap[r]? = some o ∧ o.isCells = false := fun r h => by injection h with h; subst h; exact ⟨DW.out, _, HK2.out, rfl⟩
        have K3 := hid (K.out.own (grownBy_putObj' W D (.deferred none)) OWN)
        refine ⟨_, results_ct Tryz.results27 (by rfl) (K3.out.loadA (off := 0) (n := 7) (by repeat (first | exact List.mem_cons_self | refine List.mem_cons_of_mem _ ?_)) Tryz.underlying26 rfl (by kernel_rfl) (part := [_, _, _, _, _, _, _]) (by rfl) (by rfl)) (by rfl), ?_⟩
        exact ⟨none, 0, 0, [], rfl, rfl, Nat.le_refl _, rfl, DocW.nil, K3.out.b⟩
theorem each_any (hs : List Hd) (A : Option Addr) (n c C : Nat) (hn : n = hs.length) (w : World) (hd : DocAt w C A hs) (h1 : hs.length ≤ 1000) (h2 : ∀ h ∈ hs, h.l.ls.length ≤ 1000000 ∧ h.l.cs.length ≤ 1000000) (hf : ∀ h ∈ hs, FineC h.l.cs) (hT : Tb w) (al aa fl fa on off : Int) (fid : Nat) (lb : Array Value) (fL : Ln → Ln × Int) (hfid : ∀ v w, (callFunc fid (#[v] ++ lb)).run Tryz.prog w = .ok (.enter fid (#[v] ++ lb)) w) (hcall : ∀ (x : Hd) (W : World), x ∈ hs → Below w.heap.size w W → LnAt W W.heap.size x.l x.A x.B → Calls Tryz.prog fid (#[lnV x.l x.A x.c x.B x.d] ++ lb) W (RetLnE (fL x.l) W)) :
    Calls Tryz.prog 27 #[.agg #[.slice A n c, .int .i64 al, .int .i64 aa, .int .i64 fl, .int .i64 fa, .int .i64 on, .int .i64 off], .func (.func fid) #[] lb] w (RetStE (eachS fL ⟨lnsOf hs, ⟨al, aa⟩, ⟨fl, fa⟩, on, off⟩) w) := by
  cases mb : mayS ⟨lnsOf hs, ⟨al, aa⟩, ⟨fl, fa⟩, on, off⟩ with
  | false =>
    have e : eachS fL ⟨lnsOf hs, ⟨al, aa⟩, ⟨fl, fa⟩, on, off⟩ = (zS, 1) := by unfold eachS; rw [mb]; rfl
    rw [e]
    exact each_no hs A n c C hn w hd h1 h2 hf hT al aa fl fa on off _ ⟨_, _, _, rfl⟩ mb
  | true => exact each_yes hs A n c C hn w hd h1 h2 hf hT al aa fl fa on off fid lb fL hfid hcall mb
end Go.Proofs.YtblbfoniimnkcaaGreatDoor

/- What is selected, as a list; the walk of blocks.listed. (Printed by wip/bldoc.py.) -/
namespace Go.Proofs.YtblbfoniimnkcaaGreatDoor
open Go.RowKit Go.Lib Go.Shelf
attribute [local go_sem] Oper.semAt_some

theorem sel_its (s : Stt) (hs : List Hd) (hd : s.d = lnsOf hs) (f cnt : Nat) (h1 : (fromS s).l = f) (h2 : (toS s).l + 1 = ((f + cnt : Nat) : Int)) (h3 : f + cnt ≤ hs.length) (h4 : 0 ≤ (toS s).l) : (itsF hs f cnt).map (fun x => x.h.l) = sel s := by
  unfold sel
  rw [hd, show (fromS s).l.toNat = f from by omega]
  apply List.ext_getElem?
  intro k
  by_cases hk : k < cnt
  · rw [selF_get _ (show f + k ≤ (toS s).l.toNat by omega), List.getElem?_map]
    have key : ∀ n, k < n → n ≤ cnt → (itsF hs f n)[k]? = (hs[f + k]?).map fun h => ⟨f + k, h⟩ := by
      intro n
      induction n with
      | zero => intro h; omega
      | succ n ih =>
        intro hn hc
        have hx : hs[f + n]? = some (hs[f + n]'(by omega)) := List.getElem?_eq_getElem (by omega)
        rw [itsF_step hx]
        by_cases e : k < n
        · rw [List.getElem?_append_left (by rw [itsF_len n (by omega)]; exact e)]
          exact ih e (by omega)
        · obtain rfl : k = n := by omega
          rw [List.getElem?_append_right (by rw [itsF_len k (by omega)]; exact Nat.le_refl _), itsF_len k (by omega), hx]
          simp
    rw [key cnt hk (Nat.le_refl _)]
    unfold lnsOf
    rw [List.getElem?_map]
    cases hs[f + k]? <;> rfl
  · rw [List.getElem?_eq_none (by rw [List.length_map, itsF_len cnt h3]; omega), List.getElem?_eq_none (by rw [selF_len _ _ _ (by rw [lnsOf_len]; omega)]; omega)]
set_option maxRecDepth 100000 in
set_option maxHeartbeats 4000000 in
theorem listed_any (l : Ln) (A : Option Addr) (n c : Nat) (B : Option Addr) (m d C : Nat) (kind : Int) (hn : n = l.ls.length) (w : World) (hl : LnAt w C l A B) (h1 : l.ls.length ≤ 1000000000) (hm : m = l.cs.length) :
    Calls Tryz.prog 25 #[.agg #[.int .i64 l.q, .slice A n c, .int .i64 l.k, .slice B m d], .int .i64 kind] w (IsBool (listedL kind l) w) := by
  subst hm
  have K := hid (KG.start w [] (by simp))
  unfold listedL
  cases n with
  | zero =>
    have h0 : l.ls.length = 0 := hn.symm
    have M := hid (show (decide (0 < l.ls.length) && decide (lastI l.ls = kind)) = false by rw [h0]; rfl)
    rw [M.out]
    clear hn h0 M hl
    go_enter Tryz.func25, Tryz.ntmps25
    go_wp2_with (first
      | go_big_skip
      | ((with_reducible show wpList _ _ _ _ _ _); refine kgBox (by rfl) 46 _ (by rfl) (some 2) (by rfl) (by rfl) [_, _, _, _] (by rfl) K ?_; intro g2 V1 K1; clear K; (have K := K1); clear K1)
      | ((with_reducible show wpList _ _ _ _ _ _); refine kgLoad1 (by rfl) 43 _ (by rfl) _ Tryz.underlying43 rfl K (by rfl) (by repeat (first | exact List.mem_cons_self | refine List.mem_cons_of_mem _ ?_)) (by rfl) ?_))
    go_ret
    exact ⟨rfl, K.out.b⟩
  | succ n =>
    obtain ⟨ad, x, rfl, had, hx, x0⟩ := hl.live.ls.atI (show n < l.ls.length by omega)
    have HX0 : Hid (∀ W, Below w.heap.size w W → W.cell? (ad.add n) = some (.int .i64 x)) := hid (fun W hb => (hb.cell (by rw [block_add]; exact had)).trans x0)
    have e : lastI l.ls = x := lastI_at hx hn
    have hp : 0 < l.ls.length := by omega
    rw [decide_eq_true hp, Bool.true_and, e]
    have hi : (n : Int) < ((n + 1 : Nat) : Int) := by omega
    have hb1 : n < 1000000000 := by omega
    have k1 : (0 : Int) < ((n + 1 : Nat) : Int) := by omega
    have M : Hid (decide (x = kind) = (x == kind)) := hid (by rw [Bool.eq_iff_iff]; simp)
    rw [M.out]
    obtain ⟨z, hz⟩ : ∃ z, (x == kind) = z := ⟨_, rfl⟩
    rw [hz]
    have HZ := hid hz
    clear hn hx x0 e hp had hl M hz h1
    go_enter Tryz.func25, Tryz.ntmps25
    go_wp2_with (first
      | go_big_skip
      | ((with_reducible show wpList _ _ _ _ _ _); refine kgBox (by rfl) 46 _ (by rfl) (some 2) (by rfl) (by rfl) [_, _, _, _] (by rfl) K ?_; intro g2 V1 K1; clear K; (have K := K1); clear K1)
      | ((with_reducible show wpList _ _ _ _ _ _); refine kgLoad1 (by rfl) 43 _ (by rfl) _ Tryz.underlying43 rfl K (by rfl) (by repeat (first | exact List.mem_cons_self | refine List.mem_cons_of_mem _ ?_)) (by rfl) ?_)
      | ((with_reducible show wpList _ _ _ _ _ _); refine wpList_loadV (by rfl) 3 (.tmp 16) (by rfl) (by rfl) (run_loadVar_one _ _ 3 (.int .i64 x) _ (HX0.out _ K.out.b) Tryz.underlying3 rfl) ?_))
    go_ret
    exact ⟨by rw [← HZ.out] <;> rfl, K.out.b⟩
end Go.Proofs.YtblbfoniimnkcaaGreatDoor

/- The walk of blocks.Listed. (Printed by wip/bldoc.py.) -/
namespace Go.Proofs.YtblbfoniimnkcaaGreatDoor
open Go.RowKit Go.Lib Go.Shelf
attribute [local go_sem] Oper.semAt_some

/-- The two answers, on the way. -/
structure B2 where
  a : Bool
  s : Bool
/-- What a call answers: two Bools. -/
def IsBB (p : Bool × Bool) (w : World) (e : Ending) (w' : World) : Prop := e = .returned (.tuple #[.bool p.1, .bool p.2]) ∧ Below w.heap.size w w'
set_option maxRecDepth 100000 in
set_option maxHeartbeats 4000000 in
theorem listedNo (hs : List Hd) (A : Option Addr) (n c C : Nat) (hn : n = hs.length) (w : World) (hd : DocAt w C A hs) (h1 : hs.length ≤ 1000) (h2 : ∀ h ∈ hs, h.l.ls.length ≤ 1000000 ∧ h.l.cs.length ≤ 1000000) (hf : ∀ h ∈ hs, FineC h.l.cs) (hT : Tb w) (al aa fl fa on off kind : Int) (mb : mayS ⟨lnsOf hs, ⟨al, aa⟩, ⟨fl, fa⟩, on, off⟩ = false) :
    Calls Tryz.prog 9 #[.agg #[.slice A n c, .int .i64 al, .int .i64 aa, .int .i64 fl, .int .i64 fa, .int .i64 on, .int .i64 off], .int .i64 kind] w (IsBB (false, false) w) := by
  subst hn
  have D0 := hid h2
  have L0 := hid h1
  have K := hid (KG.start w [⟨hs, A, false⟩] (by simpa using hd.live))
  have T := hid hT
  have FI := hid hf
  have H2 := hid h2
  have MB := hid mb
  clear hd h2 hT hf mb
  go_enter Tryz.func9, Tryz.ntmps9
  go_wp2_with (first
    | go_big_skip
    | ((with_reducible show wpList _ _ _ _ _ _); refine kgBox (by rfl) 26 _ (by rfl) (some 2) (by rfl) (by rfl) [_, _, _, _, _, _, _] (by rfl) K ?_; intro g2 V1 K1; clear K; (have K := K1); clear K1)
    | ((with_reducible show wpList _ _ _ _ _ _); refine kgBox (by rfl) 3 _ (by rfl) (some 3) (by rfl) (v := .int .i64 kind) (by rfl) [.int .i64 kind] (by rfl) K ?_; intro g3 V1 K1; clear K; (have K := K1); clear K1)
    | ((with_reducible show wpList _ _ _ _ _ _); refine kgAlloc (by rfl) 4 (by rfl) (some 4) (by rfl) [.bool false] (fun _ => by kernel_rfl) K ?_; intro g4 V1 K1; clear K; (have K := K1); clear K1)
    | ((with_reducible show wpList _ _ _ _ _ _); refine kgAlloc (by rfl) 4 (by rfl) (some 5) (by rfl) [.bool false] (fun _ => by kernel_rfl) K ?_; intro g5 V1 K1; clear K; (have K := K1); clear K1)
    | ((with_reducible show wpList _ _ _ _ _ _); refine kgLoadA (by rfl) 26 _ (by rfl) 7 _ Tryz.underlying26 rfl (by kernel_rfl) K (by rfl) (by repeat (first | exact List.mem_cons_self | refine List.mem_cons_of_mem _ ?_)) (part := [_, _, _, _, _, _, _]) (by rfl) (by rfl) ?_)
    | (go_at_call 21; (with_reducible refine (tMay_any hs A _ c _ rfl _ (K.out.at_ (d := ⟨hs, A, false⟩) (by simp)) h1 H2.out FI.out (Utf8Tabs_below T.out K.out.b) al aa fl fa on off).mono ?_); rintro e W2 ⟨rfl, hb⟩; rw [MB.out]; (have K2 := hid (K.out.later hb)); clear hb K; (have K := K2); clear K2)
    | ((with_reducible show wpList _ _ _ _ _ _); refine kgStore (by rfl) 4 (.tmp 4) _ (by rfl) 1 (by kernel_rfl) [_] (by exact K) (by rfl) (v := .bool false) (by rfl) [.bool false] (by rfl) (by rfl) (by simp) (by simp [Value.oneCell']) (cs := [_]) (by rfl) ?_; intro V2 K1; (dsimp only [List.cons_append, List.nil_append] at K1); clear K; (have K := K1); clear K1)
    | ((with_reducible show wpList _ _ _ _ _ _); refine kgStore (by rfl) 4 (.tmp 5) _ (by rfl) 1 (by kernel_rfl) [] (by exact K) (by rfl) (v := .bool false) (by rfl) [.bool false] (by rfl) (by rfl) (by simp) (by simp [Value.oneCell']) (cs := [_]) (by rfl) ?_; intro V2 K1; (dsimp only [List.cons_append, List.nil_append] at K1); clear K; (have K := K1); clear K1))
  refine bodyPost_ret (results_cc Tryz.results9 (by rfl) (K.out.load1 (off := 0) (by repeat (first | exact List.mem_cons_self | refine List.mem_cons_of_mem _ ?_)) Tryz.underlying4 rfl (by rfl)) (by rfl) (K.out.load1 (off := 0) (by repeat (first | exact List.mem_cons_self | refine List.mem_cons_of_mem _ ?_)) Tryz.underlying4 rfl (by rfl))) rfl ?_
  exact ⟨rfl, K.out.b⟩
set_option maxRecDepth 100000 in
set_option maxHeartbeats 16000000 in
theorem listedYes (hs : List Hd) (A : Option Addr) (n c C : Nat) (hn : n = hs.length) (w : World) (hd : DocAt w C A hs) (h1 : hs.length ≤ 1000) (h2 : ∀ h ∈ hs, h.l.ls.length ≤ 1000000 ∧ h.l.cs.length ≤ 1000000) (hf : ∀ h ∈ hs, FineC h.l.cs) (hT : Tb w) (al aa fl fa on off kind : Int) (mb : mayS ⟨lnsOf hs, ⟨al, aa⟩, ⟨fl, fa⟩, on, off⟩ = true) :
    Calls Tryz.prog 9 #[.agg #[.slice A n c, .int .i64 al, .int .i64 aa, .int .i64 fl, .int .i64 fa, .int .i64 on, .int .i64 off], .int .i64 kind] w (IsBB (listedS ⟨lnsOf hs, ⟨al, aa⟩, ⟨fl, fa⟩, on, off⟩ kind) w) := by
  obtain ⟨z1, z2, z3, z4⟩ := mayS_in mb
  dsimp only at z3 z4
  rw [lnsOf_len] at z3 z4
  obtain ⟨f, hf0⟩ : ∃ f, (fromS ⟨lnsOf hs, ⟨al, aa⟩, ⟨fl, fa⟩, on, off⟩).l.toNat = f := ⟨_, rfl⟩
  obtain ⟨cnt, hc0⟩ : ∃ cnt, (toS ⟨lnsOf hs, ⟨al, aa⟩, ⟨fl, fa⟩, on, off⟩).l.toNat + 1 - f = cnt := ⟨_, rfl⟩
  have YF : Hid ((fromS ⟨lnsOf hs, ⟨al, aa⟩, ⟨fl, fa⟩, on, off⟩).l = f) := hid (by omega)
  have YT : Hid ((toS ⟨lnsOf hs, ⟨al, aa⟩, ⟨fl, fa⟩, on, off⟩).l + 1 = ((f + cnt : Nat) : Int)) := hid (by omega)
  have YL : Hid (f + cnt ≤ hs.length) := hid (by omega)
  have SEL := hid (sel_its ⟨lnsOf hs, ⟨al, aa⟩, ⟨fl, fa⟩, on, off⟩ hs rfl f cnt YF.out YT.out YL.out (by omega))
  have HD := hid hd.live
  clear z1 z2 z3 z4 hf0 hc0
  obtain ⟨r, hr⟩ : ∃ r, listedS ⟨lnsOf hs, ⟨al, aa⟩, ⟨fl, fa⟩, on, off⟩ kind = r := ⟨_, rfl⟩
  rw [hr]
  have HR : Hid (((sel ⟨lnsOf hs, ⟨al, aa⟩, ⟨fl, fa⟩, on, off⟩).all (listedL kind), (sel ⟨lnsOf hs, ⟨al, aa⟩, ⟨fl, fa⟩, on, off⟩).any (listedL kind)) = r) := hid (by rw [← hr]; unfold listedS; rw [if_pos mb])
  clear hr
  subst hn
  have D0 := hid h2
  have L0 := hid h1
  have K := hid (KG.start w [⟨hs, A, false⟩] (by simpa using hd.live))
  have T := hid hT
  have FI := hid hf
  have H2 := hid h2
  have MB := hid mb
  clear hd h2 hT hf mb
  refine (callsIn_wide (n := 6)).1 ?_
  refine callsIn_of_wp_marks Tryz.func9 rfl trivial ?_ rfl
  simp only [Tryz.ntmps9, List.size_toArray, List.length_cons, List.length_nil, Nat.reduceAdd, Nat.reduceSub, Array.replicate_succ, Array.replicate_zero, List.push_toArray, List.append_toArray, List.nil_append, List.cons_append]
  gi_wp2_with (first
    | gi_big_skip
    | ((with_reducible show wpListIn _ _ _ _ _ _ _ _); refine kiBox (by rfl) 26 _ (by rfl) (some 2) (by rfl) (by rfl) [_, _, _, _, _, _, _] (by rfl) K ?_; intro g2 V1 K1; clear K; (have K := K1); clear K1)
    | ((with_reducible show wpListIn _ _ _ _ _ _ _ _); refine kiBox (by rfl) 3 _ (by rfl) (some 3) (by rfl) (v := .int .i64 kind) (by rfl) [.int .i64 kind] (by rfl) K ?_; intro g3 V1 K1; clear K; (have K := K1); clear K1)
    | ((with_reducible show wpListIn _ _ _ _ _ _ _ _); refine kiAlloc (by rfl) 4 (by rfl) (some 4) (by rfl) [.bool false] (fun _ => by kernel_rfl) K ?_; intro g4 V1 K1; clear K; (have K := K1); clear K1)
    | ((with_reducible show wpListIn _ _ _ _ _ _ _ _); refine kiAlloc (by rfl) 4 (by rfl) (some 5) (by rfl) [.bool false] (fun _ => by kernel_rfl) K ?_; intro g5 V1 K1; clear K; (have K := K1); clear K1)
    | ((with_reducible show wpListIn _ _ _ _ _ _ _ _); refine kiLoadA (by rfl) 26 _ (by rfl) 7 _ Tryz.underlying26 rfl (by kernel_rfl) K (by rfl) (by repeat (first | exact List.mem_cons_self | refine List.mem_cons_of_mem _ ?_)) (part := [_, _, _, _, _, _, _]) (by rfl) (by rfl) ?_)
    | ((first | refine ⟨trivial, (fun h => by cases h), ?_⟩ | refine ⟨trivial, ?_⟩); gi_at_call 21; (with_reducible refine (callsIn_wide.2 (tMay_any hs A _ c _ rfl _ (K.out.at_ (d := ⟨hs, A, false⟩) (by simp)) h1 H2.out FI.out (Utf8Tabs_below T.out K.out.b) al aa fl fa on off)).mono ?_); rintro e W2 ⟨rfl, hb⟩; rw [MB.out]; (have K2 := hid (K.out.later hb)); clear hb K; (have K := K2); clear K2)
    | ((with_reducible show wpListIn _ _ _ _ _ _ _ _); refine kiStore (by rfl) 4 (.tmp 4) _ (by rfl) 1 (by kernel_rfl) [_] (by exact K) (by rfl) (v := .bool true) (by rfl) [.bool true] (by rfl) (by rfl) (by simp) (by simp [Value.oneCell']) (cs := [_]) (by rfl) ?_; intro V2 K1; (dsimp only [List.cons_append, List.nil_append] at K1); clear K; (have K := K1); clear K1)
    | ((first | refine ⟨trivial, (fun h => by cases h), ?_⟩ | refine ⟨trivial, ?_⟩); gi_at_call 22; (with_reducible refine (callsIn_wide.2 (selected_any (.slice A hs.length c) al aa fl fa on off ⟨_, _, _, rfl⟩ _)).mono ?_); rintro e W5 ⟨gs, rfl, hgs, hW5⟩; (have K2 := hid (K.out.new 26 [.slice A hs.length c, .int .i64 al, .int .i64 aa, .int .i64 fl, .int .i64 fa, .int .i64 on, .int .i64 off] hgs hW5)); (have LT := hid (show gs + 1 = W5.heap.size by rw [hW5, World.size_alloc, hgs])); clear hgs hW5 K; (have K := K2); clear K2))
  have KB := hid (KG.bare K.out)
  have SEQ := hid (sel_seq 5 gs gs w W5 ⟨lnsOf hs, ⟨al, aa⟩, ⟨fl, fa⟩, on, off⟩ hs A c HD.out KB.out.b (KB.out.bx ⟨gs, 26, [.slice A hs.length c, .int .i64 al, .int .i64 aa, .int .i64 fl, .int .i64 fa, .int .i64 on, .int .i64 off]⟩ (by simp)).1 (Nat.le_refl _) f cnt YF.out YT.out YL.out L0.out (KB.out.bx ⟨gs, 26, [.slice A hs.length c, .int .i64 al, .int .i64 aa, .int .i64 fl, .int .i64 fa, .int .i64 on, .int .i64 off]⟩ (by simp)).2)
  have HSZ := hid KB.out.b.size
  have LGS : Hid (gs < W5.heap.size) := hid (KB.out.lt (x := ⟨gs, 26, [.slice A hs.length c, .int .i64 al, .int .i64 aa, .int .i64 fl, .int .i64 fa, .int .i64 on, .int .i64 off]⟩) (by simp))
  have NDs := hid KB.out.nd
  have Lg4 : Hid (g4 < gs) := hid (by
    have h1 := KB.out.lt (x := ⟨g4, 4, [.bool true]⟩) (by simp)
    have h2 := LT.out
    have h3 : gs ≠ g4 := (List.pairwise_cons.1 NDs.out).1 ⟨g4, 4, [.bool true]⟩ (by simp)
    have h1' : g4 < W5.heap.size := h1
    omega)
  have Mg4 : Hid (w.heap.size ≤ g4) := hid (KB.out.bx ⟨g4, 4, [.bool true]⟩ (by simp)).1
  have Lg5 : Hid (g5 < gs) := hid (by
    have h1 := KB.out.lt (x := ⟨g5, 4, [.bool false]⟩) (by simp)
    have h2 := LT.out
    have h3 : gs ≠ g5 := (List.pairwise_cons.1 NDs.out).1 ⟨g5, 4, [.bool false]⟩ (by simp)
    have h1' : g5 < W5.heap.size := h1
    omega)
  have Mg5 : Hid (w.heap.size ≤ g5) := hid (KB.out.bx ⟨g5, 4, [.bool false]⟩ (by simp)).1
  have I0 : (fun (pre : List (ItV hs)) (W : World) => ∃ (p : B2), Hid (KG w W [⟨gs, 26, [.slice A hs.length c, .int .i64 al, .int .i64 aa, .int .i64 fl, .int .i64 fa, .int .i64 on, .int .i64 off]⟩, ⟨g5, 4, [.bool p.s]⟩, ⟨g4, 4, [.bool p.a]⟩, ⟨g3, 3, [.int .i64 kind]⟩, ⟨g2, 26, [.slice A hs.length c, .int .i64 al, .int .i64 aa, .int .i64 fl, .int .i64 fa, .int .i64 on, .int .i64 off]⟩] []) ∧ Hid (p.a = (pre.map (·.1)).all fun x => listedL kind x.h.l) ∧ Hid (p.s = (pre.map (·.1)).any fun x => listedL kind x.h.l)) [] W5 := ⟨⟨true, false⟩, KB, hid rfl, hid rfl⟩
  have OI : ∀ B, w.heap.size ≤ B → OwnFrom B (fun (pre : List (ItV hs)) (W : World) => ∃ (p : B2), Hid (KG w W [⟨gs, 26, [.slice A hs.length c, .int .i64 al, .int .i64 aa, .int .i64 fl, .int .i64 fa, .int .i64 on, .int .i64 off]⟩, ⟨g5, 4, [.bool p.s]⟩, ⟨g4, 4, [.bool p.a]⟩, ⟨g3, 3, [.int .i64 kind]⟩, ⟨g2, 26, [.slice A hs.length c, .int .i64 al, .int .i64 aa, .int .i64 fl, .int .i64 fa, .int .i64 on, .int .i64 off]⟩] []) ∧ Hid (p.a = (pre.map (·.1)).all fun x => listedL kind x.h.l) ∧ Hid (p.s = (pre.map (·.1)).any fun x => listedL kind x.h.l)) := by
    rintro B hB pre V V' row ⟨p, K, H0, H1⟩ hg hr
    exact ⟨p, hid (K.out.own hg fun r h => ⟨Nat.le_trans hB (hr r h).1, (hr r h).2⟩), H0, H1⟩
  replace I0 := hid I0
  replace OI := hid OI
  have H3 := H2
  clear K KB NDs D0 H2 MB
  refine wpIn_rangeFunc_ownH rfl (by omega) (gf := 38) (lb := #[.pointer (some ⟨gs, 0, none⟩)]) rfl trivial (enters_of Tryz.func38 (by kernel_rfl) rfl)
    SEQ.out KpS.trans (KpS.put HSZ.out) (Below.refl _ _) ?hps
    (fun pre W => ∃ (p : B2), Hid (KG w W [⟨gs, 26, [.slice A hs.length c, .int .i64 al, .int .i64 aa, .int .i64 fl, .int .i64 fa, .int .i64 on, .int .i64 off]⟩, ⟨g5, 4, [.bool p.s]⟩, ⟨g4, 4, [.bool p.a]⟩, ⟨g3, 3, [.int .i64 kind]⟩, ⟨g2, 26, [.slice A hs.length c, .int .i64 al, .int .i64 aa, .int .i64 fl, .int .i64 fa, .int .i64 on, .int .i64 off]⟩] []) ∧ Hid (p.a = (pre.map (·.1)).all fun x => listedL kind x.h.l) ∧ Hid (p.s = (pre.map (·.1)).any fun x => listedL kind x.h.l)) (fun _ _ _ => False) (OI.out _ HSZ.out) (fun _ _ _ _ _ hs _ _ => hs)
    I0.out
    (fun x a' W => ∃ g7, W.heap[g7]? = some (.cells #[.int .i64 x.1.h.l.q, .slice x.1.h.A x.1.h.l.ls.length x.1.h.c, .int .i64 x.1.h.l.k, .slice x.1.h.B x.1.h.l.cs.length x.1.h.d] 46 (0, 0)) ∧ a' = { tmps := #[.agg #[.slice A hs.length c, .int .i64 al, .int .i64 aa, .int .i64 fl, .int .i64 fa, .int .i64 on, .int .i64 off], .int .i64 kind, .pointer (some ⟨g2, 0, none⟩), .pointer (some ⟨g3, 0, none⟩), .pointer (some ⟨g4, 0, none⟩), .pointer (some ⟨g5, 0, none⟩), undef, .pointer (some ⟨g7, 0, none⟩), undef, .agg #[.slice A hs.length c, .int .i64 al, .int .i64 aa, .int .i64 fl, .int .i64 fa, .int .i64 on, .int .i64 off], .bool true, .bool false, .agg #[.slice A hs.length c, .int .i64 al, .int .i64 aa, .int .i64 fl, .int .i64 fa, .int .i64 on, .int .i64 off], .func (.func 38) #[] #[.pointer (some ⟨gs, 0, none⟩)], .int .i64 x.1.i, .agg #[.int .i64 x.1.h.l.q, .slice x.1.h.A x.1.h.l.ls.length x.1.h.c, .int .i64 x.1.h.l.k, .slice x.1.h.B x.1.h.l.cs.length x.1.h.d], undef, undef, undef, undef, undef, undef, undef, undef, undef, undef, undef, undef, undef], defers := [] })
    (fun x a' _ X Y row hs hg hr => by
      obtain ⟨gx, h1, h2⟩ := hs
      refine ⟨gx, (hg.block gx (Array.getElem?_eq_some_iff.1 h1).1 ?_).trans h1, h2⟩
      rintro rfl
      obtain ⟨_, o, ho, hc⟩ := hr _ rfl
      rw [h1] at ho
      injection ho with ho
      subst ho
      cases hc)
    ?assign ?body ?done ?stop
  case hps => intro x; rfl
  case assign =>
    rintro l pre x W KX hI hKX
    have HI := hid hI
    have HX := hid hKX
    have SZ : Hid (W5.heap.size ≤ W.heap.size) := hid (by
      obtain ⟨p, K, -⟩ := HI.out
      have h1 := K.out.lt (x := ⟨gs, 26, [.slice A hs.length c, .int .i64 al, .int .i64 aa, .int .i64 fl, .int .i64 fa, .int .i64 on, .int .i64 off]⟩) (by simp)
      have h2 := LT.out
      have h1' : gs < W.heap.size := h1
      omega)
    have K := hid (KG.start W [] (by simp))
    clear hI hKX
    dsimp only [encsI]
    simp only [List.zip_toArray, List.zip_cons_cons, List.zip_nil_right, List.foldl_toArray, List.foldl_cons, List.foldl_nil, List.setIfInBounds_toArray, List.set_cons_succ, List.set_cons_zero]
    gi_wp2_with (first
      | gi_big_skip
      | ((with_reducible show wpListIn _ _ _ _ _ _ _ _); refine kiAlloc (by rfl) 46 (by rfl) (some 7) (by rfl) [.int .i64 0, .slice none 0 0, .int .i64 0, .slice none 0 0] (fun _ => by kernel_rfl) K ?_; intro g7 V1 K1; clear K; (have K := K1); clear K1)
      | ((with_reducible show wpListIn _ _ _ _ _ _ _ _); refine kiStore (by rfl) 46 (.tmp 7) _ (by rfl) 4 (by kernel_rfl) [] (by exact K) (by rfl) (by rfl) [_, _, _, _] (by rfl) (by rfl) (by simp) (by simp [Value.oneCell']) (cs := [_, _, _, _]) (by rfl) ?_; intro V2 K1; (dsimp only [List.cons_append, List.nil_append] at K1); clear K; (have K := K1); clear K1))
    exact HX.out _ _ (KeepsFrom.below K.out.b) (KpS.later K.out.b (Nat.le_trans HSZ.out SZ.out)) (OI.out _ (Nat.le_refl _) pre W V2 none HI.out (grownB K.out.b) (fun r h => by cases h)) ⟨g7, (K.out.bx ⟨g7, 46, [.int .i64 x.1.h.l.q, .slice x.1.h.A x.1.h.l.ls.length x.1.h.c, .int .i64 x.1.h.l.k, .slice x.1.h.B x.1.h.l.cs.length x.1.h.d]⟩ (by simp)).2, rfl⟩
  case body =>
    rintro l pre x a' W hl' ⟨r', hr'⟩ ⟨p, KO, H0, H1⟩ ⟨g7, hg9, rfl⟩ hlt
    have SZ : Hid (W5.heap.size ≤ W.heap.size) := hid (by have := (Array.getElem?_eq_some_iff.1 hr').1; omega)
    have K := hid (KG.start W [] (by simp))
    have G9 := hid hg9
    have L9 := hid (Array.getElem?_eq_some_iff.1 hg9).1
    have XM : Hid (x.1.h ∈ hs) := hid (List.mem_of_getElem? x.2)
    have BW : Hid (Below w.heap.size w W) := hid KO.out.b
    have LX := hid (HD.out.ln x.2)
    clear hr' hlt hl' hg9
    have XB : Hid (x.1.h.l.ls.length ≤ 1000000000) := hid (by have := (H3.out x.1.h XM.out).1; omega)
    obtain ⟨bv, hbv⟩ : ∃ b, listedL kind x.1.h.l = b := ⟨_, rfl⟩
    have HBV := hid hbv
    clear hbv
    obtain ⟨av, sv⟩ := p
    dsimp only at KO H0 H1
    cases av <;> cases sv <;> cases bv
    all_goals
      gi_wp2_with (first
        | gi_big_skip
        | ((with_reducible show wpListIn _ _ _ _ _ _ _ _); refine wpListIn_loadV (by rfl) 46 (.tmp 7) (by rfl) (by rfl) (run_loadVar_row _ g7 46 46 _ (0, 0) _ ((K.out.b.block g7 L9.out).trans G9.out) Tryz.underlying46 rfl (by kernel_rfl)) ?_)
        | ((with_reducible show wpListIn _ _ _ _ _ _ _ _); refine kiOld1 (by rfl) 3 (.tmp 3) (by rfl) _ Tryz.underlying3 rfl KO K (by rfl) (by repeat (first | exact List.mem_cons_self | refine List.mem_cons_of_mem _ ?_)) (v := .int .i64 kind) (by rfl) ?_)
        | ((with_reducible show wpListIn _ _ _ _ _ _ _ _); refine kiOld1 (by rfl) 4 (.tmp 4) (by rfl) _ Tryz.underlying4 rfl KO K (by rfl) (by repeat (first | exact List.mem_cons_self | refine List.mem_cons_of_mem _ ?_)) (v := .bool _) (by rfl) ?_)
        | ((with_reducible show wpListIn _ _ _ _ _ _ _ _); refine kiOld1 (by rfl) 4 (.tmp 5) (by rfl) _ Tryz.underlying4 rfl KO K (by rfl) (by repeat (first | exact List.mem_cons_self | refine List.mem_cons_of_mem _ ?_)) (v := .bool _) (by rfl) ?_)
        | ((first | refine ⟨trivial, (fun h => by cases h), ?_⟩ | refine ⟨trivial, ?_⟩); gi_at_call 25; (refine (CallsIn.inRound _ (callsIn_wide.2 (listed_any x.1.h.l x.1.h.A _ x.1.h.c x.1.h.B _ x.1.h.d _ kind rfl _ (LX.out.belowM (BW.out.trans (K.out.b.mono BW.out.size)) (Nat.le_refl _)) XB.out rfl))).mono ?_); rintro e0 W3 ⟨rfl, hb3⟩; rw [HBV.out]; (have K2 := hid (K.out.later hb3)); clear hb3 K; (have K := K2); clear K2)
        | ((with_reducible show wpListIn _ _ _ _ _ _ _ _); (have B4 := hid K.out.b); (have KM := hid (KO.out.merge K.out)); refine kiStoreT (by rfl) 4 (.tmp 4) _ (by rfl) 1 (by kernel_rfl) [_, _] (by exact KM) (by rfl) (v := .bool _) (by rfl) [.bool _] (by rfl) (by rfl) (by simp) (by simp [Value.oneCell']) (cs := [_]) (by rfl) ?_; intro V2 ON1 K1; (dsimp only [List.cons_append, List.nil_append] at K1); clear K KM; (have K := K1); clear K1)
        | ((with_reducible show wpListIn _ _ _ _ _ _ _ _); refine kiStoreT (by rfl) 4 (.tmp 5) _ (by rfl) 1 (by kernel_rfl) [_] (by exact K) (by rfl) (v := .bool _) (by rfl) [.bool _] (by rfl) (by rfl) (by simp) (by simp [Value.oneCell']) (cs := [_]) (by rfl) ?_; intro V2 ON2 K1; (dsimp only [List.cons_append, List.nil_append] at K1); clear K; (have K := K1); clear K1))
      refine ⟨KeepsFrom.onl (KeepsFrom.onl (KeepsFrom.below B4.out) ON1.out (Nat.lt_trans Lg4.out LGS.out)) ON2.out (Nat.lt_trans Lg5.out LGS.out), ((KpS.later B4.out BW.out.size).onl ON1.out Mg4.out Lg4.out).onl ON2.out Mg5.out Lg5.out, ⟨_, _⟩, K, hid ?_, hid ?_⟩
      · show _ = (((pre ++ [x]).map (·.1)).all fun x => listedL kind x.h.l)
        rw [List.map_append, List.all_append, ← H0.out]
        simp only [List.map_cons, List.map_nil, List.all_cons, List.all_nil, HBV.out]
        rfl
      · show _ = (((pre ++ [x]).map (·.1)).any fun x => listedL kind x.h.l)
        rw [List.map_append, List.any_append, ← H1.out]
        simp only [List.map_cons, List.map_nil, List.any_cons, List.any_nil, HBV.out]
        rfl
  case stop =>
    rintro D c' pre W _ _ h _
    exact h.elim
  case done =>
    rintro D ys W hD hS ⟨⟨av, sv⟩, K, H0, H1⟩ hK
    dsimp only at K H0 H1
    have HKD := hid hK
    have DW : Hid (w.heap.size ≤ D) := hid (Nat.le_trans HSZ.out hD)
    have RA : Hid ((av, sv) = r) := hid (by
      rw [← HR.out, ← SEL.out, ← hS, H0.out, H1.out]
      simp [List.all_map, List.any_map, Function.comp_def])
    have DG4 : Hid (g4 < D) := hid (by have h1 := Lg4.out; have h2 := LGS.out; omega)
    have DG5 : Hid (g5 < D) := hid (by have h1 := Lg5.out; have h2 := LGS.out; omega)
    clear hK hD H0 H1 hS
    gi_wp2_with (fail)
    refine wpIn_wide.2 ?_
    have K := hid (And.intro K.out HKD.out)
    obtain ⟨J, hJ⟩ : ∃ J : (Nat → Bool) → World → Prop, J = fun _ W => (Hid (KG w W [⟨gs, 26, [.slice A hs.length c, .int .i64 al, .int .i64 aa, .int .i64 fl, .int .i64 fa, .int .i64 on, .int .i64 off]⟩, ⟨g5, 4, [.bool sv]⟩, ⟨g4, 4, [.bool av]⟩, ⟨g3, 3, [.int .i64 kind]⟩, ⟨g2, 26, [.slice A hs.length c, .int .i64 al, .int .i64 aa, .int .i64 fl, .int .i64 fa, .int .i64 on, .int .i64 off]⟩] []) ∧ Hid (W.heap[D]? = some (.deferred (some [])))) := ⟨_, rfl⟩
    replace hJ := hid hJ
    refine wp_drawn_det [.bool av, .bool sv, undef, undef] (by kernel_rfl) (by kernel_rfl) rfl J (by rw [hJ.out]; exact ⟨hid (K.out.1.quiet ⟨1, rfl⟩), hid K.out.2⟩) ?step ?fin
    case step =>
      clear K
      intro i o b W ho hb hw K
      rw [hJ.out] at K
      simp only [drFrame, List.setIfInBounds_toArray, List.set_cons_succ, List.set_cons_zero]
      obtain ⟨K, HZ⟩ := K
      rcases i with _ | i
      · obtain rfl := Option.some.inj ho
        clear ho hb hw
        go_wp2_with (first
          | go_big_skip
          | ((with_reducible show wpList _ _ _ _ _ _); refine kgLoad1 (by rfl) 4 _ (by rfl) _ Tryz.underlying4 rfl K (by rfl) (by repeat (first | exact List.mem_cons_self | refine List.mem_cons_of_mem _ ?_)) (by rfl) ?_))
        refine ⟨rfl, rfl, ?_⟩
        rw [hJ.out]
        exact ⟨K, HZ⟩
      rcases i with _ | i
      · obtain rfl := Option.some.inj ho
        clear ho hb hw
        go_wp2_with (first
          | go_big_skip
          | ((with_reducible show wpList _ _ _ _ _ _); refine kgLoad1 (by rfl) 4 _ (by rfl) _ Tryz.underlying4 rfl K (by rfl) (by repeat (first | exact List.mem_cons_self | refine List.mem_cons_of_mem _ ?_)) (by rfl) ?_))
        refine ⟨rfl, rfl, ?_⟩
        rw [hJ.out]
        exact ⟨K, HZ⟩
      rcases i with _ | i
      · obtain rfl := Option.some.inj ho
        clear ho hb hw
        go_wp2_with (first
          | go_big_skip
          | ((with_reducible show wpList _ _ _ _ _ _); refine kgStoreT (by rfl) 4 (.tmp 4) _ (by rfl) 1 (by kernel_rfl) [_, _] (by exact K) (by rfl) (v := .bool av) (by rfl) [.bool av] (by rfl) (by rfl) (by simp) (by simp [Value.oneCell']) (cs := [_]) (by rfl) ?_; intro V2 ON4 K1; (dsimp only [List.cons_append, List.nil_append] at K1); clear K; (have K := K1); clear K1))
        refine ⟨rfl, trivial, ?_⟩
        rw [hJ.out]
        exact ⟨K, hid ((ON4.out.block D (by have := DG4.out; omega)).trans HZ.out)⟩
      rcases i with _ | i
      · obtain rfl := Option.some.inj ho
        clear ho hb hw
        go_wp2_with (first
          | go_big_skip
          | ((with_reducible show wpList _ _ _ _ _ _); refine kgStoreT (by rfl) 4 (.tmp 5) _ (by rfl) 1 (by kernel_rfl) [_] (by exact K) (by rfl) (v := .bool sv) (by rfl) [.bool sv] (by rfl) (by rfl) (by simp) (by simp [Value.oneCell']) (cs := [_]) (by rfl) ?_; intro V2 ON5 K1; (dsimp only [List.cons_append, List.nil_append] at K1); clear K; (have K := K1); clear K1))
        refine ⟨rfl, trivial, ?_⟩
        rw [hJ.out]
        exact ⟨K, hid ((ON5.out.block D (by have := DG5.out; omega)).trans HZ.out)⟩
      · cases ho
    case fin =>
      clear K
      intro b W hb K
      rw [hJ.out] at K
      simp only [drFrame, List.setIfInBounds_toArray, List.set_cons_succ, List.set_cons_zero]
      clear hb hJ
      obtain ⟨K, HZ⟩ := K
      gi_wp2_with (first
        | fail)
      have HK2 := hid HZ.out
      refine ⟨by simp, .inl ⟨D, _, rfl, run_takeDeferred HK2.out, ?_⟩⟩
      have OWN : ∀ r, some D = some r → w.heap.size ≤ r ∧ ∃ o : Obj, W.heap[r]? = some o ∧ o.isCells = false := fun r h => by injection h with h; subst h; exact ⟨DW.out, _, HK2.out, rfl⟩
      have K3 := hid (K.out.own (grownBy_putObj' W D (.deferred none)) OWN)
      refine ⟨_, results_cc Tryz.results9 (by rfl) (K3.out.load1 (off := 0) (by repeat (first | exact List.mem_cons_self | refine List.mem_cons_of_mem _ ?_)) Tryz.underlying4 rfl (by rfl)) (by rfl) (K3.out.load1 (off := 0) (by repeat (first | exact List.mem_cons_self | refine List.mem_cons_of_mem _ ?_)) Tryz.underlying4 rfl (by rfl)), ?_⟩
      rw [← RA.out]
      exact ⟨rfl, K3.out.b⟩
theorem bListed_any (hs : List Hd) (A : Option Addr) (n c C : Nat) (hn : n = hs.length) (w : World) (hd : DocAt w C A hs) (h1 : hs.length ≤ 1000) (h2 : ∀ h ∈ hs, h.l.ls.length ≤ 1000000 ∧ h.l.cs.length ≤ 1000000) (hf : ∀ h ∈ hs, FineC h.l.cs) (hT : Tb w) (al aa fl fa on off kind : Int) :
    Calls Tryz.prog 9 #[.agg #[.slice A n c, .int .i64 al, .int .i64 aa, .int .i64 fl, .int .i64 fa, .int .i64 on, .int .i64 off], .int .i64 kind] w (IsBB (listedS ⟨lnsOf hs, ⟨al, aa⟩, ⟨fl, fa⟩, on, off⟩ kind) w) := by
  cases mb : mayS ⟨lnsOf hs, ⟨al, aa⟩, ⟨fl, fa⟩, on, off⟩ with
  | false =>
    have e : listedS ⟨lnsOf hs, ⟨al, aa⟩, ⟨fl, fa⟩, on, off⟩ kind = (false, false) := by unfold listedS; rw [mb]; rfl
    rw [e]
    exact listedNo hs A n c C hn w hd h1 h2 hf hT al aa fl fa on off kind mb
  | true => exact listedYes hs A n c C hn w hd h1 h2 hf hT al aa fl fa on off kind mb
end Go.Proofs.YtblbfoniimnkcaaGreatDoor

/- The walk of blocks.Kind. (Printed by wip/bldoc.py.) -/
namespace Go.Proofs.YtblbfoniimnkcaaGreatDoor
open Go.RowKit Go.Lib Go.Shelf
attribute [local go_sem] Oper.semAt_some

/-- The kind of lines, on the way: none, where they part. -/
def kindT (c : Int) (l : Ln) : Option Int := if 0 < l.ls.length ∨ (0 ≤ c ∧ l.k ≠ c) then none else some l.k
theorem kindT_no {c : Int} {l : Ln} (h : 0 < l.ls.length ∨ (0 ≤ c ∧ l.k ≠ c)) : kindT c l = none := if_pos h
theorem kindT_yes {c : Int} {l : Ln} (h : ¬ (0 < l.ls.length ∨ (0 ≤ c ∧ l.k ≠ c))) : kindT c l = some l.k := if_neg h
def kindG (o : Option Int) (l : Ln) : Option Int := o.bind fun c => kindT c l
def kindP (ls : List Ln) : Option Int := ls.foldl kindG (some (-1))
theorem kindP_snoc (ls : List Ln) (l : Ln) : kindP (ls ++ [l]) = kindG (kindP ls) l := by unfold kindP; rw [List.foldl_append]; rfl
theorem kindF_none : ∀ ls : List Ln, ls.foldl kindG (none : Option Int) = none
  | [] => rfl
  | _ :: ls => kindF_none ls
theorem kindF_some (c : Int) (hc : 0 ≤ c) : ∀ ls : List Ln, ls.foldl kindG (some c) = if ls.all (fun l => decide (l.ls.length = 0) && decide (l.k = c)) then some c else none
  | [] => rfl
  | l :: ls => by
    rw [List.foldl_cons, List.all_cons, show kindG (some c) l = kindT c l from rfl]
    by_cases h1 : 0 < l.ls.length ∨ (0 ≤ c ∧ l.k ≠ c)
    · rw [kindT_no h1, kindF_none]
      have : (decide (l.ls.length = 0) && decide (l.k = c)) = false := by
        rcases h1 with h1 | h1
        · rw [decide_eq_false (by omega)]; rfl
        · rw [decide_eq_false h1.2, Bool.and_false]
      rw [this]; rfl
    · have h2 : l.ls.length = 0 := by
        rcases Nat.eq_zero_or_pos l.ls.length with h | h
        · exact h
        · exact absurd (.inl h) h1
      have h3 : l.k = c := by
        rcases Int.decEq l.k c with h | h
        · exact absurd (.inr ⟨hc, h⟩) h1
        · exact h
      rw [kindT_yes h1, h3, kindF_some c hc ls, decide_eq_true h2, decide_eq_true rfl, Bool.true_and, Bool.true_and]
theorem kindP_pre {ls ms : List Ln} (h : ls <+: ms) (hn : kindP ls = none) : kindP ms = none := by
  obtain ⟨t, rfl⟩ := h
  unfold kindP at hn ⊢
  rw [List.foldl_append, hn, kindF_none]
def kindV {hs : List Hd} (pre : List (ItV hs)) : Option Int := kindP (pre.map fun x => x.1.h.l)
theorem kindV_snoc {hs : List Hd} (pre : List (ItV hs)) (x : ItV hs) : kindV (pre ++ [x]) = kindG (kindV pre) x.1.h.l := by
  unfold kindV
  rw [List.map_append]
  exact kindP_snoc _ _
theorem kindS_eq {s : Stt} (hm : mayS s = true) : kindS s = match kindP (sel s) with | some c => (c, true) | none => (0, false) := by
  have e0 : kindS s = match sel s with
    | [] => (-1, true)
    | x :: xs => if (x :: xs).all fun l => decide (l.ls.length = 0) && decide (l.k = x.k) then (x.k, true) else (0, false) := by unfold kindS; rw [if_pos hm]; rfl
  rw [e0]
  have hk : ∀ l ∈ sel s, 0 ≤ l.k := fun l hl => by
    have h1 : l ∈ s.d := by unfold sel selF at hl; exact List.mem_of_mem_take (List.mem_of_mem_drop hl)
    unfold mayS mayD at hm
    simp only [Bool.and_eq_true] at hm
    exact (mayL_parts (List.all_eq_true.1 hm.1.2.2.2 l h1)).2.2.2.1
  cases hs : sel s with
  | nil => rfl
  | cons x xs =>
    rw [hs] at hk
    have hx := hk x List.mem_cons_self
    have e1 : kindP (x :: xs) = xs.foldl kindG (kindT (-1) x) := rfl
    rw [e1]
    dsimp only
    rw [List.all_cons]
    by_cases h1 : 0 < x.ls.length
    · rw [kindT_no (.inl h1), kindF_none, decide_eq_false (show ¬ x.ls.length = 0 by omega), Bool.false_and, Bool.false_and]
      rfl
    · rw [kindT_yes (by rintro (h | ⟨h, _⟩); exact h1 h; omega), kindF_some x.k hx, decide_eq_true (show x.ls.length = 0 by omega), decide_eq_true rfl, Bool.true_and, Bool.true_and]
      cases xs.all fun l => decide (l.ls.length = 0) && decide (l.k = x.k) <;> rfl
/-- What a call answers: a number, a Bool. -/
def IsKB (p : Int × Bool) (w : World) (e : Ending) (w' : World) : Prop := e = .returned (.tuple #[.int .i64 p.1, .bool p.2]) ∧ Below w.heap.size w w'
set_option maxRecDepth 100000 in
set_option maxHeartbeats 4000000 in
theorem kindNo (hs : List Hd) (A : Option Addr) (n c C : Nat) (hn : n = hs.length) (w : World) (hd : DocAt w C A hs) (h1 : hs.length ≤ 1000) (h2 : ∀ h ∈ hs, h.l.ls.length ≤ 1000000 ∧ h.l.cs.length ≤ 1000000) (hf : ∀ h ∈ hs, FineC h.l.cs) (hT : Tb w) (al aa fl fa on off : Int) (mb : mayS ⟨lnsOf hs, ⟨al, aa⟩, ⟨fl, fa⟩, on, off⟩ = false) :
    Calls Tryz.prog 7 #[.agg #[.slice A n c, .int .i64 al, .int .i64 aa, .int .i64 fl, .int .i64 fa, .int .i64 on, .int .i64 off]] w (IsKB (0, false) w) := by
  subst hn
  have D0 := hid h2
  have L0 := hid h1
  have K := hid (KG.start w [⟨hs, A, false⟩] (by simpa using hd.live))
  have T := hid hT
  have FI := hid hf
  have H2 := hid h2
  have MB := hid mb
  clear hd h2 hT hf mb
  go_enter Tryz.func7, Tryz.ntmps7
  go_wp2_with (first
    | go_big_skip
    | ((with_reducible show wpList _ _ _ _ _ _); refine kgBox (by rfl) 26 _ (by rfl) (some 1) (by rfl) (by rfl) [_, _, _, _, _, _, _] (by rfl) K ?_; intro g1 V1 K1; clear K; (have K := K1); clear K1)
    | ((with_reducible show wpList _ _ _ _ _ _); refine kgAlloc (by rfl) 3 (by rfl) (some 2) (by rfl) [.int .i64 0] (fun _ => by kernel_rfl) K ?_; intro g2 V1 K1; clear K; (have K := K1); clear K1)
    | ((with_reducible show wpList _ _ _ _ _ _); refine kgAlloc (by rfl) 4 (by rfl) (some 3) (by rfl) [.bool false] (fun _ => by kernel_rfl) K ?_; intro g3 V1 K1; clear K; (have K := K1); clear K1)
    | ((with_reducible show wpList _ _ _ _ _ _); refine kgLoadA (by rfl) 26 _ (by rfl) 7 _ Tryz.underlying26 rfl (by kernel_rfl) K (by rfl) (by repeat (first | exact List.mem_cons_self | refine List.mem_cons_of_mem _ ?_)) (part := [_, _, _, _, _, _, _]) (by rfl) (by rfl) ?_)
    | (go_at_call 21; (with_reducible refine (tMay_any hs A _ c _ rfl _ (K.out.at_ (d := ⟨hs, A, false⟩) (by simp)) h1 H2.out FI.out (Utf8Tabs_below T.out K.out.b) al aa fl fa on off).mono ?_); rintro e W2 ⟨rfl, hb⟩; rw [MB.out]; (have K2 := hid (K.out.later hb)); clear hb K; (have K := K2); clear K2)
    | ((with_reducible show wpList _ _ _ _ _ _); refine kgStore (by rfl) 3 (.tmp 2) _ (by rfl) 1 (by kernel_rfl) [_] (by exact K) (by rfl) (v := .int .i64 0) (by rfl) [.int .i64 0] (by rfl) (by rfl) (by simp) (by simp [Value.oneCell']) (cs := [_]) (by rfl) ?_; intro V2 K1; (dsimp only [List.cons_append, List.nil_append] at K1); clear K; (have K := K1); clear K1)
    | ((with_reducible show wpList _ _ _ _ _ _); refine kgStore (by rfl) 4 (.tmp 3) _ (by rfl) 1 (by kernel_rfl) [] (by exact K) (by rfl) (v := .bool false) (by rfl) [.bool false] (by rfl) (by rfl) (by simp) (by simp [Value.oneCell']) (cs := [_]) (by rfl) ?_; intro V2 K1; (dsimp only [List.cons_append, List.nil_append] at K1); clear K; (have K := K1); clear K1))
  refine bodyPost_ret (results_cc Tryz.results7 (by rfl) (K.out.load1 (off := 0) (by repeat (first | exact List.mem_cons_self | refine List.mem_cons_of_mem _ ?_)) Tryz.underlying3 rfl (by rfl)) (by rfl) (K.out.load1 (off := 0) (by repeat (first | exact List.mem_cons_self | refine List.mem_cons_of_mem _ ?_)) Tryz.underlying4 rfl (by rfl))) rfl ?_
  exact ⟨rfl, K.out.b⟩
set_option maxRecDepth 100000 in
set_option maxHeartbeats 16000000 in
theorem kindYes (hs : List Hd) (A : Option Addr) (n c C : Nat) (hn : n = hs.length) (w : World) (hd : DocAt w C A hs) (h1 : hs.length ≤ 1000) (h2 : ∀ h ∈ hs, h.l.ls.length ≤ 1000000 ∧ h.l.cs.length ≤ 1000000) (hf : ∀ h ∈ hs, FineC h.l.cs) (hT : Tb w) (al aa fl fa on off : Int) (mb : mayS ⟨lnsOf hs, ⟨al, aa⟩, ⟨fl, fa⟩, on, off⟩ = true) :
    Calls Tryz.prog 7 #[.agg #[.slice A n c, .int .i64 al, .int .i64 aa, .int .i64 fl, .int .i64 fa, .int .i64 on, .int .i64 off]] w (IsKB (kindS ⟨lnsOf hs, ⟨al, aa⟩, ⟨fl, fa⟩, on, off⟩) w) := by
  obtain ⟨z1, z2, z3, z4⟩ := mayS_in mb
  dsimp only at z3 z4
  rw [lnsOf_len] at z3 z4
  obtain ⟨f, hf0⟩ : ∃ f, (fromS ⟨lnsOf hs, ⟨al, aa⟩, ⟨fl, fa⟩, on, off⟩).l.toNat = f := ⟨_, rfl⟩
  obtain ⟨cnt, hc0⟩ : ∃ cnt, (toS ⟨lnsOf hs, ⟨al, aa⟩, ⟨fl, fa⟩, on, off⟩).l.toNat + 1 - f = cnt := ⟨_, rfl⟩
  have YF : Hid ((fromS ⟨lnsOf hs, ⟨al, aa⟩, ⟨fl, fa⟩, on, off⟩).l = f) := hid (by omega)
  have YT : Hid ((toS ⟨lnsOf hs, ⟨al, aa⟩, ⟨fl, fa⟩, on, off⟩).l + 1 = ((f + cnt : Nat) : Int)) := hid (by omega)
  have YL : Hid (f + cnt ≤ hs.length) := hid (by omega)
  have SEL := hid (sel_its ⟨lnsOf hs, ⟨al, aa⟩, ⟨fl, fa⟩, on, off⟩ hs rfl f cnt YF.out YT.out YL.out (by omega))
  have HD := hid hd.live
  clear z1 z2 z3 z4 hf0 hc0
  obtain ⟨r, hr⟩ : ∃ r, kindS ⟨lnsOf hs, ⟨al, aa⟩, ⟨fl, fa⟩, on, off⟩ = r := ⟨_, rfl⟩
  rw [hr]
  have HR : Hid ((match kindP (sel ⟨lnsOf hs, ⟨al, aa⟩, ⟨fl, fa⟩, on, off⟩) with | some c => (c, true) | none => ((0 : Int), false)) = r) := hid (by rw [← hr]; exact (kindS_eq mb).symm)
  clear hr
  subst hn
  have D0 := hid h2
  have L0 := hid h1
  have K := hid (KG.start w [⟨hs, A, false⟩] (by simpa using hd.live))
  have T := hid hT
  have FI := hid hf
  have H2 := hid h2
  have MB := hid mb
  clear hd h2 hT hf mb
  refine (callsIn_wide (n := 6)).1 ?_
  refine callsIn_of_wp_marks Tryz.func7 rfl trivial ?_ rfl
  simp only [Tryz.ntmps7, List.size_toArray, List.length_cons, List.length_nil, Nat.reduceAdd, Nat.reduceSub, Array.replicate_succ, Array.replicate_zero, List.push_toArray, List.append_toArray, List.nil_append, List.cons_append]
  gi_wp2_with (first
    | gi_big_skip
    | ((with_reducible show wpListIn _ _ _ _ _ _ _ _); refine kiBox (by rfl) 26 _ (by rfl) (some 1) (by rfl) (by rfl) [_, _, _, _, _, _, _] (by rfl) K ?_; intro g1 V1 K1; clear K; (have K := K1); clear K1)
    | ((with_reducible show wpListIn _ _ _ _ _ _ _ _); refine kiAlloc (by rfl) 3 (by rfl) (some 2) (by rfl) [.int .i64 0] (fun _ => by kernel_rfl) K ?_; intro g2 V1 K1; clear K; (have K := K1); clear K1)
    | ((with_reducible show wpListIn _ _ _ _ _ _ _ _); refine kiAlloc (by rfl) 4 (by rfl) (some 3) (by rfl) [.bool false] (fun _ => by kernel_rfl) K ?_; intro g3 V1 K1; clear K; (have K := K1); clear K1)
    | ((with_reducible show wpListIn _ _ _ _ _ _ _ _); refine kiLoadA (by rfl) 26 _ (by rfl) 7 _ Tryz.underlying26 rfl (by kernel_rfl) K (by rfl) (by repeat (first | exact List.mem_cons_self | refine List.mem_cons_of_mem _ ?_)) (part := [_, _, _, _, _, _, _]) (by rfl) (by rfl) ?_)
    | ((first | refine ⟨trivial, (fun h => by cases h), ?_⟩ | refine ⟨trivial, ?_⟩); gi_at_call 21; (with_reducible refine (callsIn_wide.2 (tMay_any hs A _ c _ rfl _ (K.out.at_ (d := ⟨hs, A, false⟩) (by simp)) h1 H2.out FI.out (Utf8Tabs_below T.out K.out.b) al aa fl fa on off)).mono ?_); rintro e W2 ⟨rfl, hb⟩; rw [MB.out]; (have K2 := hid (K.out.later hb)); clear hb K; (have K := K2); clear K2)
    | ((with_reducible show wpListIn _ _ _ _ _ _ _ _); refine kiStore (by rfl) 3 (.tmp 2) _ (by rfl) 1 (by kernel_rfl) [_] (by exact K) (by rfl) (v := .int .i64 (-1)) (by rfl) [.int .i64 (-1)] (by rfl) (by rfl) (by simp) (by simp [Value.oneCell']) (cs := [_]) (by rfl) ?_; intro V2 K1; (dsimp only [List.cons_append, List.nil_append] at K1); clear K; (have K := K1); clear K1)
    | ((first | refine ⟨trivial, (fun h => by cases h), ?_⟩ | refine ⟨trivial, ?_⟩); gi_at_call 22; (with_reducible refine (callsIn_wide.2 (selected_any (.slice A hs.length c) al aa fl fa on off ⟨_, _, _, rfl⟩ _)).mono ?_); rintro e W5 ⟨gs, rfl, hgs, hW5⟩; (have K2 := hid (K.out.new 26 [.slice A hs.length c, .int .i64 al, .int .i64 aa, .int .i64 fl, .int .i64 fa, .int .i64 on, .int .i64 off] hgs hW5)); (have LT := hid (show gs + 1 = W5.heap.size by rw [hW5, World.size_alloc, hgs])); clear hgs hW5 K; (have K := K2); clear K2))
  have KB := hid (KG.bare K.out)
  have SEQ := hid (sel_seq 5 gs gs w W5 ⟨lnsOf hs, ⟨al, aa⟩, ⟨fl, fa⟩, on, off⟩ hs A c HD.out KB.out.b (KB.out.bx ⟨gs, 26, [.slice A hs.length c, .int .i64 al, .int .i64 aa, .int .i64 fl, .int .i64 fa, .int .i64 on, .int .i64 off]⟩ (by simp)).1 (Nat.le_refl _) f cnt YF.out YT.out YL.out L0.out (KB.out.bx ⟨gs, 26, [.slice A hs.length c, .int .i64 al, .int .i64 aa, .int .i64 fl, .int .i64 fa, .int .i64 on, .int .i64 off]⟩ (by simp)).2)
  have HSZ := hid KB.out.b.size
  have LGS : Hid (gs < W5.heap.size) := hid (KB.out.lt (x := ⟨gs, 26, [.slice A hs.length c, .int .i64 al, .int .i64 aa, .int .i64 fl, .int .i64 fa, .int .i64 on, .int .i64 off]⟩) (by simp))
  have NDs := hid KB.out.nd
  have Lg2 : Hid (g2 < gs) := hid (by
    have h1 := KB.out.lt (x := ⟨g2, 3, [.int .i64 (-1)]⟩) (by simp)
    have h2 := LT.out
    have h3 : gs ≠ g2 := (List.pairwise_cons.1 NDs.out).1 ⟨g2, 3, [.int .i64 (-1)]⟩ (by simp)
    have h1' : g2 < W5.heap.size := h1
    omega)
  have Mg2 : Hid (w.heap.size ≤ g2) := hid (KB.out.bx ⟨g2, 3, [.int .i64 (-1)]⟩ (by simp)).1
  have Lg3 : Hid (g3 < gs) := hid (by
    have h1 := KB.out.lt (x := ⟨g3, 4, [.bool false]⟩) (by simp)
    have h2 := LT.out
    have h3 : gs ≠ g3 := (List.pairwise_cons.1 NDs.out).1 ⟨g3, 4, [.bool false]⟩ (by simp)
    have h1' : g3 < W5.heap.size := h1
    omega)
  have Mg3 : Hid (w.heap.size ≤ g3) := hid (KB.out.bx ⟨g3, 4, [.bool false]⟩ (by simp)).1
  have I0 : (fun (pre : List (ItV hs)) (W : World) => ∃ (kv : Int), Hid (KG w W [⟨gs, 26, [.slice A hs.length c, .int .i64 al, .int .i64 aa, .int .i64 fl, .int .i64 fa, .int .i64 on, .int .i64 off]⟩, ⟨g3, 4, [.bool false]⟩, ⟨g2, 3, [.int .i64 kv]⟩, ⟨g1, 26, [.slice A hs.length c, .int .i64 al, .int .i64 aa, .int .i64 fl, .int .i64 fa, .int .i64 on, .int .i64 off]⟩] []) ∧ Hid (kindV pre = some kv)) [] W5 := ⟨-1, KB, hid rfl⟩
  have OI : ∀ B, w.heap.size ≤ B → OwnFrom B (fun (pre : List (ItV hs)) (W : World) => ∃ (kv : Int), Hid (KG w W [⟨gs, 26, [.slice A hs.length c, .int .i64 al, .int .i64 aa, .int .i64 fl, .int .i64 fa, .int .i64 on, .int .i64 off]⟩, ⟨g3, 4, [.bool false]⟩, ⟨g2, 3, [.int .i64 kv]⟩, ⟨g1, 26, [.slice A hs.length c, .int .i64 al, .int .i64 aa, .int .i64 fl, .int .i64 fa, .int .i64 on, .int .i64 off]⟩] []) ∧ Hid (kindV pre = some kv)) := by
    rintro B hB pre V V' row ⟨kv, K, H0⟩ hg hr
    exact ⟨kv, hid (K.out.own hg fun r h => ⟨Nat.le_trans hB (hr r h).1, (hr r h).2⟩), H0⟩
  replace I0 := hid I0
  replace OI := hid OI
  clear K KB NDs D0 H2 MB
  refine wpIn_rangeFunc_ownH rfl (by omega) (gf := 38) (lb := #[.pointer (some ⟨gs, 0, none⟩)]) rfl trivial (enters_of Tryz.func38 (by kernel_rfl) rfl)
    SEQ.out KpS.trans (KpS.put HSZ.out) (Below.refl _ _) ?hps
    (fun pre W => ∃ (kv : Int), Hid (KG w W [⟨gs, 26, [.slice A hs.length c, .int .i64 al, .int .i64 aa, .int .i64 fl, .int .i64 fa, .int .i64 on, .int .i64 off]⟩, ⟨g3, 4, [.bool false]⟩, ⟨g2, 3, [.int .i64 kv]⟩, ⟨g1, 26, [.slice A hs.length c, .int .i64 al, .int .i64 aa, .int .i64 fl, .int .i64 fa, .int .i64 on, .int .i64 off]⟩] []) ∧ Hid (kindV pre = some kv)) (fun cd pre W => cd = .ret ∧ Hid (KG w W [⟨gs, 26, [.slice A hs.length c, .int .i64 al, .int .i64 aa, .int .i64 fl, .int .i64 fa, .int .i64 on, .int .i64 off]⟩, ⟨g3, 4, [.bool false]⟩, ⟨g2, 3, [.int .i64 0]⟩, ⟨g1, 26, [.slice A hs.length c, .int .i64 al, .int .i64 aa, .int .i64 fl, .int .i64 fa, .int .i64 on, .int .i64 off]⟩] []) ∧ Hid (kindV pre = none)) (OI.out _ HSZ.out) (fun c pre V V' row ⟨h1, K, H0⟩ hg hr => ⟨h1, hid (K.out.own hg fun r h => ⟨Nat.le_trans HSZ.out (hr r h).1, (hr r h).2⟩), H0⟩)
    I0.out
    (fun x a' W => ∃ g5, W.heap[g5]? = some (.cells #[.int .i64 x.1.h.l.q, .slice x.1.h.A x.1.h.l.ls.length x.1.h.c, .int .i64 x.1.h.l.k, .slice x.1.h.B x.1.h.l.cs.length x.1.h.d] 46 (0, 0)) ∧ a' = { tmps := #[.agg #[.slice A hs.length c, .int .i64 al, .int .i64 aa, .int .i64 fl, .int .i64 fa, .int .i64 on, .int .i64 off], .pointer (some ⟨g1, 0, none⟩), .pointer (some ⟨g2, 0, none⟩), .pointer (some ⟨g3, 0, none⟩), undef, .pointer (some ⟨g5, 0, none⟩), .agg #[.slice A hs.length c, .int .i64 al, .int .i64 aa, .int .i64 fl, .int .i64 fa, .int .i64 on, .int .i64 off], .bool true, .bool false, .agg #[.slice A hs.length c, .int .i64 al, .int .i64 aa, .int .i64 fl, .int .i64 fa, .int .i64 on, .int .i64 off], .func (.func 38) #[] #[.pointer (some ⟨gs, 0, none⟩)], .int .i64 x.1.i, .agg #[.int .i64 x.1.h.l.q, .slice x.1.h.A x.1.h.l.ls.length x.1.h.c, .int .i64 x.1.h.l.k, .slice x.1.h.B x.1.h.l.cs.length x.1.h.d], undef, undef, undef, undef, undef, undef, undef, undef, undef, undef, undef, undef, undef, undef, undef, undef, undef], defers := [] })
    (fun x a' _ X Y row hs hg hr => by
      obtain ⟨gx, h1, h2⟩ := hs
      refine ⟨gx, (hg.block gx (Array.getElem?_eq_some_iff.1 h1).1 ?_).trans h1, h2⟩
      rintro rfl
      obtain ⟨_, o, ho, hc⟩ := hr _ rfl
      rw [h1] at ho
      injection ho with ho
      subst ho
      cases hc)
    ?assign ?body ?done ?stop
  case hps => intro x; rfl
  case assign =>
    rintro l pre x W KX hI hKX
    have HI := hid hI
    have HX := hid hKX
    have SZ : Hid (W5.heap.size ≤ W.heap.size) := hid (by
      obtain ⟨kv, K, -⟩ := HI.out
      have h1 := K.out.lt (x := ⟨gs, 26, [.slice A hs.length c, .int .i64 al, .int .i64 aa, .int .i64 fl, .int .i64 fa, .int .i64 on, .int .i64 off]⟩) (by simp)
      have h2 := LT.out
      have h1' : gs < W.heap.size := h1
      omega)
    have K := hid (KG.start W [] (by simp))
    clear hI hKX
    dsimp only [encsI]
    simp only [List.zip_toArray, List.zip_cons_cons, List.zip_nil_right, List.foldl_toArray, List.foldl_cons, List.foldl_nil, List.setIfInBounds_toArray, List.set_cons_succ, List.set_cons_zero]
    gi_wp2_with (first
      | gi_big_skip
      | ((with_reducible show wpListIn _ _ _ _ _ _ _ _); refine kiAlloc (by rfl) 46 (by rfl) (some 5) (by rfl) [.int .i64 0, .slice none 0 0, .int .i64 0, .slice none 0 0] (fun _ => by kernel_rfl) K ?_; intro g5 V1 K1; clear K; (have K := K1); clear K1)
      | ((with_reducible show wpListIn _ _ _ _ _ _ _ _); refine kiStore (by rfl) 46 (.tmp 5) _ (by rfl) 4 (by kernel_rfl) [] (by exact K) (by rfl) (by rfl) [_, _, _, _] (by rfl) (by rfl) (by simp) (by simp [Value.oneCell']) (cs := [_, _, _, _]) (by rfl) ?_; intro V2 K1; (dsimp only [List.cons_append, List.nil_append] at K1); clear K; (have K := K1); clear K1))
    exact HX.out _ _ (KeepsFrom.below K.out.b) (KpS.later K.out.b (Nat.le_trans HSZ.out SZ.out)) (OI.out _ (Nat.le_refl _) pre W V2 none HI.out (grownB K.out.b) (fun r h => by cases h)) ⟨g5, (K.out.bx ⟨g5, 46, [.int .i64 x.1.h.l.q, .slice x.1.h.A x.1.h.l.ls.length x.1.h.c, .int .i64 x.1.h.l.k, .slice x.1.h.B x.1.h.l.cs.length x.1.h.d]⟩ (by simp)).2, rfl⟩
  case body =>
    rintro l pre x a' W hl' ⟨r', hr'⟩ ⟨kv, KO, H0⟩ ⟨g5, hg9, rfl⟩ hlt
    have SZ : Hid (W5.heap.size ≤ W.heap.size) := hid (by have := (Array.getElem?_eq_some_iff.1 hr').1; omega)
    have K := hid (KG.start W [] (by simp))
    have G9 := hid hg9
    have L9 := hid (Array.getElem?_eq_some_iff.1 hg9).1
    have XM : Hid (x.1.h ∈ hs) := hid (List.mem_of_getElem? x.2)
    have BW : Hid (Below w.heap.size w W) := hid KO.out.b
    have LX := hid (HD.out.ln x.2)
    clear hr' hlt hl' hg9
    have SN := hid (kindV_snoc pre x)
    rw [H0.out] at SN
    obtain ⟨n1, hn1⟩ : ∃ n1, x.1.h.l.ls.length = n1 := ⟨_, rfl⟩
    have HN1 := hid hn1
    rw [hn1] at G9 ⊢
    clear hn1
    by_cases c1 : 0 < n1
    · have NO : Hid (kindV (pre ++ [x]) = none) := hid (by rw [SN.out]; exact kindT_no (.inl (by rw [HN1.out]; exact c1)))
      have i1 : (0 : Int) < (n1 : Int) := by omega
      clear c1 SN
      gi_wp2_with (first
        | gi_big_skip
        | ((with_reducible show wpListIn _ _ _ _ _ _ _ _); refine wpListIn_loadV (by rfl) 43 (.tmp 13) (by rfl) (by rfl) (run_loadVar_one _ ⟨g5, 1, none⟩ 43 (.slice x.1.h.A n1 x.1.h.c) _ ((cell_of_row _ g5 1 _ _ _ ((K.out.b.block g5 L9.out).trans G9.out)).trans rfl) Tryz.underlying43 rfl) ?_)
        | ((with_reducible show wpListIn _ _ _ _ _ _ _ _); refine wpListIn_loadV (by rfl) 43 (.tmp 13) (by rfl) (by rfl) (run_loadVar_one _ ⟨g5, 1, none⟩ 43 (.slice x.1.h.A 0 x.1.h.c) _ ((cell_of_row _ g5 1 _ _ _ ((K.out.b.block g5 L9.out).trans G9.out)).trans rfl) Tryz.underlying43 rfl) ?_)
        | ((with_reducible show wpListIn _ _ _ _ _ _ _ _); refine kiOld1 (by rfl) 3 (.tmp 2) (by rfl) _ Tryz.underlying3 rfl KO K (by rfl) (by repeat (first | exact List.mem_cons_self | refine List.mem_cons_of_mem _ ?_)) (v := .int .i64 kv) (by rfl) ?_)
        | ((with_reducible show wpListIn _ _ _ _ _ _ _ _); refine wpListIn_loadV (by rfl) 3 (.tmp 21) (by rfl) (by rfl) (run_loadVar_one _ ⟨g5, 2, none⟩ 3 (.int .i64 x.1.h.l.k) _ ((cell_of_row _ g5 2 _ _ _ ((K.out.b.block g5 L9.out).trans G9.out)).trans rfl) Tryz.underlying3 rfl) ?_)
        | ((with_reducible show wpListIn _ _ _ _ _ _ _ _); refine wpListIn_loadV (by rfl) 3 (.tmp 27) (by rfl) (by rfl) (run_loadVar_one _ ⟨g5, 2, none⟩ 3 (.int .i64 x.1.h.l.k) _ ((cell_of_row _ g5 2 _ _ _ ((K.out.b.block g5 L9.out).trans G9.out)).trans rfl) Tryz.underlying3 rfl) ?_)
        | ((with_reducible show wpListIn _ _ _ _ _ _ _ _); (have B4 := hid K.out.b); (have KM := hid (KO.out.merge K.out)); refine kiStoreT (by rfl) 3 (.tmp 2) _ (by rfl) 1 (by kernel_rfl) [_, _] (by exact KM) (by rfl) (v := .int .i64 0) (by rfl) [.int .i64 0] (by rfl) (by rfl) (by simp) (by simp [Value.oneCell']) (cs := [_]) (by rfl) ?_; intro V2 ON1 K1; (dsimp only [List.cons_append, List.nil_append] at K1); clear K KM; (have K := K1); clear K1)
        | ((with_reducible show wpListIn _ _ _ _ _ _ _ _); refine kiStoreT (by rfl) 4 (.tmp 3) _ (by rfl) 1 (by kernel_rfl) [_] (by exact K) (by rfl) (v := .bool false) (by rfl) [.bool false] (by rfl) (by rfl) (by simp) (by simp [Value.oneCell']) (cs := [_]) (by rfl) ?_; intro V2 ON2 K1; (dsimp only [List.cons_append, List.nil_append] at K1); clear K; (have K := K1); clear K1))
      exact ⟨KeepsFrom.onl (KeepsFrom.onl (KeepsFrom.below B4.out) ON1.out (Nat.lt_trans Lg2.out LGS.out)) ON2.out (Nat.lt_trans Lg3.out LGS.out), rfl, K, NO⟩
    · obtain rfl : n1 = 0 := by omega
      by_cases c2 : 0 ≤ kv
      · by_cases c3 : x.1.h.l.k = kv
        · have YES : Hid (kindV (pre ++ [x]) = some x.1.h.l.k) := hid (by rw [SN.out]; exact kindT_yes (by rintro (h | h); (have e := HN1.out; omega); exact h.2 c3))
          have b3 : (x.1.h.l.k != kv) = false := bne_eq_false_iff_eq.2 c3
          clear c1 c3 SN
          gi_wp2_with (first
            | gi_big_skip
            | ((with_reducible show wpListIn _ _ _ _ _ _ _ _); refine wpListIn_loadV (by rfl) 43 (.tmp 13) (by rfl) (by rfl) (run_loadVar_one _ ⟨g5, 1, none⟩ 43 (.slice x.1.h.A n1 x.1.h.c) _ ((cell_of_row _ g5 1 _ _ _ ((K.out.b.block g5 L9.out).trans G9.out)).trans rfl) Tryz.underlying43 rfl) ?_)
            | ((with_reducible show wpListIn _ _ _ _ _ _ _ _); refine wpListIn_loadV (by rfl) 43 (.tmp 13) (by rfl) (by rfl) (run_loadVar_one _ ⟨g5, 1, none⟩ 43 (.slice x.1.h.A 0 x.1.h.c) _ ((cell_of_row _ g5 1 _ _ _ ((K.out.b.block g5 L9.out).trans G9.out)).trans rfl) Tryz.underlying43 rfl) ?_)
            | ((with_reducible show wpListIn _ _ _ _ _ _ _ _); refine kiOld1 (by rfl) 3 (.tmp 2) (by rfl) _ Tryz.underlying3 rfl KO K (by rfl) (by repeat (first | exact List.mem_cons_self | refine List.mem_cons_of_mem _ ?_)) (v := .int .i64 kv) (by rfl) ?_)
            | ((with_reducible show wpListIn _ _ _ _ _ _ _ _); refine wpListIn_loadV (by rfl) 3 (.tmp 21) (by rfl) (by rfl) (run_loadVar_one _ ⟨g5, 2, none⟩ 3 (.int .i64 x.1.h.l.k) _ ((cell_of_row _ g5 2 _ _ _ ((K.out.b.block g5 L9.out).trans G9.out)).trans rfl) Tryz.underlying3 rfl) ?_)
            | ((with_reducible show wpListIn _ _ _ _ _ _ _ _); refine wpListIn_loadV (by rfl) 3 (.tmp 27) (by rfl) (by rfl) (run_loadVar_one _ ⟨g5, 2, none⟩ 3 (.int .i64 x.1.h.l.k) _ ((cell_of_row _ g5 2 _ _ _ ((K.out.b.block g5 L9.out).trans G9.out)).trans rfl) Tryz.underlying3 rfl) ?_)
            | ((with_reducible show wpListIn _ _ _ _ _ _ _ _); (have B4 := hid K.out.b); (have KM := hid (KO.out.merge K.out)); refine kiStoreT (by rfl) 3 (.tmp 2) _ (by rfl) 1 (by kernel_rfl) [_, _] (by exact KM) (by rfl) (v := .int .i64 x.1.h.l.k) (by rfl) [.int .i64 x.1.h.l.k] (by rfl) (by rfl) (by simp) (by simp [Value.oneCell']) (cs := [_]) (by rfl) ?_; intro V2 ON1 K1; (dsimp only [List.cons_append, List.nil_append] at K1); clear K KM; (have K := K1); clear K1))
          exact ⟨KeepsFrom.onl (KeepsFrom.below B4.out) ON1.out (Nat.lt_trans Lg2.out LGS.out), (KpS.later B4.out BW.out.size).onl ON1.out Mg2.out Lg2.out, _, K, YES⟩
        · have NO : Hid (kindV (pre ++ [x]) = none) := hid (by rw [SN.out]; exact kindT_no (.inr ⟨c2, c3⟩))
          have b3 : (x.1.h.l.k != kv) = true := bne_iff_ne.2 c3
          clear c1 c3 SN
          gi_wp2_with (first
            | gi_big_skip
            | ((with_reducible show wpListIn _ _ _ _ _ _ _ _); refine wpListIn_loadV (by rfl) 43 (.tmp 13) (by rfl) (by rfl) (run_loadVar_one _ ⟨g5, 1, none⟩ 43 (.slice x.1.h.A n1 x.1.h.c) _ ((cell_of_row _ g5 1 _ _ _ ((K.out.b.block g5 L9.out).trans G9.out)).trans rfl) Tryz.underlying43 rfl) ?_)
            | ((with_reducible show wpListIn _ _ _ _ _ _ _ _); refine wpListIn_loadV (by rfl) 43 (.tmp 13) (by rfl) (by rfl) (run_loadVar_one _ ⟨g5, 1, none⟩ 43 (.slice x.1.h.A 0 x.1.h.c) _ ((cell_of_row _ g5 1 _ _ _ ((K.out.b.block g5 L9.out).trans G9.out)).trans rfl) Tryz.underlying43 rfl) ?_)
            | ((with_reducible show wpListIn _ _ _ _ _ _ _ _); refine kiOld1 (by rfl) 3 (.tmp 2) (by rfl) _ Tryz.underlying3 rfl KO K (by rfl) (by repeat (first | exact List.mem_cons_self | refine List.mem_cons_of_mem _ ?_)) (v := .int .i64 kv) (by rfl) ?_)
            | ((with_reducible show wpListIn _ _ _ _ _ _ _ _); refine wpListIn_loadV (by rfl) 3 (.tmp 21) (by rfl) (by rfl) (run_loadVar_one _ ⟨g5, 2, none⟩ 3 (.int .i64 x.1.h.l.k) _ ((cell_of_row _ g5 2 _ _ _ ((K.out.b.block g5 L9.out).trans G9.out)).trans rfl) Tryz.underlying3 rfl) ?_)
            | ((with_reducible show wpListIn _ _ _ _ _ _ _ _); refine wpListIn_loadV (by rfl) 3 (.tmp 27) (by rfl) (by rfl) (run_loadVar_one _ ⟨g5, 2, none⟩ 3 (.int .i64 x.1.h.l.k) _ ((cell_of_row _ g5 2 _ _ _ ((K.out.b.block g5 L9.out).trans G9.out)).trans rfl) Tryz.underlying3 rfl) ?_)
            | ((with_reducible show wpListIn _ _ _ _ _ _ _ _); (have B4 := hid K.out.b); (have KM := hid (KO.out.merge K.out)); refine kiStoreT (by rfl) 3 (.tmp 2) _ (by rfl) 1 (by kernel_rfl) [_, _] (by exact KM) (by rfl) (v := .int .i64 0) (by rfl) [.int .i64 0] (by rfl) (by rfl) (by simp) (by simp [Value.oneCell']) (cs := [_]) (by rfl) ?_; intro V2 ON1 K1; (dsimp only [List.cons_append, List.nil_append] at K1); clear K KM; (have K := K1); clear K1)
            | ((with_reducible show wpListIn _ _ _ _ _ _ _ _); refine kiStoreT (by rfl) 4 (.tmp 3) _ (by rfl) 1 (by kernel_rfl) [_] (by exact K) (by rfl) (v := .bool false) (by rfl) [.bool false] (by rfl) (by rfl) (by simp) (by simp [Value.oneCell']) (cs := [_]) (by rfl) ?_; intro V2 ON2 K1; (dsimp only [List.cons_append, List.nil_append] at K1); clear K; (have K := K1); clear K1))
          exact ⟨KeepsFrom.onl (KeepsFrom.onl (KeepsFrom.below B4.out) ON1.out (Nat.lt_trans Lg2.out LGS.out)) ON2.out (Nat.lt_trans Lg3.out LGS.out), rfl, K, NO⟩
      · have YES : Hid (kindV (pre ++ [x]) = some x.1.h.l.k) := hid (by rw [SN.out]; exact kindT_yes (by rintro (h | h); (have e := HN1.out; omega); exact c2 h.1))
        have b2 : decide (0 ≤ kv) = false := decide_eq_false c2
        clear c1 c2 SN
        gi_wp2_with (first
          | gi_big_skip
          | ((with_reducible show wpListIn _ _ _ _ _ _ _ _); refine wpListIn_loadV (by rfl) 43 (.tmp 13) (by rfl) (by rfl) (run_loadVar_one _ ⟨g5, 1, none⟩ 43 (.slice x.1.h.A n1 x.1.h.c) _ ((cell_of_row _ g5 1 _ _ _ ((K.out.b.block g5 L9.out).trans G9.out)).trans rfl) Tryz.underlying43 rfl) ?_)
          | ((with_reducible show wpListIn _ _ _ _ _ _ _ _); refine wpListIn_loadV (by rfl) 43 (.tmp 13) (by rfl) (by rfl) (run_loadVar_one _ ⟨g5, 1, none⟩ 43 (.slice x.1.h.A 0 x.1.h.c) _ ((cell_of_row _ g5 1 _ _ _ ((K.out.b.block g5 L9.out).trans G9.out)).trans rfl) Tryz.underlying43 rfl) ?_)
          | ((with_reducible show wpListIn _ _ _ _ _ _ _ _); refine kiOld1 (by rfl) 3 (.tmp 2) (by rfl) _ Tryz.underlying3 rfl KO K (by rfl) (by repeat (first | exact List.mem_cons_self | refine List.mem_cons_of_mem _ ?_)) (v := .int .i64 kv) (by rfl) ?_)
          | ((with_reducible show wpListIn _ _ _ _ _ _ _ _); refine wpListIn_loadV (by rfl) 3 (.tmp 21) (by rfl) (by rfl) (run_loadVar_one _ ⟨g5, 2, none⟩ 3 (.int .i64 x.1.h.l.k) _ ((cell_of_row _ g5 2 _ _ _ ((K.out.b.block g5 L9.out).trans G9.out)).trans rfl) Tryz.underlying3 rfl) ?_)
          | ((with_reducible show wpListIn _ _ _ _ _ _ _ _); refine wpListIn_loadV (by rfl) 3 (.tmp 27) (by rfl) (by rfl) (run_loadVar_one _ ⟨g5, 2, none⟩ 3 (.int .i64 x.1.h.l.k) _ ((cell_of_row _ g5 2 _ _ _ ((K.out.b.block g5 L9.out).trans G9.out)).trans rfl) Tryz.underlying3 rfl) ?_)
          | ((with_reducible show wpListIn _ _ _ _ _ _ _ _); (have B4 := hid K.out.b); (have KM := hid (KO.out.merge K.out)); refine kiStoreT (by rfl) 3 (.tmp 2) _ (by rfl) 1 (by kernel_rfl) [_, _] (by exact KM) (by rfl) (v := .int .i64 x.1.h.l.k) (by rfl) [.int .i64 x.1.h.l.k] (by rfl) (by rfl) (by simp) (by simp [Value.oneCell']) (cs := [_]) (by rfl) ?_; intro V2 ON1 K1; (dsimp only [List.cons_append, List.nil_append] at K1); clear K KM; (have K := K1); clear K1))
        exact ⟨KeepsFrom.onl (KeepsFrom.below B4.out) ON1.out (Nat.lt_trans Lg2.out LGS.out), (KpS.later B4.out BW.out.size).onl ON1.out Mg2.out Lg2.out, _, K, YES⟩
  case stop =>
    rintro D c' pre W hD hSp ⟨rfl, K, H0⟩ hK
    have HK2 := hid hK
    have DW : Hid (w.heap.size ≤ D) := hid (Nat.le_trans HSZ.out hD)
    have NP : Hid (kindP (sel ⟨lnsOf hs, ⟨al, aa⟩, ⟨fl, fa⟩, on, off⟩) = none) := hid (by
      rw [← SEL.out]
      obtain ⟨q, hq⟩ := hSp
      refine kindP_pre (ls := pre.map fun (x : ItV hs) => x.1.h.l) ⟨q.map fun (x : It) => x.h.l, ?_⟩ (show kindP (pre.map fun (x : ItV hs) => x.1.h.l) = none from H0.out)
      rw [← hq, List.map_append, List.map_map]
      rfl)
    have HRr := HR.out
    rw [NP.out] at HRr
    subst HRr
    clear hK hD H0 hSp HR
    gi_wp2_with (fail)
    refine ⟨by simp, .inl ⟨D, _, rfl, run_takeDeferred HK2.out, ?_⟩⟩
    have OWN : ∀ r, some D = some r → w.heap.size ≤ r ∧ ∃ o : Obj, W.heap[r]? = some o ∧ o.isCells = false := fun r h => by injection h with h; subst h; exact ⟨DW.out, _, HK2.out, rfl⟩
    have K3 := hid (K.out.own (grownBy_putObj' W D (.deferred none)) OWN)
    refine ⟨_, results_cc Tryz.results7 (by rfl) (K3.out.load1 (off := 0) (by repeat (first | exact List.mem_cons_self | refine List.mem_cons_of_mem _ ?_)) Tryz.underlying3 rfl (by rfl)) (by rfl) (K3.out.load1 (off := 0) (by repeat (first | exact List.mem_cons_self | refine List.mem_cons_of_mem _ ?_)) Tryz.underlying4 rfl (by rfl)), ?_⟩
    exact ⟨rfl, K3.out.b⟩
  case done =>
    rintro D ys W hD hS ⟨kv, K, H0⟩ hK
    have HKD := hid hK
    have DW : Hid (w.heap.size ≤ D) := hid (Nat.le_trans HSZ.out hD)
    have NP : Hid (kindP (sel ⟨lnsOf hs, ⟨al, aa⟩, ⟨fl, fa⟩, on, off⟩) = some kv) := hid (by
      rw [← SEL.out, ← hS, List.map_map]
      exact H0.out)
    have HRr := HR.out
    rw [NP.out] at HRr
    subst HRr
    have DG2 : Hid (g2 < D) := hid (by have h1 := Lg2.out; have h2 := LGS.out; omega)
    have DG3 : Hid (g3 < D) := hid (by have h1 := Lg3.out; have h2 := LGS.out; omega)
    clear hK hD H0 hS HR
    gi_wp2_with (first
      | gi_big_skip
      | ((with_reducible show wpListIn _ _ _ _ _ _ _ _); refine kiLoad1 (by rfl) 3 _ (by rfl) _ Tryz.underlying3 rfl K (by rfl) (by repeat (first | exact List.mem_cons_self | refine List.mem_cons_of_mem _ ?_)) (by rfl) ?_)
      | ((with_reducible show wpListIn _ _ _ _ _ _ _ _); refine kiStoreT (by rfl) 3 (.tmp 2) _ (by rfl) 1 (by kernel_rfl) [_, _] (by exact K) (by rfl) (v := .int .i64 kv) (by rfl) [.int .i64 kv] (by rfl) (by rfl) (by simp) (by simp [Value.oneCell']) (cs := [_]) (by rfl) ?_; intro V2 ON4 K1; (dsimp only [List.cons_append, List.nil_append] at K1); clear K; (have K := K1); clear K1)
      | ((with_reducible show wpListIn _ _ _ _ _ _ _ _); refine kiStoreT (by rfl) 4 (.tmp 3) _ (by rfl) 1 (by kernel_rfl) [_] (by exact K) (by rfl) (v := .bool true) (by rfl) [.bool true] (by rfl) (by rfl) (by simp) (by simp [Value.oneCell']) (cs := [_]) (by rfl) ?_; intro V2 ON5 K1; (dsimp only [List.cons_append, List.nil_append] at K1); clear K; (have K := K1); clear K1))
    have HK2 := hid ((ON5.out.block D (by have := DG3.out; omega)).trans ((ON4.out.block D (by have := DG2.out; omega)).trans HKD.out))
    refine ⟨by simp, .inl ⟨D, _, rfl, run_takeDeferred HK2.out, ?_⟩⟩
    have OWN : ∀ r, some D = some r → w.heap.size ≤ r ∧ ∃ o : Obj, V2.heap[r]? = some o ∧ o.isCells = false := fun r h => by injection h with h; subst h; exact ⟨DW.out, _, HK2.out, rfl⟩
    have K3 := hid (K.out.own (grownBy_putObj' V2 D (.deferred none)) OWN)
    refine ⟨_, results_cc Tryz.results7 (by rfl) (K3.out.load1 (off := 0) (by repeat (first | exact List.mem_cons_self | refine List.mem_cons_of_mem _ ?_)) Tryz.underlying3 rfl (by rfl)) (by rfl) (K3.out.load1 (off := 0) (by repeat (first | exact List.mem_cons_self | refine List.mem_cons_of_mem _ ?_)) Tryz.underlying4 rfl (by rfl)), ?_⟩
    exact ⟨rfl, K3.out.b⟩
theorem bKind_any (hs : List Hd) (A : Option Addr) (n c C : Nat) (hn : n = hs.length) (w : World) (hd : DocAt w C A hs) (h1 : hs.length ≤ 1000) (h2 : ∀ h ∈ hs, h.l.ls.length ≤ 1000000 ∧ h.l.cs.length ≤ 1000000) (hf : ∀ h ∈ hs, FineC h.l.cs) (hT : Tb w) (al aa fl fa on off : Int) :
    Calls Tryz.prog 7 #[.agg #[.slice A n c, .int .i64 al, .int .i64 aa, .int .i64 fl, .int .i64 fa, .int .i64 on, .int .i64 off]] w (IsKB (kindS ⟨lnsOf hs, ⟨al, aa⟩, ⟨fl, fa⟩, on, off⟩) w) := by
  cases mb : mayS ⟨lnsOf hs, ⟨al, aa⟩, ⟨fl, fa⟩, on, off⟩ with
  | false =>
    have e : kindS ⟨lnsOf hs, ⟨al, aa⟩, ⟨fl, fa⟩, on, off⟩ = (0, false) := by unfold kindS; rw [mb]; rfl
    rw [e]
    exact kindNo hs A n c C hn w hd h1 h2 hf hT al aa fl fa on off mb
  | true => exact kindYes hs A n c C hn w hd h1 h2 hf hT al aa fl fa on off mb
end Go.Proofs.YtblbfoniimnkcaaGreatDoor

/- The walks of blocks.Format, Indent, Outdent, and of the closures that they hand on. (Printed by wip/bldoc.py.) -/
namespace Go.Proofs.YtblbfoniimnkcaaGreatDoor
open Go.RowKit Go.Lib

set_option maxRecDepth 100000 in
set_option maxHeartbeats 4000000 in
theorem fmt1_any (x : Hd) (kind : Int) (gk : Nat) (W : World) (hl : LnAt W W.heap.size x.l x.A x.B) (b1 : x.l.ls.length ≤ 1000000000) (b2 : x.l.cs.length ≤ 1000000000) (hf : FineC x.l.cs) (hT : Tb W) (hk : W.heap[gk]? = some (.cells #[.int .i64 kind] 3 (0, 0))) :
    Calls Tryz.prog 28 #[lnV x.l x.A x.c x.B x.d, .pointer (some ⟨gk, 0, none⟩)] W (RetLnE (formatL x.l kind) W) := by
  unfold lnV
  have K := hid (KG.start W [] (by simp))
  have HK := hid hk
  have LK := hid (Array.getElem?_eq_some_iff.1 hk).1
  have HL := hid hl
  have FI := hid hf
  have T := hid hT
  obtain ⟨⟨m, ec⟩, hr⟩ : ∃ r, formatL x.l kind = r := ⟨_, rfl⟩
  rw [hr]
  have HR := hid hr
  clear hk hl hf hT hr
  go_enter Tryz.func28, Tryz.ntmps28
  go_wp2_with (first
    | go_big_skip
    | ((with_reducible show wpList _ _ _ _ _ _); refine kgBox (by rfl) 46 _ (by rfl) (some 2) (by rfl) (by rfl) [_, _, _, _] (by rfl) K ?_; intro g2 V1 K1; clear K; (have K := K1); clear K1)
    | ((with_reducible show wpList _ _ _ _ _ _); refine kgAlloc (by rfl) 46 (by rfl) (some 3) (by rfl) [.int .i64 0, .slice none 0 0, .int .i64 0, .slice none 0 0] (fun _ => by kernel_rfl) K ?_; intro g3 V1 K1; clear K; (have K := K1); clear K1)
    | ((with_reducible show wpList _ _ _ _ _ _); refine kgLoadA (by rfl) 46 _ (by rfl) 4 _ Tryz.underlying46 rfl (by kernel_rfl) K (by rfl) (by repeat (first | exact List.mem_cons_self | refine List.mem_cons_of_mem _ ?_)) (part := [_, _, _, _]) (by rfl) (by rfl) ?_)
    | ((with_reducible show wpList _ _ _ _ _ _); refine wpList_loadV (by rfl) 3 (.tmp 1) (by rfl) (by rfl) (run_loadVar_one _ ⟨gk, 0, none⟩ 3 (.int .i64 kind) _ ((cell_of_row _ gk 0 _ _ _ ((K.out.b.block gk LK.out).trans HK.out)).trans rfl) Tryz.underlying3 rfl) ?_)
    | (go_at_call 29; (with_reducible refine (lFormat_any x.l x.A _ x.c x.B _ x.d _ rfl rfl _ (HL.out.belowM K.out.b (Nat.le_refl _)) b1 b2 FI.out (Utf8Tabs_below T.out K.out.b) kind).mono ?_); rintro e W3 hc; unfold RetLnE at hc; rw [HR.out] at hc; obtain ⟨A9, c9, B9, d9, rfl, le1, le2, wr, hb3⟩ := hc; (have HX9 : Hid (HdW W3 W.heap.size (⟨m, A9, c9, B9, d9⟩ : Hd)) := hid ⟨wr.based K.out.b.size, le1, le2⟩); simp only [lnV]; clear le1 le2 wr; (have K2 := hid (K.out.later hb3)); clear hb3 K; (have K := K2); clear K2)
    | ((with_reducible show wpList _ _ _ _ _ _); (have KQ := K); refine kgStoreT (by rfl) 46 (.tmp 3) _ (by rfl) 4 (by kernel_rfl) [] (by exact K) (by rfl) (by rfl) [_, _, _, _] (by rfl) (by rfl) (by simp) (by simp [Value.oneCell']) (cs := [_, _, _, _]) (by rfl) ?_; intro V2 ON1 K1; (dsimp only [List.cons_append, List.nil_append] at K1); clear K; (have K := K1); clear K1; (have E0 := hid (KQ.out.bx ⟨g3, 46, [.int .i64 0, .slice none 0 0, .int .i64 0, .slice none 0 0]⟩ (by simp)).2); (have HXB := hid (HX9.out.onl (t := 46) ON1.out E0.out (by decide) (by decide))); clear KQ E0))
  refine bodyPost_ret (results_ct Tryz.results28 (by rfl) (K.out.loadA (off := 0) (n := 4) (by repeat (first | exact List.mem_cons_self | refine List.mem_cons_of_mem _ ?_)) Tryz.underlying46 rfl (by kernel_rfl) (part := [_, _, _, _]) (by rfl) (by rfl)) (by rfl)) rfl ?_
  exact ⟨A9, c9, B9, d9, rfl, HXB.out.c, HXB.out.d, HXB.out.wr, K.out.b⟩
set_option maxRecDepth 100000 in
set_option maxHeartbeats 4000000 in
theorem lst1_any (x : Hd) (kind : Int) (gk : Nat) (W : World) (hl : LnAt W W.heap.size x.l x.A x.B) (b1 : x.l.ls.length ≤ 1000000000) (b2 : x.l.cs.length ≤ 1000000000) (hf : FineC x.l.cs) (hT : Tb W) (hk : W.heap[gk]? = some (.cells #[.int .i64 kind] 3 (0, 0))) :
    Calls Tryz.prog 33 #[lnV x.l x.A x.c x.B x.d, .pointer (some ⟨gk, 0, none⟩)] W (RetLnE (listL x.l kind) W) := by
  unfold lnV
  have K := hid (KG.start W [] (by simp))
  have HK := hid hk
  have LK := hid (Array.getElem?_eq_some_iff.1 hk).1
  have HL := hid hl
  have FI := hid hf
  have T := hid hT
  obtain ⟨⟨m, ec⟩, hr⟩ : ∃ r, listL x.l kind = r := ⟨_, rfl⟩
  rw [hr]
  have HR := hid hr
  clear hk hl hf hT hr
  go_enter Tryz.func33, Tryz.ntmps33
  go_wp2_with (first
    | go_big_skip
    | ((with_reducible show wpList _ _ _ _ _ _); refine kgBox (by rfl) 46 _ (by rfl) (some 2) (by rfl) (by rfl) [_, _, _, _] (by rfl) K ?_; intro g2 V1 K1; clear K; (have K := K1); clear K1)
    | ((with_reducible show wpList _ _ _ _ _ _); refine kgAlloc (by rfl) 46 (by rfl) (some 3) (by rfl) [.int .i64 0, .slice none 0 0, .int .i64 0, .slice none 0 0] (fun _ => by kernel_rfl) K ?_; intro g3 V1 K1; clear K; (have K := K1); clear K1)
    | ((with_reducible show wpList _ _ _ _ _ _); refine kgLoadA (by rfl) 46 _ (by rfl) 4 _ Tryz.underlying46 rfl (by kernel_rfl) K (by rfl) (by repeat (first | exact List.mem_cons_self | refine List.mem_cons_of_mem _ ?_)) (part := [_, _, _, _]) (by rfl) (by rfl) ?_)
    | ((with_reducible show wpList _ _ _ _ _ _); refine wpList_loadV (by rfl) 3 (.tmp 1) (by rfl) (by rfl) (run_loadVar_one _ ⟨gk, 0, none⟩ 3 (.int .i64 kind) _ ((cell_of_row _ gk 0 _ _ _ ((K.out.b.block gk LK.out).trans HK.out)).trans rfl) Tryz.underlying3 rfl) ?_)
    | (go_at_call 34; (with_reducible refine (lList_any x.l x.A _ x.c x.B _ x.d _ rfl rfl _ (HL.out.belowM K.out.b (Nat.le_refl _)) b1 b2 FI.out (Utf8Tabs_below T.out K.out.b) kind).mono ?_); rintro e W3 hc; unfold RetLnE at hc; rw [HR.out] at hc; obtain ⟨A9, c9, B9, d9, rfl, le1, le2, wr, hb3⟩ := hc; (have HX9 : Hid (HdW W3 W.heap.size (⟨m, A9, c9, B9, d9⟩ : Hd)) := hid ⟨wr.based K.out.b.size, le1, le2⟩); simp only [lnV]; clear le1 le2 wr; (have K2 := hid (K.out.later hb3)); clear hb3 K; (have K := K2); clear K2)
    | ((with_reducible show wpList _ _ _ _ _ _); (have KQ := K); refine kgStoreT (by rfl) 46 (.tmp 3) _ (by rfl) 4 (by kernel_rfl) [] (by exact K) (by rfl) (by rfl) [_, _, _, _] (by rfl) (by rfl) (by simp) (by simp [Value.oneCell']) (cs := [_, _, _, _]) (by rfl) ?_; intro V2 ON1 K1; (dsimp only [List.cons_append, List.nil_append] at K1); clear K; (have K := K1); clear K1; (have E0 := hid (KQ.out.bx ⟨g3, 46, [.int .i64 0, .slice none 0 0, .int .i64 0, .slice none 0 0]⟩ (by simp)).2); (have HXB := hid (HX9.out.onl (t := 46) ON1.out E0.out (by decide) (by decide))); clear KQ E0))
  refine bodyPost_ret (results_ct Tryz.results33 (by rfl) (K.out.loadA (off := 0) (n := 4) (by repeat (first | exact List.mem_cons_self | refine List.mem_cons_of_mem _ ?_)) Tryz.underlying46 rfl (by kernel_rfl) (part := [_, _, _, _]) (by rfl) (by rfl)) (by rfl)) rfl ?_
  exact ⟨A9, c9, B9, d9, rfl, HXB.out.c, HXB.out.d, HXB.out.wr, K.out.b⟩
set_option maxRecDepth 100000 in
set_option maxHeartbeats 4000000 in
theorem bIndent_any (hs : List Hd) (A : Option Addr) (n c C : Nat) (hn : n = hs.length) (w : World) (hd : DocAt w C A hs) (h1 : hs.length ≤ 1000) (h2 : ∀ h ∈ hs, h.l.ls.length ≤ 1000000 ∧ h.l.cs.length ≤ 1000000) (hf : ∀ h ∈ hs, FineC h.l.cs) (hT : Tb w) (al aa fl fa on off : Int) :
    Calls Tryz.prog 15 #[.agg #[.slice A n c, .int .i64 al, .int .i64 aa, .int .i64 fl, .int .i64 fa, .int .i64 on, .int .i64 off]] w (RetStE (eachS indentL ⟨lnsOf hs, ⟨al, aa⟩, ⟨fl, fa⟩, on, off⟩) w) := by
  subst hn
  have D0 := hid h2
  have L0 := hid h1
  have K := hid (KG.start w [⟨hs, A, false⟩] (by simpa using hd.live))
  have T := hid hT
  have FI := hid hf
  have H2 := hid h2
  have HD0 := hid hd.live
  clear hd h2 hT hf
  obtain ⟨⟨⟨rd, ⟨ral, raa⟩, ⟨rfl', rfa⟩, ron, roff⟩, er⟩, hr⟩ : ∃ r, eachS indentL ⟨lnsOf hs, ⟨al, aa⟩, ⟨fl, fa⟩, on, off⟩ = r := ⟨_, rfl⟩
  rw [hr]
  have HR := hid hr
  clear hr
  have EC : Hid (∀ W : World, Below w.heap.size w W → Calls Tryz.prog 27 #[.agg #[.slice A hs.length c, .int .i64 al, .int .i64 aa, .int .i64 fl, .int .i64 fa, .int .i64 on, .int .i64 off], .func (.func 31) #[] #[]] W (RetStE (⟨rd, ⟨ral, raa⟩, ⟨rfl', rfa⟩, ron, roff⟩, er) W)) := hid (by
    intro W hb
    have := each_any hs A _ c _ rfl W (HD0.out.belowM hb (Nat.le_refl _)) L0.out H2.out FI.out (Utf8Tabs_below T.out hb) al aa fl fa on off 31 #[] (indentL) (fun _ _ => by kernel_rfl) (fun x W' hx hb' hl => lIndent_any x.l x.A _ x.c x.B _ x.d _ rfl rfl W' hl (by have := (H2.out x hx).1; omega) (by have := (H2.out x hx).2; omega) (FI.out x hx) (Utf8Tabs_below T.out (hb.trans (hb'.mono hb.size))))
    rw [HR.out] at this
    exact this)
  go_enter Tryz.func15, Tryz.ntmps15
  go_wp2_with (first
    | go_big_skip
    | ((with_reducible show wpList _ _ _ _ _ _); refine kgBox (by rfl) 26 _ (by rfl) (some 1) (by rfl) (by rfl) [_, _, _, _, _, _, _] (by rfl) K ?_; intro g1 V1 K1; clear K; (have K := K1); clear K1)
    | ((with_reducible show wpList _ _ _ _ _ _); refine kgAlloc (by rfl) 26 (by rfl) (some 2) (by rfl) [.slice none 0 0, .int .i64 0, .int .i64 0, .int .i64 0, .int .i64 0, .int .i64 0, .int .i64 0] (fun _ => by kernel_rfl) K ?_; intro g2 V1 K1; clear K; (have K := K1); clear K1)
    | ((with_reducible show wpList _ _ _ _ _ _); refine kgLoadA (by rfl) 26 _ (by rfl) 7 _ Tryz.underlying26 rfl (by kernel_rfl) K (by rfl) (by repeat (first | exact List.mem_cons_self | refine List.mem_cons_of_mem _ ?_)) (part := [_, _, _, _, _, _, _]) (by rfl) (by rfl) ?_)
    | (go_at_call 27; (with_reducible refine (EC.out _ K.out.b).mono ?_); rintro e W3 ⟨A3, n3, c3, hs3, rfl, q1, q2, q3, ho, hb3⟩; (have QQ : Hid (n3 = hs3.length ∧ n3 ≤ c3 ∧ lnsOf hs3 = rd) := hid ⟨q1, q2, q3⟩); unfold stV; dsimp only; (have K2 := hid (K.out.addW hb3 ho)); clear q1 q2 q3 ho hb3 K; (have K := K2); clear K2)
    | ((with_reducible show wpList _ _ _ _ _ _); refine kgStore (by rfl) 26 (.tmp 2) _ (by rfl) 7 (by kernel_rfl) [] (by exact K) (by rfl) (by rfl) [_, _, _, _, _, _, _] (by rfl) (by rfl) (by simp) (by simp [Value.oneCell']) (cs := [_, _, _, _, _, _, _]) (by rfl) ?_; intro V2 K1; (dsimp only [List.cons_append, List.nil_append] at K1); clear K; (have K := K1); clear K1))
  refine bodyPost_ret (results_ct Tryz.results15 (by rfl) (K.out.loadA (off := 0) (n := 7) (by repeat (first | exact List.mem_cons_self | refine List.mem_cons_of_mem _ ?_)) Tryz.underlying26 rfl (by kernel_rfl) (part := [_, _, _, _, _, _, _]) (by rfl) (by rfl)) (by rfl)) rfl ?_
  exact ⟨A3, n3, c3, hs3, rfl, QQ.out.1, QQ.out.2.1, QQ.out.2.2, K.out.docW (by simp), K.out.b⟩
set_option maxRecDepth 100000 in
set_option maxHeartbeats 4000000 in
theorem bOutdent_any (hs : List Hd) (A : Option Addr) (n c C : Nat) (hn : n = hs.length) (w : World) (hd : DocAt w C A hs) (h1 : hs.length ≤ 1000) (h2 : ∀ h ∈ hs, h.l.ls.length ≤ 1000000 ∧ h.l.cs.length ≤ 1000000) (hf : ∀ h ∈ hs, FineC h.l.cs) (hT : Tb w) (al aa fl fa on off : Int) :
    Calls Tryz.prog 16 #[.agg #[.slice A n c, .int .i64 al, .int .i64 aa, .int .i64 fl, .int .i64 fa, .int .i64 on, .int .i64 off]] w (RetStE (eachS outdentL ⟨lnsOf hs, ⟨al, aa⟩, ⟨fl, fa⟩, on, off⟩) w) := by
  subst hn
  have D0 := hid h2
  have L0 := hid h1
  have K := hid (KG.start w [⟨hs, A, false⟩] (by simpa using hd.live))
  have T := hid hT
  have FI := hid hf
  have H2 := hid h2
  have HD0 := hid hd.live
  clear hd h2 hT hf
  obtain ⟨⟨⟨rd, ⟨ral, raa⟩, ⟨rfl', rfa⟩, ron, roff⟩, er⟩, hr⟩ : ∃ r, eachS outdentL ⟨lnsOf hs, ⟨al, aa⟩, ⟨fl, fa⟩, on, off⟩ = r := ⟨_, rfl⟩
  rw [hr]
  have HR := hid hr
  clear hr
  have EC : Hid (∀ W : World, Below w.heap.size w W → Calls Tryz.prog 27 #[.agg #[.slice A hs.length c, .int .i64 al, .int .i64 aa, .int .i64 fl, .int .i64 fa, .int .i64 on, .int .i64 off], .func (.func 32) #[] #[]] W (RetStE (⟨rd, ⟨ral, raa⟩, ⟨rfl', rfa⟩, ron, roff⟩, er) W)) := hid (by
    intro W hb
    have := each_any hs A _ c _ rfl W (HD0.out.belowM hb (Nat.le_refl _)) L0.out H2.out FI.out (Utf8Tabs_below T.out hb) al aa fl fa on off 32 #[] (outdentL) (fun _ _ => by kernel_rfl) (fun x W' hx hb' hl => lOutdent_any x.l x.A _ x.c x.B _ x.d _ rfl rfl W' hl (by have := (H2.out x hx).1; omega) (by have := (H2.out x hx).2; omega) (FI.out x hx) (Utf8Tabs_below T.out (hb.trans (hb'.mono hb.size))))
    rw [HR.out] at this
    exact this)
  go_enter Tryz.func16, Tryz.ntmps16
  go_wp2_with (first
    | go_big_skip
    | ((with_reducible show wpList _ _ _ _ _ _); refine kgBox (by rfl) 26 _ (by rfl) (some 1) (by rfl) (by rfl) [_, _, _, _, _, _, _] (by rfl) K ?_; intro g1 V1 K1; clear K; (have K := K1); clear K1)
    | ((with_reducible show wpList _ _ _ _ _ _); refine kgAlloc (by rfl) 26 (by rfl) (some 2) (by rfl) [.slice none 0 0, .int .i64 0, .int .i64 0, .int .i64 0, .int .i64 0, .int .i64 0, .int .i64 0] (fun _ => by kernel_rfl) K ?_; intro g2 V1 K1; clear K; (have K := K1); clear K1)
    | ((with_reducible show wpList _ _ _ _ _ _); refine kgLoadA (by rfl) 26 _ (by rfl) 7 _ Tryz.underlying26 rfl (by kernel_rfl) K (by rfl) (by repeat (first | exact List.mem_cons_self | refine List.mem_cons_of_mem _ ?_)) (part := [_, _, _, _, _, _, _]) (by rfl) (by rfl) ?_)
    | (go_at_call 27; (with_reducible refine (EC.out _ K.out.b).mono ?_); rintro e W3 ⟨A3, n3, c3, hs3, rfl, q1, q2, q3, ho, hb3⟩; (have QQ : Hid (n3 = hs3.length ∧ n3 ≤ c3 ∧ lnsOf hs3 = rd) := hid ⟨q1, q2, q3⟩); unfold stV; dsimp only; (have K2 := hid (K.out.addW hb3 ho)); clear q1 q2 q3 ho hb3 K; (have K := K2); clear K2)
    | ((with_reducible show wpList _ _ _ _ _ _); refine kgStore (by rfl) 26 (.tmp 2) _ (by rfl) 7 (by kernel_rfl) [] (by exact K) (by rfl) (by rfl) [_, _, _, _, _, _, _] (by rfl) (by rfl) (by simp) (by simp [Value.oneCell']) (cs := [_, _, _, _, _, _, _]) (by rfl) ?_; intro V2 K1; (dsimp only [List.cons_append, List.nil_append] at K1); clear K; (have K := K1); clear K1))
  refine bodyPost_ret (results_ct Tryz.results16 (by rfl) (K.out.loadA (off := 0) (n := 7) (by repeat (first | exact List.mem_cons_self | refine List.mem_cons_of_mem _ ?_)) Tryz.underlying26 rfl (by kernel_rfl) (part := [_, _, _, _, _, _, _]) (by rfl) (by rfl)) (by rfl)) rfl ?_
  exact ⟨A3, n3, c3, hs3, rfl, QQ.out.1, QQ.out.2.1, QQ.out.2.2, K.out.docW (by simp), K.out.b⟩
set_option maxRecDepth 100000 in
set_option maxHeartbeats 4000000 in
theorem bFormat_any (hs : List Hd) (A : Option Addr) (n c C : Nat) (hn : n = hs.length) (w : World) (hd : DocAt w C A hs) (h1 : hs.length ≤ 1000) (h2 : ∀ h ∈ hs, h.l.ls.length ≤ 1000000 ∧ h.l.cs.length ≤ 1000000) (hf : ∀ h ∈ hs, FineC h.l.cs) (hT : Tb w) (al aa fl fa on off kind : Int) :
    Calls Tryz.prog 12 #[.agg #[.slice A n c, .int .i64 al, .int .i64 aa, .int .i64 fl, .int .i64 fa, .int .i64 on, .int .i64 off], .int .i64 kind] w (RetStE (formatS ⟨lnsOf hs, ⟨al, aa⟩, ⟨fl, fa⟩, on, off⟩ kind) w) := by
  subst hn
  have D0 := hid h2
  have L0 := hid h1
  have K := hid (KG.start w [⟨hs, A, false⟩] (by simpa using hd.live))
  have T := hid hT
  have FI := hid hf
  have H2 := hid h2
  have HD0 := hid hd.live
  clear hd h2 hT hf
  unfold formatS
  by_cases c1 : 0 ≤ kind ∧ kind ≤ 3
  · rw [if_pos c1]
    obtain ⟨⟨⟨rd, ⟨ral, raa⟩, ⟨rfl', rfa⟩, ron, roff⟩, er⟩, hr⟩ : ∃ r, eachS (formatL · kind) ⟨lnsOf hs, ⟨al, aa⟩, ⟨fl, fa⟩, on, off⟩ = r := ⟨_, rfl⟩
    rw [hr]
    have HR := hid hr
    clear hr
    have i1 : ¬ (kind < 0) := by omega
    have i2 : ¬ (3 < kind) := by omega
    clear c1
    have EC : Hid (∀ W : World, Below w.heap.size w W → ∀ gk, W.heap[gk]? = some (.cells #[.int .i64 kind] 3 (0, 0)) → Calls Tryz.prog 27 #[.agg #[.slice A hs.length c, .int .i64 al, .int .i64 aa, .int .i64 fl, .int .i64 fa, .int .i64 on, .int .i64 off], .func (.func 28) #[] #[.pointer (some ⟨gk, 0, none⟩)]] W (RetStE (⟨rd, ⟨ral, raa⟩, ⟨rfl', rfa⟩, ron, roff⟩, er) W)) := hid (by
      intro W hb gk hk
      have := each_any hs A _ c _ rfl W (HD0.out.belowM hb (Nat.le_refl _)) L0.out H2.out FI.out (Utf8Tabs_below T.out hb) al aa fl fa on off 28 #[.pointer (some ⟨gk, 0, none⟩)] (formatL · kind) (fun _ _ => by kernel_rfl) (fun x W' hx hb' hl => fmt1_any x kind gk W' hl (by have := (H2.out x hx).1; omega) (by have := (H2.out x hx).2; omega) (FI.out x hx) (Utf8Tabs_below T.out (hb.trans (hb'.mono hb.size))) ((hb'.block gk (Array.getElem?_eq_some_iff.1 hk).1).trans hk))
      rw [HR.out] at this
      exact this)
    go_enter Tryz.func12, Tryz.ntmps12
    go_wp2_with (first
      | go_big_skip
      | ((with_reducible show wpList _ _ _ _ _ _); refine kgBox (by rfl) 26 _ (by rfl) (some 2) (by rfl) (by rfl) [_, _, _, _, _, _, _] (by rfl) K ?_; intro g2 V1 K1; clear K; (have K := K1); clear K1)
      | ((with_reducible show wpList _ _ _ _ _ _); refine kgBox (by rfl) 3 _ (by rfl) (some 3) (by rfl) (v := .int .i64 kind) (by rfl) [.int .i64 kind] (by rfl) K ?_; intro g3 V1 K1; clear K; (have K := K1); clear K1)
      | ((with_reducible show wpList _ _ _ _ _ _); refine kgAlloc (by rfl) 26 (by rfl) (some 4) (by rfl) [.slice none 0 0, .int .i64 0, .int .i64 0, .int .i64 0, .int .i64 0, .int .i64 0, .int .i64 0] (fun _ => by kernel_rfl) K ?_; intro g4 V1 K1; clear K; (have K := K1); clear K1)
      | ((with_reducible show wpList _ _ _ _ _ _); refine kgLoad1 (by rfl) 3 _ (by rfl) _ Tryz.underlying3 rfl K (by rfl) (by repeat (first | exact List.mem_cons_self | refine List.mem_cons_of_mem _ ?_)) (by rfl) ?_)
      | ((with_reducible show wpList _ _ _ _ _ _); refine kgLoadA (by rfl) 26 _ (by rfl) 7 _ Tryz.underlying26 rfl (by kernel_rfl) K (by rfl) (by repeat (first | exact List.mem_cons_self | refine List.mem_cons_of_mem _ ?_)) (part := [_, _, _, _, _, _, _]) (by rfl) (by rfl) ?_)
      | ((with_reducible show wpList _ _ _ _ _ _); refine kgStore (by rfl) 26 (.tmp 4) _ (by rfl) 7 (by kernel_rfl) [] (by exact K) (by rfl) (by rfl) [_, _, _, _, _, _, _] (by rfl) (by rfl) (by simp) (by simp [Value.oneCell']) (cs := [_, _, _, _, _, _, _]) (by rfl) ?_; intro V2 K1; (dsimp only [List.cons_append, List.nil_append] at K1); clear K; (have K := K1); clear K1)
      | (go_at_call 27; (with_reducible refine (EC.out _ K.out.b _ (K.out.bx ⟨g3, 3, [.int .i64 kind]⟩ (by simp)).2).mono ?_); rintro e W3 ⟨A3, n3, c3, hs3, rfl, q1, q2, q3, ho, hb3⟩; (have QQ : Hid (n3 = hs3.length ∧ n3 ≤ c3 ∧ lnsOf hs3 = rd) := hid ⟨q1, q2, q3⟩); unfold stV; dsimp only; (have K2 := hid (K.out.addW hb3 ho)); clear q1 q2 q3 ho hb3 K; (have K := K2); clear K2))
    refine bodyPost_ret (results_ct Tryz.results12 (by rfl) (K.out.loadA (off := 0) (n := 7) (by repeat (first | exact List.mem_cons_self | refine List.mem_cons_of_mem _ ?_)) Tryz.underlying26 rfl (by kernel_rfl) (part := [_, _, _, _, _, _, _]) (by rfl) (by rfl)) (by rfl)) rfl ?_
    exact ⟨A3, n3, c3, hs3, rfl, QQ.out.1, QQ.out.2.1, QQ.out.2.2, K.out.docW (by simp), K.out.b⟩
  · rw [if_neg c1]
    by_cases c0 : kind < 0
    · clear c1
      go_enter Tryz.func12, Tryz.ntmps12
      go_wp2_with (first
        | go_big_skip
        | ((with_reducible show wpList _ _ _ _ _ _); refine kgBox (by rfl) 26 _ (by rfl) (some 2) (by rfl) (by rfl) [_, _, _, _, _, _, _] (by rfl) K ?_; intro g2 V1 K1; clear K; (have K := K1); clear K1)
        | ((with_reducible show wpList _ _ _ _ _ _); refine kgBox (by rfl) 3 _ (by rfl) (some 3) (by rfl) (v := .int .i64 kind) (by rfl) [.int .i64 kind] (by rfl) K ?_; intro g3 V1 K1; clear K; (have K := K1); clear K1)
        | ((with_reducible show wpList _ _ _ _ _ _); refine kgAlloc (by rfl) 26 (by rfl) (some 4) (by rfl) [.slice none 0 0, .int .i64 0, .int .i64 0, .int .i64 0, .int .i64 0, .int .i64 0, .int .i64 0] (fun _ => by kernel_rfl) K ?_; intro g4 V1 K1; clear K; (have K := K1); clear K1)
        | ((with_reducible show wpList _ _ _ _ _ _); refine kgLoad1 (by rfl) 3 _ (by rfl) _ Tryz.underlying3 rfl K (by rfl) (by repeat (first | exact List.mem_cons_self | refine List.mem_cons_of_mem _ ?_)) (by rfl) ?_)
        | ((with_reducible show wpList _ _ _ _ _ _); refine kgLoadA (by rfl) 26 _ (by rfl) 7 _ Tryz.underlying26 rfl (by kernel_rfl) K (by rfl) (by repeat (first | exact List.mem_cons_self | refine List.mem_cons_of_mem _ ?_)) (part := [_, _, _, _, _, _, _]) (by rfl) (by rfl) ?_)
        | ((with_reducible show wpList _ _ _ _ _ _); refine kgStore (by rfl) 26 (.tmp 4) _ (by rfl) 7 (by kernel_rfl) [] (by exact K) (by rfl) (by rfl) [_, _, _, _, _, _, _] (by rfl) (by rfl) (by simp) (by simp [Value.oneCell']) (cs := [_, _, _, _, _, _, _]) (by rfl) ?_; intro V2 K1; (dsimp only [List.cons_append, List.nil_append] at K1); clear K; (have K := K1); clear K1))
      refine bodyPost_ret (results_ct Tryz.results12 (by rfl) (K.out.loadA (off := 0) (n := 7) (by repeat (first | exact List.mem_cons_self | refine List.mem_cons_of_mem _ ?_)) Tryz.underlying26 rfl (by kernel_rfl) (part := [_, _, _, _, _, _, _]) (by rfl) (by rfl)) (by rfl)) rfl ?_
      exact ⟨none, 0, 0, [], rfl, rfl, Nat.le_refl _, rfl, DocW.nil, K.out.b⟩
    · have i2 : 3 < kind := by omega
      clear c1
      go_enter Tryz.func12, Tryz.ntmps12
      go_wp2_with (first
        | go_big_skip
        | ((with_reducible show wpList _ _ _ _ _ _); refine kgBox (by rfl) 26 _ (by rfl) (some 2) (by rfl) (by rfl) [_, _, _, _, _, _, _] (by rfl) K ?_; intro g2 V1 K1; clear K; (have K := K1); clear K1)
        | ((with_reducible show wpList _ _ _ _ _ _); refine kgBox (by rfl) 3 _ (by rfl) (some 3) (by rfl) (v := .int .i64 kind) (by rfl) [.int .i64 kind] (by rfl) K ?_; intro g3 V1 K1; clear K; (have K := K1); clear K1)
        | ((with_reducible show wpList _ _ _ _ _ _); refine kgAlloc (by rfl) 26 (by rfl) (some 4) (by rfl) [.slice none 0 0, .int .i64 0, .int .i64 0, .int .i64 0, .int .i64 0, .int .i64 0, .int .i64 0] (fun _ => by kernel_rfl) K ?_; intro g4 V1 K1; clear K; (have K := K1); clear K1)
        | ((with_reducible show wpList _ _ _ _ _ _); refine kgLoad1 (by rfl) 3 _ (by rfl) _ Tryz.underlying3 rfl K (by rfl) (by repeat (first | exact List.mem_cons_self | refine List.mem_cons_of_mem _ ?_)) (by rfl) ?_)
        | ((with_reducible show wpList _ _ _ _ _ _); refine kgLoadA (by rfl) 26 _ (by rfl) 7 _ Tryz.underlying26 rfl (by kernel_rfl) K (by rfl) (by repeat (first | exact List.mem_cons_self | refine List.mem_cons_of_mem _ ?_)) (part := [_, _, _, _, _, _, _]) (by rfl) (by rfl) ?_)
        | ((with_reducible show wpList _ _ _ _ _ _); refine kgStore (by rfl) 26 (.tmp 4) _ (by rfl) 7 (by kernel_rfl) [] (by exact K) (by rfl) (by rfl) [_, _, _, _, _, _, _] (by rfl) (by rfl) (by simp) (by simp [Value.oneCell']) (cs := [_, _, _, _, _, _, _]) (by rfl) ?_; intro V2 K1; (dsimp only [List.cons_append, List.nil_append] at K1); clear K; (have K := K1); clear K1))
      refine bodyPost_ret (results_ct Tryz.results12 (by rfl) (K.out.loadA (off := 0) (n := 7) (by repeat (first | exact List.mem_cons_self | refine List.mem_cons_of_mem _ ?_)) Tryz.underlying26 rfl (by kernel_rfl) (part := [_, _, _, _, _, _, _]) (by rfl) (by rfl)) (by rfl)) rfl ?_
      exact ⟨none, 0, 0, [], rfl, rfl, Nat.le_refl _, rfl, DocW.nil, K.out.b⟩
end Go.Proofs.YtblbfoniimnkcaaGreatDoor

/- The walk of blocks.List. (Printed by wip/bldoc.py.) -/
namespace Go.Proofs.YtblbfoniimnkcaaGreatDoor
open Go.RowKit Go.Lib

set_option maxRecDepth 100000 in
set_option maxHeartbeats 4000000 in
theorem bList_0_yes (hs : List Hd) (A : Option Addr) (n c C : Nat) (hn : n = hs.length) (w : World) (hd : DocAt w C A hs) (h1 : hs.length ≤ 1000) (h2 : ∀ h ∈ hs, h.l.ls.length ≤ 1000000 ∧ h.l.cs.length ≤ 1000000) (hf : ∀ h ∈ hs, FineC h.l.cs) (hT : Tb w) (al aa fl fa on off : Int) (ls : Bool) (hls : listedS ⟨lnsOf hs, ⟨al, aa⟩, ⟨fl, fa⟩, on, off⟩ 0 = (true, ls)) :
    Calls Tryz.prog 17 #[.agg #[.slice A n c, .int .i64 al, .int .i64 aa, .int .i64 fl, .int .i64 fa, .int .i64 on, .int .i64 off], .int .i64 0] w (RetStE (eachS outdentL ⟨lnsOf hs, ⟨al, aa⟩, ⟨fl, fa⟩, on, off⟩) w) := by
  subst hn
  have D0 := hid h2
  have L0 := hid h1
  have K := hid (KG.start w [⟨hs, A, false⟩] (by simpa using hd.live))
  have T := hid hT
  have FI := hid hf
  have H2 := hid h2
  have HD0 := hid hd.live
  clear hd h2 hT hf
  have HLS := hid hls
  clear hls
  obtain ⟨⟨⟨rd, ⟨ral, raa⟩, ⟨rfl', rfa⟩, ron, roff⟩, er⟩, hr⟩ : ∃ r, (eachS outdentL ⟨lnsOf hs, ⟨al, aa⟩, ⟨fl, fa⟩, on, off⟩) = r := ⟨_, rfl⟩
  rw [hr]
  have HR := hid hr
  clear hr
  have EC : Hid (∀ W : World, Below w.heap.size w W → Calls Tryz.prog 27 #[.agg #[.slice A hs.length c, .int .i64 al, .int .i64 aa, .int .i64 fl, .int .i64 fa, .int .i64 on, .int .i64 off], .func (.func 32) #[] #[]] W (RetStE (⟨rd, ⟨ral, raa⟩, ⟨rfl', rfa⟩, ron, roff⟩, er) W)) := hid (by
    intro W hb
    have := each_any hs A _ c _ rfl W (HD0.out.belowM hb (Nat.le_refl _)) L0.out H2.out FI.out (Utf8Tabs_below T.out hb) al aa fl fa on off 32 #[] (outdentL) (fun _ _ => by kernel_rfl) (fun x W' hx hb' hl => lOutdent_any x.l x.A _ x.c x.B _ x.d _ rfl rfl W' hl (by have := (H2.out x hx).1; omega) (by have := (H2.out x hx).2; omega) (FI.out x hx) (Utf8Tabs_below T.out (hb.trans (hb'.mono hb.size))))
    rw [HR.out] at this
    exact this)
  go_enter Tryz.func17, Tryz.ntmps17
  go_wp2_with (first
    | go_big_skip
    | ((with_reducible show wpList _ _ _ _ _ _); refine kgBox (by rfl) 26 _ (by rfl) (some 2) (by rfl) (by rfl) [_, _, _, _, _, _, _] (by rfl) K ?_; intro g2 V1 K1; clear K; (have K := K1); clear K1)
    | ((with_reducible show wpList _ _ _ _ _ _); refine kgBox (by rfl) 3 _ (by rfl) (some 3) (by rfl) (v := .int .i64 0) (by rfl) [.int .i64 0] (by rfl) K ?_; intro g3 V1 K1; clear K; (have K := K1); clear K1)
    | ((with_reducible show wpList _ _ _ _ _ _); refine kgAlloc (by rfl) 26 (by rfl) (some 4) (by rfl) [.slice none 0 0, .int .i64 0, .int .i64 0, .int .i64 0, .int .i64 0, .int .i64 0, .int .i64 0] (fun _ => by kernel_rfl) K ?_; intro g4 V1 K1; clear K; (have K := K1); clear K1)
    | ((with_reducible show wpList _ _ _ _ _ _); refine kgLoad1 (by rfl) 3 _ (by rfl) _ Tryz.underlying3 rfl K (by rfl) (by repeat (first | exact List.mem_cons_self | refine List.mem_cons_of_mem _ ?_)) (by rfl) ?_)
    | ((with_reducible show wpList _ _ _ _ _ _); refine kgLoadA (by rfl) 26 _ (by rfl) 7 _ Tryz.underlying26 rfl (by kernel_rfl) K (by rfl) (by repeat (first | exact List.mem_cons_self | refine List.mem_cons_of_mem _ ?_)) (part := [_, _, _, _, _, _, _]) (by rfl) (by rfl) ?_)
    | ((with_reducible show wpList _ _ _ _ _ _); refine kgStore (by rfl) 26 (.tmp 4) _ (by rfl) 7 (by kernel_rfl) [] (by exact K) (by rfl) (by rfl) [_, _, _, _, _, _, _] (by rfl) (by rfl) (by simp) (by simp [Value.oneCell']) (cs := [_, _, _, _, _, _, _]) (by rfl) ?_; intro V2 K1; (dsimp only [List.cons_append, List.nil_append] at K1); clear K; (have K := K1); clear K1)
    | (go_at_call 9; (with_reducible refine (bListed_any hs A _ c _ rfl _ (K.out.at_ (d := ⟨hs, A, false⟩) (by simp)) L0.out H2.out FI.out (Utf8Tabs_below T.out K.out.b) al aa fl fa on off _).mono ?_); rintro e W2 ⟨rfl, hb⟩; rw [HLS.out]; dsimp only; (have K2 := hid (K.out.later hb)); clear hb K; (have K := K2); clear K2)
    | (go_at_call 27; (with_reducible refine (EC.out _ K.out.b).mono ?_); rintro e W3 ⟨A3, n3, c3, hs3, rfl, q1, q2, q3, ho, hb3⟩; (have QQ : Hid (n3 = hs3.length ∧ n3 ≤ c3 ∧ lnsOf hs3 = rd) := hid ⟨q1, q2, q3⟩); unfold stV; dsimp only; (have K2 := hid (K.out.addW hb3 ho)); clear q1 q2 q3 ho hb3 K; (have K := K2); clear K2))
  refine bodyPost_ret (results_ct Tryz.results17 (by rfl) (K.out.loadA (off := 0) (n := 7) (by repeat (first | exact List.mem_cons_self | refine List.mem_cons_of_mem _ ?_)) Tryz.underlying26 rfl (by kernel_rfl) (part := [_, _, _, _, _, _, _]) (by rfl) (by rfl)) (by rfl)) rfl ?_
  exact ⟨A3, n3, c3, hs3, rfl, QQ.out.1, QQ.out.2.1, QQ.out.2.2, K.out.docW (by simp), K.out.b⟩
set_option maxRecDepth 100000 in
set_option maxHeartbeats 4000000 in
theorem bList_0_no (hs : List Hd) (A : Option Addr) (n c C : Nat) (hn : n = hs.length) (w : World) (hd : DocAt w C A hs) (h1 : hs.length ≤ 1000) (h2 : ∀ h ∈ hs, h.l.ls.length ≤ 1000000 ∧ h.l.cs.length ≤ 1000000) (hf : ∀ h ∈ hs, FineC h.l.cs) (hT : Tb w) (al aa fl fa on off : Int) (ls : Bool) (hls : listedS ⟨lnsOf hs, ⟨al, aa⟩, ⟨fl, fa⟩, on, off⟩ 0 = (false, ls)) :
    Calls Tryz.prog 17 #[.agg #[.slice A n c, .int .i64 al, .int .i64 aa, .int .i64 fl, .int .i64 fa, .int .i64 on, .int .i64 off], .int .i64 0] w (RetStE (eachS (listL · 0) ⟨lnsOf hs, ⟨al, aa⟩, ⟨fl, fa⟩, on, off⟩) w) := by
  subst hn
  have D0 := hid h2
  have L0 := hid h1
  have K := hid (KG.start w [⟨hs, A, false⟩] (by simpa using hd.live))
  have T := hid hT
  have FI := hid hf
  have H2 := hid h2
  have HD0 := hid hd.live
  clear hd h2 hT hf
  have HLS := hid hls
  clear hls
  obtain ⟨⟨⟨rd, ⟨ral, raa⟩, ⟨rfl', rfa⟩, ron, roff⟩, er⟩, hr⟩ : ∃ r, (eachS (listL · 0) ⟨lnsOf hs, ⟨al, aa⟩, ⟨fl, fa⟩, on, off⟩) = r := ⟨_, rfl⟩
  rw [hr]
  have HR := hid hr
  clear hr
  have EC : Hid (∀ W : World, Below w.heap.size w W → ∀ gk, W.heap[gk]? = some (.cells #[.int .i64 0] 3 (0, 0)) → Calls Tryz.prog 27 #[.agg #[.slice A hs.length c, .int .i64 al, .int .i64 aa, .int .i64 fl, .int .i64 fa, .int .i64 on, .int .i64 off], .func (.func 33) #[] #[.pointer (some ⟨gk, 0, none⟩)]] W (RetStE (⟨rd, ⟨ral, raa⟩, ⟨rfl', rfa⟩, ron, roff⟩, er) W)) := hid (by
    intro W hb gk hk
    have := each_any hs A _ c _ rfl W (HD0.out.belowM hb (Nat.le_refl _)) L0.out H2.out FI.out (Utf8Tabs_below T.out hb) al aa fl fa on off 33 #[.pointer (some ⟨gk, 0, none⟩)] ((listL · 0)) (fun _ _ => by kernel_rfl) (fun x W' hx hb' hl => lst1_any x 0 gk W' hl (by have := (H2.out x hx).1; omega) (by have := (H2.out x hx).2; omega) (FI.out x hx) (Utf8Tabs_below T.out (hb.trans (hb'.mono hb.size))) ((hb'.block gk (Array.getElem?_eq_some_iff.1 hk).1).trans hk))
    rw [HR.out] at this
    exact this)
  go_enter Tryz.func17, Tryz.ntmps17
  go_wp2_with (first
    | go_big_skip
    | ((with_reducible show wpList _ _ _ _ _ _); refine kgBox (by rfl) 26 _ (by rfl) (some 2) (by rfl) (by rfl) [_, _, _, _, _, _, _] (by rfl) K ?_; intro g2 V1 K1; clear K; (have K := K1); clear K1)
    | ((with_reducible show wpList _ _ _ _ _ _); refine kgBox (by rfl) 3 _ (by rfl) (some 3) (by rfl) (v := .int .i64 0) (by rfl) [.int .i64 0] (by rfl) K ?_; intro g3 V1 K1; clear K; (have K := K1); clear K1)
    | ((with_reducible show wpList _ _ _ _ _ _); refine kgAlloc (by rfl) 26 (by rfl) (some 4) (by rfl) [.slice none 0 0, .int .i64 0, .int .i64 0, .int .i64 0, .int .i64 0, .int .i64 0, .int .i64 0] (fun _ => by kernel_rfl) K ?_; intro g4 V1 K1; clear K; (have K := K1); clear K1)
    | ((with_reducible show wpList _ _ _ _ _ _); refine kgLoad1 (by rfl) 3 _ (by rfl) _ Tryz.underlying3 rfl K (by rfl) (by repeat (first | exact List.mem_cons_self | refine List.mem_cons_of_mem _ ?_)) (by rfl) ?_)
    | ((with_reducible show wpList _ _ _ _ _ _); refine kgLoadA (by rfl) 26 _ (by rfl) 7 _ Tryz.underlying26 rfl (by kernel_rfl) K (by rfl) (by repeat (first | exact List.mem_cons_self | refine List.mem_cons_of_mem _ ?_)) (part := [_, _, _, _, _, _, _]) (by rfl) (by rfl) ?_)
    | ((with_reducible show wpList _ _ _ _ _ _); refine kgStore (by rfl) 26 (.tmp 4) _ (by rfl) 7 (by kernel_rfl) [] (by exact K) (by rfl) (by rfl) [_, _, _, _, _, _, _] (by rfl) (by rfl) (by simp) (by simp [Value.oneCell']) (cs := [_, _, _, _, _, _, _]) (by rfl) ?_; intro V2 K1; (dsimp only [List.cons_append, List.nil_append] at K1); clear K; (have K := K1); clear K1)
    | (go_at_call 9; (with_reducible refine (bListed_any hs A _ c _ rfl _ (K.out.at_ (d := ⟨hs, A, false⟩) (by simp)) L0.out H2.out FI.out (Utf8Tabs_below T.out K.out.b) al aa fl fa on off _).mono ?_); rintro e W2 ⟨rfl, hb⟩; rw [HLS.out]; dsimp only; (have K2 := hid (K.out.later hb)); clear hb K; (have K := K2); clear K2)
    | (go_at_call 27; (with_reducible refine (EC.out _ K.out.b _ (K.out.bx ⟨g3, 3, [.int .i64 0]⟩ (by simp)).2).mono ?_); rintro e W3 ⟨A3, n3, c3, hs3, rfl, q1, q2, q3, ho, hb3⟩; (have QQ : Hid (n3 = hs3.length ∧ n3 ≤ c3 ∧ lnsOf hs3 = rd) := hid ⟨q1, q2, q3⟩); unfold stV; dsimp only; (have K2 := hid (K.out.addW hb3 ho)); clear q1 q2 q3 ho hb3 K; (have K := K2); clear K2))
  refine bodyPost_ret (results_ct Tryz.results17 (by rfl) (K.out.loadA (off := 0) (n := 7) (by repeat (first | exact List.mem_cons_self | refine List.mem_cons_of_mem _ ?_)) Tryz.underlying26 rfl (by kernel_rfl) (part := [_, _, _, _, _, _, _]) (by rfl) (by rfl)) (by rfl)) rfl ?_
  exact ⟨A3, n3, c3, hs3, rfl, QQ.out.1, QQ.out.2.1, QQ.out.2.2, K.out.docW (by simp), K.out.b⟩
set_option maxRecDepth 100000 in
set_option maxHeartbeats 4000000 in
theorem bList_1_yes (hs : List Hd) (A : Option Addr) (n c C : Nat) (hn : n = hs.length) (w : World) (hd : DocAt w C A hs) (h1 : hs.length ≤ 1000) (h2 : ∀ h ∈ hs, h.l.ls.length ≤ 1000000 ∧ h.l.cs.length ≤ 1000000) (hf : ∀ h ∈ hs, FineC h.l.cs) (hT : Tb w) (al aa fl fa on off : Int) (ls : Bool) (hls : listedS ⟨lnsOf hs, ⟨al, aa⟩, ⟨fl, fa⟩, on, off⟩ 1 = (true, ls)) :
    Calls Tryz.prog 17 #[.agg #[.slice A n c, .int .i64 al, .int .i64 aa, .int .i64 fl, .int .i64 fa, .int .i64 on, .int .i64 off], .int .i64 1] w (RetStE (eachS outdentL ⟨lnsOf hs, ⟨al, aa⟩, ⟨fl, fa⟩, on, off⟩) w) := by
  subst hn
  have D0 := hid h2
  have L0 := hid h1
  have K := hid (KG.start w [⟨hs, A, false⟩] (by simpa using hd.live))
  have T := hid hT
  have FI := hid hf
  have H2 := hid h2
  have HD0 := hid hd.live
  clear hd h2 hT hf
  have HLS := hid hls
  clear hls
  obtain ⟨⟨⟨rd, ⟨ral, raa⟩, ⟨rfl', rfa⟩, ron, roff⟩, er⟩, hr⟩ : ∃ r, (eachS outdentL ⟨lnsOf hs, ⟨al, aa⟩, ⟨fl, fa⟩, on, off⟩) = r := ⟨_, rfl⟩
  rw [hr]
  have HR := hid hr
  clear hr
  have EC : Hid (∀ W : World, Below w.heap.size w W → Calls Tryz.prog 27 #[.agg #[.slice A hs.length c, .int .i64 al, .int .i64 aa, .int .i64 fl, .int .i64 fa, .int .i64 on, .int .i64 off], .func (.func 32) #[] #[]] W (RetStE (⟨rd, ⟨ral, raa⟩, ⟨rfl', rfa⟩, ron, roff⟩, er) W)) := hid (by
    intro W hb
    have := each_any hs A _ c _ rfl W (HD0.out.belowM hb (Nat.le_refl _)) L0.out H2.out FI.out (Utf8Tabs_below T.out hb) al aa fl fa on off 32 #[] (outdentL) (fun _ _ => by kernel_rfl) (fun x W' hx hb' hl => lOutdent_any x.l x.A _ x.c x.B _ x.d _ rfl rfl W' hl (by have := (H2.out x hx).1; omega) (by have := (H2.out x hx).2; omega) (FI.out x hx) (Utf8Tabs_below T.out (hb.trans (hb'.mono hb.size))))
    rw [HR.out] at this
    exact this)
  go_enter Tryz.func17, Tryz.ntmps17
  go_wp2_with (first
    | go_big_skip
    | ((with_reducible show wpList _ _ _ _ _ _); refine kgBox (by rfl) 26 _ (by rfl) (some 2) (by rfl) (by rfl) [_, _, _, _, _, _, _] (by rfl) K ?_; intro g2 V1 K1; clear K; (have K := K1); clear K1)
    | ((with_reducible show wpList _ _ _ _ _ _); refine kgBox (by rfl) 3 _ (by rfl) (some 3) (by rfl) (v := .int .i64 1) (by rfl) [.int .i64 1] (by rfl) K ?_; intro g3 V1 K1; clear K; (have K := K1); clear K1)
    | ((with_reducible show wpList _ _ _ _ _ _); refine kgAlloc (by rfl) 26 (by rfl) (some 4) (by rfl) [.slice none 0 0, .int .i64 0, .int .i64 0, .int .i64 0, .int .i64 0, .int .i64 0, .int .i64 0] (fun _ => by kernel_rfl) K ?_; intro g4 V1 K1; clear K; (have K := K1); clear K1)
    | ((with_reducible show wpList _ _ _ _ _ _); refine kgLoad1 (by rfl) 3 _ (by rfl) _ Tryz.underlying3 rfl K (by rfl) (by repeat (first | exact List.mem_cons_self | refine List.mem_cons_of_mem _ ?_)) (by rfl) ?_)
    | ((with_reducible show wpList _ _ _ _ _ _); refine kgLoadA (by rfl) 26 _ (by rfl) 7 _ Tryz.underlying26 rfl (by kernel_rfl) K (by rfl) (by repeat (first | exact List.mem_cons_self | refine List.mem_cons_of_mem _ ?_)) (part := [_, _, _, _, _, _, _]) (by rfl) (by rfl) ?_)
    | ((with_reducible show wpList _ _ _ _ _ _); refine kgStore (by rfl) 26 (.tmp 4) _ (by rfl) 7 (by kernel_rfl) [] (by exact K) (by rfl) (by rfl) [_, _, _, _, _, _, _] (by rfl) (by rfl) (by simp) (by simp [Value.oneCell']) (cs := [_, _, _, _, _, _, _]) (by rfl) ?_; intro V2 K1; (dsimp only [List.cons_append, List.nil_append] at K1); clear K; (have K := K1); clear K1)
    | (go_at_call 9; (with_reducible refine (bListed_any hs A _ c _ rfl _ (K.out.at_ (d := ⟨hs, A, false⟩) (by simp)) L0.out H2.out FI.out (Utf8Tabs_below T.out K.out.b) al aa fl fa on off _).mono ?_); rintro e W2 ⟨rfl, hb⟩; rw [HLS.out]; dsimp only; (have K2 := hid (K.out.later hb)); clear hb K; (have K := K2); clear K2)
    | (go_at_call 27; (with_reducible refine (EC.out _ K.out.b).mono ?_); rintro e W3 ⟨A3, n3, c3, hs3, rfl, q1, q2, q3, ho, hb3⟩; (have QQ : Hid (n3 = hs3.length ∧ n3 ≤ c3 ∧ lnsOf hs3 = rd) := hid ⟨q1, q2, q3⟩); unfold stV; dsimp only; (have K2 := hid (K.out.addW hb3 ho)); clear q1 q2 q3 ho hb3 K; (have K := K2); clear K2))
  refine bodyPost_ret (results_ct Tryz.results17 (by rfl) (K.out.loadA (off := 0) (n := 7) (by repeat (first | exact List.mem_cons_self | refine List.mem_cons_of_mem _ ?_)) Tryz.underlying26 rfl (by kernel_rfl) (part := [_, _, _, _, _, _, _]) (by rfl) (by rfl)) (by rfl)) rfl ?_
  exact ⟨A3, n3, c3, hs3, rfl, QQ.out.1, QQ.out.2.1, QQ.out.2.2, K.out.docW (by simp), K.out.b⟩
set_option maxRecDepth 100000 in
set_option maxHeartbeats 4000000 in
theorem bList_1_no (hs : List Hd) (A : Option Addr) (n c C : Nat) (hn : n = hs.length) (w : World) (hd : DocAt w C A hs) (h1 : hs.length ≤ 1000) (h2 : ∀ h ∈ hs, h.l.ls.length ≤ 1000000 ∧ h.l.cs.length ≤ 1000000) (hf : ∀ h ∈ hs, FineC h.l.cs) (hT : Tb w) (al aa fl fa on off : Int) (ls : Bool) (hls : listedS ⟨lnsOf hs, ⟨al, aa⟩, ⟨fl, fa⟩, on, off⟩ 1 = (false, ls)) :
    Calls Tryz.prog 17 #[.agg #[.slice A n c, .int .i64 al, .int .i64 aa, .int .i64 fl, .int .i64 fa, .int .i64 on, .int .i64 off], .int .i64 1] w (RetStE (eachS (listL · 1) ⟨lnsOf hs, ⟨al, aa⟩, ⟨fl, fa⟩, on, off⟩) w) := by
  subst hn
  have D0 := hid h2
  have L0 := hid h1
  have K := hid (KG.start w [⟨hs, A, false⟩] (by simpa using hd.live))
  have T := hid hT
  have FI := hid hf
  have H2 := hid h2
  have HD0 := hid hd.live
  clear hd h2 hT hf
  have HLS := hid hls
  clear hls
  obtain ⟨⟨⟨rd, ⟨ral, raa⟩, ⟨rfl', rfa⟩, ron, roff⟩, er⟩, hr⟩ : ∃ r, (eachS (listL · 1) ⟨lnsOf hs, ⟨al, aa⟩, ⟨fl, fa⟩, on, off⟩) = r := ⟨_, rfl⟩
  rw [hr]
  have HR := hid hr
  clear hr
  have EC : Hid (∀ W : World, Below w.heap.size w W → ∀ gk, W.heap[gk]? = some (.cells #[.int .i64 1] 3 (0, 0)) → Calls Tryz.prog 27 #[.agg #[.slice A hs.length c, .int .i64 al, .int .i64 aa, .int .i64 fl, .int .i64 fa, .int .i64 on, .int .i64 off], .func (.func 33) #[] #[.pointer (some ⟨gk, 0, none⟩)]] W (RetStE (⟨rd, ⟨ral, raa⟩, ⟨rfl', rfa⟩, ron, roff⟩, er) W)) := hid (by
    intro W hb gk hk
    have := each_any hs A _ c _ rfl W (HD0.out.belowM hb (Nat.le_refl _)) L0.out H2.out FI.out (Utf8Tabs_below T.out hb) al aa fl fa on off 33 #[.pointer (some ⟨gk, 0, none⟩)] ((listL · 1)) (fun _ _ => by kernel_rfl) (fun x W' hx hb' hl => lst1_any x 1 gk W' hl (by have := (H2.out x hx).1; omega) (by have := (H2.out x hx).2; omega) (FI.out x hx) (Utf8Tabs_below T.out (hb.trans (hb'.mono hb.size))) ((hb'.block gk (Array.getElem?_eq_some_iff.1 hk).1).trans hk))
    rw [HR.out] at this
    exact this)
  go_enter Tryz.func17, Tryz.ntmps17
  go_wp2_with (first
    | go_big_skip
    | ((with_reducible show wpList _ _ _ _ _ _); refine kgBox (by rfl) 26 _ (by rfl) (some 2) (by rfl) (by rfl) [_, _, _, _, _, _, _] (by rfl) K ?_; intro g2 V1 K1; clear K; (have K := K1); clear K1)
    | ((with_reducible show wpList _ _ _ _ _ _); refine kgBox (by rfl) 3 _ (by rfl) (some 3) (by rfl) (v := .int .i64 1) (by rfl) [.int .i64 1] (by rfl) K ?_; intro g3 V1 K1; clear K; (have K := K1); clear K1)
    | ((with_reducible show wpList _ _ _ _ _ _); refine kgAlloc (by rfl) 26 (by rfl) (some 4) (by rfl) [.slice none 0 0, .int .i64 0, .int .i64 0, .int .i64 0, .int .i64 0, .int .i64 0, .int .i64 0] (fun _ => by kernel_rfl) K ?_; intro g4 V1 K1; clear K; (have K := K1); clear K1)
    | ((with_reducible show wpList _ _ _ _ _ _); refine kgLoad1 (by rfl) 3 _ (by rfl) _ Tryz.underlying3 rfl K (by rfl) (by repeat (first | exact List.mem_cons_self | refine List.mem_cons_of_mem _ ?_)) (by rfl) ?_)
    | ((with_reducible show wpList _ _ _ _ _ _); refine kgLoadA (by rfl) 26 _ (by rfl) 7 _ Tryz.underlying26 rfl (by kernel_rfl) K (by rfl) (by repeat (first | exact List.mem_cons_self | refine List.mem_cons_of_mem _ ?_)) (part := [_, _, _, _, _, _, _]) (by rfl) (by rfl) ?_)
    | ((with_reducible show wpList _ _ _ _ _ _); refine kgStore (by rfl) 26 (.tmp 4) _ (by rfl) 7 (by kernel_rfl) [] (by exact K) (by rfl) (by rfl) [_, _, _, _, _, _, _] (by rfl) (by rfl) (by simp) (by simp [Value.oneCell']) (cs := [_, _, _, _, _, _, _]) (by rfl) ?_; intro V2 K1; (dsimp only [List.cons_append, List.nil_append] at K1); clear K; (have K := K1); clear K1)
    | (go_at_call 9; (with_reducible refine (bListed_any hs A _ c _ rfl _ (K.out.at_ (d := ⟨hs, A, false⟩) (by simp)) L0.out H2.out FI.out (Utf8Tabs_below T.out K.out.b) al aa fl fa on off _).mono ?_); rintro e W2 ⟨rfl, hb⟩; rw [HLS.out]; dsimp only; (have K2 := hid (K.out.later hb)); clear hb K; (have K := K2); clear K2)
    | (go_at_call 27; (with_reducible refine (EC.out _ K.out.b _ (K.out.bx ⟨g3, 3, [.int .i64 1]⟩ (by simp)).2).mono ?_); rintro e W3 ⟨A3, n3, c3, hs3, rfl, q1, q2, q3, ho, hb3⟩; (have QQ : Hid (n3 = hs3.length ∧ n3 ≤ c3 ∧ lnsOf hs3 = rd) := hid ⟨q1, q2, q3⟩); unfold stV; dsimp only; (have K2 := hid (K.out.addW hb3 ho)); clear q1 q2 q3 ho hb3 K; (have K := K2); clear K2))
  refine bodyPost_ret (results_ct Tryz.results17 (by rfl) (K.out.loadA (off := 0) (n := 7) (by repeat (first | exact List.mem_cons_self | refine List.mem_cons_of_mem _ ?_)) Tryz.underlying26 rfl (by kernel_rfl) (part := [_, _, _, _, _, _, _]) (by rfl) (by rfl)) (by rfl)) rfl ?_
  exact ⟨A3, n3, c3, hs3, rfl, QQ.out.1, QQ.out.2.1, QQ.out.2.2, K.out.docW (by simp), K.out.b⟩
set_option maxRecDepth 100000 in
set_option maxHeartbeats 4000000 in
theorem bList_none (hs : List Hd) (A : Option Addr) (n c C : Nat) (hn : n = hs.length) (w : World) (hd : DocAt w C A hs) (h1 : hs.length ≤ 1000) (h2 : ∀ h ∈ hs, h.l.ls.length ≤ 1000000 ∧ h.l.cs.length ≤ 1000000) (hf : ∀ h ∈ hs, FineC h.l.cs) (hT : Tb w) (al aa fl fa on off kind : Int) (la : Bool) (ls : Bool) (hls : listedS ⟨lnsOf hs, ⟨al, aa⟩, ⟨fl, fa⟩, on, off⟩ kind = (la, ls)) (c0 : kind ≠ 0) (c1 : kind ≠ 1) :
    Calls Tryz.prog 17 #[.agg #[.slice A n c, .int .i64 al, .int .i64 aa, .int .i64 fl, .int .i64 fa, .int .i64 on, .int .i64 off], .int .i64 kind] w (RetStE (zS, 1) w) := by
  subst hn
  have D0 := hid h2
  have L0 := hid h1
  have K := hid (KG.start w [⟨hs, A, false⟩] (by simpa using hd.live))
  have T := hid hT
  have FI := hid hf
  have H2 := hid h2
  have HD0 := hid hd.live
  clear hd h2 hT hf
  have HLS := hid hls
  clear hls
  have b0 : (kind != 0) = true := bne_iff_ne.2 c0
  have b1 : (kind != 1) = true := bne_iff_ne.2 c1
  clear c0 c1
  go_enter Tryz.func17, Tryz.ntmps17
  go_wp2_with (first
    | go_big_skip
    | ((with_reducible show wpList _ _ _ _ _ _); refine kgBox (by rfl) 26 _ (by rfl) (some 2) (by rfl) (by rfl) [_, _, _, _, _, _, _] (by rfl) K ?_; intro g2 V1 K1; clear K; (have K := K1); clear K1)
    | ((with_reducible show wpList _ _ _ _ _ _); refine kgBox (by rfl) 3 _ (by rfl) (some 3) (by rfl) (v := .int .i64 kind) (by rfl) [.int .i64 kind] (by rfl) K ?_; intro g3 V1 K1; clear K; (have K := K1); clear K1)
    | ((with_reducible show wpList _ _ _ _ _ _); refine kgAlloc (by rfl) 26 (by rfl) (some 4) (by rfl) [.slice none 0 0, .int .i64 0, .int .i64 0, .int .i64 0, .int .i64 0, .int .i64 0, .int .i64 0] (fun _ => by kernel_rfl) K ?_; intro g4 V1 K1; clear K; (have K := K1); clear K1)
    | ((with_reducible show wpList _ _ _ _ _ _); refine kgLoad1 (by rfl) 3 _ (by rfl) _ Tryz.underlying3 rfl K (by rfl) (by repeat (first | exact List.mem_cons_self | refine List.mem_cons_of_mem _ ?_)) (by rfl) ?_)
    | ((with_reducible show wpList _ _ _ _ _ _); refine kgLoadA (by rfl) 26 _ (by rfl) 7 _ Tryz.underlying26 rfl (by kernel_rfl) K (by rfl) (by repeat (first | exact List.mem_cons_self | refine List.mem_cons_of_mem _ ?_)) (part := [_, _, _, _, _, _, _]) (by rfl) (by rfl) ?_)
    | ((with_reducible show wpList _ _ _ _ _ _); refine kgStore (by rfl) 26 (.tmp 4) _ (by rfl) 7 (by kernel_rfl) [] (by exact K) (by rfl) (by rfl) [_, _, _, _, _, _, _] (by rfl) (by rfl) (by simp) (by simp [Value.oneCell']) (cs := [_, _, _, _, _, _, _]) (by rfl) ?_; intro V2 K1; (dsimp only [List.cons_append, List.nil_append] at K1); clear K; (have K := K1); clear K1)
    | (go_at_call 9; (with_reducible refine (bListed_any hs A _ c _ rfl _ (K.out.at_ (d := ⟨hs, A, false⟩) (by simp)) L0.out H2.out FI.out (Utf8Tabs_below T.out K.out.b) al aa fl fa on off _).mono ?_); rintro e W2 ⟨rfl, hb⟩; rw [HLS.out]; dsimp only; (have K2 := hid (K.out.later hb)); clear hb K; (have K := K2); clear K2))
  refine bodyPost_ret (results_ct Tryz.results17 (by rfl) (K.out.loadA (off := 0) (n := 7) (by repeat (first | exact List.mem_cons_self | refine List.mem_cons_of_mem _ ?_)) Tryz.underlying26 rfl (by kernel_rfl) (part := [_, _, _, _, _, _, _]) (by rfl) (by rfl)) (by rfl)) rfl ?_
  exact ⟨none, 0, 0, [], rfl, rfl, Nat.le_refl _, rfl, DocW.nil, K.out.b⟩
theorem bList_any (hs : List Hd) (A : Option Addr) (n c C : Nat) (hn : n = hs.length) (w : World) (hd : DocAt w C A hs) (h1 : hs.length ≤ 1000) (h2 : ∀ h ∈ hs, h.l.ls.length ≤ 1000000 ∧ h.l.cs.length ≤ 1000000) (hf : ∀ h ∈ hs, FineC h.l.cs) (hT : Tb w) (al aa fl fa on off kind : Int) :
    Calls Tryz.prog 17 #[.agg #[.slice A n c, .int .i64 al, .int .i64 aa, .int .i64 fl, .int .i64 fa, .int .i64 on, .int .i64 off], .int .i64 kind] w (RetStE (listS ⟨lnsOf hs, ⟨al, aa⟩, ⟨fl, fa⟩, on, off⟩ kind) w) := by
  obtain ⟨⟨la, ls⟩, hls⟩ : ∃ z, listedS ⟨lnsOf hs, ⟨al, aa⟩, ⟨fl, fa⟩, on, off⟩ kind = z := ⟨_, rfl⟩
  unfold listS
  rw [hls]
  dsimp only
  by_cases c0 : kind = 0
  · subst c0
    rw [if_pos (.inl rfl)]
    cases la with
    | true => exact bList_0_yes hs A n c C hn w hd h1 h2 hf hT al aa fl fa on off ls hls
    | false => exact bList_0_no hs A n c C hn w hd h1 h2 hf hT al aa fl fa on off ls hls
  · by_cases c1 : kind = 1
    · subst c1
      rw [if_pos (.inr rfl)]
      cases la with
      | true => exact bList_1_yes hs A n c C hn w hd h1 h2 hf hT al aa fl fa on off ls hls
      | false => exact bList_1_no hs A n c C hn w hd h1 h2 hf hT al aa fl fa on off ls hls
    · rw [if_neg (fun h => h.elim c0 c1)]
      exact bList_none hs A n c C hn w hd h1 h2 hf hT al aa fl fa on off kind la ls hls c0 c1
end Go.Proofs.YtblbfoniimnkcaaGreatDoor
