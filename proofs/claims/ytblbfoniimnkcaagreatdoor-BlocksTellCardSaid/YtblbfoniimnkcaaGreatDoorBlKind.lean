/- The walk of blocks.Kind. (Printed by wip/bldoc.py.) -/
import Derived.Test.YtblbfoniimnkcaaGreatDoorBlList1
import Derived.Test.YtblbfoniimnkcaaGreatDoorLnLaws
import Derived.BigQuiet
import Derived.Deep.QuietTactic
namespace Go.Proofs.YtblbfoniimnkcaaGreatDoor
open Go.RowKit Go.Lib Go.Shelf
attribute [local go_sem] Oper.semAt_some

/-- The kind of lines, on the way: none, where they part. -/
def kindT (c : Int) (l : Ln) : Option Int := if 0 < l.ls.length ∨ (0 ≤ c ∧ l.k ≠ c) then none else some l.k
theorem kindT_no {c : Int} {l : Ln} (h : 0 < l.ls.length ∨ (0 ≤ c ∧ l.k ≠ c)) : kindT c l = none := if_pos h
theorem kindT_yes {c : Int} {l : Ln} (h : ¬ (0 < l.ls.length ∨ (0 ≤ c ∧ l.k ≠ c))) : kindT c l = some l.k := if_neg h
def kindG (o : Option Int) (l : Ln) : Option Int := o.bind fun c => kindT c l
def kindP (ls : List Ln) : Option Int := ls.foldl kindG (some (-1))
theorem kindP_snoc (ls : List Ln) (l : Ln) : kindP (ls ++ [l]) = kindG (kindP ls) l := by unfold kindP; rw [List.foldl_append]; rfl
theorem kindF_none : ∀ ls : List Ln, ls.foldl kindG (none : Option Int) = none
  | [] => rfl
  | _ :: ls => kindF_none ls
theorem kindF_some (c : Int) (hc : 0 ≤ c) : ∀ ls : List Ln, ls.foldl kindG (some c) = if ls.all (fun l => decide (l.ls.length = 0) && decide (l.k = c)) then some c else none
  | [] => rfl
  | l :: ls => by
    rw [List.foldl_cons, List.all_cons, show kindG (some c) l = kindT c l from rfl]
    by_cases h1 : 0 < l.ls.length ∨ (0 ≤ c ∧ l.k ≠ c)
    · rw [kindT_no h1, kindF_none]
      have : (decide (l.ls.length = 0) && decide (l.k = c)) = false := by
        rcases h1 with h1 | h1
        · rw [decide_eq_false (by omega)]; rfl
        · rw [decide_eq_false h1.2, Bool.and_false]
      rw [this]; rfl
    · have h2 : l.ls.length = 0 := by
        rcases Nat.eq_zero_or_pos l.ls.length with h | h
        · exact h
        · exact absurd (.inl h) h1
      have h3 : l.k = c := by
        rcases Int.decEq l.k c with h | h
        · exact absurd (.inr ⟨hc, h⟩) h1
        · exact h
      rw [kindT_yes h1, h3, kindF_some c hc ls, decide_eq_true h2, decide_eq_true rfl, Bool.true_and, Bool.true_and]
theorem kindP_pre {ls ms : List Ln} (h : ls <+: ms) (hn : kindP ls = none) : kindP ms = none := by
  obtain ⟨t, rfl⟩ := h
  unfold kindP at hn ⊢
  rw [List.foldl_append, hn, kindF_none]
def kindV {hs : List Hd} (pre : List (ItV hs)) : Option Int := kindP (pre.map fun x => x.1.h.l)
theorem kindV_snoc {hs : List Hd} (pre : List (ItV hs)) (x : ItV hs) : kindV (pre ++ [x]) = kindG (kindV pre) x.1.h.l := by
  unfold kindV
  rw [List.map_append]
  exact kindP_snoc _ _
theorem kindS_eq {s : Stt} (hm : mayS s = true) : kindS s = match kindP (sel s) with | some c => (c, true) | none => (0, false) := by
  have e0 : kindS s = match sel s with
    | [] => (-1, true)
    | x :: xs => if (x :: xs).all fun l => decide (l.ls.length = 0) && decide (l.k = x.k) then (x.k, true) else (0, false) := by unfold kindS; rw [if_pos hm]; rfl
  rw [e0]
  have hk : ∀ l ∈ sel s, 0 ≤ l.k := fun l hl => by
    have h1 : l ∈ s.d := by unfold sel selF at hl; exact List.mem_of_mem_take (List.mem_of_mem_drop hl)
    unfold mayS mayD at hm
    simp only [Bool.and_eq_true] at hm
    exact (mayL_parts (List.all_eq_true.1 hm.1.2.2.2 l h1)).2.2.2.1
  cases hs : sel s with
  | nil => rfl
  | cons x xs =>
    rw [hs] at hk
    have hx := hk x List.mem_cons_self
    have e1 : kindP (x :: xs) = xs.foldl kindG (kindT (-1) x) := rfl
    rw [e1]
    dsimp only
    rw [List.all_cons]
    by_cases h1 : 0 < x.ls.length
    · rw [kindT_no (.inl h1), kindF_none, decide_eq_false (show ¬ x.ls.length = 0 by omega), Bool.false_and, Bool.false_and]
      rfl
    · rw [kindT_yes (by rintro (h | ⟨h, _⟩); exact h1 h; omega), kindF_some x.k hx, decide_eq_true (show x.ls.length = 0 by omega), decide_eq_true rfl, Bool.true_and, Bool.true_and]
      cases xs.all fun l => decide (l.ls.length = 0) && decide (l.k = x.k) <;> rfl
/-- What a call answers: a number, a Bool. -/
def IsKB (p : Int × Bool) (w : World) (e : Ending) (w' : World) : Prop := e = .returned (.tuple #[.int .i64 p.1, .bool p.2]) ∧ Below w.heap.size w w'
set_option maxRecDepth 100000 in
set_option maxHeartbeats 4000000 in
theorem kindNo (hs : List Hd) (A : Option Addr) (n c C : Nat) (hn : n = hs.length) (w : World) (hd : DocAt w C A hs) (h1 : hs.length ≤ 1000) (h2 : ∀ h ∈ hs, h.l.ls.length ≤ 1000000 ∧ h.l.cs.length ≤ 1000000) (hf : ∀ h ∈ hs, FineC h.l.cs) (hT : Tb w) (al aa fl fa on off : Int) (mb : mayS ⟨lnsOf hs, ⟨al, aa⟩, ⟨fl, fa⟩, on, off⟩ = false) :
    Calls Tryz.prog 7 #[.agg #[.slice A n c, .int .i64 al, .int .i64 aa, .int .i64 fl, .int .i64 fa, .int .i64 on, .int .i64 off]] w (IsKB (0, false) w) := by
  subst hn
  have D0 := hid h2
  have L0 := hid h1
  have K := hid (KG.start w [⟨hs, A, false⟩] (by simpa using hd.live))
  have T := hid hT
  have FI := hid hf
  have H2 := hid h2
  have MB := hid mb
  clear hd h2 hT hf mb
  go_enter Tryz.func7, Tryz.ntmps7
  go_wp2_with (first
    | go_big_skip
    | ((with_reducible show wpList _ _ _ _ _ _); refine kgBox (by rfl) 26 _ (by rfl) (some 1) (by rfl) (by rfl) [_, _, _, _, _, _, _] (by rfl) K ?_; intro g1 V1 K1; clear K; (have K := K1); clear K1)
    | ((with_reducible show wpList _ _ _ _ _ _); refine kgAlloc (by rfl) 3 (by rfl) (some 2) (by rfl) [.int .i64 0] (fun _ => by kernel_rfl) K ?_; intro g2 V1 K1; clear K; (have K := K1); clear K1)
    | ((with_reducible show wpList _ _ _ _ _ _); refine kgAlloc (by rfl) 4 (by rfl) (some 3) (by rfl) [.bool false] (fun _ => by kernel_rfl) K ?_; intro g3 V1 K1; clear K; (have K := K1); clear K1)
    | ((with_reducible show wpList _ _ _ _ _ _); refine kgLoadA (by rfl) 26 _ (by rfl) 7 _ Tryz.underlying26 rfl (by kernel_rfl) K (by rfl) (by repeat (first | exact List.mem_cons_self | refine List.mem_cons_of_mem _ ?_)) (part := [_, _, _, _, _, _, _]) (by rfl) (by rfl) ?_)
    | (go_at_call 21; (with_reducible refine (tMay_any hs A _ c _ rfl _ (K.out.at_ (d := ⟨hs, A, false⟩) (by simp)) h1 H2.out FI.out (Utf8Tabs_below T.out K.out.b) al aa fl fa on off).mono ?_); rintro e W2 ⟨rfl, hb⟩; rw [MB.out]; (have K2 := hid (K.out.later hb)); clear hb K; (have K := K2); clear K2)
    | ((with_reducible show wpList _ _ _ _ _ _); refine kgStore (by rfl) 3 (.tmp 2) _ (by rfl) 1 (by kernel_rfl) [_] (by exact K) (by rfl) (v := .int .i64 0) (by rfl) [.int .i64 0] (by rfl) (by rfl) (by simp) (by simp [Value.oneCell']) (cs := [_]) (by rfl) ?_; intro V2 K1; (dsimp only [List.cons_append, List.nil_append] at K1); clear K; (have K := K1); clear K1)
    | ((with_reducible show wpList _ _ _ _ _ _); refine kgStore (by rfl) 4 (.tmp 3) _ (by rfl) 1 (by kernel_rfl) [] (by exact K) (by rfl) (v := .bool false) (by rfl) [.bool false] (by rfl) (by rfl) (by simp) (by simp [Value.oneCell']) (cs := [_]) (by rfl) ?_; intro V2 K1; (dsimp only [List.cons_append, List.nil_append] at K1); clear K; (have K := K1); clear K1))
  refine bodyPost_ret (results_cc Tryz.results7 (by rfl) (K.out.load1 (off := 0) (by repeat (first | exact List.mem_cons_self | refine List.mem_cons_of_mem _ ?_)) Tryz.underlying3 rfl (by rfl)) (by rfl) (K.out.load1 (off := 0) (by repeat (first | exact List.mem_cons_self | refine List.mem_cons_of_mem _ ?_)) Tryz.underlying4 rfl (by rfl))) rfl ?_
  exact ⟨rfl, K.out.b⟩
set_option maxRecDepth 100000 in
set_option maxHeartbeats 16000000 in
theorem kindYes (hs : List Hd) (A : Option Addr) (n c C : Nat) (hn : n = hs.length) (w : World) (hd : DocAt w C A hs) (h1 : hs.length ≤ 1000) (h2 : ∀ h ∈ hs, h.l.ls.length ≤ 1000000 ∧ h.l.cs.length ≤ 1000000) (hf : ∀ h ∈ hs, FineC h.l.cs) (hT : Tb w) (al aa fl fa on off : Int) (mb : mayS ⟨lnsOf hs, ⟨al, aa⟩, ⟨fl, fa⟩, on, off⟩ = true) :
    Calls Tryz.prog 7 #[.agg #[.slice A n c, .int .i64 al, .int .i64 aa, .int .i64 fl, .int .i64 fa, .int .i64 on, .int .i64 off]] w (IsKB (kindS ⟨lnsOf hs, ⟨al, aa⟩, ⟨fl, fa⟩, on, off⟩) w) := by
  obtain ⟨z1, z2, z3, z4⟩ := mayS_in mb
  dsimp only at z3 z4
  rw [lnsOf_len] at z3 z4
  obtain ⟨f, hf0⟩ : ∃ f, (fromS ⟨lnsOf hs, ⟨al, aa⟩, ⟨fl, fa⟩, on, off⟩).l.toNat = f := ⟨_, rfl⟩
  obtain ⟨cnt, hc0⟩ : ∃ cnt, (toS ⟨lnsOf hs, ⟨al, aa⟩, ⟨fl, fa⟩, on, off⟩).l.toNat + 1 - f = cnt := ⟨_, rfl⟩
  have YF : Hid ((fromS ⟨lnsOf hs, ⟨al, aa⟩, ⟨fl, fa⟩, on, off⟩).l = f) := hid (by omega)
  have YT : Hid ((toS ⟨lnsOf hs, ⟨al, aa⟩, ⟨fl, fa⟩, on, off⟩).l + 1 = ((f + cnt : Nat) : Int)) := hid (by omega)
  have YL : Hid (f + cnt ≤ hs.length) := hid (by omega)
  have SEL := hid (sel_its ⟨lnsOf hs, ⟨al, aa⟩, ⟨fl, fa⟩, on, off⟩ hs rfl f cnt YF.out YT.out YL.out (by omega))
  have HD := hid hd.live
  clear z1 z2 z3 z4 hf0 hc0
  obtain ⟨r, hr⟩ : ∃ r, kindS ⟨lnsOf hs, ⟨al, aa⟩, ⟨fl, fa⟩, on, off⟩ = r := ⟨_, rfl⟩
  rw [hr]
  have HR : Hid ((match kindP (sel ⟨lnsOf hs, ⟨al, aa⟩, ⟨fl, fa⟩, on, off⟩) with | some c => (c, true) | none => ((0 : Int), false)) = r) := hid (by rw [← hr]; exact (kindS_eq mb).symm)
  clear hr
  subst hn
  have D0 := hid h2
  have L0 := hid h1
  have K := hid (KG.start w [⟨hs, A, false⟩] (by simpa using hd.live))
  have T := hid hT
  have FI := hid hf
  have H2 := hid h2
  have MB := hid mb
  clear hd h2 hT hf mb
  refine (callsIn_wide (n := 6)).1 ?_
  refine callsIn_of_wp_marks Tryz.func7 rfl trivial ?_ rfl
  simp only [Tryz.ntmps7, List.size_toArray, List.length_cons, List.length_nil, Nat.reduceAdd, Nat.reduceSub, Array.replicate_succ, Array.replicate_zero, List.push_toArray, List.append_toArray, List.nil_append, List.cons_append]
  gi_wp2_with (first
    | gi_big_skip
    | ((with_reducible show wpListIn _ _ _ _ _ _ _ _); refine kiBox (by rfl) 26 _ (by rfl) (some 1) (by rfl) (by rfl) [_, _, _, _, _, _, _] (by rfl) K ?_; intro g1 V1 K1; clear K; (have K := K1); clear K1)
    | ((with_reducible show wpListIn _ _ _ _ _ _ _ _); refine kiAlloc (by rfl) 3 (by rfl) (some 2) (by rfl) [.int .i64 0] (fun _ => by kernel_rfl) K ?_; intro g2 V1 K1; clear K; (have K := K1); clear K1)
    | ((with_reducible show wpListIn _ _ _ _ _ _ _ _); refine kiAlloc (by rfl) 4 (by rfl) (some 3) (by rfl) [.bool false] (fun _ => by kernel_rfl) K ?_; intro g3 V1 K1; clear K; (have K := K1); clear K1)
    | ((with_reducible show wpListIn _ _ _ _ _ _ _ _); refine kiLoadA (by rfl) 26 _ (by rfl) 7 _ Tryz.underlying26 rfl (by kernel_rfl) K (by rfl) (by repeat (first | exact List.mem_cons_self | refine List.mem_cons_of_mem _ ?_)) (part := [_, _, _, _, _, _, _]) (by rfl) (by rfl) ?_)
    | ((first | refine ⟨trivial, (fun h => by cases h), ?_⟩ | refine ⟨trivial, ?_⟩); gi_at_call 21; (with_reducible refine (callsIn_wide.2 (tMay_any hs A _ c _ rfl _ (K.out.at_ (d := ⟨hs, A, false⟩) (by simp)) h1 H2.out FI.out (Utf8Tabs_below T.out K.out.b) al aa fl fa on off)).mono ?_); rintro e W2 ⟨rfl, hb⟩; rw [MB.out]; (have K2 := hid (K.out.later hb)); clear hb K; (have K := K2); clear K2)
    | ((with_reducible show wpListIn _ _ _ _ _ _ _ _); refine kiStore (by rfl) 3 (.tmp 2) _ (by rfl) 1 (by kernel_rfl) [_] (by exact K) (by rfl) (v := .int .i64 (-1)) (by rfl) [.int .i64 (-1)] (by rfl) (by rfl) (by simp) (by simp [Value.oneCell']) (cs := [_]) (by rfl) ?_; intro V2 K1; (dsimp only [List.cons_append, List.nil_append] at K1); clear K; (have K := K1); clear K1)
    | ((first | refine ⟨trivial, (fun h => by cases h), ?_⟩ | refine ⟨trivial, ?_⟩); gi_at_call 22; (with_reducible refine (callsIn_wide.2 (selected_any (.slice A hs.length c) al aa fl fa on off ⟨_, _, _, rfl⟩ _)).mono ?_); rintro e W5 ⟨gs, rfl, hgs, hW5⟩; (have K2 := hid (K.out.new 26 [.slice A hs.length c, .int .i64 al, .int .i64 aa, .int .i64 fl, .int .i64 fa, .int .i64 on, .int .i64 off] hgs hW5)); (have LT := hid (show gs + 1 = W5.heap.size by rw [hW5, World.size_alloc, hgs])); clear hgs hW5 K; (have K := K2); clear K2))
  have KB := hid (KG.bare K.out)
  have SEQ := hid (sel_seq 5 gs gs w W5 ⟨lnsOf hs, ⟨al, aa⟩, ⟨fl, fa⟩, on, off⟩ hs A c HD.out KB.out.b (KB.out.bx ⟨gs, 26, [.slice A hs.length c, .int .i64 al, .int .i64 aa, .int .i64 fl, .int .i64 fa, .int .i64 on, .int .i64 off]⟩ (by simp)).1 (Nat.le_refl _) f cnt YF.out YT.out YL.out L0.out (KB.out.bx ⟨gs, 26, [.slice A hs.length c, .int .i64 al, .int .i64 aa, .int .i64 fl, .int .i64 fa, .int .i64 on, .int .i64 off]⟩ (by simp)).2)
  have HSZ := hid KB.out.b.size
  have LGS : Hid (gs < W5.heap.size) := hid (KB.out.lt (x := ⟨gs, 26, [.slice A hs.length c, .int .i64 al, .int .i64 aa, .int .i64 fl, .int .i64 fa, .int .i64 on, .int .i64 off]⟩) (by simp))
  have NDs := hid KB.out.nd
  have Lg2 : Hid (g2 < gs) := hid (by
    have h1 := KB.out.lt (x := ⟨g2, 3, [.int .i64 (-1)]⟩) (by simp)
    have h2 := LT.out
    have h3 : gs ≠ g2 := (List.pairwise_cons.1 NDs.out).1 ⟨g2, 3, [.int .i64 (-1)]⟩ (by simp)
    have h1' : g2 < W5.heap.size := h1
    omega)
  have Mg2 : Hid (w.heap.size ≤ g2) := hid (KB.out.bx ⟨g2, 3, [.int .i64 (-1)]⟩ (by simp)).1
  have Lg3 : Hid (g3 < gs) := hid (by
    have h1 := KB.out.lt (x := ⟨g3, 4, [.bool false]⟩) (by simp)
    have h2 := LT.out
    have h3 : gs ≠ g3 := (List.pairwise_cons.1 NDs.out).1 ⟨g3, 4, [.bool false]⟩ (by simp)
    have h1' : g3 < W5.heap.size := h1
    omega)
  have Mg3 : Hid (w.heap.size ≤ g3) := hid (KB.out.bx ⟨g3, 4, [.bool false]⟩ (by simp)).1
  have I0 : (fun (pre : List (ItV hs)) (W : World) => ∃ (kv : Int), Hid (KG w W [⟨gs, 26, [.slice A hs.length c, .int .i64 al, .int .i64 aa, .int .i64 fl, .int .i64 fa, .int .i64 on, .int .i64 off]⟩, ⟨g3, 4, [.bool false]⟩, ⟨g2, 3, [.int .i64 kv]⟩, ⟨g1, 26, [.slice A hs.length c, .int .i64 al, .int .i64 aa, .int .i64 fl, .int .i64 fa, .int .i64 on, .int .i64 off]⟩] []) ∧ Hid (kindV pre = some kv)) [] W5 := ⟨-1, KB, hid rfl⟩
  have OI : ∀ B, w.heap.size ≤ B → OwnFrom B (fun (pre : List (ItV hs)) (W : World) => ∃ (kv : Int), Hid (KG w W [⟨gs, 26, [.slice A hs.length c, .int .i64 al, .int .i64 aa, .int .i64 fl, .int .i64 fa, .int .i64 on, .int .i64 off]⟩, ⟨g3, 4, [.bool false]⟩, ⟨g2, 3, [.int .i64 kv]⟩, ⟨g1, 26, [.slice A hs.length c, .int .i64 al, .int .i64 aa, .int .i64 fl, .int .i64 fa, .int .i64 on, .int .i64 off]⟩] []) ∧ Hid (kindV pre = some kv)) := by
    rintro B hB pre V V' row ⟨kv, K, H0⟩ hg hr
    exact ⟨kv, hid (K.out.own hg fun r h => ⟨Nat.le_trans hB (hr r h).1, (hr r h).2⟩), H0⟩
  replace I0 := hid I0
  replace OI := hid OI
  clear K KB NDs D0 H2 MB
  refine wpIn_rangeFunc_ownH rfl (by omega) (gf := 38) (lb := #[.pointer (some ⟨gs, 0, none⟩)]) rfl trivial (enters_of Tryz.func38 (by kernel_rfl) rfl)
    SEQ.out KpS.trans (KpS.put HSZ.out) (Below.refl _ _) ?hps
    (fun pre W => ∃ (kv : Int), Hid (KG w W [⟨gs, 26, [.slice A hs.length c, .int .i64 al, .int .i64 aa, .int .i64 fl, .int .i64 fa, .int .i64 on, .int .i64 off]⟩, ⟨g3, 4, [.bool false]⟩, ⟨g2, 3, [.int .i64 kv]⟩, ⟨g1, 26, [.slice A hs.length c, .int .i64 al, .int .i64 aa, .int .i64 fl, .int .i64 fa, .int .i64 on, .int .i64 off]⟩] []) ∧ Hid (kindV pre = some kv)) (fun cd pre W => cd = .ret ∧ Hid (KG w W [⟨gs, 26, [.slice A hs.length c, .int .i64 al, .int .i64 aa, .int .i64 fl, .int .i64 fa, .int .i64 on, .int .i64 off]⟩, ⟨g3, 4, [.bool false]⟩, ⟨g2, 3, [.int .i64 0]⟩, ⟨g1, 26, [.slice A hs.length c, .int .i64 al, .int .i64 aa, .int .i64 fl, .int .i64 fa, .int .i64 on, .int .i64 off]⟩] []) ∧ Hid (kindV pre = none)) (OI.out _ HSZ.out) (fun c pre V V' row ⟨h1, K, H0⟩ hg hr => ⟨h1, hid (K.out.own hg fun r h => ⟨Nat.le_trans HSZ.out (hr r h).1, (hr r h).2⟩), H0⟩)
    I0.out
    (fun x a' W => ∃ g5, W.heap[g5]? = some (.cells #[.int .i64 x.1.h.l.q, .slice x.1.h.A x.1.h.l.ls.length x.1.h.c, .int .i64 x.1.h.l.k, .slice x.1.h.B x.1.h.l.cs.length x.1.h.d] 46 (0, 0)) ∧ a' = { tmps := #[.agg #[.slice A hs.length c, .int .i64 al, .int .i64 aa, .int .i64 fl, .int .i64 fa, .int .i64 on, .int .i64 off], .pointer (some ⟨g1, 0, none⟩), .pointer (some ⟨g2, 0, none⟩), .pointer (some ⟨g3, 0, none⟩), undef, .pointer (some ⟨g5, 0, none⟩), .agg #[.slice A hs.length c, .int .i64 al, .int .i64 aa, .int .i64 fl, .int .i64 fa, .int .i64 on, .int .i64 off], .bool true, .bool false, .agg #[.slice A hs.length c, .int .i64 al, .int .i64 aa, .int .i64 fl, .int .i64 fa, .int .i64 on, .int .i64 off], .func (.func 38) #[] #[.pointer (some ⟨gs, 0, none⟩)], .int .i64 x.1.i, .agg #[.int .i64 x.1.h.l.q, .slice x.1.h.A x.1.h.l.ls.length x.1.h.c, .int .i64 x.1.h.l.k, .slice x.1.h.B x.1.h.l.cs.length x.1.h.d], undef, undef, undef, undef, undef, undef, undef, undef, undef, undef, undef, undef, undef, undef, undef, undef, undef], defers := [] })
    (fun x a' _ X Y row hs hg hr => by
      obtain ⟨gx, h1, h2⟩ := hs
      refine ⟨gx, (hg.block gx (Array.getElem?_eq_some_iff.1 h1).1 ?_).trans h1, h2⟩
      rintro rfl
      obtain ⟨_, o, ho, hc⟩ := hr _ rfl
      rw [h1] at ho
      injection ho with ho
      subst ho
      cases hc)
    ?assign ?body ?done ?stop
  case hps => intro x; rfl
  case assign =>
    rintro l pre x W KX hI hKX
    have HI := hid hI
    have HX := hid hKX
    have SZ : Hid (W5.heap.size ≤ W.heap.size) := hid (by
      obtain ⟨kv, K, -⟩ := HI.out
      have h1 := K.out.lt (x := ⟨gs, 26, [.slice A hs.length c, .int .i64 al, .int .i64 aa, .int .i64 fl, .int .i64 fa, .int .i64 on, .int .i64 off]⟩) (by simp)
      have h2 := LT.out
      have h1' : gs < W.heap.size := h1
      omega)
    have K := hid (KG.start W [] (by simp))
    clear hI hKX
    dsimp only [encsI]
    simp only [List.zip_toArray, List.zip_cons_cons, List.zip_nil_right, List.foldl_toArray, List.foldl_cons, List.foldl_nil, List.setIfInBounds_toArray, List.set_cons_succ, List.set_cons_zero]
    gi_wp2_with (first
      | gi_big_skip
      | ((with_reducible show wpListIn _ _ _ _ _ _ _ _); refine kiAlloc (by rfl) 46 (by rfl) (some 5) (by rfl) [.int .i64 0, .slice none 0 0, .int .i64 0, .slice none 0 0] (fun _ => by kernel_rfl) K ?_; intro g5 V1 K1; clear K; (have K := K1); clear K1)
      | ((with_reducible show wpListIn _ _ _ _ _ _ _ _); refine kiStore (by rfl) 46 (.tmp 5) _ (by rfl) 4 (by kernel_rfl) [] (by exact K) (by rfl) (by rfl) [_, _, _, _] (by rfl) (by rfl) (by simp) (by simp [Value.oneCell']) (cs := [_, _, _, _]) (by rfl) ?_; intro V2 K1; (dsimp only [List.cons_append, List.nil_append] at K1); clear K; (have K := K1); clear K1))
    exact HX.out _ _ (KeepsFrom.below K.out.b) (KpS.later K.out.b (Nat.le_trans HSZ.out SZ.out)) (OI.out _ (Nat.le_refl _) pre W V2 none HI.out (grownB K.out.b) (fun r h => by cases h)) ⟨g5, (K.out.bx ⟨g5, 46, [.int .i64 x.1.h.l.q, .slice x.1.h.A x.1.h.l.ls.length x.1.h.c, .int .i64 x.1.h.l.k, .slice x.1.h.B x.1.h.l.cs.length x.1.h.d]⟩ (by simp)).2, rfl⟩
  case body =>
    rintro l pre x a' W hl' ⟨r', hr'⟩ ⟨kv, KO, H0⟩ ⟨g5, hg9, rfl⟩ hlt
    have SZ : Hid (W5.heap.size ≤ W.heap.size) := hid (by have := (Array.getElem?_eq_some_iff.1 hr').1; omega)
    have K := hid (KG.start W [] (by simp))
    have G9 := hid hg9
    have L9 := hid (Array.getElem?_eq_some_iff.1 hg9).1
    have XM : Hid (x.1.h ∈ hs) := hid (List.mem_of_getElem? x.2)
    have BW : Hid (Below w.heap.size w W) := hid KO.out.b
    have LX := hid (HD.out.ln x.2)
    clear hr' hlt hl' hg9
    have SN := hid (kindV_snoc pre x)
    rw [H0.out] at SN
    obtain ⟨n1, hn1⟩ : ∃ n1, x.1.h.l.ls.length = n1 := ⟨_, rfl⟩
    have HN1 := hid hn1
    rw [hn1] at G9 ⊢
    clear hn1
    by_cases c1 : 0 < n1
    · have NO : Hid (kindV (pre ++ [x]) = none) := hid (by rw [SN.out]; exact kindT_no (.inl (by rw [HN1.out]; exact c1)))
      have i1 : (0 : Int) < (n1 : Int) := by omega
      clear c1 SN
      gi_wp2_with (first
        | gi_big_skip
        | ((with_reducible show wpListIn _ _ _ _ _ _ _ _); refine wpListIn_loadV (by rfl) 43 (.tmp 13) (by rfl) (by rfl) (run_loadVar_one _ ⟨g5, 1, none⟩ 43 (.slice x.1.h.A n1 x.1.h.c) _ ((cell_of_row _ g5 1 _ _ _ ((K.out.b.block g5 L9.out).trans G9.out)).trans rfl) Tryz.underlying43 rfl) ?_)
        | ((with_reducible show wpListIn _ _ _ _ _ _ _ _); refine wpListIn_loadV (by rfl) 43 (.tmp 13) (by rfl) (by rfl) (run_loadVar_one _ ⟨g5, 1, none⟩ 43 (.slice x.1.h.A 0 x.1.h.c) _ ((cell_of_row _ g5 1 _ _ _ ((K.out.b.block g5 L9.out).trans G9.out)).trans rfl) Tryz.underlying43 rfl) ?_)
        | ((with_reducible show wpListIn _ _ _ _ _ _ _ _); refine kiOld1 (by rfl) 3 (.tmp 2) (by rfl) _ Tryz.underlying3 rfl KO K (by rfl) (by repeat (first | exact List.mem_cons_self | refine List.mem_cons_of_mem _ ?_)) (v := .int .i64 kv) (by rfl) ?_)
        | ((with_reducible show wpListIn _ _ _ _ _ _ _ _); refine wpListIn_loadV (by rfl) 3 (.tmp 21) (by rfl) (by rfl) (run_loadVar_one _ ⟨g5, 2, none⟩ 3 (.int .i64 x.1.h.l.k) _ ((cell_of_row _ g5 2 _ _ _ ((K.out.b.block g5 L9.out).trans G9.out)).trans rfl) Tryz.underlying3 rfl) ?_)
        | ((with_reducible show wpListIn _ _ _ _ _ _ _ _); refine wpListIn_loadV (by rfl) 3 (.tmp 27) (by rfl) (by rfl) (run_loadVar_one _ ⟨g5, 2, none⟩ 3 (.int .i64 x.1.h.l.k) _ ((cell_of_row _ g5 2 _ _ _ ((K.out.b.block g5 L9.out).trans G9.out)).trans rfl) Tryz.underlying3 rfl) ?_)
        | ((with_reducible show wpListIn _ _ _ _ _ _ _ _); (have B4 := hid K.out.b); (have KM := hid (KO.out.merge K.out)); refine kiStoreT (by rfl) 3 (.tmp 2) _ (by rfl) 1 (by kernel_rfl) [_, _] (by exact KM) (by rfl) (v := .int .i64 0) (by rfl) [.int .i64 0] (by rfl) (by rfl) (by simp) (by simp [Value.oneCell']) (cs := [_]) (by rfl) ?_; intro V2 ON1 K1; (dsimp only [List.cons_append, List.nil_append] at K1); clear K KM; (have K := K1); clear K1)
        | ((with_reducible show wpListIn _ _ _ _ _ _ _ _); refine kiStoreT (by rfl) 4 (.tmp 3) _ (by rfl) 1 (by kernel_rfl) [_] (by exact K) (by rfl) (v := .bool false) (by rfl) [.bool false] (by rfl) (by rfl) (by simp) (by simp [Value.oneCell']) (cs := [_]) (by rfl) ?_; intro V2 ON2 K1; (dsimp only [List.cons_append, List.nil_append] at K1); clear K; (have K := K1); clear K1))
      exact ⟨KeepsFrom.onl (KeepsFrom.onl (KeepsFrom.below B4.out) ON1.out (Nat.lt_trans Lg2.out LGS.out)) ON2.out (Nat.lt_trans Lg3.out LGS.out), rfl, K, NO⟩
    · obtain rfl : n1 = 0 := by omega
      by_cases c2 : 0 ≤ kv
      · by_cases c3 : x.1.h.l.k = kv
        · have YES : Hid (kindV (pre ++ [x]) = some x.1.h.l.k) := hid (by rw [SN.out]; exact kindT_yes (by rintro (h | h); (have e := HN1.out; omega); exact h.2 c3))
          have b3 : (x.1.h.l.k != kv) = false := bne_eq_false_iff_eq.2 c3
          clear c1 c3 SN
          gi_wp2_with (first
            | gi_big_skip
            | ((with_reducible show wpListIn _ _ _ _ _ _ _ _); refine wpListIn_loadV (by rfl) 43 (.tmp 13) (by rfl) (by rfl) (run_loadVar_one _ ⟨g5, 1, none⟩ 43 (.slice x.1.h.A n1 x.1.h.c) _ ((cell_of_row _ g5 1 _ _ _ ((K.out.b.block g5 L9.out).trans G9.out)).trans rfl) Tryz.underlying43 rfl) ?_)
            | ((with_reducible show wpListIn _ _ _ _ _ _ _ _); refine wpListIn_loadV (by rfl) 43 (.tmp 13) (by rfl) (by rfl) (run_loadVar_one _ ⟨g5, 1, none⟩ 43 (.slice x.1.h.A 0 x.1.h.c) _ ((cell_of_row _ g5 1 _ _ _ ((K.out.b.block g5 L9.out).trans G9.out)).trans rfl) Tryz.underlying43 rfl) ?_)
            | ((with_reducible show wpListIn _ _ _ _ _ _ _ _); refine kiOld1 (by rfl) 3 (.tmp 2) (by rfl) _ Tryz.underlying3 rfl KO K (by rfl) (by repeat (first | exact List.mem_cons_self | refine List.mem_cons_of_mem _ ?_)) (v := .int .i64 kv) (by rfl) ?_)
            | ((with_reducible show wpListIn _ _ _ _ _ _ _ _); refine wpListIn_loadV (by rfl) 3 (.tmp 21) (by rfl) (by rfl) (run_loadVar_one _ ⟨g5, 2, none⟩ 3 (.int .i64 x.1.h.l.k) _ ((cell_of_row _ g5 2 _ _ _ ((K.out.b.block g5 L9.out).trans G9.out)).trans rfl) Tryz.underlying3 rfl) ?_)
            | ((with_reducible show wpListIn _ _ _ _ _ _ _ _); refine wpListIn_loadV (by rfl) 3 (.tmp 27) (by rfl) (by rfl) (run_loadVar_one _ ⟨g5, 2, none⟩ 3 (.int .i64 x.1.h.l.k) _ ((cell_of_row _ g5 2 _ _ _ ((K.out.b.block g5 L9.out).trans G9.out)).trans rfl) Tryz.underlying3 rfl) ?_)
            | ((with_reducible show wpListIn _ _ _ _ _ _ _ _); (have B4 := hid K.out.b); (have KM := hid (KO.out.merge K.out)); refine kiStoreT (by rfl) 3 (.tmp 2) _ (by rfl) 1 (by kernel_rfl) [_, _] (by exact KM) (by rfl) (v := .int .i64 x.1.h.l.k) (by rfl) [.int .i64 x.1.h.l.k] (by rfl) (by rfl) (by simp) (by simp [Value.oneCell']) (cs := [_]) (by rfl) ?_; intro V2 ON1 K1; (dsimp only [List.cons_append, List.nil_append] at K1); clear K KM; (have K := K1); clear K1))
          exact ⟨KeepsFrom.onl (KeepsFrom.below B4.out) ON1.out (Nat.lt_trans Lg2.out LGS.out), (KpS.later B4.out BW.out.size).onl ON1.out Mg2.out Lg2.out, _, K, YES⟩
        · have NO : Hid (kindV (pre ++ [x]) = none) := hid (by rw [SN.out]; exact kindT_no (.inr ⟨c2, c3⟩))
          have b3 : (x.1.h.l.k != kv) = true := bne_iff_ne.2 c3
          clear c1 c3 SN
          gi_wp2_with (first
            | gi_big_skip
            | ((with_reducible show wpListIn _ _ _ _ _ _ _ _); refine wpListIn_loadV (by rfl) 43 (.tmp 13) (by rfl) (by rfl) (run_loadVar_one _ ⟨g5, 1, none⟩ 43 (.slice x.1.h.A n1 x.1.h.c) _ ((cell_of_row _ g5 1 _ _ _ ((K.out.b.block g5 L9.out).trans G9.out)).trans rfl) Tryz.underlying43 rfl) ?_)
            | ((with_reducible show wpListIn _ _ _ _ _ _ _ _); refine wpListIn_loadV (by rfl) 43 (.tmp 13) (by rfl) (by rfl) (run_loadVar_one _ ⟨g5, 1, none⟩ 43 (.slice x.1.h.A 0 x.1.h.c) _ ((cell_of_row _ g5 1 _ _ _ ((K.out.b.block g5 L9.out).trans G9.out)).trans rfl) Tryz.underlying43 rfl) ?_)
            | ((with_reducible show wpListIn _ _ _ _ _ _ _ _); refine kiOld1 (by rfl) 3 (.tmp 2) (by rfl) _ Tryz.underlying3 rfl KO K (by rfl) (by repeat (first | exact List.mem_cons_self | refine List.mem_cons_of_mem _ ?_)) (v := .int .i64 kv) (by rfl) ?_)
            | ((with_reducible show wpListIn _ _ _ _ _ _ _ _); refine wpListIn_loadV (by rfl) 3 (.tmp 21) (by rfl) (by rfl) (run_loadVar_one _ ⟨g5, 2, none⟩ 3 (.int .i64 x.1.h.l.k) _ ((cell_of_row _ g5 2 _ _ _ ((K.out.b.block g5 L9.out).trans G9.out)).trans rfl) Tryz.underlying3 rfl) ?_)
            | ((with_reducible show wpListIn _ _ _ _ _ _ _ _); refine wpListIn_loadV (by rfl) 3 (.tmp 27) (by rfl) (by rfl) (run_loadVar_one _ ⟨g5, 2, none⟩ 3 (.int .i64 x.1.h.l.k) _ ((cell_of_row _ g5 2 _ _ _ ((K.out.b.block g5 L9.out).trans G9.out)).trans rfl) Tryz.underlying3 rfl) ?_)
            | ((with_reducible show wpListIn _ _ _ _ _ _ _ _); (have B4 := hid K.out.b); (have KM := hid (KO.out.merge K.out)); refine kiStoreT (by rfl) 3 (.tmp 2) _ (by rfl) 1 (by kernel_rfl) [_, _] (by exact KM) (by rfl) (v := .int .i64 0) (by rfl) [.int .i64 0] (by rfl) (by rfl) (by simp) (by simp [Value.oneCell']) (cs := [_]) (by rfl) ?_; intro V2 ON1 K1; (dsimp only [List.cons_append, List.nil_append] at K1); clear K KM; (have K := K1); clear K1)
            | ((with_reducible show wpListIn _ _ _ _ _ _ _ _); refine kiStoreT (by rfl) 4 (.tmp 3) _ (by rfl) 1 (by kernel_rfl) [_] (by exact K) (by rfl) (v := .bool false) (by rfl) [.bool false] (by rfl) (by rfl) (by simp) (by simp [Value.oneCell']) (cs := [_]) (by rfl) ?_; intro V2 ON2 K1; (dsimp only [List.cons_append, List.nil_append] at K1); clear K; (have K := K1); clear K1))
          exact ⟨KeepsFrom.onl (KeepsFrom.onl (KeepsFrom.below B4.out) ON1.out (Nat.lt_trans Lg2.out LGS.out)) ON2.out (Nat.lt_trans Lg3.out LGS.out), rfl, K, NO⟩
      · have YES : Hid (kindV (pre ++ [x]) = some x.1.h.l.k) := hid (by rw [SN.out]; exact kindT_yes (by rintro (h | h); (have e := HN1.out; omega); exact c2 h.1))
        have b2 : decide (0 ≤ kv) = false := decide_eq_false c2
        clear c1 c2 SN
        gi_wp2_with (first
          | gi_big_skip
          | ((with_reducible show wpListIn _ _ _ _ _ _ _ _); refine wpListIn_loadV (by rfl) 43 (.tmp 13) (by rfl) (by rfl) (run_loadVar_one _ ⟨g5, 1, none⟩ 43 (.slice x.1.h.A n1 x.1.h.c) _ ((cell_of_row _ g5 1 _ _ _ ((K.out.b.block g5 L9.out).trans G9.out)).trans rfl) Tryz.underlying43 rfl) ?_)
          | ((with_reducible show wpListIn _ _ _ _ _ _ _ _); refine wpListIn_loadV (by rfl) 43 (.tmp 13) (by rfl) (by rfl) (run_loadVar_one _ ⟨g5, 1, none⟩ 43 (.slice x.1.h.A 0 x.1.h.c) _ ((cell_of_row _ g5 1 _ _ _ ((K.out.b.block g5 L9.out).trans G9.out)).trans rfl) Tryz.underlying43 rfl) ?_)
          | ((with_reducible show wpListIn _ _ _ _ _ _ _ _); refine kiOld1 (by rfl) 3 (.tmp 2) (by rfl) _ Tryz.underlying3 rfl KO K (by rfl) (by repeat (first | exact List.mem_cons_self | refine List.mem_cons_of_mem _ ?_)) (v := .int .i64 kv) (by rfl) ?_)
          | ((with_reducible show wpListIn _ _ _ _ _ _ _ _); refine wpListIn_loadV (by rfl) 3 (.tmp 21) (by rfl) (by rfl) (run_loadVar_one _ ⟨g5, 2, none⟩ 3 (.int .i64 x.1.h.l.k) _ ((cell_of_row _ g5 2 _ _ _ ((K.out.b.block g5 L9.out).trans G9.out)).trans rfl) Tryz.underlying3 rfl) ?_)
          | ((with_reducible show wpListIn _ _ _ _ _ _ _ _); refine wpListIn_loadV (by rfl) 3 (.tmp 27) (by rfl) (by rfl) (run_loadVar_one _ ⟨g5, 2, none⟩ 3 (.int .i64 x.1.h.l.k) _ ((cell_of_row _ g5 2 _ _ _ ((K.out.b.block g5 L9.out).trans G9.out)).trans rfl) Tryz.underlying3 rfl) ?_)
          | ((with_reducible show wpListIn _ _ _ _ _ _ _ _); (have B4 := hid K.out.b); (have KM := hid (KO.out.merge K.out)); refine kiStoreT (by rfl) 3 (.tmp 2) _ (by rfl) 1 (by kernel_rfl) [_, _] (by exact KM) (by rfl) (v := .int .i64 x.1.h.l.k) (by rfl) [.int .i64 x.1.h.l.k] (by rfl) (by rfl) (by simp) (by simp [Value.oneCell']) (cs := [_]) (by rfl) ?_; intro V2 ON1 K1; (dsimp only [List.cons_append, List.nil_append] at K1); clear K KM; (have K := K1); clear K1))
        exact ⟨KeepsFrom.onl (KeepsFrom.below B4.out) ON1.out (Nat.lt_trans Lg2.out LGS.out), (KpS.later B4.out BW.out.size).onl ON1.out Mg2.out Lg2.out, _, K, YES⟩
  case stop =>
    rintro D c' pre W hD hSp ⟨rfl, K, H0⟩ hK
    have HK2 := hid hK
    have DW : Hid (w.heap.size ≤ D) := hid (Nat.le_trans HSZ.out hD)
    have NP : Hid (kindP (sel ⟨lnsOf hs, ⟨al, aa⟩, ⟨fl, fa⟩, on, off⟩) = none) := hid (by
      rw [← SEL.out]
      obtain ⟨q, hq⟩ := hSp
      refine kindP_pre (ls := pre.map fun (x : ItV hs) => x.1.h.l) ⟨q.map fun (x : It) => x.h.l, ?_⟩ (show kindP (pre.map fun (x : ItV hs) => x.1.h.l) = none from H0.out)
      rw [← hq, List.map_append, List.map_map]
      rfl)
    have HRr := HR.out
    rw [NP.out] at HRr
    subst HRr
    clear hK hD H0 hSp HR
    gi_wp2_with (fail)
    refine ⟨by simp, .inl ⟨D, _, rfl, run_takeDeferred HK2.out, ?_⟩⟩
    have OWN : ∀ r, some D = some r → w.heap.size ≤ r ∧ ∃ o : Obj, W.heap[r]? = some o ∧ o.isCells = false := fun r h => by injection h with h; subst h; exact ⟨DW.out, _, HK2.out, rfl⟩
    have K3 := hid (K.out.own (grownBy_putObj' W D (.deferred none)) OWN)
    refine ⟨_, results_cc Tryz.results7 (by rfl) (K3.out.load1 (off := 0) (by repeat (first | exact List.mem_cons_self | refine List.mem_cons_of_mem _ ?_)) Tryz.underlying3 rfl (by rfl)) (by rfl) (K3.out.load1 (off := 0) (by repeat (first | exact List.mem_cons_self | refine List.mem_cons_of_mem _ ?_)) Tryz.underlying4 rfl (by rfl)), ?_⟩
    exact ⟨rfl, K3.out.b⟩
  case done =>
    rintro D ys W hD hS ⟨kv, K, H0⟩ hK
    have HKD := hid hK
    have DW : Hid (w.heap.size ≤ D) := hid (Nat.le_trans HSZ.out hD)
    have NP : Hid (kindP (sel ⟨lnsOf hs, ⟨al, aa⟩, ⟨fl, fa⟩, on, off⟩) = some kv) := hid (by
      rw [← SEL.out, ← hS, List.map_map]
      exact H0.out)
    have HRr := HR.out
    rw [NP.out] at HRr
    subst HRr
    have DG2 : Hid (g2 < D) := hid (by have h1 := Lg2.out; have h2 := LGS.out; omega)
    have DG3 : Hid (g3 < D) := hid (by have h1 := Lg3.out; have h2 := LGS.out; omega)
    clear hK hD H0 hS HR
    gi_wp2_with (first
      | gi_big_skip
      | ((with_reducible show wpListIn _ _ _ _ _ _ _ _); refine kiLoad1 (by rfl) 3 _ (by rfl) _ Tryz.underlying3 rfl K (by rfl) (by repeat (first | exact List.mem_cons_self | refine List.mem_cons_of_mem _ ?_)) (by rfl) ?_)
      | ((with_reducible show wpListIn _ _ _ _ _ _ _ _); refine kiStoreT (by rfl) 3 (.tmp 2) _ (by rfl) 1 (by kernel_rfl) [_, _] (by exact K) (by rfl) (v := .int .i64 kv) (by rfl) [.int .i64 kv] (by rfl) (by rfl) (by simp) (by simp [Value.oneCell']) (cs := [_]) (by rfl) ?_; intro V2 ON4 K1; (dsimp only [List.cons_append, List.nil_append] at K1); clear K; (have K := K1); clear K1)
      | ((with_reducible show wpListIn _ _ _ _ _ _ _ _); refine kiStoreT (by rfl) 4 (.tmp 3) _ (by rfl) 1 (by kernel_rfl) [_] (by exact K) (by rfl) (v := .bool true) (by rfl) [.bool true] (by rfl) (by rfl) (by simp) (by simp [Value.oneCell']) (cs := [_]) (by rfl) ?_; intro V2 ON5 K1; (dsimp only [List.cons_append, List.nil_append] at K1); clear K; (have K := K1); clear K1))
    have HK2 := hid ((ON5.out.block D (by have := DG3.out; omega)).trans ((ON4.out.block D (by have := DG2.out; omega)).trans HKD.out))
    refine ⟨by simp, .inl ⟨D, _, rfl, run_takeDeferred HK2.out, ?_⟩⟩
    have OWN : ∀ r, some D = some r → w.heap.size ≤ r ∧ ∃ o : Obj, V2.heap[r]? = some o ∧ o.isCells = false := fun r h => by injection h with h; subst h; exact ⟨DW.out, _, HK2.out, rfl⟩
    have K3 := hid (K.out.own (grownBy_putObj' V2 D (.deferred none)) OWN)
    refine ⟨_, results_cc Tryz.results7 (by rfl) (K3.out.load1 (off := 0) (by repeat (first | exact List.mem_cons_self | refine List.mem_cons_of_mem _ ?_)) Tryz.underlying3 rfl (by rfl)) (by rfl) (K3.out.load1 (off := 0) (by repeat (first | exact List.mem_cons_self | refine List.mem_cons_of_mem _ ?_)) Tryz.underlying4 rfl (by rfl)), ?_⟩
    exact ⟨rfl, K3.out.b⟩
theorem bKind_any (hs : List Hd) (A : Option Addr) (n c C : Nat) (hn : n = hs.length) (w : World) (hd : DocAt w C A hs) (h1 : hs.length ≤ 1000) (h2 : ∀ h ∈ hs, h.l.ls.length ≤ 1000000 ∧ h.l.cs.length ≤ 1000000) (hf : ∀ h ∈ hs, FineC h.l.cs) (hT : Tb w) (al aa fl fa on off : Int) :
    Calls Tryz.prog 7 #[.agg #[.slice A n c, .int .i64 al, .int .i64 aa, .int .i64 fl, .int .i64 fa, .int .i64 on, .int .i64 off]] w (IsKB (kindS ⟨lnsOf hs, ⟨al, aa⟩, ⟨fl, fa⟩, on, off⟩) w) := by
  cases mb : mayS ⟨lnsOf hs, ⟨al, aa⟩, ⟨fl, fa⟩, on, off⟩ with
  | false =>
    have e : kindS ⟨lnsOf hs, ⟨al, aa⟩, ⟨fl, fa⟩, on, off⟩ = (0, false) := by unfold kindS; rw [mb]; rfl
    rw [e]
    exact kindNo hs A n c C hn w hd h1 h2 hf hT al aa fl fa on off mb
  | true => exact kindYes hs A n c C hn w hd h1 h2 hf hT al aa fl fa on off mb
end Go.Proofs.YtblbfoniimnkcaaGreatDoor
