/- Texts on cells and lines, put together: BlIt, BlRun. -/
import Derived.Test.YtblbfoniimnkcaaGreatDoorTSpan
import Derived.Test.YtblbfoniimnkcaaGreatDoorBgKg
import Derived.RangeFuncNested
import Derived.RangeFuncBound
import Derived.RangeFuncCalls
import Derived.RangeFuncLeaves
import Derived.RangeFuncBox
import Derived.Shelf.Abstract
import Derived.Shelf.RegionOpen
import Derived.TacticsInMore
import Derived.LoopNIn
import Derived.LoopIn
import Derived.BigQuiet
import Derived.Deep.QuietTactic
/- The walk of blocks.selected's iterator, under a fence: for every loop body that keeps the selection's memory. (Printed by wip/bldoc.py.) -/
namespace Go.Proofs.YtblbfoniimnkcaaGreatDoor
open Go.RowKit Go.Lib Go.Shelf
attribute [local go_sem] Oper.semAt_some

/-- What the iterator yields: a line's number, the line. -/
structure It where
  i : Nat
  h : Hd
def encsI (x : It) : Array Value := #[.int .i64 x.i, .agg #[.int .i64 x.h.l.q, .slice x.h.A x.h.l.ls.length x.h.c, .int .i64 x.h.l.k, .slice x.h.B x.h.l.cs.length x.h.d]]
def itsF (hs : List Hd) (i : Nat) : Nat → List It
  | 0 => []
  | n + 1 => itsF hs i n ++ match hs[i + n]? with | some h => [⟨i + n, h⟩] | none => []
theorem itsF_step {hs : List Hd} {i n : Nat} {h : Hd} (e : hs[i + n]? = some h) : itsF hs i (n + 1) = itsF hs i n ++ [⟨i + n, h⟩] := by
  show itsF hs i n ++ _ = _
  rw [e]
theorem itsF_len {hs : List Hd} {i : Nat} : ∀ n, i + n ≤ hs.length → (itsF hs i n).length = n
  | 0, _ => rfl
  | n + 1, h => by
    rw [itsF_step (List.getElem?_eq_getElem (show i + n < hs.length by omega)), List.length_append, itsF_len n (by omega)]
    rfl
theorem itsF_pre (hs : List Hd) (i : Nat) : ∀ n m, n ≤ m → itsF hs i n <+: itsF hs i m := by
  intro n m h
  induction m with
  | zero => obtain rfl : n = 0 := by omega
            exact List.prefix_refl _
  | succ m ih =>
    by_cases e : n = m + 1
    · subst e; exact List.prefix_refl _
    · exact (ih (by omega)).trans (List.prefix_append _ _)
/-- What a round keeps: what lay below n₀, and every box from N on. -/
structure KpS (n₀ N : Nat) (W W' : World) : Prop where
  b : Below n₀ W W'
  bx : ∀ k o, N ≤ k → W.heap[k]? = some o → o.isCells = true → W'.heap[k]? = some o
theorem KpS.trans {n₀ N : Nat} {A B C : World} (h : KpS n₀ N A B) (k : KpS n₀ N B C) : KpS n₀ N A C := ⟨h.b.trans k.b, fun i o hi ho hc => k.bx i o hi (h.bx i o hi ho hc) hc⟩
theorem KpS.later {n₀ N : Nat} {W W' : World} (h : Below W.heap.size W W') (hn : n₀ ≤ W.heap.size) : KpS n₀ N W W' := ⟨h.mono hn, fun k _ _ hk _ => (h.block k (Array.getElem?_eq_some_iff.1 hk).1).trans hk⟩
theorem KpS.put {n₀ N : Nat} {w : World} (hn : n₀ ≤ w.heap.size) (W : World) (l : Nat) (o o' : Obj) (hl : w.heap.size ≤ l) (h : W.heap[l]? = some o) (hc : o.isCells = false) (_ : o.isWalk = false) : KpS n₀ N W (W.putObj l o') := by
  have hlt := (Array.getElem?_eq_some_iff.1 h).1
  refine ⟨⟨rfl, rfl, rfl, by rw [World.putObj_size]; exact Nat.le_refl _, fun k hk => World.putObj_heap_other (by omega)⟩, fun k u _ hk hu => (World.putObj_heap_other (fun e => by subst e; rw [h] at hk; injection hk with hk; subst hk; rw [hc] at hu; cases hu)).trans hk⟩
/-- What is held, behind a round. -/
theorem KG.round {w0 w w' : World} {bs : List BoxG} {N : Nat} {hs : List Hd} {A : Option Addr} (h : KG w0 w bs [⟨hs, A, false⟩]) (hd : DocAt w0 w0.heap.size A hs) (hk : KpS w0.heap.size N w w') (hN : ∀ x ∈ bs, N ≤ x.g) : KG w0 w' bs [⟨hs, A, false⟩] := by
  have hb := h.b.trans hk.b
  refine ⟨hb, fun x hx => ⟨(h.bx x hx).1, hk.bx _ _ (hN x hx) (h.bx x hx).2 rfl⟩, h.nd, fun d hm => ?_⟩
  rw [List.mem_singleton.1 hm]
  exact ⟨0, w0.heap.size, ⟨hb.size, fun w2 h2 => hd.heap fun k hlt => (h2 k (Nat.zero_le _) hlt).trans (hb.block k hlt)⟩, fun x hx => .inr (h.bx x hx).1⟩
theorem KG.down {w0 W w' : World} {bs : List BoxG} {hs : List Hd} {A : Option Addr} (h : KG W w' bs [⟨hs, A, false⟩]) (hb : Below w0.heap.size w0 W) (hd : DocAt w0 w0.heap.size A hs) {x : BoxG} (hx : w0.heap.size ≤ x.g) (hX : W.heap[x.g]? = some (.cells x.cs.toArray x.t (0, 0))) : KG w0 w' (bs ++ [x]) [⟨hs, A, false⟩] := by
  have hlt := (Array.getElem?_eq_some_iff.1 hX).1
  have hb2 := hb.trans (h.b.mono hb.size)
  refine ⟨hb2, fun y hy => ?_, ?_, fun d hm => ?_⟩
  · rcases List.mem_append.1 hy with hy | hy
    · exact ⟨Nat.le_trans hb.size (h.bx y hy).1, (h.bx y hy).2⟩
    · rw [List.mem_singleton.1 hy]
      exact ⟨hx, (h.b.block _ hlt).trans hX⟩
  · rw [List.pairwise_append]
    refine ⟨h.nd, List.pairwise_singleton _ _, fun u hu v hv => ?_⟩
    rw [List.mem_singleton.1 hv]
    intro e
    have := (h.bx u hu).1
    omega
  · rw [List.mem_singleton.1 hm]
    refine ⟨0, w0.heap.size, ⟨hb2.size, fun w2 h2 => hd.heap fun k hlt => (h2 k (Nat.zero_le _) hlt).trans (hb2.block k hlt)⟩, fun y hy => ?_⟩
    rcases List.mem_append.1 hy with hy | hy
    · exact .inr (Nat.le_trans hb.size (h.bx y hy).1)
    · rw [List.mem_singleton.1 hy]; exact .inr hx
theorem grownB {w w' : World} (h : Below w.heap.size w w') : w.grownBy w' none := ⟨h.os, h.tape, h.output, h.size, fun i hi _ => h.block i hi⟩
/-- What is yielded is a line of the document. -/
abbrev ItV (hs : List Hd) : Type := {x : It // hs[x.i]? = some x.h}
set_option maxRecDepth 100000 in
set_option maxHeartbeats 4000000 in
theorem sel1_in (n l Bs N : Nat) (w W : World) (s : Stt) (hs : List Hd) (A : Option Addr) (cp : Nat) (hd : DocAt w w.heap.size A hs) (hw : Below w.heap.size w W) (hN : w.heap.size ≤ N) (hNB : N ≤ Bs) (f cnt : Nat) (hf : (fromS s).l = f) (ht : (toS s).l + 1 = ((f + cnt : Nat) : Int)) (hle : f + cnt ≤ hs.length) (hlen : hs.length ≤ 1000)
    (J Jx : List It → World → Prop) (hJ : AbidesFrom W.heap.size J)
    (hY : ∀ pre x W, J pre W → pre.length < cnt → hs[x.i]? = some x.h → YieldAt Fence.wide (n - 1) Tryz.prog l (encsI x) W fun e W' =>
      (e = .returned (.bool true) ∧ J (pre ++ [x]) W' ∧ KpS w.heap.size N W W') ∨ (e = .returned (.bool false) ∧ Jx (pre ++ [x]) W'))
    (hb : W.heap[Bs]? = some (.cells #[.slice A hs.length cp, .int .i64 s.a.l, .int .i64 s.a.a, .int .i64 s.f.l, .int .i64 s.f.a, .int .i64 s.on, .int .i64 s.off] 26 (0, 0))) (h0 : J [] W) :
    CallsIn Fence.wide n Tryz.prog 38 #[.func (.yield l) #[] #[], .pointer (some ⟨Bs, 0, none⟩)] W fun e W' => (∃ v, e = .returned v) ∧
      ((∃ ys, ys = itsF hs f cnt ∧ J ys W') ∨ (∃ pre, pre <+: itsF hs f cnt ∧ Jx pre W')) := by
  have HY := hid hY
  have HJ := hid hJ
  have HD := hid hd
  have HW := hid hw
  have HB := hid hb
  have H0 := hid h0
  have LB := hid (show Bs < W.heap.size from (Array.getElem?_eq_some_iff.1 hb).1)
  have NB := hid hNB
  have K := hid (KG.start W [⟨hs, A, false⟩] (by simpa using (hd.belowM hw (Nat.le_refl _)).live))
  obtain ⟨tl, htl⟩ : ∃ tl, (toS s).l = tl := ⟨_, rfl⟩
  obtain ⟨fa, hfa⟩ : ∃ fa, (fromS s).a = fa := ⟨_, rfl⟩
  obtain ⟨ta, hta⟩ : ∃ ta, (toS s).a = ta := ⟨_, rfl⟩
  have PF : Hid (psV (fromS s) = .agg #[.int .i64 f, .int .i64 fa]) := hid (by unfold psV; rw [hf, hfa])
  have PT : Hid (psV (toS s) = .agg #[.int .i64 tl, .int .i64 ta]) := hid (by unfold psV; rw [htl, hta])
  rw [htl] at ht
  clear hY hJ hd hb h0 htl hfa hta hf hw
  refine callsIn_of_wp Tryz.func38 rfl trivial ?_ rfl
  simp only [Tryz.ntmps38, List.size_toArray, List.length_cons, List.length_nil, Nat.reduceAdd, Nat.reduceSub, Array.replicate_succ, Array.replicate_zero, List.push_toArray, List.append_toArray, List.nil_append, List.cons_append]
  gi_wp2_with (first
    | gi_big_skip
    | ((with_reducible show wpListIn _ _ _ _ _ _ _ _); refine wpListIn_loadV (by rfl) 26 _ (by rfl) (by rfl) (run_loadVar_row _ Bs 26 26 _ (0, 0) _ ((K.out.b.block Bs LB.out).trans HB.out) Tryz.underlying26 rfl (by kernel_rfl)) ?_)
    | ((first | refine ⟨trivial, (fun h => by cases h), ?_⟩ | refine ⟨trivial, ?_⟩); gi_at_call 39; (with_reducible refine (callsIn_wide.2 (tSpan_any s.d A hs.length cp s.a.l s.a.a s.f.l s.f.a s.on s.off _)).mono ?_); rintro e W1 ⟨rfl, hb1⟩; rw [PF.out, PT.out]; (have K2 := hid (K.out.later hb1)); clear hb1 K; (have K := K2); clear K2)
    | ((with_reducible show wpListIn _ _ _ _ _ _ _ _); refine kiAlloc (by rfl) 24 (by rfl) (some 3) (by rfl) [.int .i64 0, .int .i64 0] (fun _ => by kernel_rfl) K ?_; intro g3 V1 K1; clear K; (have K := K1); clear K1)
    | ((with_reducible show wpListIn _ _ _ _ _ _ _ _); refine kiAlloc (by rfl) 24 (by rfl) (some 4) (by rfl) [.int .i64 0, .int .i64 0] (fun _ => by kernel_rfl) K ?_; intro g4 V1 K1; clear K; (have K := K1); clear K1)
    | ((with_reducible show wpListIn _ _ _ _ _ _ _ _); refine kiStore (by rfl) 24 (.tmp 3) _ (by rfl) 2 (by kernel_rfl) [_] (by exact K) (by rfl) (by rfl) [_, _] (by rfl) (by rfl) (by simp) (by simp [Value.oneCell']) (cs := [_, _]) (by rfl) ?_; intro V2 K1; (dsimp only [List.cons_append, List.nil_append] at K1); clear K; (have K := K1); clear K1)
    | ((with_reducible show wpListIn _ _ _ _ _ _ _ _); refine kiStore (by rfl) 24 (.tmp 4) _ (by rfl) 2 (by kernel_rfl) [] (by exact K) (by rfl) (by rfl) [_, _] (by rfl) (by rfl) (by simp) (by simp [Value.oneCell']) (cs := [_, _]) (by rfl) ?_; intro V2 K1; (dsimp only [List.cons_append, List.nil_append] at K1); clear K; (have K := K1); clear K1)
    | ((with_reducible show wpListIn _ _ _ _ _ _ _ _); refine kiLoad1 (by rfl) 3 _ (by rfl) _ Tryz.underlying3 rfl K (by rfl) (by repeat (first | exact List.mem_cons_self | refine List.mem_cons_of_mem _ ?_)) (by rfl) ?_))
  have K2 : Hid (KG w V2 [⟨g4, 24, [.int .i64 tl, .int .i64 ta]⟩, ⟨g3, 24, [.int .i64 f, .int .i64 fa]⟩, ⟨Bs, 26, [.slice A hs.length cp, .int .i64 s.a.l, .int .i64 s.a.a, .int .i64 s.f.l, .int .i64 s.f.a, .int .i64 s.on, .int .i64 s.off]⟩] [⟨hs, A, false⟩]) := hid (K.out.down (x := ⟨Bs, 26, _⟩) HW.out HD.out (Nat.le_trans hN NB.out) HB.out)
  have J2 := hid (HJ.out _ _ _ none H0.out (grownB K.out.b) (fun r h => by cases h))
  have G3 := hid (Nat.le_trans NB.out (Nat.le_trans (Nat.le_of_lt LB.out) (K.out.bx ⟨g3, 24, [.int .i64 f, .int .i64 fa]⟩ (by simp)).1))
  have G4 := hid (Nat.le_trans NB.out (Nat.le_trans (Nat.le_of_lt LB.out) (K.out.bx ⟨g4, 24, [.int .i64 tl, .int .i64 ta]⟩ (by simp)).1))
  have WZ := hid K.out.b.size
  clear K H0 HB HW
  have K := K2
  clear K2
  gi_loopw [5] (fun i wr => ∃ k : Nat, k ≤ cnt ∧ i = .int .i64 ((f + k : Nat) : Int) ∧ Hid (J (itsF hs f k) wr) ∧ Hid (KG w wr [⟨g4, 24, [.int .i64 tl, .int .i64 ta]⟩, ⟨g3, 24, [.int .i64 f, .int .i64 fa]⟩, ⟨Bs, 26, [.slice A hs.length cp, .int .i64 s.a.l, .int .i64 s.a.a, .int .i64 s.f.l, .int .i64 s.f.a, .int .i64 s.on, .int .i64 s.off]⟩] [⟨hs, A, false⟩])) (fun i _ => cnt + f - (intOf i).toNat)
  case atStart => exact ⟨0, Nat.zero_le _, rfl, J2, K⟩
  case round =>
    clear K J2
    obtain ⟨k, hk, rfl, HJk, K⟩ := hrel
    by_cases hlt : k < cnt
    · have hj : f + k < hs.length := by omega
      obtain ⟨ad, x, e, -, hx, -⟩ := (K.out.at_ (d := ⟨hs, A, false⟩) (by simp)).row.atH hj
      obtain rfl : A = some ad := e
      have hi0 : ((f + k : Nat) : Int) ≤ tl := by omega
      have hi1 : ((f + k : Nat) : Int) < (hs.length : Int) := by omega
      have HX := hid hx
      obtain ⟨j, hj'⟩ : ∃ j, f + k = j := ⟨_, rfl⟩
      rw [hj'] at hi0 hi1 ⊢
      have HJ' := hid hj'
      clear hx hj'
      gi_wp2_with (first
        | gi_big_skip
        | ((with_reducible show wpListIn _ _ _ _ _ _ _ _); refine kiLoad1 (by rfl) 3 _ (by rfl) _ Tryz.underlying3 rfl K (by rfl) (by repeat (first | exact List.mem_cons_self | refine List.mem_cons_of_mem _ ?_)) (by rfl) ?_)
        | ((with_reducible show wpListIn _ _ _ _ _ _ _ _); refine kiLoad1 (by rfl) 22 _ (by rfl) _ Tryz.underlying22 rfl K (by rfl) (by repeat (first | exact List.mem_cons_self | refine List.mem_cons_of_mem _ ?_)) (by rfl) ?_)
        | ((with_reducible show wpListIn _ _ _ _ _ _ _ _); refine kiElem (by rfl) 46 _ (by rfl) _ Tryz.underlying46 rfl (by kernel_rfl) K (by rfl) (by repeat (first | exact List.mem_cons_self | refine List.mem_cons_of_mem _ ?_)) (by have := HX.out; rw [HJ'.out] at this; exact this) ?_))
      have LP : Hid ((itsF hs f k).length < cnt) := hid (by rw [itsF_len k (by omega)]; exact hlt)
      obtain ⟨fn, tmps, assign, body, hy, hR⟩ := HY.out (itsF hs f k) ⟨j, x⟩ wr HJk.out LP.out (by have := HX.out; rw [HJ'.out] at this; exact this)
      dsimp only [encsI] at hy
      rw [hy, Oper.uponIn_round]
      have KK := hid K
      have SN := hid (show itsF hs f (k + 1) = itsF hs f k ++ [⟨j, x⟩] from by rw [itsF_step HX.out, HJ'.out])
      refine ⟨(fun h => by cases h), hR.mono ?_⟩
      rintro e W3 (⟨rfl, hJ3, hk3⟩ | ⟨rfl, hJx3⟩)
      · have K3 := hid (KK.out.out.round HD.out hk3 (by
          intro y hy
          simp only [List.mem_cons, List.not_mem_nil, or_false] at hy
          rcases hy with rfl | rfl | rfl
          · exact G4.out
          · exact G3.out
          · exact NB.out))
        have J3 := hid hJ3
        rw [← SN.out] at J3
        clear hJ3 hk3 hy hR K KK
        gi_wp2
        go_roundw
        case rel => exact ⟨k + 1, by omega, by have := HJ'.out; go_num, J3, K3⟩
        case measure => have := HJ'.out; simp [intOf]; omega
      · rw [← SN.out] at hJx3
        have J3 := hid hJx3
        clear hJx3 hy hR K KK
        gi_wp2
        refine bodyPost_ret (results_none rfl _ _ _) rfl ?_
        exact ⟨⟨_, rfl⟩, .inr ⟨_, itsF_pre hs f (k + 1) cnt (by omega), J3.out⟩⟩
    · obtain rfl : k = cnt := by omega
      have hi0 : ¬ (((f + k : Nat) : Int) ≤ tl) := by omega
      obtain ⟨j, hj'⟩ : ∃ j, f + k = j := ⟨_, rfl⟩
      rw [hj'] at hi0 ⊢
      clear hj'
      gi_wp2_with (first
        | gi_big_skip
        | ((with_reducible show wpListIn _ _ _ _ _ _ _ _); refine kiLoad1 (by rfl) 3 _ (by rfl) _ Tryz.underlying3 rfl K (by rfl) (by repeat (first | exact List.mem_cons_self | refine List.mem_cons_of_mem _ ?_)) (by rfl) ?_))
      refine bodyPost_end (results_none rfl _ _ _) rfl ?_
      exact ⟨⟨_, rfl⟩, .inl HJk.out⟩
theorem sel_seq (n Bs N : Nat) (w w1 : World) (s : Stt) (hs : List Hd) (A : Option Addr) (cp : Nat) (hd : DocAt w w.heap.size A hs) (hw : Below w.heap.size w w1) (hN : w.heap.size ≤ N) (hNB : N ≤ Bs) (f cnt : Nat) (hf : (fromS s).l = f) (ht : (toS s).l + 1 = ((f + cnt : Nat) : Int)) (hle : f + cnt ≤ hs.length) (hlen : hs.length ≤ 1000)
    (hb : w1.heap[Bs]? = some (.cells #[.slice A hs.length cp, .int .i64 s.a.l, .int .i64 s.a.a, .int .i64 s.f.l, .int .i64 s.f.a, .int .i64 s.on, .int .i64 s.off] 26 (0, 0))) :
    SeqStopsK Fence.wide n Tryz.prog 38 #[.pointer (some ⟨Bs, 0, none⟩)] (fun x : ItV hs => encsI x.1) (KpS w.heap.size N) (fun ys => ys.map (·.1) = itsF hs f cnt) (fun pre => pre.map (·.1) <+: itsF hs f cnt) cnt w1 := by
  intro l J Jx W hW hJ _ hY h0
  have hB : W.heap[Bs]? = some (.cells #[.slice A hs.length cp, .int .i64 s.a.l, .int .i64 s.a.a, .int .i64 s.f.l, .int .i64 s.f.a, .int .i64 s.on, .int .i64 s.off] 26 (0, 0)) := (hW.block Bs (Array.getElem?_eq_some_iff.1 hb).1).trans hb
  refine (sel1_in n l Bs N w W s hs A cp hd (hw.trans (hW.mono hw.size)) hN hNB f cnt hf ht hle hlen (fun p V => ∃ p' : List (ItV hs), p'.map (·.1) = p ∧ J p' V) (fun p V => ∃ p' : List (ItV hs), p'.map (·.1) = p ∧ Jx p' V)
    (fun p V V' row ⟨p', e, h⟩ hg hr => ⟨p', e, hJ p' V V' row h hg hr⟩) ?_ hB ⟨[], rfl, h0⟩).mono ?_
  · rintro pre x V ⟨p', rfl, h⟩ hlt hx
    refine (hY p' ⟨x, hx⟩ V h (by simpa using hlt)).mono ?_
    rintro e V' (⟨rfl, h1, h2⟩ | ⟨rfl, h1⟩)
    · exact .inl ⟨rfl, ⟨p' ++ [⟨x, hx⟩], by simp, h1⟩, h2⟩
    · exact .inr ⟨rfl, p' ++ [⟨x, hx⟩], by simp, h1⟩
  · rintro e V' ⟨h1, ⟨ys, rfl, p', e2, h2⟩ | ⟨pre, h2, p', rfl, h3⟩⟩
    · exact ⟨h1, .inl ⟨p', e2, h2⟩⟩
    · exact ⟨h1, .inr ⟨p', h2, h3⟩⟩
set_option maxHeartbeats 1000000 in
theorem selected_any (v0 : Value) (i1 i2 i3 i4 i5 i6 : Int) (hv : ∃ A n c, v0 = .slice A n c) (w : World) :
    Calls Tryz.prog 22 #[.agg #[v0, .int .i64 i1, .int .i64 i2, .int .i64 i3, .int .i64 i4, .int .i64 i5, .int .i64 i6]] w fun e w' => ∃ g, e = .returned (.func (.func 38) #[] #[.pointer (some ⟨g, 0, none⟩)]) ∧ g = w.heap.size ∧ w' = w.alloc (.cells #[v0, .int .i64 i1, .int .i64 i2, .int .i64 i3, .int .i64 i4, .int .i64 i5, .int .i64 i6] 26) := by
  obtain ⟨A, n, c, rfl⟩ := hv
  go_enter Tryz.func22, Tryz.ntmps22
  go_wp2_with (first
    | fail)
  go_ret
  exact ⟨_, rfl, rfl, rfl⟩
end Go.Proofs.YtblbfoniimnkcaaGreatDoor

/- What the loops over selected lines hold: boxes through the iterator's own doings, a row of lines as a box, a call of a function value inside a fence. -/
namespace Go.Proofs.YtblbfoniimnkcaaGreatDoor
open Go.RowKit Go.Lib Go.Great Go.Shelf

section
variable {w0 w w' W : World} {bs bs' : List BoxG} {ds : List DocR}
theorem KG.own (h : KG w0 w bs []) {row : Option Nat} (hg : w.grownBy w' row) (hr : ∀ r, row = some r → w0.heap.size ≤ r ∧ ∃ o : Obj, w.heap[r]? = some o ∧ o.isCells = false) : KG w0 w' bs [] := by
  refine ⟨h.b.grown hg h.b.size fun r e => (hr r e).1, fun x hx => ⟨(h.bx x hx).1, (hg.block _ (h.lt hx) fun e => ?_).trans (h.bx x hx).2⟩, h.nd, fun _ h => by cases h⟩
  obtain ⟨_, o, ho, hc⟩ := hr _ e.symm
  rw [(h.bx x hx).2] at ho
  injection ho with ho
  subst ho
  cases hc
theorem KG.withDoc (h : KG w0 w bs ds) {hs : List Hd} {A : Option Addr} (hd : DocAt w0 w0.heap.size A hs) : KG w0 w bs [⟨hs, A, false⟩] :=
  ⟨h.b, h.bx, h.nd, fun d hm => by
    rw [List.mem_singleton.1 hm]
    exact ⟨0, w0.heap.size, ⟨h.b.size, fun w2 h2 => hd.heap fun k hlt => (h2 k (Nat.zero_le _) hlt).trans (h.b.block k hlt)⟩, fun x hx => .inr (h.bx x hx).1⟩⟩
theorem KG.merge (h : KG w0 W bs []) (k : KG W w bs' ds) : KG w0 w (bs' ++ bs) [] := by
  refine ⟨h.b.trans (k.b.mono h.b.size), fun x hx => ?_, ?_, fun _ h => by cases h⟩
  · rcases List.mem_append.1 hx with hx | hx
    · exact ⟨Nat.le_trans h.b.size (k.bx x hx).1, (k.bx x hx).2⟩
    · exact ⟨(h.bx x hx).1, (k.b.block _ (h.lt hx)).trans (h.bx x hx).2⟩
  · rw [List.pairwise_append]
    refine ⟨k.nd, h.nd, fun u hu v hv e => ?_⟩
    have h1 := (k.bx u hu).1
    have h2 := h.lt hv
    omega
theorem KG.bare (h : KG w0 w bs ds) : KG w0 w bs [] := ⟨h.b, h.bx, h.nd, fun _ h => by cases h⟩
/-- The row of a document in new memory, as a box. -/
theorem KG.row {hs : List Hd} {A : Option Addr} (h : KG w0 w bs (⟨hs, A, true⟩ :: ds)) (hne : hs ≠ []) :
    ∃ g o cur, A = some ⟨g, o, none⟩ ∧ KG w0 w (⟨g, 46, cur⟩ :: bs) [] ∧ o + hs.length * 4 ≤ cur.length ∧ (cur.drop o).take (hs.length * 4) = hs.flatMap encH ∧ ∀ x ∈ hs, HdW w w0.heap.size x := by
  obtain ⟨lo, hi, ⟨hl, hF⟩, hout⟩ := h.doc _ List.mem_cons_self
  have hD := hF.doc
  obtain ⟨g, o, cur, e, h1, h2, h3, h4⟩ := hD.row hne
  have h5 := hF.2.1 hne _ e
  refine ⟨g, o, cur.toList, e, ⟨h.b, fun x hx => ?_, List.pairwise_cons.2 ⟨fun x hx e => ?_, h.nd⟩, fun _ h => by cases h⟩, by simpa using h3, h4, fun x hx => (hD.lines x hx).based hl⟩
  · rcases List.mem_cons.1 hx with rfl | hx
    · exact ⟨Nat.le_trans hl h1, by simpa using h2⟩
    · exact h.bx x hx
  · have e' : g = x.g := e
    have h6 := hout x hx
    have h5' : g < hi := h5
    omega
/-- .. and back. -/
theorem KG.wr (h : KG w0 w bs ds) {g o : Nat} {cur : List Value} {rs : List Hd} (hx : (⟨g, 46, cur⟩ : BoxG) ∈ bs) (hl : o + rs.length * 4 ≤ cur.length) (hc : (cur.drop o).take (rs.length * 4) = rs.flatMap encH) : Wr encH 4 46 w w0.heap.size (some ⟨g, o, none⟩) rs := fun _ =>
  ⟨g, o, cur.toArray, rfl, (h.bx _ hx).1, (h.bx _ hx).2, by simpa using hl, by simpa using hc⟩
end
theorem set2_len : ∀ (vs cs : List Value) (o : Nat), (set2 cs o vs).length = cs.length
  | [], _, _ => rfl
  | v :: vs, cs, o => by show (set2 (cs.set o v) (o + 1) vs).length = _; rw [set2_len vs, List.length_set]
theorem set2_get : ∀ (vs cs : List Value) (o j : Nat), o + vs.length ≤ cs.length → (set2 cs o vs)[j]? = if o ≤ j ∧ j < o + vs.length then vs[j - o]? else cs[j]?
  | [], cs, o, j, _ => by rw [if_neg (by intro h; have := h.2; simp only [List.length_nil] at this; omega)]; rfl
  | v :: vs, cs, o, j, h => by
    have hl : o + 1 + vs.length ≤ (cs.set o v).length := by rw [List.length_set]; simp at h; omega
    show (set2 (cs.set o v) (o + 1) vs)[j]? = _
    rw [set2_get vs (cs.set o v) (o + 1) j hl]
    by_cases h1 : o + 1 ≤ j ∧ j < o + 1 + vs.length
    · rw [if_pos h1, if_pos ⟨by omega, by simp; omega⟩, show j - o = (j - (o + 1)) + 1 from by omega]
      simp
    · rw [if_neg h1]
      by_cases h2 : j = o
      · subst h2
        rw [if_pos ⟨Nat.le_refl _, by simp⟩, Nat.sub_self, List.getElem?_set_self (by simp at h; omega)]
        rfl
      · rw [if_neg (by simp; omega), List.getElem?_set_ne (by omega)]
theorem set2_row {cur : List Value} {o i : Nat} {rs : List Hd} {x y : Hd} (hl : o + rs.length * 4 ≤ cur.length) (hc : (cur.drop o).take (rs.length * 4) = rs.flatMap encH) (hx : rs[i]? = some x) :
    o + (rs.set i y).length * 4 ≤ (set2 cur (o + i * 4) (encH y)).length ∧ ((set2 cur (o + i * 4) (encH y)).drop o).take ((rs.set i y).length * 4) = (rs.set i y).flatMap encH := by
  have hi := (List.getElem?_eq_some_iff.1 hx).1
  have h4 : i * 4 + 4 ≤ rs.length * 4 := by omega
  refine ⟨by rw [set2_len, List.length_set]; exact hl, ?_⟩
  rw [List.length_set]
  apply List.ext_getElem?
  intro j
  by_cases hj : j < rs.length * 4
  · rw [List.getElem?_take, if_pos hj, List.getElem?_drop, set2_get _ _ _ _ (by rw [encH_len]; omega), encH_len]
    have hk : j / 4 < rs.length := by omega
    have hk' : j / 4 < (rs.set i y).length := by rw [List.length_set]; exact hk
    have hm : j % 4 < 4 := Nat.mod_lt _ (by omega)
    have hf := getElem?_flat encH_len (rs.set i y) (j / 4) _ (j % 4) _ (List.getElem?_eq_getElem hk') (List.getElem?_eq_getElem (by rw [encH_len]; exact hm))
    rw [show j / 4 * 4 + j % 4 = j from by omega] at hf
    rw [hf]
    by_cases e : j / 4 = i
    · rw [if_pos (by omega)]
      have e2 : (rs.set i y)[j / 4] = y := by subst e; simp
      rw [← List.getElem?_eq_getElem, e2, show o + j - (o + i * 4) = j % 4 from by omega]
    · rw [if_neg (by omega)]
      have e2 : (rs.set i y)[j / 4] = rs[j / 4] := by rw [List.getElem_set_ne (fun h => e h.symm)]
      have hf2 := getElem?_flat encH_len rs (j / 4) _ (j % 4) _ (List.getElem?_eq_getElem hk) (List.getElem?_eq_getElem (by rw [encH_len]; exact hm))
      rw [show j / 4 * 4 + j % 4 = j from by omega, ← hc, List.getElem?_take, if_pos hj, List.getElem?_drop] at hf2
      rw [hf2, ← List.getElem?_eq_getElem, ← List.getElem?_eq_getElem, e2]
  · rw [List.getElem?_take, if_neg hj, List.getElem?_eq_none]
    rw [length_flat encH_len, List.length_set]; omega
/-- A line's own rows, through the iterator's doings, through a store into a box. -/
theorem HdW.own {w w' : World} {base : Nat} {h : Hd} (k : HdW w base h) {row : Option Nat} (hg : w.grownBy w' row) (hr : ∀ r, row = some r → ∃ o : Obj, w.heap[r]? = some o ∧ o.isCells = false) : HdW w' base h := by
  have key : ∀ (g : Nat) (cur : Array Value) (t : TypeId) (z : Nat × Nat), w.heap[g]? = some (Obj.cells cur t z) → w'.heap[g]? = w.heap[g]? := fun g cur t z hc => hg.block g (Array.getElem?_eq_some_iff.1 hc).1 (fun e => by
    obtain ⟨o, ho, hh⟩ := hr g e.symm
    rw [hc] at ho
    injection ho with ho
    subst ho
    cases hh)
  refine ⟨⟨fun hn => ?_, fun hn => ?_⟩, k.c, k.d⟩
  · obtain ⟨g, o, cur, h1, h2, h3, h4⟩ := k.wr.ls hn
    exact ⟨g, o, cur, h1, h2, (key _ _ _ _ h3).trans h3, h4⟩
  · obtain ⟨g, o, cur, h1, h2, h3, h4⟩ := k.wr.cs hn
    exact ⟨g, o, cur, h1, h2, (key _ _ _ _ h3).trans h3, h4⟩
theorem HdW.onl {w w' : World} {base g : Nat} {h : Hd} (k : HdW w base h) (ho : Onl g w w') {cur : Array Value} {t : TypeId} {z : Nat × Nat} (ht : w.heap[g]? = some (.cells cur t z)) (h1 : t ≠ 3) (h2 : t ≠ 60) : HdW w' base h :=
  k.turned (fun j hj _ => ho.block j hj) ht h1 h2
theorem KpS.onl {n₀ N g : Nat} {W w w' : World} (h : KpS n₀ N W w) (ho : Onl g w w') (h1 : n₀ ≤ g) (h2 : g < N) : KpS n₀ N W w' :=
  ⟨h.b.trans ⟨ho.os, ho.tape, ho.output, Nat.le_of_eq ho.size.symm, fun k hk => ho.block k (by omega)⟩, fun k o hk hw hc => (ho.block k (by omega)).trans (h.bx k o hk hw hc)⟩
theorem KeepsFrom.onl {B g : Nat} {W w w' : World} (h : KeepsFrom B W w) (ho : Onl g w w') (h1 : g < B) : KeepsFrom B W w' :=
  ⟨by rw [ho.size]; exact h.size, fun k o hk hw hc => (ho.block k (by omega)).trans (h.same k o hk hw hc)⟩
theorem KeepsFrom.below {B : Nat} {W w : World} (h : Below W.heap.size W w) : KeepsFrom B W w := ⟨h.size, fun k _ _ hk _ => (h.block k (Array.getElem?_eq_some_iff.1 hk).1).trans hk⟩
section
variable {F : Fence} {n : Nat} {P : Program} {ops : Array Oper} {rest : List Oper} {o : Oper} {a : Act} {w : World} {Q : Exit → Act → World → Prop}
/-- A call of a function value. -/
theorem kiCallV (hw : Region.wanted o (yielded ops a.tmps) = true) (x y : Operand) (ts : Array TypeId) (ho : o.op = .call { callee := .value x, args := #[y], argTypes := ts }) {fid : Nat} {lb : Array Value} {v : Value} (hx : a.eval x = .func (.func fid) #[] lb) (hy : a.eval y = v)
    (hf : ∀ w, (callFunc fid (#[v] ++ lb)).run P w = .ok (.enter fid (#[v] ++ lb)) w) (hF : ∀ f, F.fn f) (hn : F.depth.isSome = true → 1 ≤ n) {R : Ending → World → Prop} (hc : CallsIn F (n - 1) P fid (#[v] ++ lb) w R)
    (hR : ∀ e w', R e w' → ∃ u, e = .returned u ∧ wpListIn F n P ops Q rest (a.put o.dst u) w') : wpListIn F n P ops Q (o :: rest) a w :=
  wpListIn_step fun K hK => by
    rw [if_pos hw]
    unfold Oper.wpIn
    refine ⟨fun f _ => hF f, ?_⟩
    rw [Oper.semAt_plain F _ _ (by rw [ho]; intro c hc'; cases hc')]
    have hr : (execOp a.eval o).run P w = .ok (.enter fid (#[v] ++ lb)) w := by
      generalize a.eval = ρ at hx hy
      unfold execOp
      simp [ho, go_sem, hx, hy]
      exact hf w
    rw [hr, Oper.uponIn_enter]
    refine ⟨hn, hc.mono fun e w2 he => ?_⟩
    obtain ⟨u, rfl, h⟩ := hR e w2 he
    exact hK _ _ h
end
end Go.Proofs.YtblbfoniimnkcaaGreatDoor
