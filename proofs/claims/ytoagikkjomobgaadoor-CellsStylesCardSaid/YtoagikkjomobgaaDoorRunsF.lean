/- The walk of cells.runs' iterator, under a fence: for every loop body that keeps what lay below, and every box of one run. -/
import Derived.RangeFuncNested
import Derived.RangeFuncBound
import Derived.RangeFuncCalls
import Derived.RangeFuncLeaves
import Derived.RangeFuncBox
import Derived.Shelf.Abstract
import Derived.Shelf.RegionOpen
import Derived.OwnWalkIn
import Derived.TacticsInMore
import Derived.LoopNIn
import Derived.LoopIn
import Derived.Test.YtoagikkjomobgaaDoorCells2
namespace Go.Proofs.YtoagikkjomobgaaDoor
open Go.RowKit Go.Shelf
attribute [local go_sem] Oper.semAt_some

def encsN (x : Rn) : Array Value := #[.agg #[.int .i64 x.f, .int .i64 x.t, .int .i64 x.b, .string x.h, .int .i64 x.k]]
/-- What a round keeps: what lay below n₀, block Bs, and every box of one run. -/
def KpN (t : TypeId) (n₀ Bs : Nat) (W W' : World) : Prop := (Below n₀ W W' ∧ (Bs < W.heap.size → W'.heap[Bs]? = W.heap[Bs]?)) ∧ ∀ (k : Nat) (c : Array Value), W.heap[k]? = some (.cells c t (0, 0)) → c.size = 5 → W'.heap[k]? = some (.cells c t (0, 0))

/-- The number in a cell: for a loop's measure. -/
def cellNat (w : World) (a : Addr) : Nat := match w.cell? a with | some v => (intOf v).toNat | none => 0
theorem grown_none {w w' : World} (h : Below w.heap.size w w') : w.grownBy w' none := ⟨h.os, h.tape, h.output, h.size, fun i hi _ => h.block i hi⟩
theorem cellNat_lit (w : World) (a b c d e : Value) (t : TypeId) (q : Nat) : cellNat ((w.alloc (.cells #[a, b, c, d, e] t)).drewN q) ⟨w.heap.size, 1, none⟩ = (intOf b).toNat := by
  have : ((w.alloc (.cells #[a, b, c, d, e] t)).drewN q).cell? ⟨w.heap.size, 1, none⟩ = some b := cell_of_row _ _ 1 _ t (0, 0) (heap_alloc_new w _)
  unfold cellNat
  rw [this]

theorem set_to (w : World) (a b c d e v : Value) (t : TypeId) (q : Nat) : ((w.alloc (.cells #[a, b, c, d, e] t)).drewN q).setCell ⟨w.heap.size, 1, none⟩ v = (w.alloc (.cells #[a, v, c, d, e] t)).drewN q := by
  have h : (w.alloc (.cells #[a, b, c, d, e] t)).setCell ⟨w.heap.size, 1, none⟩ v = w.alloc (.cells #[a, v, c, d, e] t) := World.setCell_alloc_at _ _ _ _ _ rfl
  rw [← h]; rfl

set_option maxRecDepth 100000 in
set_option maxHeartbeats 4000000 in
theorem runs1_in (n : Nat) (l Bs n₀ : Nat) (A : Option Addr) (cs : List Cl) (cp : Nat) (hl : cs.length ≤ 1000000000) (J Jx : List Rn → World → Prop)
    (W : World) (hBs : Bs < W.heap.size) (hJ : AbidesFrom W.heap.size J) (hn₀ : n₀ ≤ W.heap.size)
    (hY : ∀ pre x W, J pre W → pre.length < cs.length → YieldAt Fence.wide (n - 1) Tryd.prog l (encsN x) W fun e W' =>
      (e = .returned (.bool true) ∧ J (pre ++ [x]) W' ∧ KpN 42 n₀ Bs W W') ∨ (e = .returned (.bool false) ∧ Jx (pre ++ [x]) W'))
    (hb : W.cell? ⟨Bs, 0, none⟩ = some (.slice A cs.length cp)) (hS : SlAt encC 3 W n₀ A cs) (h0 : J [] W) :
    CallsIn Fence.wide n Tryd.prog 38 #[.func (.yield l) #[] #[], .pointer (some ⟨Bs, 0, none⟩)] W fun e W' => (∃ v, e = .returned v) ∧
      ((∃ ys, ys = runsL cs ∧ J ys W') ∨ (∃ pre, pre <+: runsL cs ∧ Jx pre W')) := by
  have HY := hid hY
  have HJ := hid hJ
  clear hY hJ
  refine callsIn_of_wp Tryd.func38 rfl trivial ?_ rfl
  simp only [Tryd.ntmps38, List.size_toArray, List.length_cons, List.length_nil, Nat.reduceAdd, Nat.reduceSub, Array.replicate_succ, Array.replicate_zero, List.push_toArray, List.append_toArray, List.nil_append, List.cons_append]
  gi_wp2
  gi_loopw [3] (fun i wr => ∃ (k : Nat) (pre : List Rn), k ≤ cs.length ∧ i = .int .i64 k ∧ Hid (runsL cs = pre ++ runsFrom cs cs.length k) ∧ J pre wr ∧ Below n₀ W wr ∧ Hid (wr.heap[Bs]? = W.heap[Bs]?))
    (fun i _ => cs.length - (intOf i).toNat)
  case atStart => exact ⟨0, [], Nat.zero_le _, rfl, rfl, h0, Below.refl _ _, rfl⟩
  case round =>
    obtain ⟨k, pre, hk, rfl, hpre, hJs, hbw, hbox⟩ := hrel
    have hsz := hbw.size
    have hbr : wr.cell? ⟨Bs, 0, none⟩ = some (.slice A cs.length cp) := (World.cell?_of_block (a := ⟨Bs, 0, none⟩) hbox.out).trans hb
    by_cases hlt : k < cs.length
    · have hi1 : (k : Int) < (cs.length : Int) := by omega
      obtain ⟨ad, x, rfl, had, hx, x0, x1, x2⟩ := (hS.below hbw).atC hlt
      have HX := hid hx
      clear hx hb
      have hq1 : Bs < wr.heap.size := by omega
      have hq2 : (ad.add (k * 3)).block < wr.heap.size := by rw [block_add]; omega
      have hpl : pre.length < cs.length := by
        have h1 := congrArg List.length hpre.out
        rw [runsFrom_step cs x k HX.out, List.length_append, List.length_cons] at h1
        have h2 := length_runsFrom cs cs.length 0
        unfold runsL at h1
        omega
      have HSTEP : Hid (runsL cs = pre ++ runAt cs x k :: runsFrom cs cs.length (nextRun cs x k)) := hpre.out.trans (by rw [runsFrom_step cs x k HX.out])
      by_cases h10 : x.r = 10
      · have b10 : (x.r == 10) = true := beq_iff_eq.2 h10
        have e1 : runAt cs x k = ⟨k, k + 1, x.b, x.h, 1⟩ := by unfold runAt; rw [if_pos h10]
        have e2 : nextRun cs x k = k + 1 := by unfold nextRun; rw [if_pos h10]
        have HNX : Hid (runsL cs = (pre ++ [⟨k, k + 1, x.b, x.h, 1⟩]) ++ runsFrom cs cs.length (k + 1)) := by
          show _ = _
          rw [HSTEP.out, e1, e2]; simp
        have HPF : pre ++ [⟨k, k + 1, x.b, x.h, 1⟩] <+: runsL cs := ⟨_, HNX.out.symm⟩
        clear h10 e1 e2
        gi_wp2
        gi_region
        gi_wp2
        gi_loopw [] (fun wq => ∃ q, wq = (wr.alloc (.cells #[.int .i64 k, .int .i64 (k + 1), .int .i64 x.b, .string x.h, .int .i64 1] 42)).drewN q) (fun _ => 0)
        case atStart => exact ⟨1, rfl⟩
        case round =>
        obtain ⟨q, rfl⟩ := hrel
        gi_wp2
        gi_quiet (fail)
        gi_wp2
        have hJ4 : J pre ((wr.alloc (.cells #[.int .i64 k, .int .i64 (k + 1), .int .i64 x.b, .string x.h, .int .i64 1] 42)).drewN (q + nq)) := HJ.out _ _ _ none hJs (grown_none (below_drewN ((Below.refl _ wr).alloc (Nat.le_refl _) _) _)) (fun r h => by cases h)
        obtain ⟨fn, tmps, assign, body, hy, hR⟩ := HY.out pre ⟨k, k + 1, x.b, x.h, 1⟩ _ hJ4 (by omega)
        dsimp only [encsN] at hy
        rw [hy, Oper.uponIn_round]
        refine ⟨(fun h => by cases h), hR.mono ?_⟩
        rintro e W3 (⟨rfl, hJ3, hk3⟩ | ⟨rfl, hJx3⟩)
        · have hto : W3.cell? ⟨wr.heap.size, 1, none⟩ = some (.int .i64 (k + 1)) := cell_of_row _ _ 1 _ 42 (0, 0) (hk3.2 wr.heap.size _ (heap_alloc_new wr _) rfl)
          have hbx3 : Hid (W3.heap[Bs]? = W.heap[Bs]?) := ((hk3.1.2 (by simp; omega)).trans (heap_alloc_old wr _ Bs hq1)).trans hbox.out
          have hbw3 : Below n₀ W W3 := (hbw.trans (below_drewN ((Below.refl n₀ wr).alloc (by omega) _) _)).trans hk3.1.1
          gi_wp2
          go_roundw
          case rel => exact ⟨k + 1, pre ++ [⟨k, k + 1, x.b, x.h, 1⟩], by omega, by first | rfl | go_num, HNX, hJ3, hbw3, hbx3⟩
          case measure => simp [intOf]; omega
        · gi_wp2
          refine bodyPost_ret (results_none rfl _ _ _) rfl ?_
          exact ⟨⟨_, rfl⟩, .inr ⟨_, HPF, hJx3⟩⟩
      · have b10 : (x.r == 10) = false := beq_eq_false_iff_ne.2 h10
        have e1 : runAt cs x k = ⟨k, runTo cs x cs.length (k + 1), x.b, x.h, 0⟩ := by unfold runAt; rw [if_neg h10]
        have e2 : nextRun cs x k = runTo cs x cs.length (k + 1) := by unfold nextRun; rw [if_neg h10]
        have HNXT : ∀ j : Nat, runTo cs x cs.length (k + 1) = j → runsL cs = (pre ++ [⟨k, j, x.b, x.h, 0⟩]) ++ runsFrom cs cs.length j ∧ pre ++ [⟨k, j, x.b, x.h, 0⟩] <+: runsL cs := fun j hj => by
          subst hj
          have h1 : runsL cs = (pre ++ [⟨k, runTo cs x cs.length (k + 1), x.b, x.h, 0⟩]) ++ runsFrom cs cs.length (runTo cs x cs.length (k + 1)) := by
            rw [HSTEP.out, e1, e2]; simp
          exact ⟨h1, ⟨_, h1.symm⟩⟩
        have HN := hid HNXT
        clear h10 e1 e2 HNXT
        gi_wp2
        gi_region
        gi_wp2
        gi_loopw [] (fun wq => ∃ j q : Nat, k + 1 ≤ j ∧ j ≤ cs.length ∧ Hid (runTo cs x cs.length (k + 1) = runTo cs x cs.length j) ∧ wq = (wr.alloc (.cells #[.int .i64 k, .int .i64 j, .int .i64 x.b, .string x.h, .int .i64 0] 42)).drewN q) (fun wq => cs.length - cellNat wq ⟨wr.heap.size, 1, none⟩)
        case atStart => exact ⟨k + 1, 1, by omega, by omega, rfl, rfl⟩
        case round =>
        obtain ⟨j, q, hkj, hjn, hto, rfl⟩ := hrel
        have stop : (∀ y, cs[j]? = some y → ¬ (y.r ≠ 10 ∧ y.b = x.b ∧ y.h = x.h)) → Hid (runsL cs = (pre ++ [⟨k, j, x.b, x.h, 0⟩]) ++ runsFrom cs cs.length j ∧ pre ++ [⟨k, j, x.b, x.h, 0⟩] <+: runsL cs) := fun h => HN.out j (hto.out.trans (runTo_stop cs x j h _))
        by_cases hjl : j < cs.length
        · have hi2 : (j : Int) < (cs.length : Int) := by omega
          obtain ⟨ad2, y, e2, -, hy, y0, y1, y2⟩ := (hS.below hbw).atC hjl
          injection e2 with e2
          subst e2
          have hq3 : (ad.add (j * 3)).block < wr.heap.size := by rw [block_add]; omega
          rcases (show y.r = 10 ∨ (¬ y.r = 10 ∧ ¬ y.b = x.b) ∨ (¬ y.r = 10 ∧ y.b = x.b ∧ ¬ y.h.toList = x.h.toList) ∨ (¬ y.r = 10 ∧ y.b = x.b ∧ y.h.toList = x.h.toList) from by
            by_cases h1 : y.r = 10
            · exact .inl h1
            · by_cases h2 : y.b = x.b
              · by_cases h3 : y.h.toList = x.h.toList
                · exact .inr (.inr (.inr ⟨h1, h2, h3⟩))
                · exact .inr (.inr (.inl ⟨h1, h2, h3⟩))
              · exact .inr (.inl ⟨h1, h2⟩)) with h1 | ⟨h1, h2⟩ | ⟨h1, h2, h3⟩ | ⟨h1, h2, h3⟩
          · have HNX := stop fun z hz h => h.1 (by rw [hy] at hz; injection hz with hz; subst hz; exact h1)
            have c1 : (y.r != 10) = false := bne_eq_false_iff_eq.2 h1
            clear h1 hy stop
            gi_wp2
            gi_quiet (fail)
            gi_wp2
            have hJ4 : J pre ((wr.alloc (.cells #[.int .i64 k, .int .i64 j, .int .i64 x.b, .string x.h, .int .i64 0] 42)).drewN (q + nq)) := HJ.out _ _ _ none hJs (grown_none (below_drewN ((Below.refl _ wr).alloc (Nat.le_refl _) _) _)) (fun r h => by cases h)
            obtain ⟨fn, tmps, assign, body, hy, hR⟩ := HY.out pre ⟨k, j, x.b, x.h, 0⟩ _ hJ4 (by omega)
            dsimp only [encsN] at hy
            rw [hy, Oper.uponIn_round]
            refine ⟨(fun h => by cases h), hR.mono ?_⟩
            rintro e W3 (⟨rfl, hJ3, hk3⟩ | ⟨rfl, hJx3⟩)
            · have hto : W3.cell? ⟨wr.heap.size, 1, none⟩ = some (.int .i64 j) := cell_of_row _ _ 1 _ 42 (0, 0) (hk3.2 wr.heap.size _ (heap_alloc_new wr _) rfl)
              have hbx3 : Hid (W3.heap[Bs]? = W.heap[Bs]?) := ((hk3.1.2 (by simp; omega)).trans (heap_alloc_old wr _ Bs hq1)).trans hbox.out
              have hbw3 : Below n₀ W W3 := (hbw.trans (below_drewN ((Below.refl n₀ wr).alloc (by omega) _) _)).trans hk3.1.1
              gi_wp2
              go_roundw
              case rel => exact ⟨j, pre ++ [⟨k, j, x.b, x.h, 0⟩], hjn, by first | rfl | go_num, hid HNX.out.1, hJ3, hbw3, hbx3⟩
              case measure => simp [intOf]; omega
            · gi_wp2
              refine bodyPost_ret (results_none rfl _ _ _) rfl ?_
              exact ⟨⟨_, rfl⟩, .inr ⟨_, HNX.out.2, hJx3⟩⟩
          · have HNX := stop fun z hz h => h2 (by rw [hy] at hz; injection hz with hz; subst hz; exact h.2.1)
            have c1 : (y.r != 10) = true := bne_iff_ne.2 h1
            have c2 : (y.b == x.b) = false := beq_eq_false_iff_ne.2 h2
            clear h1 h2 hy stop
            gi_wp2
            gi_quiet (fail)
            gi_wp2
            have hJ4 : J pre ((wr.alloc (.cells #[.int .i64 k, .int .i64 j, .int .i64 x.b, .string x.h, .int .i64 0] 42)).drewN (q + nq)) := HJ.out _ _ _ none hJs (grown_none (below_drewN ((Below.refl _ wr).alloc (Nat.le_refl _) _) _)) (fun r h => by cases h)
            obtain ⟨fn, tmps, assign, body, hy, hR⟩ := HY.out pre ⟨k, j, x.b, x.h, 0⟩ _ hJ4 (by omega)
            dsimp only [encsN] at hy
            rw [hy, Oper.uponIn_round]
            refine ⟨(fun h => by cases h), hR.mono ?_⟩
            rintro e W3 (⟨rfl, hJ3, hk3⟩ | ⟨rfl, hJx3⟩)
            · have hto : W3.cell? ⟨wr.heap.size, 1, none⟩ = some (.int .i64 j) := cell_of_row _ _ 1 _ 42 (0, 0) (hk3.2 wr.heap.size _ (heap_alloc_new wr _) rfl)
              have hbx3 : Hid (W3.heap[Bs]? = W.heap[Bs]?) := ((hk3.1.2 (by simp; omega)).trans (heap_alloc_old wr _ Bs hq1)).trans hbox.out
              have hbw3 : Below n₀ W W3 := (hbw.trans (below_drewN ((Below.refl n₀ wr).alloc (by omega) _) _)).trans hk3.1.1
              gi_wp2
              go_roundw
              case rel => exact ⟨j, pre ++ [⟨k, j, x.b, x.h, 0⟩], hjn, by first | rfl | go_num, hid HNX.out.1, hJ3, hbw3, hbx3⟩
              case measure => simp [intOf]; omega
            · gi_wp2
              refine bodyPost_ret (results_none rfl _ _ _) rfl ?_
              exact ⟨⟨_, rfl⟩, .inr ⟨_, HNX.out.2, hJx3⟩⟩
          · have HNX := stop fun z hz h => h3 (by rw [hy] at hz; injection hz with hz; subst hz; rw [h.2.2])
            have c1 : (y.r != 10) = true := bne_iff_ne.2 h1
            have c2 : (y.b == x.b) = true := beq_iff_eq.2 h2
            have c3 : (y.h.toList == x.h.toList) = false := beq_eq_false_iff_ne.2 h3
            clear h1 h2 h3 hy stop
            gi_wp2
            gi_quiet (fail)
            gi_wp2
            have hJ4 : J pre ((wr.alloc (.cells #[.int .i64 k, .int .i64 j, .int .i64 x.b, .string x.h, .int .i64 0] 42)).drewN (q + nq)) := HJ.out _ _ _ none hJs (grown_none (below_drewN ((Below.refl _ wr).alloc (Nat.le_refl _) _) _)) (fun r h => by cases h)
            obtain ⟨fn, tmps, assign, body, hy, hR⟩ := HY.out pre ⟨k, j, x.b, x.h, 0⟩ _ hJ4 (by omega)
            dsimp only [encsN] at hy
            rw [hy, Oper.uponIn_round]
            refine ⟨(fun h => by cases h), hR.mono ?_⟩
            rintro e W3 (⟨rfl, hJ3, hk3⟩ | ⟨rfl, hJx3⟩)
            · have hto : W3.cell? ⟨wr.heap.size, 1, none⟩ = some (.int .i64 j) := cell_of_row _ _ 1 _ 42 (0, 0) (hk3.2 wr.heap.size _ (heap_alloc_new wr _) rfl)
              have hbx3 : Hid (W3.heap[Bs]? = W.heap[Bs]?) := ((hk3.1.2 (by simp; omega)).trans (heap_alloc_old wr _ Bs hq1)).trans hbox.out
              have hbw3 : Below n₀ W W3 := (hbw.trans (below_drewN ((Below.refl n₀ wr).alloc (by omega) _) _)).trans hk3.1.1
              gi_wp2
              go_roundw
              case rel => exact ⟨j, pre ++ [⟨k, j, x.b, x.h, 0⟩], hjn, by first | rfl | go_num, hid HNX.out.1, hJ3, hbw3, hbx3⟩
              case measure => simp [intOf]; omega
            · gi_wp2
              refine bodyPost_ret (results_none rfl _ _ _) rfl ?_
              exact ⟨⟨_, rfl⟩, .inr ⟨_, HNX.out.2, hJx3⟩⟩
          · have HT : Hid (runTo cs x cs.length (k + 1) = runTo cs x cs.length (j + 1)) := hto.out.trans (runTo_step cs x y j hy ⟨h1, h2, toList_inj h3⟩)
            have c1 : (y.r != 10) = true := bne_iff_ne.2 h1
            have c2 : (y.b == x.b) = true := beq_iff_eq.2 h2
            have c3 : (y.h.toList == x.h.toList) = true := beq_iff_eq.2 h3
            clear h1 h2 h3 hy stop
            gi_wp2
            gi_quiet (fail)
            gi_wp2
            go_roundw
            case rel => exact ⟨j + 1, q + nq, by omega, by omega, HT, set_to _ _ _ _ _ _ _ _ _⟩
            case measure => rw [set_to, cellNat_lit, cellNat_lit]; simp [intOf]; omega
        · have HNX := stop fun z hz => absurd ((List.getElem?_eq_some_iff.1 hz).1) hjl
          have hi2 : ¬ ((j : Int) < (cs.length : Int)) := by omega
          clear stop
          gi_wp2
          gi_quiet (fail)
          gi_wp2
          have hJ4 : J pre ((wr.alloc (.cells #[.int .i64 k, .int .i64 j, .int .i64 x.b, .string x.h, .int .i64 0] 42)).drewN (q + nq)) := HJ.out _ _ _ none hJs (grown_none (below_drewN ((Below.refl _ wr).alloc (Nat.le_refl _) _) _)) (fun r h => by cases h)
          obtain ⟨fn, tmps, assign, body, hy, hR⟩ := HY.out pre ⟨k, j, x.b, x.h, 0⟩ _ hJ4 (by omega)
          dsimp only [encsN] at hy
          rw [hy, Oper.uponIn_round]
          refine ⟨(fun h => by cases h), hR.mono ?_⟩
          rintro e W3 (⟨rfl, hJ3, hk3⟩ | ⟨rfl, hJx3⟩)
          · have hto : W3.cell? ⟨wr.heap.size, 1, none⟩ = some (.int .i64 j) := cell_of_row _ _ 1 _ 42 (0, 0) (hk3.2 wr.heap.size _ (heap_alloc_new wr _) rfl)
            have hbx3 : Hid (W3.heap[Bs]? = W.heap[Bs]?) := ((hk3.1.2 (by simp; omega)).trans (heap_alloc_old wr _ Bs hq1)).trans hbox.out
            have hbw3 : Below n₀ W W3 := (hbw.trans (below_drewN ((Below.refl n₀ wr).alloc (by omega) _) _)).trans hk3.1.1
            gi_wp2
            go_roundw
            case rel => exact ⟨j, pre ++ [⟨k, j, x.b, x.h, 0⟩], hjn, by first | rfl | go_num, hid HNX.out.1, hJ3, hbw3, hbx3⟩
            case measure => simp [intOf]; omega
          · gi_wp2
            refine bodyPost_ret (results_none rfl _ _ _) rfl ?_
            exact ⟨⟨_, rfl⟩, .inr ⟨_, HNX.out.2, hJx3⟩⟩
    · have he : k = cs.length := by omega
      gi_wp2
      refine bodyPost_end (results_none rfl _ _ _) rfl ?_
      refine ⟨⟨_, rfl⟩, .inl ⟨pre, ?_, hJs⟩⟩
      have := hpre.out
      rw [runsFrom_end cs k (by omega), List.append_nil] at this
      exact this.symm
end Go.Proofs.YtoagikkjomobgaaDoor
