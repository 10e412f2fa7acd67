/- The walk of the reference's Runs: the runs of a row, in new memory. -/
import Derived.Test.YtgpccjmkghpiiaaAwake5
import Derived.Test.YtgpccjmkghpiiaaWholePlain
import Derived.RegionTactic
import Derived.BigRegion
import Derived.Deep.RegionWith
import Derived.Deep.DeepCutAuto
import Derived.Deep.RegionHeld3
namespace Go.Proofs.Ytgpccjmkghpiiaa
open Go.RowKit

def Alike (x y : Cl) : Prop := x.r ≠ 10 ∧ y.r ≠ 10 ∧ x.b = y.b ∧ x.h = y.h
instance (x y : Cl) : Decidable (Alike x y) := inferInstanceAs (Decidable (_ ∧ _ ∧ _ ∧ _))

set_option maxHeartbeats 1000000 in
theorem alike_any (x y : Cl) (w : World) :
    Calls Try.prog 39 #[.agg #[.int .i32 x.r, .int .i64 x.b, .string x.h], .agg #[.int .i32 y.r, .int .i64 y.b, .string y.h]] w (RetBelow (.bool (decide (Alike x y))) w) := by
  have hb : Below w.heap.size w ((w.alloc (.cells #[.int .i32 x.r, .int .i64 x.b, .string x.h] 33)).alloc (.cells #[.int .i32 y.r, .int .i64 y.b, .string y.h] 33)) := ((Below.refl _ _).alloc (Nat.le_refl _) _).alloc (by simp) _
  by_cases h1 : x.r = 10
  · have hd : decide (Alike x y) = false := decide_eq_false fun h => h.1 h1
    rw [hd]
    have b1 : (x.r != 10) = false := bne_eq_false_iff_eq.2 h1
    clear h1 hd
    go_enter Try.func39, Try.ntmps39
    go_wp2
    go_ret
    exact ⟨rfl, hb⟩
  · have b1 : (x.r != 10) = true := bne_iff_ne.2 h1
    by_cases h2 : y.r = 10
    · have hd : decide (Alike x y) = false := decide_eq_false fun h => h.2.1 h2
      rw [hd]
      have b2 : (y.r != 10) = false := bne_eq_false_iff_eq.2 h2
      clear h1 h2 hd
      go_enter Try.func39, Try.ntmps39
      go_wp2
      go_ret
      exact ⟨rfl, hb⟩
    · have b2 : (y.r != 10) = true := bne_iff_ne.2 h2
      by_cases h3 : x.b = y.b
      · have b3 : (x.b == y.b) = true := beq_iff_eq.2 h3
        by_cases h4 : x.h.toList = y.h.toList
        · have hd : decide (Alike x y) = true := decide_eq_true ⟨h1, h2, h3, toList_inj h4⟩
          rw [hd]
          have b4 : (x.h.toList == y.h.toList) = true := beq_iff_eq.2 h4
          clear h1 h2 h3 h4 hd
          go_enter Try.func39, Try.ntmps39
          go_wp2
          go_ret
          exact ⟨rfl, hb⟩
        · have hd : decide (Alike x y) = false := decide_eq_false fun h => h4 (by rw [h.2.2.2])
          rw [hd]
          have b4 : (x.h.toList == y.h.toList) = false := beq_eq_false_iff_ne.2 h4
          clear h1 h2 h3 h4 hd
          go_enter Try.func39, Try.ntmps39
          go_wp2
          go_ret
          exact ⟨rfl, hb⟩
      · have hd : decide (Alike x y) = false := decide_eq_false fun h => h3 h.2.2.1
        rw [hd]
        have b3 : (x.b == y.b) = false := beq_eq_false_iff_ne.2 h3
        clear h1 h2 h3 hd
        go_enter Try.func39, Try.ntmps39
        go_wp2
        go_ret
        exact ⟨rfl, hb⟩

/-- The reference's row when i cells are over: P, and a last run from f on, of cell c. -/
def RefState (cs : List Cl) (i : Nat) (out : List Rn) : Prop :=
  (i = 0 ∧ out = []) ∨ ∃ (P : List Rn) (f : Nat) (c : Cl), f < i ∧ cs[f]? = some c ∧ out = P ++ [⟨f, i, c.b, c.h, if c.r = 10 then 1 else 0⟩] ∧ runsL cs = P ++ runsFrom cs cs.length f ∧
    (c.r = 10 ∧ i = f + 1 ∨ c.r ≠ 10 ∧ runTo cs c cs.length (f + 1) = runTo cs c cs.length i ∧ ∃ x, cs[i - 1]? = some x ∧ x.r ≠ 10 ∧ x.b = c.b ∧ x.h = c.h)
theorem RefState.len {cs : List Cl} {i : Nat} {out : List Rn} (h : RefState cs i out) (hi : 0 < i) : 0 < out.length := by
  rcases h with ⟨h0, _⟩ | ⟨P, f, c, _, _, rfl, _⟩
  · omega
  · simp
theorem RefState.le {cs : List Cl} {i : Nat} {out : List Rn} (h : RefState cs i out) : out.length ≤ cs.length := by
  rcases h with ⟨h0, rfl⟩ | ⟨P, f, c, hf, hc, rfl, hr, _⟩
  · simp
  · have h1 := congrArg List.length hr
    rw [runsFrom_step cs c f hc, List.length_append, List.length_cons] at h1
    have := length_runsL cs
    simp; omega
/-- y is alike the cell ahead: the last run is one longer. -/
theorem RefState.grow {cs : List Cl} {i : Nat} {out : List Rn} {x y : Cl} (h : RefState cs i out) (hi : 0 < i) (hx : cs[i - 1]? = some x) (hy : cs[i]? = some y) (ha : Alike x y) :
    ∃ P last, out = P ++ [last] ∧ RefState cs (i + 1) (P ++ [⟨last.f, ((i + 1 : Nat) : Int), last.b, last.h, last.k⟩]) := by
  rcases h with ⟨h0, _⟩ | ⟨P, f, c, hf, hc, rfl, hr, ⟨h10, hfi⟩ | ⟨h10, hto, x', hx', e0, e1, e2⟩⟩
  · omega
  · subst hfi
    rw [show f + 1 - 1 = f by omega, hc] at hx
    injection hx with hx
    subst hx
    exact absurd h10 ha.1
  · rw [hx] at hx'
    injection hx' with hx'
    subst hx'
    refine ⟨P, _, rfl, .inr ⟨P, f, c, by omega, hc, rfl, hr, .inr ⟨h10, ?_, y, by simpa using hy, ha.2.1, ?_, ?_⟩⟩⟩
    · rw [hto]
      exact runTo_step cs c y i hy ⟨ha.2.1, by rw [← ha.2.2.1, e1], by rw [← ha.2.2.2, e2]⟩
    · rw [← ha.2.2.1, e1]
    · rw [← ha.2.2.2, e2]
theorem RefState.done {cs : List Cl} {i : Nat} {out : List Rn} (h : RefState cs i out) (hn : ∀ x y, cs[i - 1]? = some x → cs[i]? = some y → 0 < i → ¬ Alike x y) (hi : 0 < i) : runsL cs = out ++ runsFrom cs cs.length i := by
  rcases h with ⟨h0, _⟩ | ⟨P, f, c, hf, hc, rfl, hr, ⟨h10, hfi⟩ | ⟨h10, hto, x, hx, e0, e1, e2⟩⟩
  · omega
  · rw [hr, runsFrom_step cs c f hc]
    subst hfi
    unfold runAt nextRun
    rw [if_pos h10, if_pos h10, if_pos h10]
    simp
  · have hst : runTo cs c cs.length i = i := runTo_stop cs c i (fun y hy he => hn x y hx hy hi ⟨e0, he.1, by rw [e1, he.2.1], by rw [e2, he.2.2]⟩) _
    rw [hr, runsFrom_step cs c f hc]
    unfold runAt nextRun
    rw [if_neg h10, if_neg h10, if_neg h10, hto, hst]
    simp
/-- y is unlike the cell ahead, or there is none: a new run. -/
theorem RefState.next {cs : List Cl} {i : Nat} {out : List Rn} {y : Cl} (h : RefState cs i out) (hy : cs[i]? = some y) (hn : ∀ x, cs[i - 1]? = some x → 0 < i → ¬ Alike x y) :
    RefState cs (i + 1) (out ++ [⟨i, ((i + 1 : Nat) : Int), y.b, y.h, if y.r = 10 then 1 else 0⟩]) := by
  have hr : runsL cs = out ++ runsFrom cs cs.length i := by
    rcases Nat.eq_zero_or_pos i with h0 | h0
    · rcases h with ⟨_, rfl⟩ | ⟨P, f, c, hf, _⟩
      · subst h0; rfl
      · omega
    · exact h.done (fun x z hx hz hp => by rw [hy] at hz; injection hz with hz; subst hz; exact hn x hx hp) h0
  refine .inr ⟨out, i, y, by omega, hy, rfl, hr, ?_⟩
  by_cases h10 : y.r = 10
  · exact .inl ⟨h10, rfl⟩
  · exact .inr ⟨h10, rfl, y, by simpa using hy, h10, rfl, rfl⟩

theorem flat_setN (P : List Rn) (x : Rn) (v : Int) : ((P ++ [x]).flatMap encN).set (P.length * 5 + 1) (.int .i64 v) = (P ++ [(⟨x.f, v, x.b, x.h, x.k⟩ : Rn)]).flatMap encN := by
  induction P with
  | nil => rfl
  | cons y ys ih =>
    rw [List.cons_append, List.flatMap_cons, List.cons_append, List.flatMap_cons, ← ih]
    show (_ :: _ :: _ :: _ :: _ :: (ys ++ [x]).flatMap encN).set ((ys.length + 1) * 5 + 1) _ = _ :: _ :: _ :: _ :: _ :: _
    rw [show (ys.length + 1) * 5 + 1 = (ys.length * 5 + 1) + 1 + 1 + 1 + 1 + 1 from by omega]
    rfl

set_option maxRecDepth 100000 in
set_option maxHeartbeats 8000000 in
theorem refRuns_any (A : Option Addr) (cs : List Cl) (m c B : Nat) (hm : m = cs.length) (w : World) (hA : SlAt encC 3 w B A cs) (hl : cs.length ≤ 1000000000) :
    Calls Try.prog 24 #[.slice A m c] w (RetOwn encN 5 31 w (runsL cs)) := by
  subst hm
  have hS := hA.live (fun _ => by rw [encC_len]; omega)
  clear hA
  go_enter Try.func24, Try.ntmps24
  go_wp2
  go_loopw [3, 4] (fun s3 s4 wr => ∃ (i : Nat) (out : List Rn), s4 = .int .i64 i ∧ i ≤ cs.length ∧ Own encN 5 31 wr w.heap.size s3 out ∧ Hid (RefState cs i out) ∧ Below w.heap.size w wr) (fun _ s4 _ => cs.length - (intOf s4).toNat)
  case atStart => exact ⟨0, [], rfl, Nat.zero_le _, Own.nil, .inl ⟨rfl, rfl⟩, Below.refl _ _⟩
  case round =>
    obtain ⟨i, out, rfl, hin, hown, hst, hbr⟩ := hrel
    have hsz := hbr.size
    have hole := hst.out.le
    by_cases hlt : i < cs.length
    · have hi1 : (i : Int) < (cs.length : Int) := by omega
      obtain ⟨ad, y, rfl, had, hy, y0, y1, y2⟩ := (hS.below hbr).atC hlt
      have HY := hid hy
      clear hy
      obtain ⟨b, hb, hbt, hbf⟩ : ∃ b : Bool, (i = 0 ∧ b = false ∨ ∃ (j : Nat) (x : Cl), i = j + 1 ∧ b = decide (Alike x y) ∧ cs[j]? = some x ∧ wr.cell? (ad.add (j * 3)) = some (.int .i32 x.r) ∧ wr.cell? ⟨(ad.add (j * 3)).block, (ad.add (j * 3)).off + 1, none⟩ = some (.int .i64 x.b) ∧ wr.cell? ⟨(ad.add (j * 3)).block, (ad.add (j * 3)).off + 2, none⟩ = some (.string x.h)) ∧
          (b = true → ∃ P last, out = P ++ [last] ∧ RefState cs (i + 1) (P ++ [⟨last.f, ((i + 1 : Nat) : Int), last.b, last.h, last.k⟩])) ∧
          (b = false → RefState cs (i + 1) (out ++ [⟨i, ((i + 1 : Nat) : Int), y.b, y.h, if y.r = 10 then 1 else 0⟩])) := by
        rcases Nat.eq_zero_or_pos i with h0 | h0
        · exact ⟨false, .inl ⟨h0, rfl⟩, (fun h => by cases h), fun _ => hst.out.next HY.out fun x _ hp => by omega⟩
        · obtain ⟨j, rfl⟩ : ∃ j, i = j + 1 := ⟨i - 1, by omega⟩
          obtain ⟨ad', x, e', -, hx, x0, x1, x2⟩ := (hS.below hbr).atC (show j < cs.length by omega)
          injection e' with e'
          subst e'
          refine ⟨decide (Alike x y), .inr ⟨j, x, rfl, rfl, hx, x0, x1, x2⟩, fun h => hst.out.grow h0 (by simpa using hx) HY.out (of_decide_eq_true h), fun h => hst.out.next HY.out fun z hz _ => ?_⟩
          rw [show j + 1 - 1 = j by omega, hx] at hz
          injection hz with hz
          subst hz
          exact of_decide_eq_false h
      have HBT := hid hbt
      have HBF := hid hbf
      clear hbt hbf
      go_upto_region 5 with (fail)
      go_cut [25] (fun s25 wx => s25 = .bool b ∧ Below wr.heap.size wr wx)
      case first =>
        rcases hb with ⟨rfl, rfl⟩ | ⟨j, x, rfl, rfl, hx, x0, x1, x2⟩
        · have hg : decide ((0 : Int) < (0 : Int)) = false := by decide
          go_quiet (fail)
          go_wp2_with fail
          go_meet
          exact ⟨rfl, below_drewN (Below.refl _ _) _⟩
        · clear hx
          have hg : decide ((0 : Int) < (j : Int) + 1) = true := decide_eq_true (by omega)
          have hj1 : (j : Int) < (cs.length : Int) := by omega
          have hj2 : (ad.add (j * 3)).block < wr.heap.size := by rw [block_add]; omega
          have hj3 : (ad.add ((j + 1) * 3)).block < wr.heap.size := by rw [block_add]; omega
          have k1 : IntKind.i64.wrap ((j : Int) + 1 - 1) = (j : Int) := by rw [show (j : Int) + 1 - 1 = (j : Int) from by omega]; exact IntWalk.i64_in _ (by omega)
          have k2 : IntKind.i64.wrap (j : Int) = (j : Int) := IntWalk.i64_in _ (by omega)
          have k3 : (0 : Int) ≤ (j : Int) := by omega
          have k4 : (0 : Int) ≤ (j : Int) + 1 := by omega
          have k5 : (j : Int) + 1 < (cs.length : Int) := by omega
          have k6 : ((j : Int) + 1).toNat = j + 1 := by omega
          go_region_held3 (fun w' => (w'.cell? (ad.add (j * 3)) = some (.int .i32 x.r) ∧ w'.cell? ⟨(ad.add (j * 3)).block, (ad.add (j * 3)).off + 1, none⟩ = some (.int .i64 x.b) ∧ w'.cell? ⟨(ad.add (j * 3)).block, (ad.add (j * 3)).off + 2, none⟩ = some (.string x.h)) ∧ w'.cell? (ad.add ((j + 1) * 3)) = some (.int .i32 y.r) ∧ w'.cell? ⟨(ad.add ((j + 1) * 3)).block, (ad.add ((j + 1) * 3)).off + 1, none⟩ = some (.int .i64 y.b) ∧ w'.cell? ⟨(ad.add ((j + 1) * 3)).block, (ad.add ((j + 1) * 3)).off + 2, none⟩ = some (.string y.h))
            (first | exact ⟨⟨x0, x1, x2⟩, y0, y1, y2⟩ | exact ⟨⟨(hb'.cell (p := ad.add (j * 3)) hj2).trans x0, (hb'.cell (p := ⟨(ad.add (j * 3)).block, (ad.add (j * 3)).off + 1, none⟩) hj2).trans x1, (hb'.cell (p := ⟨(ad.add (j * 3)).block, (ad.add (j * 3)).off + 2, none⟩) hj2).trans x2⟩, (hb'.cell (p := ad.add ((j + 1) * 3)) hj3).trans y0, (hb'.cell (p := ⟨(ad.add ((j + 1) * 3)).block, (ad.add ((j + 1) * 3)).off + 1, none⟩) hj3).trans y1, (hb'.cell (p := ⟨(ad.add ((j + 1) * 3)).block, (ad.add ((j + 1) * 3)).off + 2, none⟩) hj3).trans y2⟩)
            (first | (go_at_call 39; refine (alike_any x y _).mono ?_; rintro e w' ⟨rfl, hb'⟩))
          all_goals
            go_wp2_with fail
            go_meet
            exact ⟨rfl, ((Below.refl _ _).drew).trans hb'⟩
      case rest =>
        obtain ⟨rfl, hbx⟩ := hcut
        obtain ⟨wx, rfl⟩ : ∃ wx : World, wx = wc := ⟨_, rfl⟩
        have hown2 := hown.later hbx
        have hbr2 := hbr.trans (hbx.mono hsz)
        have hsz2 := hbr2.size
        have hq1 : (ad.add (i * 3)).block < wx.heap.size := by rw [block_add]; have := hbx.size; omega
        have z0 : wx.cell? (ad.add (i * 3)) = some (.int .i32 y.r) := (hbx.cell (p := ad.add (i * 3)) (by rw [block_add]; omega)).trans y0
        have z1 : wx.cell? ⟨(ad.add (i * 3)).block, (ad.add (i * 3)).off + 1, none⟩ = some (.int .i64 y.b) := (hbx.cell (p := ⟨(ad.add (i * 3)).block, (ad.add (i * 3)).off + 1, none⟩) (by rw [block_add]; omega)).trans y1
        have z2 : wx.cell? ⟨(ad.add (i * 3)).block, (ad.add (i * 3)).off + 2, none⟩ = some (.string y.h) := (hbx.cell (p := ⟨(ad.add (i * 3)).block, (ad.add (i * 3)).off + 2, none⟩) (by rw [block_add]; omega)).trans y2
        clear y0 y1 y2 hb
        cases b with
        | true =>
          obtain ⟨P, last, rfl, hnext⟩ := HBT.out rfl
          have HNX := hid hnext
          clear hnext
          obtain ⟨g, cq, rfl, hg1, hg2, -⟩ := hown2.shapeN encN_len (P.length + 1) (by simp) (by omega)
          have hown3 := hown2
          unfold Own at hown3
          rw [show (P ++ [last]).length = P.length + 1 from by simp] at hown3
          have hfz := World.ownsRow.frozenAt hown3 (P.length * 5 + 1)
          have hce : wx.cell? ⟨g, P.length * 5 + 1, none⟩ = some (.int .i64 last.t) := by
            rw [World.ownsRow.cellAt hown3 (P.length * 5 + 1) (by omega)]
            exact getElem?_flat encN_len _ P.length last 1 _ (by simp) rfl
          have hst3 := (World.ownsRow.stored hown3 (P.length * 5 + 1) (.int .i64 ((i + 1 : Nat) : Int))).1
          rw [flat_setN] at hst3
          have HST : Own encN 5 31 (wx.setCell ⟨g, P.length * 5 + 1, none⟩ (.int .i64 ((i + 1 : Nat) : Int))) w.heap.size (.slice (some ⟨g, 0, none⟩) (P.length + 1) cq) (P ++ [⟨last.f, ((i + 1 : Nat) : Int), last.b, last.h, last.k⟩]) := by
            unfold Own
            rw [show (P ++ [(⟨last.f, ((i + 1 : Nat) : Int), last.b, last.h, last.k⟩ : Rn)]).length = P.length + 1 from by simp]
            exact hst3
          have hpl : P.length < cs.length := by have := hole; simp at this; omega
          clear hst3 hown3 hown hown2 hole
          go_wp2
          go_roundw
          case rel => exact ⟨i + 1, _, by go_num, by omega, HST, HNX, hbr2.setCell (p := ⟨g, P.length * 5 + 1, none⟩) hg1 _⟩
          case measure => simp [intOf]; omega
        | false =>
          have HST := hid (HBF.out rfl)
          by_cases h10 : y.r = 10
          · have b10 : (y.r == 10) = true := beq_iff_eq.2 h10
            rw [if_pos h10] at HST
            clear h10
            go_wp2
            go_region
            go_wp2_with (at_builtin; refine wpList_app1g (w := (wx.alloc (.cells #[.int .i64 i, .int .i64 (i + 1), .int .i64 y.b, .string y.h, .int .i64 1] 31)).drew) (cs := #[.int .i64 i, .int .i64 (i + 1), .int .i64 y.b, .string y.h, .int .i64 1]) (e' := 31) Try.okN rfl (.tmp 55) (.tmp 57) 28 rfl Try.underlying28 w.heap.size _ out rfl (hown2.alloc _) ⟨i, ((i + 1 : Nat) : Int), y.b, y.h, 1⟩ rfl (wx.heap.size + 1) rfl (by simp [go_sem]) (by omega) (by simp [go_sem]; omega) ?_; intro v' w1 hown' hb' _)
            go_wp2
            go_roundw
            case rel => exact ⟨i + 1, _, by go_num, by omega, hown', HST, hbr2.trans (((Below.refl _ _).alloc hsz2 _).drew.trans hb')⟩
            case measure => simp [intOf]; omega
          · have b10 : (y.r == 10) = false := beq_eq_false_iff_ne.2 h10
            rw [if_neg h10] at HST
            clear h10
            go_wp2
            go_region
            go_wp2_with (at_builtin; refine wpList_app1g (w := (wx.alloc (.cells #[.int .i64 i, .int .i64 (i + 1), .int .i64 y.b, .string y.h, .int .i64 0] 31)).drew) (cs := #[.int .i64 i, .int .i64 (i + 1), .int .i64 y.b, .string y.h, .int .i64 0]) (e' := 31) Try.okN rfl (.tmp 55) (.tmp 57) 28 rfl Try.underlying28 w.heap.size _ out rfl (hown2.alloc _) ⟨i, ((i + 1 : Nat) : Int), y.b, y.h, 0⟩ rfl (wx.heap.size + 1) rfl (by simp [go_sem]) (by omega) (by simp [go_sem]; omega) ?_; intro v' w1 hown' hb' _)
            go_wp2
            go_roundw
            case rel => exact ⟨i + 1, _, by go_num, by omega, hown', HST, hbr2.trans (((Below.refl _ _).alloc hsz2 _).drew.trans hb')⟩
            case measure => simp [intOf]; omega
    · have he : i = cs.length := by omega
      have hend : runsL cs = out := by
        have hs := hst.out
        rcases Nat.eq_zero_or_pos i with h0 | h0
        · rcases hs with ⟨_, rfl⟩ | ⟨P, f, c', hf, _⟩
          · unfold runsL; rw [← he, h0]; rfl
          · omega
        · have h1 := hs.done (fun x z _ hz _ => by rw [List.getElem?_eq_none (by omega)] at hz; cases hz) h0
          rw [runsFrom_end cs i (by omega), List.append_nil] at h1
          exact h1
      have HE := hid hend
      clear hend he
      go_wp2
      go_ret
      exact ⟨_, rfl, by rw [HE.out]; exact hown, hbr⟩
end Go.Proofs.Ytgpccjmkghpiiaa
