/- The walk of lines.Own. -/
import Derived.Test.YtblbfoniimnkcaaGreatDoorLnTurnP
namespace Go.Proofs.YtblbfoniimnkcaaGreatDoor
open Go.RowKit Go.Lib

set_option maxHeartbeats 4000000 in
theorem lOwn_any (l : Ln) (A : Option Addr) (n c : Nat) (B : Option Addr) (m d C : Nat) (hn : n = l.ls.length) (hm : m = l.cs.length) (w : World) (hl : LnAt w C l A B) (h1 : l.ls.length ≤ 1000000000) (h2 : l.cs.length ≤ 1000000000) :
    Calls Tryz.prog 66 #[.agg #[.int .i64 l.q, .slice A n c, .int .i64 l.k, .slice B m d]] w (RetLnO l w) := by
  obtain ⟨q, ls, k, cs⟩ := l
  simp only at hn hm h1 h2 ⊢
  obtain ⟨w2, hw2⟩ : ∃ w2, w2 = (w.alloc (.cells #[.int .i64 q, .slice A n c, .int .i64 k, .slice B m d] 46)).alloc (.cells #[.int .i64 0, .slice none 0 0, .int .i64 0, .slice none 0 0] 46) := ⟨_, rfl⟩
  have hb2 : Below w.heap.size w w2 := by rw [hw2]; exact ((Below.refl _ w).alloc (Nat.le_refl _) _).alloc (by simp) _
  have hsz : w2.heap.size = w.heap.size + 2 := by rw [hw2]; simp
  have p0 : Bx w2 w.heap.size (.int .i64 q) (.slice A n c) (.int .i64 k) (.slice B m d) := by rw [hw2]; exact (Bx.new w _ _ _ _).alloc _
  have p1 : Bx w2 (w.heap.size + 1) (.int .i64 0) (.slice none 0 0) (.int .i64 0) (.slice none 0 0) := by
    rw [hw2, show w.heap.size + 1 = (w.alloc (.cells #[.int .i64 q, .slice A n c, .int .i64 k, .slice B m d] 46)).heap.size from by simp]; exact Bx.new _ _ _ _ _
  have HS := hid (hl.live.below hb2)
  have HB := hid hb2
  have HW := hid hw2
  have HZ := hid hsz
  have HN := hid hn
  have HM := hid hm
  have HP := hid p0
  have HQ := hid p1
  obtain ⟨⟨c0, c1, c2, c3⟩, z0, z1, z2, z3⟩ := p0.cells
  obtain ⟨⟨d0, d1, d2, d3⟩, y0, y1, y2, y3⟩ := p1.cells
  clear hl hn hm hb2 hw2 hsz p0 p1
  go_enter Tryz.func66, Tryz.ntmps66
  go_upto_region 1 with (fail)
  rw [← HW.out]
  have L0 : w.heap.size < w2.heap.size := by rw [HZ.out]; omega
  have L1 : w.heap.size + 1 < w2.heap.size := by rw [HZ.out]; omega
  go_region_with (first
    | (go_at_call 76; refine (cloneI_any A ls _ c _ HN.out _ HS.out.ls.drew h1).mono ?_; rintro e W1 ⟨v, rfl, ho, hb1⟩; obtain ⟨A1, c1', rfl, le1, -, -, -⟩ := ho.form encI_len; (have HO1 := hid ho); (have HB1 : Hid (Below w2.heap.size w2 W1) := hid ((Below.refl w2.heap.size w2).drew.trans hb1)); (have P1 := hid (HP.out.later HB1.out)); (have Q1 := hid (HQ.out.later HB1.out)); obtain ⟨⟨_, _, _, _⟩, _, _, _, _⟩ := P1.out.cells; obtain ⟨⟨_, _, _, _⟩, _, _, _, _⟩ := Q1.out.cells; clear ho hb1)
    | (go_at_call 77; refine (clone_any B cs _ d _ HM.out _ (HS.out.below (HB1.out.mono (Nat.le_of_lt L0))).cs h2).mono ?_; rintro e W2 ⟨v, rfl, ho, hb1⟩; obtain ⟨B1, d1', rfl, le2, -, -, -⟩ := ho.form encC_len; (have HO2 := hid ho); (have HB2 : Hid (Below W1.heap.size W1 W2) := hid hb1); (have P2 := hid (P1.out.later HB2.out)); (have Q2 := hid (Q1.out.later HB2.out)); obtain ⟨⟨_, _, _, _⟩, _, _, _, _⟩ := P2.out.cells; obtain ⟨⟨_, _, _, _⟩, _, _, _, _⟩ := Q2.out.cells; clear ho hb1))
  all_goals go_wp2_with fail
  all_goals (try simp only [Exit.inBlock, Exit.then])
  all_goals
    have w1 : Own encI 1 3 W2 w2.heap.size (.slice A1 ls.length c1') ls := HO1.out.later HB2.out
    have w2' : Own encC 3 60 W2 w2.heap.size (.slice B1 cs.length d1') cs := HO2.out.based HB1.out.size
    have bel := HB.out.trans ((HB1.out.mono (Nat.le_of_lt L0)).trans (HB2.out.mono (Nat.le_trans (Nat.le_of_lt L0) HB1.out.size)))
    have n01 : w.heap.size + 1 ≠ w.heap.size := by omega
    refine Tryz.ret_line Tryz.results66 rfl (w.heap.size + 1) (.int .i64 q) (.slice A1 ls.length c1') (.int .i64 k) (.slice B1 cs.length d1') rfl ?_ ?_
    · refine Bo.bx ?_
      repeat (first | with_reducible refine Bo.set3 ?_ | with_reducible refine Bo.set2 ?_ | with_reducible refine Bo.set1 ?_ | with_reducible refine Bo.set0 ?_ | with_reducible refine Bo.set3n ?_ | with_reducible refine Bo.set2n ?_ | with_reducible refine Bo.set1n ?_ | with_reducible refine Bo.set0n ?_ | with_reducible refine Bo.other n01 _ ?_)
      exact Bo.of Q2.out (by first | exact .inl rfl | exact .inr rfl) (by first | exact .inl rfl | exact .inr rfl) (by first | exact .inl rfl | exact .inr rfl) (by first | exact .inl rfl | exact .inr rfl)
    refine ⟨A1, c1', B1, d1', rfl, ⟨Own.based (base := w2.heap.size) ?_ (Nat.le_of_lt L0), Own.based (base := w2.heap.size) ?_ (Nat.le_of_lt L0)⟩, ?_⟩
    · repeat (first | with_reducible exact w1 | with_reducible refine Own.setLow L0 _ ?_ | with_reducible refine Own.setLow L1 _ ?_)
    · repeat (first | with_reducible exact w2' | with_reducible refine Own.setLow L0 _ ?_ | with_reducible refine Own.setLow L1 _ ?_)
    · repeat (first | with_reducible exact bel | with_reducible refine Below.setHi (Nat.le_refl _) _ ?_ | with_reducible refine Below.setHi (Nat.le_succ _) _ ?_)
end Go.Proofs.YtblbfoniimnkcaaGreatDoor
