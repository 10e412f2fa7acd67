/- The walk of law06's is: what it answers, and what it writes over. (Printed by wip/lnis.py.) -/
import Derived.Test.YtpldmiencoolhaaDoorLnKit
import Derived.Test.YtpldmiencoolhaaDoorLnSame
namespace Go.Proofs.YtpldmiencoolhaaDoor
open Go.RowKit Go.Lib

theorem is_bool {e f q q' kk k' : Int} {ls ls' : List Int} {cs cs' : List Cl} {b : Bool} (h : decide (e = f ∧ (⟨q, ls, kk, cs⟩ : Ln) = ⟨q', ls', k', cs'⟩) = b) : b = (decide (e = f) && (decide (q = q') && (decide (ls = ls') && (decide (kk = k') && decide (cs = cs'))))) := by
  subst h
  rw [Bool.eq_iff_iff]
  simp only [decide_eq_true_eq, Bool.and_eq_true, Ln.eq_iff]
theorem Wr.storeI {w : World} {base : Nat} {A : Option Addr} {xs : List Int} (h : Wr encI 1 3 w base A xs) {k : Nat} (hk : k < xs.length) (y : Int) :
    ∃ ad g o, A = some ad ∧ ad = ⟨g, o, none⟩ ∧ ad.add k = ⟨g, o + k, none⟩ ∧ (∃ u, w.cell? (ad.add k) = some u) ∧ w.frozen? (ad.add k) = false ∧ Wr encI 1 3 (w.setCell (ad.add k) (.int .i64 y)) base A (xs.set k y) ∧ ∃ cur, w.heap[g]? = some (.cells cur 3 (0, 0)) := by
  obtain ⟨g0, o0, cur, e0, _, h3, _⟩ := h (by rintro rfl; simp at hk)
  obtain ⟨g, o, rfl, h2, hc, hf, hw⟩ := h.store encI_len (List.getElem?_eq_getElem hk) (j := 0) (by omega) (.int .i64 y) (y := y) rfl
  injection e0 with e0
  injection e0 with e0 _ _
  subst e0
  have e1 : (⟨g, o, none⟩ : Addr).add k = ⟨g, o + k, none⟩ := by unfold Addr.add; split <;> simp_all
  have e2 : o + (k * 1 + 0) = o + k := by omega
  rw [e2] at hc hf hw
  exact ⟨_, g, o, rfl, rfl, e1, ⟨_, by rw [e1]; exact hc⟩, by rw [e1]; exact hf, by rw [e1]; exact hw, cur, h3⟩
theorem Wr.storeC {w : World} {base : Nat} {A : Option Addr} {xs : List Cl} (h : Wr encC 3 44 w base A xs) {k : Nat} (hk : k < xs.length) (y : Int) :
    ∃ ad g o, A = some ad ∧ ad = ⟨g, o, none⟩ ∧ (⟨(ad.add (k * 3)).block, (ad.add (k * 3)).off + 1, none⟩ : Addr) = ⟨g, o + (k * 3 + 1), none⟩ ∧ (∃ u, w.cell? ⟨(ad.add (k * 3)).block, (ad.add (k * 3)).off + 1, none⟩ = some u) ∧ w.frozen? ⟨(ad.add (k * 3)).block, (ad.add (k * 3)).off + 1, none⟩ = false ∧
      Wr encC 3 44 (w.setCell ⟨(ad.add (k * 3)).block, (ad.add (k * 3)).off + 1, none⟩ (.int .i64 y)) base A (xs.set k ⟨xs[k].r, y, xs[k].h⟩) ∧ ∃ cur, w.heap[g]? = some (.cells cur 44 (0, 0)) := by
  obtain ⟨g0, o0, cur, e0, _, h3, _⟩ := h (by rintro rfl; simp at hk)
  obtain ⟨g, o, rfl, h2, hc, hf, hw⟩ := h.store encC_len (List.getElem?_eq_getElem hk) (j := 1) (by omega) (.int .i64 y) (y := ⟨xs[k].r, y, xs[k].h⟩) rfl
  injection e0 with e0
  injection e0 with e0 _ _
  subst e0
  have e1 : (⟨g, o, none⟩ : Addr).add (k * 3) = ⟨g, o + k * 3, none⟩ := by unfold Addr.add; split <;> simp_all
  have e3 : (⟨((⟨g, o, none⟩ : Addr).add (k * 3)).block, ((⟨g, o, none⟩ : Addr).add (k * 3)).off + 1, none⟩ : Addr) = ⟨g, o + (k * 3 + 1), none⟩ := by rw [e1, Nat.add_assoc]
  exact ⟨_, g, o, rfl, rfl, e3, ⟨_, by rw [e3]; exact hc⟩, by rw [e3]; exact hf, by rw [e3]; exact hw, cur, h3⟩
theorem Wr.otherTy {α : Type} {enc : α → List Value} {sz : Nat} {e e' : TypeId} {w : World} {base : Nat} {A : Option Addr} {xs : List α} (h : Wr enc sz e w base A xs) {g o : Nat} {u : Value} {cur : Array Value} (hg : w.heap[g]? = some (.cells cur e' (0, 0))) (he : e ≠ e') : Wr enc sz e (w.setCell ⟨g, o, none⟩ u) base A xs := fun hn => by
  obtain ⟨g', o', cur', h1, h2, h3, h4⟩ := h hn
  refine ⟨g', o', cur', h1, h2, (Below.heap_setCell _ _ _ _ (fun e1 => ?_)).trans h3, h4⟩
  have e1' : g' = g := e1
  subst e1'
  rw [h3] at hg
  injection hg with hg
  injection hg with _ hg _
  exact he hg

set_option maxRecDepth 100000 in
set_option maxHeartbeats 8000000 in
theorem is6_any (l r : Ln) (A : Option Addr) (n c : Nat) (B : Option Addr) (m d : Nat) (A' : Option Addr) (n' c' : Nat) (B' : Option Addr) (m' d' base C : Nat) (e f : Int) (hn : n = l.ls.length) (hm : m = l.cs.length) (hn' : n' = r.ls.length) (hm' : m' = r.cs.length) (w : World)
    (hl : LnWr w base l A B) (hr : LnAt w C r A' B') (h1 : l.ls.length ≤ 1000000000) (h2 : l.cs.length ≤ 1000000000) :
    Calls Tryd.prog 14 #[.agg #[.int .i64 l.q, .slice A n c, .int .i64 l.k, .slice B m d], .int .i64 e, .agg #[.int .i64 r.q, .slice A' n' c', .int .i64 r.k, .slice B' m' d'], .int .i64 f] w (fun en w' => en = .returned (.bool (decide (e = f ∧ l = r))) ∧ Wrote (RL l A B) w w') := by
  have HD := hid hl
  obtain ⟨lt, ht⟩ : ∃ b, l = b := ⟨_, rfl⟩
  obtain ⟨q, ls, kk, cs⟩ := l
  obtain ⟨q', ls', k', cs'⟩ := r
  simp only at hn hm hn' hm' h1 h2 ⊢
  obtain ⟨w2, hw2⟩ : ∃ w2, w2 = (w.alloc (.cells #[.int .i64 q, .slice A n c, .int .i64 kk, .slice B m d] 25)).alloc (.cells #[.int .i64 q', .slice A' n' c', .int .i64 k', .slice B' m' d'] 25) := ⟨_, rfl⟩
  have hb2 : Below w.heap.size w w2 := by rw [hw2]; exact ((Below.refl _ w).alloc (Nat.le_refl _) _).alloc (by simp) _
  have hsz : w2.heap.size = w.heap.size + 2 := by rw [hw2]; simp
  have p0 : Bx w2 w.heap.size (.int .i64 q) (.slice A n c) (.int .i64 kk) (.slice B m d) := by rw [hw2]; exact (Bx.new w _ _ _ _).alloc _
  have p1 : Bx w2 (w.heap.size + 1) (.int .i64 q') (.slice A' n' c') (.int .i64 k') (.slice B' m' d') := by
    rw [hw2, show w.heap.size + 1 = (w.alloc (.cells #[.int .i64 q, .slice A n c, .int .i64 kk, .slice B m d] 25)).heap.size from by simp]; exact Bx.new _ _ _ _ _
  have HS := hid (hl.at_.below hb2)
  have HS' := hid (hr.live.below hb2)
  have HB := hid hb2
  have HW := hid hw2
  have HN := hid hn
  have HM := hid hm
  have HN' := hid hn'
  have HM' := hid hm'
  have HP := hid p0
  have HQ := hid p1
  have WL := hid (hl.later hb2)
  have NR : Hid (∀ j, ¬ RL ⟨q, ls, kk, cs⟩ A B w.heap.size j) := hid (fun j h => by have := (HD.out.rl_low h).2; omega)
  obtain ⟨⟨c0, c1, c2, c3⟩, z0, z1, z2, z3⟩ := p0.cells
  obtain ⟨⟨d0, d1, d2, d3⟩, y0, y1, y2, y3⟩ := p1.cells
  have L0 : w.heap.size < w2.heap.size := by omega
  have hn1 : n ≤ 1000000000 := by omega
  have hm1 : m ≤ 1000000000 := by omega
  clear hl hr hn hm hn' hm' hb2 hw2 hsz p0 p1 ht lt
  by_cases he : e = f
  · have e0 : (e == f) = true := by simp [he]
    obtain ⟨b, hb⟩ : ∃ b, decide ((⟨q, ls, kk, cs⟩ : Ln) = ⟨q', ls', k', cs'⟩) = b := ⟨_, rfl⟩
    have MB := hid hb
    have M := hid (show decide (e = f ∧ (⟨q, ls, kk, cs⟩ : Ln) = ⟨q', ls', k', cs'⟩) = b by rw [← hb]; simp [he])
    clear hb he
    go_enter Tryd.func14, Tryd.ntmps14
    go_upto_region 1 with (fail)
    rw [← HW.out]
    go_wp2_with (go_at_call 17; refine (refLSame_any ⟨q, ls, kk, cs⟩ ⟨q', ls', k', cs'⟩ A _ c B _ d A' _ c' B' _ d' _ _ HN.out HM.out HN'.out HM'.out _ HS.out HS'.out h1 h2).mono ?_; rintro e W1 ⟨rfl, hb1⟩; rw [MB.out]; (have B1 : Hid (Below w2.heap.size w2 W1) := hid hb1); (have P1 := hid (HP.out.later B1.out)); (have WL1 := hid (WL.out.later B1.out)); clear hb1)
    go_loopw [10] (fun i wr => ∃ (k : Nat) (xs : List Int), k ≤ n ∧ i = .int .i64 k ∧ Hid (xs.length = n) ∧ Hid (Wr encI 1 3 wr base A xs) ∧ Hid (Wr encC 3 44 wr base B cs) ∧ Hid (Bx wr w.heap.size (.int .i64 q) (.slice A n c) (.int .i64 kk) (.slice B m d)) ∧ Hid (Wrote (RL ⟨q, ls, kk, cs⟩ A B) w wr)) (fun i _ => n - (intOf i).toNat)
    case atStart => exact ⟨0, ls, Nat.zero_le _, rfl, HN.out.symm, WL1.out.ls, WL1.out.cs, P1, Wrote.of_below (HB.out.trans (B1.out.mono (Nat.le_of_lt L0)))⟩
    case round =>
      obtain ⟨k, xs, hk, rfl, hxl, hwi, hwc, hbx, hwr⟩ := hrel
      obtain ⟨⟨_, _, _, _⟩, _, _, _, _⟩ := hbx.out.cells
      by_cases hlt : k < n
      · have hi1 : (k : Int) < (n : Int) := by omega
        obtain ⟨ad, g, oo, hA, had, e1, ⟨u0, x0⟩, f0, hw', cur, hcur⟩ := hwi.out.storeI (show k < xs.length by have := hxl.out; omega) 77
        have hgne : w.heap.size ≠ g := fun e => by have h1 := hbx.out; unfold Bx at h1; rw [e, hcur] at h1; injection h1 with h1; injection h1 with _ h1 _; exact absurd h1 (by decide)
        have hR : Hid (RL ⟨q, ls, kk, cs⟩ A B g (oo + k)) := hid (.inl ⟨oo, by rw [hA, had], by omega, by have := HN.out; show oo + k < oo + ls.length; omega⟩)
        have N1 : Hid (Wrote (RL ⟨q, ls, kk, cs⟩ A B) w (wr.setCell (ad.add k) (.int .i64 77))) := hid (by rw [e1]; exact hwr.out.store _ hR.out)
        have N2 := hid hw'
        have N3 : Hid (Wr encC 3 44 (wr.setCell (ad.add k) (.int .i64 77)) base B cs) := hid (by rw [e1]; exact hwc.out.otherTy hcur (by decide))
        have N4 : Hid (Bx (wr.setCell (ad.add k) (.int .i64 77)) w.heap.size (.int .i64 q) (.slice A n c) (.int .i64 kk) (.slice B m d)) := hid (by rw [e1]; exact hbx.out.other hgne _)
        have N5 : Hid ((xs.set k 77).length = n) := hid (by rw [List.length_set]; exact hxl.out)
        subst hA
        clear hw' hcur hgne hR e1 had
        go_wp2
        go_roundw
        case rel => exact ⟨k + 1, xs.set k 77, by omega, by go_num, N5, N2, N3, N4, N1⟩
        case measure => simp [intOf]; omega
      · have hi1 : ¬ ((k : Int) < (n : Int)) := by omega
        go_wp2
        go_loopw [11] (fun i wr => ∃ (k : Nat) (ys : List Cl), k ≤ m ∧ i = .int .i64 k ∧ Hid (ys.length = m) ∧ Hid (Wr encC 3 44 wr base B ys) ∧ Hid (Bx wr w.heap.size (.int .i64 q) (.slice A n c) (.int .i64 kk) (.slice B m d)) ∧ Hid (Wrote (RL ⟨q, ls, kk, cs⟩ A B) w wr)) (fun i _ => m - (intOf i).toNat)
        case atStart => exact ⟨0, cs, Nat.zero_le _, rfl, HM.out.symm, hwc, hbx, hwr⟩
        case round =>
          clear hwi hwc hbx hwr
          obtain ⟨k2, ys, hk2, rfl, hyl, hwc, hbx, hwr⟩ := hrel
          obtain ⟨⟨_, _, _, _⟩, _, _, _, _⟩ := hbx.out.cells
          by_cases hlt2 : k2 < m
          · have hi2 : (k2 : Int) < (m : Int) := by omega
            obtain ⟨ad, g, oo, hA, had, e1, ⟨u0, x0⟩, f0, hw', cur, hcur⟩ := hwc.out.storeC (show k2 < ys.length by have := hyl.out; omega) 77
            have hgne : w.heap.size ≠ g := fun e => by have h1 := hbx.out; unfold Bx at h1; rw [e, hcur] at h1; injection h1 with h1; injection h1 with _ h1 _; exact absurd h1 (by decide)
            have hR : Hid (RL ⟨q, ls, kk, cs⟩ A B g (oo + (k2 * 3 + 1))) := hid (.inr ⟨oo, by rw [hA, had], by omega, by have := HM.out; show oo + (k2 * 3 + 1) < oo + cs.length * 3; omega⟩)
            have N1 : Hid (Wrote (RL ⟨q, ls, kk, cs⟩ A B) w (wr.setCell ⟨(ad.add (k2 * 3)).block, (ad.add (k2 * 3)).off + 1, none⟩ (.int .i64 77))) := hid (by rw [e1]; exact hwr.out.store _ hR.out)
            have N2 := hid hw'
            have N4 : Hid (Bx (wr.setCell ⟨(ad.add (k2 * 3)).block, (ad.add (k2 * 3)).off + 1, none⟩ (.int .i64 77)) w.heap.size (.int .i64 q) (.slice A n c) (.int .i64 kk) (.slice B m d)) := hid (by rw [e1]; exact hbx.out.other hgne _)
            have N5 := hid (show (ys.set k2 ⟨(ys[k2]'(by have := hyl.out; omega)).r, 77, (ys[k2]'(by have := hyl.out; omega)).h⟩).length = m by rw [List.length_set]; exact hyl.out)
            subst hA
            clear hw' hcur hgne hR e1 had
            go_wp2
            go_roundw
            case rel => exact ⟨k2 + 1, _, by omega, by go_num, N5, N2, N4, N1⟩
            case measure => simp [intOf]; omega
          · have hi2 : ¬ ((k2 : Int) < (m : Int)) := by omega
            go_wp2
            go_ret
            exact ⟨ret_bool (is_bool M.out), hwr.out⟩
  · have e0 : (e == f) = false := by simp [he]
    have M := hid (show decide (e = f ∧ (⟨q, ls, kk, cs⟩ : Ln) = ⟨q', ls', k', cs'⟩) = false by simp [he])
    clear he
    go_enter Tryd.func14, Tryd.ntmps14
    go_upto_region 1 with (fail)
    rw [← HW.out]
    go_wp2_with fail
    go_loopw [10] (fun i wr => ∃ (k : Nat) (xs : List Int), k ≤ n ∧ i = .int .i64 k ∧ Hid (xs.length = n) ∧ Hid (Wr encI 1 3 wr base A xs) ∧ Hid (Wr encC 3 44 wr base B cs) ∧ Hid (Bx wr w.heap.size (.int .i64 q) (.slice A n c) (.int .i64 kk) (.slice B m d)) ∧ Hid (Wrote (RL ⟨q, ls, kk, cs⟩ A B) w wr)) (fun i _ => n - (intOf i).toNat)
    case atStart => exact ⟨0, ls, Nat.zero_le _, rfl, HN.out.symm, WL.out.ls, WL.out.cs, HP, Wrote.of_below HB.out⟩
    case round =>
      obtain ⟨k, xs, hk, rfl, hxl, hwi, hwc, hbx, hwr⟩ := hrel
      obtain ⟨⟨_, _, _, _⟩, _, _, _, _⟩ := hbx.out.cells
      by_cases hlt : k < n
      · have hi1 : (k : Int) < (n : Int) := by omega
        obtain ⟨ad, g, oo, hA, had, e1, ⟨u0, x0⟩, f0, hw', cur, hcur⟩ := hwi.out.storeI (show k < xs.length by have := hxl.out; omega) 77
        have hgne : w.heap.size ≠ g := fun e => by have h1 := hbx.out; unfold Bx at h1; rw [e, hcur] at h1; injection h1 with h1; injection h1 with _ h1 _; exact absurd h1 (by decide)
        have hR : Hid (RL ⟨q, ls, kk, cs⟩ A B g (oo + k)) := hid (.inl ⟨oo, by rw [hA, had], by omega, by have := HN.out; show oo + k < oo + ls.length; omega⟩)
        have N1 : Hid (Wrote (RL ⟨q, ls, kk, cs⟩ A B) w (wr.setCell (ad.add k) (.int .i64 77))) := hid (by rw [e1]; exact hwr.out.store _ hR.out)
        have N2 := hid hw'
        have N3 : Hid (Wr encC 3 44 (wr.setCell (ad.add k) (.int .i64 77)) base B cs) := hid (by rw [e1]; exact hwc.out.otherTy hcur (by decide))
        have N4 : Hid (Bx (wr.setCell (ad.add k) (.int .i64 77)) w.heap.size (.int .i64 q) (.slice A n c) (.int .i64 kk) (.slice B m d)) := hid (by rw [e1]; exact hbx.out.other hgne _)
        have N5 : Hid ((xs.set k 77).length = n) := hid (by rw [List.length_set]; exact hxl.out)
        subst hA
        clear hw' hcur hgne hR e1 had
        go_wp2
        go_roundw
        case rel => exact ⟨k + 1, xs.set k 77, by omega, by go_num, N5, N2, N3, N4, N1⟩
        case measure => simp [intOf]; omega
      · have hi1 : ¬ ((k : Int) < (n : Int)) := by omega
        go_wp2
        go_loopw [11] (fun i wr => ∃ (k : Nat) (ys : List Cl), k ≤ m ∧ i = .int .i64 k ∧ Hid (ys.length = m) ∧ Hid (Wr encC 3 44 wr base B ys) ∧ Hid (Bx wr w.heap.size (.int .i64 q) (.slice A n c) (.int .i64 kk) (.slice B m d)) ∧ Hid (Wrote (RL ⟨q, ls, kk, cs⟩ A B) w wr)) (fun i _ => m - (intOf i).toNat)
        case atStart => exact ⟨0, cs, Nat.zero_le _, rfl, HM.out.symm, hwc, hbx, hwr⟩
        case round =>
          clear hwi hwc hbx hwr
          obtain ⟨k2, ys, hk2, rfl, hyl, hwc, hbx, hwr⟩ := hrel
          obtain ⟨⟨_, _, _, _⟩, _, _, _, _⟩ := hbx.out.cells
          by_cases hlt2 : k2 < m
          · have hi2 : (k2 : Int) < (m : Int) := by omega
            obtain ⟨ad, g, oo, hA, had, e1, ⟨u0, x0⟩, f0, hw', cur, hcur⟩ := hwc.out.storeC (show k2 < ys.length by have := hyl.out; omega) 77
            have hgne : w.heap.size ≠ g := fun e => by have h1 := hbx.out; unfold Bx at h1; rw [e, hcur] at h1; injection h1 with h1; injection h1 with _ h1 _; exact absurd h1 (by decide)
            have hR : Hid (RL ⟨q, ls, kk, cs⟩ A B g (oo + (k2 * 3 + 1))) := hid (.inr ⟨oo, by rw [hA, had], by omega, by have := HM.out; show oo + (k2 * 3 + 1) < oo + cs.length * 3; omega⟩)
            have N1 : Hid (Wrote (RL ⟨q, ls, kk, cs⟩ A B) w (wr.setCell ⟨(ad.add (k2 * 3)).block, (ad.add (k2 * 3)).off + 1, none⟩ (.int .i64 77))) := hid (by rw [e1]; exact hwr.out.store _ hR.out)
            have N2 := hid hw'
            have N4 : Hid (Bx (wr.setCell ⟨(ad.add (k2 * 3)).block, (ad.add (k2 * 3)).off + 1, none⟩ (.int .i64 77)) w.heap.size (.int .i64 q) (.slice A n c) (.int .i64 kk) (.slice B m d)) := hid (by rw [e1]; exact hbx.out.other hgne _)
            have N5 := hid (show (ys.set k2 ⟨(ys[k2]'(by have := hyl.out; omega)).r, 77, (ys[k2]'(by have := hyl.out; omega)).h⟩).length = m by rw [List.length_set]; exact hyl.out)
            subst hA
            clear hw' hcur hgne hR e1 had
            go_wp2
            go_roundw
            case rel => exact ⟨k2 + 1, _, by omega, by go_num, N5, N2, N4, N1⟩
            case measure => simp [intOf]; omega
          · have hi2 : ¬ ((k2 : Int) < (m : Int)) := by omega
            go_wp2
            go_ret
            exact ⟨ret_bool (is_bool M.out), hwr.out⟩
end Go.Proofs.YtpldmiencoolhaaDoor
