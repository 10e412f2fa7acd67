/- The walks of lines.Same and of the reference's Same. (Printed by wip/lnmay.py.) -/
import Derived.Test.YtblbfoniimnkcaaGreatDoorLnBox
namespace Go.Proofs.YtblbfoniimnkcaaGreatDoor
open Go.RowKit Go.Lib

theorem Below_quiet {B : Nat} {a w w' : World} (h : Below B a w) (k : ∃ q, w' = w.drewN q) : Below B a w' := by
  obtain ⟨q, rfl⟩ := k
  exact below_drewN h q
theorem SlAt_quiet {α : Type} {enc : α → List Value} {sz : Nat} {w w' : World} {B : Nat} {A : Option Addr} {xs : List α} (h : SlAt enc sz w B A xs) (k : ∃ q, w' = w.drewN q) : SlAt enc sz w' B A xs := by
  obtain ⟨q, rfl⟩ := k
  exact h
theorem quiet_quiet {w w' w2 : World} (h : ∃ q, w' = w.drewN q) (k : ∃ q, w2 = w'.drewN q) : ∃ q, w2 = w.drewN q := by
  obtain ⟨q, rfl⟩ := h
  obtain ⟨r, rfl⟩ := k
  exact ⟨_, World.drewN_drewN _ _ _⟩

set_option maxHeartbeats 4000000 in
theorem refLSame_any (l l' : Ln) (A : Option Addr) (n c : Nat) (B : Option Addr) (m d : Nat) (A' : Option Addr) (n' c' : Nat) (B' : Option Addr) (m' d' C C' : Nat) (hn : n = l.ls.length) (hm : m = l.cs.length) (hn' : n' = l'.ls.length) (hm' : m' = l'.cs.length) (w : World)
    (hl : LnAt w C l A B) (hl' : LnAt w C' l' A' B') (h1 : l.ls.length ≤ 1000000000) (h2 : l.cs.length ≤ 1000000000) :
    Calls Tryz.prog 56 #[.agg #[.int .i64 l.q, .slice A n c, .int .i64 l.k, .slice B m d], .agg #[.int .i64 l'.q, .slice A' n' c', .int .i64 l'.k, .slice B' m' d']] w (IsBool (decide (l = l')) w) := by
  obtain ⟨q, ls, k, cs⟩ := l
  obtain ⟨q', ls', k', cs'⟩ := l'
  simp only at hn hm hn' hm' h1 h2 ⊢
  have B0 := hid (((Below.refl w.heap.size w).alloc (Nat.le_refl _) (.cells #[.int .i64 q, .slice A n c, .int .i64 k, .slice B m d] 46)).alloc (by simp) (.cells #[.int .i64 q', .slice A' n' c', .int .i64 k', .slice B' m' d'] 46))
  have HS : Hid (LnAt ((w.alloc (.cells #[.int .i64 q, .slice A n c, .int .i64 k, .slice B m d] 46)).alloc (.cells #[.int .i64 q', .slice A' n' c', .int .i64 k', .slice B' m' d'] 46)) w.heap.size ⟨q, ls, k, cs⟩ A B) := hid (hl.live.belowM B0.out (Nat.le_refl _))
  have HS' : Hid (LnAt ((w.alloc (.cells #[.int .i64 q, .slice A n c, .int .i64 k, .slice B m d] 46)).alloc (.cells #[.int .i64 q', .slice A' n' c', .int .i64 k', .slice B' m' d'] 46)) w.heap.size ⟨q', ls', k', cs'⟩ A' B') := hid (hl'.live.belowM B0.out (Nat.le_refl _))
  have HN := hid hn
  have HM := hid hm
  have HN' := hid hn'
  have HM' := hid hm'
  clear hl hl' hn hm hn' hm'
  obtain ⟨r, hr⟩ : ∃ r, decide ((⟨q, ls, k, cs⟩ : Ln) = ⟨q', ls', k', cs'⟩) = r := ⟨_, rfl⟩
  have HR := hid hr
  rw [hr]
  clear hr
  by_cases eq : q = q'
  rotate_left
  · have bq : (q == q') = false := beq_eq_false_iff_ne.2 eq
    have M := hid (show r = false by rw [← HR.out]; refine decide_eq_false fun e => ?_; injection e with e1 e2 e3 e4; exact eq e1)
    clear eq
    go_enter Tryz.func56, Tryz.ntmps56
    go_wp2_with fail
    go_ret
    exact ⟨ret_bool M.out.symm, B0.out⟩
  subst eq
  have bq : (q == q) = true := beq_self_eq_true _
  cases hls : decide (ls = ls') with
  | false =>
    have HEls := hid hls
    have M := hid (show r = false by rw [← HR.out]; refine decide_eq_false fun e => ?_; injection e with e1 e2 e3 e4; exact of_decide_eq_false hls e2)
    clear hls
    go_enter Tryz.func56, Tryz.ntmps56
    go_wp2_with (first
      | (go_at_call 67; refine (refInts_any A A' ls ls' _ _ c c' _ _ HN.out HN'.out _ HS.out.ls HS'.out.ls h1).mono ?_; rintro e w1 ⟨rfl, q1, rfl⟩; rw [HEls.out]))
    go_ret
    exact ⟨ret_bool M.out.symm, by first | exact below_drewN B0.out _ | exact below_drewN (below_drewN B0.out _) _⟩
  | true =>
    have HEls := hid hls
    by_cases ek : k = k'
    rotate_left
    · have bk : (k == k') = false := beq_eq_false_iff_ne.2 ek
      have M := hid (show r = false by rw [← HR.out]; refine decide_eq_false fun e => ?_; injection e with e1 e2 e3 e4; exact ek e3)
      clear hls ek
      go_enter Tryz.func56, Tryz.ntmps56
      go_wp2_with (first
        | (go_at_call 67; refine (refInts_any A A' ls ls' _ _ c c' _ _ HN.out HN'.out _ HS.out.ls HS'.out.ls h1).mono ?_; rintro e w1 ⟨rfl, q1, rfl⟩; rw [HEls.out]))
      go_ret
      exact ⟨ret_bool M.out.symm, by first | exact below_drewN B0.out _ | exact below_drewN (below_drewN B0.out _) _⟩
    subst ek
    have bk : (k == k) = true := beq_self_eq_true _
    cases hcs : decide (cs = cs') with
    | false =>
      have HEcs := hid hcs
      have M := hid (show r = false by rw [← HR.out]; refine decide_eq_false fun e => ?_; injection e with e1 e2 e3 e4; exact of_decide_eq_false hcs e4)
      clear hls hcs
      go_enter Tryz.func56, Tryz.ntmps56
      go_wp2_with (first
        | (go_at_call 67; refine (refInts_any A A' ls ls' _ _ c c' _ _ HN.out HN'.out _ HS.out.ls HS'.out.ls h1).mono ?_; rintro e w1 ⟨rfl, q1, rfl⟩; rw [HEls.out])
        | (go_at_call 68; refine (refSame_any B B' cs cs' _ _ d d' _ _ HM.out HM'.out _ (HS.out.cs.drewN q1) (HS'.out.cs.drewN q1) h2).mono ?_; rintro e w2 ⟨rfl, q2, rfl⟩; rw [HEcs.out]))
      go_ret
      exact ⟨ret_bool M.out.symm, by first | exact below_drewN B0.out _ | exact below_drewN (below_drewN B0.out _) _⟩
    | true =>
      have HEcs := hid hcs
      have M := hid (show r = true by rw [← HR.out]; refine decide_eq_true ?_; exact Ln.ext' rfl (of_decide_eq_true HEls.out) rfl (of_decide_eq_true HEcs.out))
      clear hls hcs
      go_enter Tryz.func56, Tryz.ntmps56
      go_wp2_with (first
        | (go_at_call 67; refine (refInts_any A A' ls ls' _ _ c c' _ _ HN.out HN'.out _ HS.out.ls HS'.out.ls h1).mono ?_; rintro e w1 ⟨rfl, q1, rfl⟩; rw [HEls.out])
        | (go_at_call 68; refine (refSame_any B B' cs cs' _ _ d d' _ _ HM.out HM'.out _ (HS.out.cs.drewN q1) (HS'.out.cs.drewN q1) h2).mono ?_; rintro e w2 ⟨rfl, q2, rfl⟩; rw [HEcs.out]))
      go_ret
      exact ⟨ret_bool M.out.symm, by first | exact below_drewN B0.out _ | exact below_drewN (below_drewN B0.out _) _⟩
end Go.Proofs.YtblbfoniimnkcaaGreatDoor
