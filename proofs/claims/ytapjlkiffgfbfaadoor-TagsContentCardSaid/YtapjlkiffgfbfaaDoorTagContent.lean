/- The walk of the law TagsContent. -/
import Derived.Test.YtapjlkiffgfbfaaDoorTagAwake
namespace Go.Proofs.YtapjlkiffgfbfaaDoor
open Go.RowKit Go.Lib

theorem may_pair (k c : Int) : mayA 9 k (classT 9) c = mayA 2 k (classT 2) c ∧ mayA 6 k (classT 6) c = mayA 1 k (classT 1) c ∧ mayA 8 k (classT 8) c = mayA 7 k (classT 7) c := by
  have e9 : classT 9 = 3 := rfl
  have e2 : classT 2 = 3 := rfl
  have e6 : classT 6 = 2 := rfl
  have e1 : classT 1 = 2 := rfl
  have e8 : classT 8 = 2 := rfl
  have e7 : classT 7 = 2 := rfl
  rw [e9, e2, e6, e1, e8, e7]
  refine ⟨?_, ?_, ?_⟩ <;> simp [mayA]
/-- What the law asks of an answer that is yes. -/
theorem may_yes {p k cp c : Int} (hc : classT k = c) (h : mayA p k cp c = true) : (k == 1) = false ∧ ((cp = 2 ∧ (c = 2 ∨ c = 3)) ∨ ((cp = 3 ∨ cp = 4) ∧ (c = 4 ∨ c = 5 ∨ c = 1))) := by
  have h0 := of_decide_eq_true h
  have h1 : k = 1 → c = 2 := fun e => by rw [← hc, e]; rfl
  have h2 : (cp = 2 ∧ (c = 2 ∨ c = 3)) ∨ ((cp = 3 ∨ cp = 4) ∧ (c = 4 ∨ c = 5 ∨ c = 1)) := by
    rcases h0 with ⟨a, ⟨_, b⟩ | ⟨_, _, _, _, b⟩⟩ | ⟨a, b⟩
    · refine .inl ⟨a, ?_⟩
      rcases b with e | e | e <;> (rw [← hc, e]; decide)
    · exact .inl ⟨a, b⟩
    · exact .inr ⟨by omega, b⟩
  refine ⟨beq_eq_false_iff_ne.2 fun e => ?_, h2⟩
  have h3 := h1 e
  rcases h0 with ⟨a, ⟨_, b⟩ | ⟨_, _, b, _, _⟩⟩ | ⟨a, b⟩ <;> omega

set_option maxRecDepth 100000 in
set_option maxHeartbeats 8000000 in
theorem tagsContent_walk (w : World) (p : Int) (_ : (Lit.int .i64 p).wf = true) (k : Int) (_ : (Lit.int .i64 k).wf = true) (hT : Lib.Utf8Tabs 0 1 w) : Calls Tryd.prog 6 #[.int .i64 p, .int .i64 k] w fun e w' => e = .returned (.bool true) ∧ Below w.heap.size w w' := by
  have T := hid hT
  obtain ⟨cp, hp⟩ : ∃ cp, classT p = cp := ⟨_, rfl⟩
  obtain ⟨c, hc⟩ : ∃ c, classT k = c := ⟨_, rfl⟩
  obtain ⟨m, hm⟩ : ∃ m, mayA p k cp c = m := ⟨_, rfl⟩
  obtain ⟨t9, t6, t8⟩ := may_pair k c
  obtain ⟨r2, h2⟩ : ∃ r, mayA 2 k (classT 2) c = r := ⟨_, rfl⟩
  obtain ⟨r1, h1⟩ : ∃ r, mayA 1 k (classT 1) c = r := ⟨_, rfl⟩
  obtain ⟨r7, h7⟩ : ∃ r, mayA 7 k (classT 7) c = r := ⟨_, rfl⟩
  rw [h2] at t9
  rw [h1] at t6
  rw [h7] at t8
  have hyes := fun h => may_yes (p := p) (cp := cp) hc (hm.trans h)
  have HP := hid hp
  have HC := hid hc
  have HM := hid hm
  have H2 := hid h2
  have H1 := hid h1
  have H7 := hid h7
  have H9 := hid t9
  have H6 := hid t6
  have H8 := hid t8
  have q2 : (r2 == r2) = true := by simp
  have q1 : (r1 == r1) = true := by simp
  have q7 : (r7 == r7) = true := by simp
  have Bx := hid (Below.refl w.heap.size w)
  clear hT hp hc hm h2 h1 h7 t9 t6 t8
  cases m with
  | false =>
    clear hyes
    go_enter Tryd.func6, Tryd.ntmps6
    go_wp2_with (first
      | (go_at_call 20; refine (class_any _ _).mono ?_; rintro e w1 ⟨rfl, hb1⟩; (first | rw [HP.out] | rw [HC.out]); (have By := hid (Bx.out.trans (hb1.mono Bx.out.size))); clear hb1 Bx; (have Bx := By); clear By)
      | (go_at_call 17; refine (may_any _ _ _).mono ?_; rintro e w1 ⟨rfl, hb1⟩; rw [HC.out]; (first | rw [HP.out, HM.out] | rw [H2.out] | rw [H9.out] | rw [H1.out] | rw [H6.out] | rw [H7.out] | rw [H8.out]); (have By := hid (Bx.out.trans (hb1.mono Bx.out.size))); clear hb1 Bx; (have Bx := By); clear By)
      | (go_at_call 14; refine (awake2_any _ (Utf8Tabs_below T.out Bx.out)).mono ?_; rintro e w1 ⟨rfl, hb1⟩; (have By := hid (Bx.out.trans (hb1.mono Bx.out.size))); clear hb1 Bx; (have Bx := By); clear By))
    go_ret
    exact ⟨rfl, Bx.out⟩
  | true =>
    obtain ⟨k1, hcs⟩ := hyes rfl
    clear hyes
    rcases hcs with ⟨rfl, rfl | rfl⟩ | ⟨rfl | rfl, rfl | rfl | rfl⟩
    all_goals
      go_enter Tryd.func6, Tryd.ntmps6
      go_wp2_with (first
        | (go_at_call 20; refine (class_any _ _).mono ?_; rintro e w1 ⟨rfl, hb1⟩; (first | rw [HP.out] | rw [HC.out]); (have By := hid (Bx.out.trans (hb1.mono Bx.out.size))); clear hb1 Bx; (have Bx := By); clear By)
        | (go_at_call 17; refine (may_any _ _ _).mono ?_; rintro e w1 ⟨rfl, hb1⟩; rw [HC.out]; (first | rw [HP.out, HM.out] | rw [H2.out] | rw [H9.out] | rw [H1.out] | rw [H6.out] | rw [H7.out] | rw [H8.out]); (have By := hid (Bx.out.trans (hb1.mono Bx.out.size))); clear hb1 Bx; (have Bx := By); clear By)
        | (go_at_call 14; refine (awake2_any _ (Utf8Tabs_below T.out Bx.out)).mono ?_; rintro e w1 ⟨rfl, hb1⟩; (have By := hid (Bx.out.trans (hb1.mono Bx.out.size))); clear hb1 Bx; (have Bx := By); clear By))
      go_ret
      exact ⟨rfl, Bx.out⟩
end Go.Proofs.YtapjlkiffgfbfaaDoor
