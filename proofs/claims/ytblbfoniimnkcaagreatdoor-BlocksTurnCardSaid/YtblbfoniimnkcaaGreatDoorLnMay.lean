/- The walk of lines.May. (Printed by wip/lnmay.py.) -/
import Derived.Test.YtblbfoniimnkcaaGreatDoorLnBox
namespace Go.Proofs.YtblbfoniimnkcaaGreatDoor
open Go.RowKit Go.Lib

set_option maxRecDepth 100000 in
set_option maxHeartbeats 4000000 in
theorem lMay_any (l : Ln) (A : Option Addr) (n c : Nat) (B : Option Addr) (m d C : Nat) (hn : n = l.ls.length) (hm : m = l.cs.length) (w : World) (hl : LnAt w C l A B) (h1 : l.ls.length ≤ 1000000000) (h2 : l.cs.length ≤ 1000000000) (hf : FineC l.cs) (hT : Tb w) :
    Calls Tryz.prog 60 #[.agg #[.int .i64 l.q, .slice A n c, .int .i64 l.k, .slice B m d]] w (IsBool (mayL l) w) := by
  obtain ⟨q, ls, k, cs⟩ := l
  simp only at hn hm h1 h2 hf ⊢
  have HL := hid hl.live
  have HF := hid hf
  have HN := hid hn
  have HM := hid hm
  have B0 := hid ((Below.refl w.heap.size w).alloc (Nat.le_refl _) (.cells #[.int .i64 q, .slice A n c, .int .i64 k, .slice B m d] 46))
  have HS : Hid (LnAt (w.alloc (.cells #[.int .i64 q, .slice A n c, .int .i64 k, .slice B m d] 46)) w.heap.size ⟨q, ls, k, cs⟩ A B) := hid (HL.out.belowM B0.out (Nat.le_refl _))
  have T := hid hT
  clear hT hl hf hn hm
  by_cases q0 : q < 0
  · have M := hid (show mayL ⟨q, ls, k, cs⟩ = false by unfold mayL; simp only [decide_eq_true q0]; simp)
    go_enter Tryz.func60, Tryz.ntmps60
    go_wp2_with fail
    go_ret
    exact ⟨ret_bool M.out.symm, B0.out⟩
  · skip
    by_cases q6 : 6 < q
    · have M := hid (show mayL ⟨q, ls, k, cs⟩ = false by unfold mayL; simp only [decide_eq_true q6]; simp)
      go_enter Tryz.func60, Tryz.ntmps60
      go_wp2_with fail
      go_ret
      exact ⟨ret_bool M.out.symm, B0.out⟩
    · skip
      by_cases n6 : 6 < (n : Int)
      · have M := hid (show mayL ⟨q, ls, k, cs⟩ = false by unfold mayL; have hh : 6 < ls.length := (by have := HN.out; omega); simp only [decide_eq_true hh]; simp)
        go_enter Tryz.func60, Tryz.ntmps60
        go_wp2_with fail
        go_ret
        exact ⟨ret_bool M.out.symm, B0.out⟩
      · skip
        by_cases k0 : k < 0
        · have M := hid (show mayL ⟨q, ls, k, cs⟩ = false by unfold mayL; simp only [decide_eq_true k0]; simp)
          go_enter Tryz.func60, Tryz.ntmps60
          go_wp2_with fail
          go_ret
          exact ⟨ret_bool M.out.symm, B0.out⟩
        · skip
          by_cases k3 : 3 < k
          · have M := hid (show mayL ⟨q, ls, k, cs⟩ = false by unfold mayL; simp only [decide_eq_true k3]; simp)
            go_enter Tryz.func60, Tryz.ntmps60
            go_wp2_with fail
            go_ret
            exact ⟨ret_bool M.out.symm, B0.out⟩
          · skip
            by_cases n0 : 0 < (n : Int)
            · by_cases kz : k = 0
              · have kb : (k != 0) = false := by rw [kz]; rfl
                have KZ := hid kz
                clear kz
                cases hh : ls.any badI with
                | true =>
                  have HH := hid hh
                  have M := hid (show mayL ⟨q, ls, k, cs⟩ = false by unfold mayL okI; simp only [hh]; simp)
                  clear hh
                  go_enter Tryz.func60, Tryz.ntmps60
                  go_wp2_with (first
                    | (go_at_call 70; refine (hasI_any A ls _ c _ HN.out _ HS.out.ls h1).mono ?_; rintro e w1 ⟨rfl, rfl⟩; rw [HH.out]))
                  go_ret
                  exact ⟨ret_bool M.out.symm, B0.out⟩
                | false =>
                  have HH := hid hh
                  obtain ⟨b, hb⟩ : ∃ b, mayCs cs = b := ⟨_, rfl⟩
                  have HC := hid hb
                  have M := hid (show mayL ⟨q, ls, k, cs⟩ = b by unfold mayL okI; have g6 : ¬ 6 < ls.length := (by have := HN.out; omega); have gg : (decide (0 < ls.length) && decide (k ≠ 0)) = false := (by rw [KZ.out]; simp); simp only [hh, hb, decide_eq_false q0, decide_eq_false q6, decide_eq_false g6, decide_eq_false k0, decide_eq_false k3, gg]; simp)
                  clear hh hb
                  go_enter Tryz.func60, Tryz.ntmps60
                  go_wp2_with (first
                    | (go_at_call 70; refine (hasI_any A ls _ c _ HN.out _ HS.out.ls h1).mono ?_; rintro e w1 ⟨rfl, rfl⟩; rw [HH.out])
                    | (go_at_call 72; refine (mayCells_any B cs _ d _ HM.out _ HS.out.cs h2 HF.out (Utf8Tabs_below T.out B0.out)).mono ?_; rintro e w1 ⟨rfl, hb1⟩; rw [HC.out]; (have B1 := hid (B0.out.trans (hb1.mono B0.out.size))); clear hb1))
                  go_ret
                  exact ⟨ret_bool M.out.symm, B1.out⟩
              · have kb : (k != 0) = true := by simpa using kz
                have M := hid (show mayL ⟨q, ls, k, cs⟩ = false by unfold mayL; have hh : 0 < ls.length := (by have := HN.out; omega); simp only [decide_eq_true hh, decide_eq_true kz]; simp)
                clear kz
                go_enter Tryz.func60, Tryz.ntmps60
                go_wp2_with fail
                go_ret
                exact ⟨ret_bool M.out.symm, B0.out⟩
            · skip
              cases hh : ls.any badI with
              | true =>
                have HH := hid hh
                have M := hid (show mayL ⟨q, ls, k, cs⟩ = false by unfold mayL okI; simp only [hh]; simp)
                clear hh
                go_enter Tryz.func60, Tryz.ntmps60
                go_wp2_with (first
                  | (go_at_call 70; refine (hasI_any A ls _ c _ HN.out _ HS.out.ls h1).mono ?_; rintro e w1 ⟨rfl, rfl⟩; rw [HH.out]))
                go_ret
                exact ⟨ret_bool M.out.symm, B0.out⟩
              | false =>
                have HH := hid hh
                obtain ⟨b, hb⟩ : ∃ b, mayCs cs = b := ⟨_, rfl⟩
                have HC := hid hb
                have M := hid (show mayL ⟨q, ls, k, cs⟩ = b by unfold mayL okI; have g6 : ¬ 6 < ls.length := (by have := HN.out; omega); have gg : (decide (0 < ls.length) && decide (k ≠ 0)) = false := (by have hz : ¬ 0 < ls.length := (by have := HN.out; omega); rw [decide_eq_false hz]; rfl); simp only [hh, hb, decide_eq_false q0, decide_eq_false q6, decide_eq_false g6, decide_eq_false k0, decide_eq_false k3, gg]; simp)
                clear hh hb
                go_enter Tryz.func60, Tryz.ntmps60
                go_wp2_with (first
                  | (go_at_call 70; refine (hasI_any A ls _ c _ HN.out _ HS.out.ls h1).mono ?_; rintro e w1 ⟨rfl, rfl⟩; rw [HH.out])
                  | (go_at_call 72; refine (mayCells_any B cs _ d _ HM.out _ HS.out.cs h2 HF.out (Utf8Tabs_below T.out B0.out)).mono ?_; rintro e w1 ⟨rfl, hb1⟩; rw [HC.out]; (have B1 := hid (B0.out.trans (hb1.mono B0.out.size))); clear hb1))
                go_ret
                exact ⟨ret_bool M.out.symm, B1.out⟩
end Go.Proofs.YtblbfoniimnkcaaGreatDoor
