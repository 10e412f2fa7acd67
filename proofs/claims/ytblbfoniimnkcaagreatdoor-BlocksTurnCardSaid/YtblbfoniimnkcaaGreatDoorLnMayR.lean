/- The walk of the reference's May. (Printed by wip/lnmay.py.) -/
import Derived.Test.YtblbfoniimnkcaaGreatDoorLnBox
namespace Go.Proofs.YtblbfoniimnkcaaGreatDoor
open Go.RowKit Go.Lib

theorem okI_no {ls : List Int} {k : Nat} {x : Int} (hx : ls[k]? = some x) (h : badI x = true) : okI ls = false := by
  unfold okI; rw [List.any_eq_true.2 ⟨x, List.mem_of_getElem? hx, h⟩]; rfl
theorem okI_to {ls : List Int} {k : Nat} {x : Int} (h : okI (ls.take k) = true) (hx : ls[k]? = some x) (hm : badI x = false) : okI (ls.take (k + 1)) = true := by
  unfold okI at *; rw [take_snoc' hx, List.any_append]
  simp only [Bool.not_eq_true'] at h ⊢
  rw [h]; simp [hm]

set_option maxRecDepth 100000 in
set_option maxHeartbeats 4000000 in
theorem refLMay_any (l : Ln) (A : Option Addr) (n c : Nat) (B : Option Addr) (m d C : Nat) (hn : n = l.ls.length) (hm : m = l.cs.length) (w : World) (hl : LnAt w C l A B) (h1 : l.ls.length ≤ 1000000000) (h2 : l.cs.length ≤ 1000000000) (hf : FineC l.cs) :
    Calls Tryz.prog 63 #[.agg #[.int .i64 l.q, .slice A n c, .int .i64 l.k, .slice B m d]] w (IsBool (mayL l) w) := by
  obtain ⟨q, ls, k, cs⟩ := l
  simp only at hn hm h1 h2 hf ⊢
  have HL := hid hl.live
  have HF := hid hf
  have HN := hid hn
  have HM := hid hm
  have B0 := hid ((Below.refl w.heap.size w).alloc (Nat.le_refl _) (.cells #[.int .i64 q, .slice A n c, .int .i64 k, .slice B m d] 46))
  have HS : Hid (LnAt (w.alloc (.cells #[.int .i64 q, .slice A n c, .int .i64 k, .slice B m d] 46)) w.heap.size ⟨q, ls, k, cs⟩ A B) := hid (HL.out.belowM B0.out (Nat.le_refl _))
  clear hl hf hn hm
  by_cases q0 : q < 0
  · have M := hid (show mayL ⟨q, ls, k, cs⟩ = false by unfold mayL; simp only [decide_eq_true q0]; simp)
    go_enter Tryz.func63, Tryz.ntmps63
    go_wp2_with fail
    go_ret
    exact ⟨ret_bool M.out.symm, B0.out⟩
  · skip
    by_cases q6 : 6 < q
    · have M := hid (show mayL ⟨q, ls, k, cs⟩ = false by unfold mayL; simp only [decide_eq_true q6]; simp)
      go_enter Tryz.func63, Tryz.ntmps63
      go_wp2_with fail
      go_ret
      exact ⟨ret_bool M.out.symm, B0.out⟩
    · skip
      by_cases n6 : 6 < (n : Int)
      · have M := hid (show mayL ⟨q, ls, k, cs⟩ = false by unfold mayL; have hh : 6 < ls.length := (by have := HN.out; omega); simp only [decide_eq_true hh]; simp)
        go_enter Tryz.func63, Tryz.ntmps63
        go_wp2_with fail
        go_ret
        exact ⟨ret_bool M.out.symm, B0.out⟩
      · skip
        by_cases k0 : k < 0
        · have M := hid (show mayL ⟨q, ls, k, cs⟩ = false by unfold mayL; simp only [decide_eq_true k0]; simp)
          go_enter Tryz.func63, Tryz.ntmps63
          go_wp2_with fail
          go_ret
          exact ⟨ret_bool M.out.symm, B0.out⟩
        · skip
          by_cases k3 : 3 < k
          · have M := hid (show mayL ⟨q, ls, k, cs⟩ = false by unfold mayL; simp only [decide_eq_true k3]; simp)
            go_enter Tryz.func63, Tryz.ntmps63
            go_wp2_with fail
            go_ret
            exact ⟨ret_bool M.out.symm, B0.out⟩
          · skip
            obtain ⟨mv, hmv⟩ : ∃ mv, mayL ⟨q, ls, k, cs⟩ = mv := ⟨_, rfl⟩
            have HV := hid hmv
            have NO : Hid (∀ j x, ls[j]? = some x → badI x = true → mv = false) := hid fun j x hx hb => by rw [← HV.out]; unfold mayL; rw [okI_no hx hb]; simp
            have NK : Hid (0 < ls.length → k ≠ 0 → mv = false) := hid fun a b => by rw [← HV.out]; unfold mayL; simp only [decide_eq_true a, decide_eq_true b]; simp
            obtain ⟨b, hb⟩ : ∃ b, mayCs cs = b := ⟨_, rfl⟩
            have HC := hid hb
            have YES : Hid (okI ls = true → (ls = [] ∨ k = 0) → mv = b) := hid fun a h => by
              rw [← HV.out]
              unfold mayL
              have g6 : ¬ 6 < ls.length := (by have := HN.out; omega)
              have gg : (decide (0 < ls.length) && decide (k ≠ 0)) = false := (by rcases h with h | h <;> rw [h] <;> simp)
              simp only [a, HC.out, decide_eq_false q0, decide_eq_false q6, decide_eq_false g6, decide_eq_false k0, decide_eq_false k3, gg]; simp
            rw [hmv]
            clear hmv hb
            go_enter Tryz.func63, Tryz.ntmps63
            go_wp2_with fail
            go_loopw [3] (fun i wr => ∃ j : Nat, j ≤ ls.length ∧ i = .int .i64 j ∧ Hid (okI (ls.take j) = true) ∧ Hid (0 < j → k = 0) ∧ wr = w.alloc (.cells #[.int .i64 q, .slice A n c, .int .i64 k, .slice B m d] 46)) (fun i _ => ls.length - (intOf i).toNat)
            case atStart => exact ⟨0, Nat.zero_le _, rfl, rfl, (fun h => absurd h (by omega)), rfl⟩
            case round =>
              obtain ⟨j, hj, rfl, hok, hk, rfl⟩ := hrel
              by_cases hlt : j < ls.length
              · obtain ⟨ad, x, rfl, -, hx, x0⟩ := HS.out.ls.atI hlt
                have hi1 : (j : Int) < (n : Int) := by have := HN.out; omega
                have p0 : (0 : Int) ≤ (j : Int) := by omega
                by_cases kz : k = 0
                · have kb : (k != 0) = false := by rw [kz]; rfl
                  have KZ := hid kz
                  by_cases xz : x = 0
                  · subst xz
                    have HT := hid (okI_to hok.out hx rfl)
                    clear hx kz
                    go_wp2_with fail
                    go_roundw
                    case rel => exact ⟨j + 1, by omega, by go_num, HT.out, (fun _ => KZ.out), by first | rfl | trivial⟩
                    case measure => simp [intOf]; omega
                  · have xb : (x != 0) = true := by simpa using xz
                    by_cases xo : x = 1
                    · subst xo
                      have HT := hid (okI_to hok.out hx rfl)
                      clear hx kz xz
                      go_wp2_with fail
                      go_roundw
                      case rel => exact ⟨j + 1, by omega, by go_num, HT.out, (fun _ => KZ.out), by first | rfl | trivial⟩
                      case measure => simp [intOf]; omega
                    · have xc : (x != 1) = true := by simpa using xo
                      have M := hid (NO.out j x hx (by unfold badI; simp [xz, xo]))
                      clear hx kz xz xo
                      go_wp2_with fail
                      go_ret
                      exact ⟨ret_bool M.out.symm, B0.out⟩
                · have kb : (k != 0) = true := by simpa using kz
                  have M := hid (NK.out (by omega) kz)
                  clear kz hx
                  by_cases xz : x = 0
                  · subst xz
                    go_wp2_with fail
                    go_ret
                    exact ⟨ret_bool M.out.symm, B0.out⟩
                  · have xb : (x != 0) = true := by simpa using xz
                    by_cases xo : x = 1
                    · subst xo
                      clear xz
                      go_wp2_with fail
                      go_ret
                      exact ⟨ret_bool M.out.symm, B0.out⟩
                    · have xc : (x != 1) = true := by simpa using xo
                      clear xz xo
                      go_wp2_with fail
                      go_ret
                      exact ⟨ret_bool M.out.symm, B0.out⟩
              · have hi1 : ¬ (j : Int) < (n : Int) := by have := HN.out; omega
                have M := hid (YES.out (by have := hok.out; rwa [List.take_of_length_le (by omega)] at this) (by
                  cases ls with
                  | nil => exact .inl rfl
                  | cons y ys => exact .inr (hk.out (by simp at hlt; omega))))
                go_wp2_with (go_at_call 75; refine (refMayCells_any B cs _ d _ HM.out _ HS.out.cs h2 HF.out).mono ?_; rintro e w1 ⟨rfl, hb1⟩; rw [HC.out]; (have B1 := hid (B0.out.trans (hb1.mono B0.out.size))); clear hb1)
                go_ret
                exact ⟨ret_bool M.out.symm, B1.out⟩
end Go.Proofs.YtblbfoniimnkcaaGreatDoor
