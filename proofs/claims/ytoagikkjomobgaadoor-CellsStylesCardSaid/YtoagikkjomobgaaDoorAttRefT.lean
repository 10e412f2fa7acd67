/- The walk of the reference's Target. -/
import Derived.Test.YtoagikkjomobgaaDoorAttTarget
namespace Go.Proofs.YtoagikkjomobgaaDoor
open Go.RowKit Go.Lib Go.Shelf

theorem head_take : ∀ (l : List UInt8) (k : Nat), (∀ j x, j < k → l[j]? = some x → x ≠ 58) → (l.length ≤ k ∨ l[k]? = some 58) → headL l = l.take k
  | [], k, _, _ => by simp [headL]
  | b :: l, 0, _, h => by
    rcases h with h | h
    · simp at h
    · simp at h; subst h; simp [headL]
  | b :: l, k + 1, h, he => by
    have hb : b ≠ 58 := h 0 b (by omega) rfl
    have ih := head_take l k (fun j x hj hx => h (j + 1) x (by omega) (by simpa using hx)) (by simpa using he)
    unfold headL at ih ⊢
    rw [List.takeWhile_cons, if_pos (by simpa using hb), ih, List.take_succ_cons]
theorem getElem_list {s : ByteArray} {j : Nat} (hj : j < s.size) : s.data.toList[j]? = some s[j] := by
  rw [List.getElem?_eq_getElem (by rw [← Lib.size_eq]; exact hj)]; rfl
/-- How long is the head? -/
theorem head_stop {s : ByteArray} {k : Nat} (h : ∀ j (hj : j < s.size), j < k → s[j] ≠ 58) (he : s.size ≤ k ∨ ∃ hk : k < s.size, s[k] = 58) : headL s.data.toList = s.data.toList.take k := by
  refine head_take _ _ (fun j x hj hx => ?_) ?_
  · have hl : j < s.size := by rw [Lib.size_eq]; exact (List.getElem?_eq_some_iff.1 hx).1
    rw [getElem_list hl] at hx
    injection hx with hx
    rw [← hx]
    exact h j hl hj
  · rcases he with he | ⟨hk, he⟩
    · exact .inl (by rw [← Lib.size_eq]; exact he)
    · exact .inr (by rw [getElem_list hk, he])
theorem js_len {s : ByteArray} {k : Nat} (hh : headL s.data.toList = s.data.toList.take k) (hk : k ≤ s.size) (h : k ≠ 10) : jsB s.data.toList = false := by
  refine decide_eq_false fun e => h ?_
  have := congrArg List.length e
  rw [hh, List.length_map, List.length_take, ← Lib.size_eq] at this
  have h10 : jsL.length = 10 := rfl
  omega
theorem js_at {s : ByteArray} {j : Nat} (hh : headL s.data.toList = s.data.toList.take 10) (hs : 10 ≤ s.size) (hj : j < 10) (h : jsL[j]? ≠ some (lowB (s[j]'(by omega)))) : jsB s.data.toList = false := by
  refine decide_eq_false fun e => h ?_
  rw [← e, hh, List.getElem?_map, List.getElem?_take, if_pos hj, getElem_list (by omega)]
  rfl
theorem js_all {s : ByteArray} (hh : headL s.data.toList = s.data.toList.take 10) (hs : 10 ≤ s.size) (h : ∀ j (hj : j < s.size), j < 10 → jsL[j]? = some (lowB s[j])) : jsB s.data.toList = true := by
  refine decide_eq_true (List.ext_getElem? fun j => ?_)
  rw [hh, List.getElem?_map, List.getElem?_take]
  split
  · next hj => rw [getElem_list (by omega), h j (by omega) hj]; rfl
  · next hj => rw [List.getElem?_eq_none (by show 10 ≤ j; omega)]; rfl
theorem run_word0 (W : World) : ∀ j, j < 10 → (Instr.index 9 (.string ⟨#[106, 97, 118, 97, 115, 99, 114, 105, 112, 116]⟩) (.int .i64 (j : Nat))).run Tryd.prog W = .ok (.int .u8 ((jsL.getD j 0).toNat : Int)) W
  | 0, _ => by kernel_rfl | 1, _ => by kernel_rfl | 2, _ => by kernel_rfl | 3, _ => by kernel_rfl | 4, _ => by kernel_rfl
  | 5, _ => by kernel_rfl | 6, _ => by kernel_rfl | 7, _ => by kernel_rfl | 8, _ => by kernel_rfl | 9, _ => by kernel_rfl
  | j + 10, h => absurd h (by omega)
theorem run_word (W : World) (j : Nat) (y : UInt8) (hy : jsL[j]? = some y) : (Instr.index 9 (.string ⟨#[106, 97, 118, 97, 115, 99, 114, 105, 112, 116]⟩) (.int .i64 (j : Nat))).run Tryd.prog W = .ok (.int .u8 (y.toNat : Int)) W := by
  have hj : j < 10 := (List.getElem?_eq_some_iff.1 hy).1
  rw [run_word0 W j hj, List.getD, hy]
  rfl
end Go.Proofs.YtoagikkjomobgaaDoor
