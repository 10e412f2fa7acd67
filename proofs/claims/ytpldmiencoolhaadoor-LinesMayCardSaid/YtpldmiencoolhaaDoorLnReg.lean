/- Regions that draw their order: what an operation that comes up waited for; all are done at the end. -/
import Derived.Test.YtpldmiencoolhaaDoorLnTwos
namespace Go.Proofs.YtpldmiencoolhaaDoor
open Go.RowKit Go.Lib Go.Great

theorem ready_waits {md : Region.Mode} {ops : Array Oper} {b : Array Bool} {i : Nat} {o : Oper} (h : i ∈ Region.ready md ops b) (ho : ops[i]? = some o) {j : Nat} (hj : (o.after.any fun e => Region.binds md e && e.on == j) = true) : b.getD j false = true := by
  unfold Region.ready at h
  rw [List.mem_filter] at h
  simp only [Bool.and_eq_true, ho, Option.map_some, Option.getD_some, Array.all_eq_true, Array.any_eq_true, beq_iff_eq] at h hj
  obtain ⟨k, hk, h1, h2⟩ := hj
  have := h.2.2 k hk
  rw [h1, h2] at this
  simpa using this
/-- Each edge that binds leads to an earlier operation. -/
def edgesDown (ops : Array Oper) : Bool := (List.range ops.size).all fun i => ((ops[i]?).map fun o => o.after.all fun e => !Region.binds .any e || decide (e.on < i)).getD true
theorem ready_nil {ops : Array Oper} {b : Array Bool} (hd : edgesDown ops = true) (hr : Region.ready .any ops b = []) (hs : b.size = ops.size) : ∀ n i, i < n → i < ops.size → b.getD i false = true := by
  intro n
  induction n with
  | zero => intro i hi; omega
  | succ n ih =>
    intro i hi hlt
    by_cases hin : i < n
    · exact ih i hin hlt
    · obtain rfl : i = n := by omega
      cases hb : b.getD i false with
      | true => rfl
      | false =>
        exfalso
        have hmem : i ∈ Region.ready .any ops b := by
          unfold Region.ready
          rw [List.mem_filter]
          refine ⟨List.mem_range.2 hlt, ?_⟩
          have hb' : b.getD i true = false := by
            simp only [Array.getD_eq_getD_getElem?] at hb ⊢
            rw [Array.getElem?_eq_getElem (by omega)] at hb ⊢
            simpa using hb
          simp only [Bool.and_eq_true, hb', Bool.not_false, true_and, Array.getElem?_eq_getElem hlt, Option.map_some, Option.getD_some]
          rw [Array.all_eq_true]
          intro k hk
          have := List.all_eq_true.1 hd i (List.mem_range.2 hlt)
          rw [Array.getElem?_eq_getElem hlt, Option.map_some, Option.getD_some, Array.all_eq_true] at this
          have h2 := this k hk
          rw [Bool.or_eq_true] at h2
          rcases h2 with h2 | h2
          · rw [h2, Bool.true_or]
          · have h3 := of_decide_eq_true h2
            rw [ih _ h3 (by omega), Bool.or_true]
        rw [hr] at hmem
        cases hmem
theorem getD_put {T : Array Value} {s k : Nat} {v : Value} (hs : s < T.size) : (T.setIfInBounds s v).getD k undef = if k = s then v else T.getD k undef := by
  by_cases h : k = s
  · subst h; rw [if_pos rfl, getD_set_eq hs]
  · rw [if_neg h, getD_set_ne (fun e => h e.symm)]
theorem array_ext_getD {T U : Array Value} (hs : T.size = U.size) (h : ∀ k, k < T.size → T.getD k undef = U.getD k undef) : T = U := by
  apply Array.ext hs
  intro i h1 h2
  have := h i h1
  simpa [Array.getD, h1, h2] using this
end Go.Proofs.YtpldmiencoolhaaDoor
