/- Operations that only read, a guard that holds, a call of any function: for regions that draw their order. -/
import Derived.Test.YtpldmiencoolhaaDoorLnRow
namespace Go.Proofs.YtpldmiencoolhaaDoor
open Go.RowKit Go.Lib Go.Great

theorem yields_of {ops : Array Oper} {T : Array Value} {j s : Nat} {oj : Oper} {b : Bool} (hj : ops[j]? = some oj) (hd : oj.dst = some s) (h : T.getD s undef = .bool b) : yielded ops T j = some b := by
  unfold yielded
  rw [hj]
  simp only [Option.bind_some, hd]
  rw [Array.getD_eq_getD_getElem?] at h
  cases hs : T[s]? with
  | none => rw [hs] at h; cases h
  | some v =>
    rw [hs] at h
    simp only [Option.getD_some] at h
    subst h
    rfl
theorem wanted_of {ops : Array Oper} {T : Array Value} {o oj : Oper} {j s : Nat} {b : Bool} (hg : o.guard = some (j, b)) (hj : ops[j]? = some oj) (hd : oj.dst = some s) (h : T.getD s undef = .bool b) : Region.wanted o (yielded ops T) = true := by
  unfold Region.wanted
  rw [hg]
  simp [yields_of hj hd h]
section
variable {a : Act} {w : World} {o : Oper}
theorem run_neqB {x y : Operand} (ho : o.op = .binOp .neq 4 x y 4) {b : Bool} (h1 : a.eval x = .bool b) (h2 : a.eval y = .bool b) : (execOp a.eval o).run Tryd.prog w = .ok (.value (.bool false)) w := by
  unfold execOp
  simp only [ho, h1, h2]
  cases b <;> simp [go_sem]
theorem run_notT {x : Operand} (ho : o.op = .unOp .not 4 x) (h1 : a.eval x = .bool true) : (execOp a.eval o).run Tryd.prog w = .ok (.value (.bool false)) w := by
  unfold execOp
  simp only [ho, h1]
  simp [go_sem]
theorem run_moveV {P : Program} {x : Operand} (ho : o.op = .move x) {v : Value} (h1 : a.eval x = v) : (execOp a.eval o).run P w = .ok (.value v) w := by
  unfold execOp
  simp only [ho, Sem.run_pure, h1]
theorem run_assignV {P : Program} {x : Operand} (ho : o.op = .assign x) {v : Value} (h1 : a.eval x = v) : (execOp a.eval o).run P w = .ok (.value v) w := by
  unfold execOp
  simp only [ho, Sem.run_pure, h1]
theorem run_pickF {x y z : Operand} (ho : o.op = .pick x y z) {v : Value} (h1 : a.eval x = .bool false) (h2 : a.eval z = v) : (execOp a.eval o).run Tryd.prog w = .ok (.value v) w := by
  unfold execOp
  simp only [ho, h1, h2]
  rfl
theorem run_pickT {x y z : Operand} (ho : o.op = .pick x y z) {v : Value} (h1 : a.eval x = .bool true) (h2 : a.eval y = v) : (execOp a.eval o).run Tryd.prog w = .ok (.value v) w := by
  unfold execOp
  simp only [ho, h1, h2]
  rfl
variable {K : Act → World → Prop} {Q : Exit → Act → World → Prop}
theorem Tryd.wp_callN (f : FuncId) (args : Array Operand) (ts : Array TypeId) (ho : o.op = .call { callee := .value (.func f), args := args, argTypes := ts }) {vs : Array Value} (hv : args.map a.eval = vs) (hf : ∀ w, (callFunc f vs).run Tryd.prog w = .ok (.enter f vs) w) {R : Ending → World → Prop} (hc : Calls Tryd.prog f vs w R) (hR : ∀ e w', R e w' → ∃ u, e = .returned u ∧ K (a.put o.dst u) w') : o.wp Tryd.prog a w K Q := by
  have hr : (execOp a.eval o).run Tryd.prog w = .ok (.enter f vs) w := by
    unfold execOp
    simp [ho, go_sem]
    rw [hv]
    exact hf w
  unfold Oper.wp
  rw [hr, Oper.upon_enter]
  refine hc.mono fun e w'' hh => ?_
  obtain ⟨u, rfl, h⟩ := hR e w'' hh
  exact h
end
end Go.Proofs.YtpldmiencoolhaaDoor
