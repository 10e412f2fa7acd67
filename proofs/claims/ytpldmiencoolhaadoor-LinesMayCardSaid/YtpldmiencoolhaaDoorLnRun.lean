/- Single operations on lines: what each yields. Rows that grow beside what is held. -/
import Derived.Test.YtpldmiencoolhaaDoorLnReg2
import Derived.Test.YtpldmiencoolhaaDoorLnJoin
import Derived.Deep.AppendLies
import Derived.Lib.AppendZeros
namespace Go.Proofs.YtpldmiencoolhaaDoor
open Go.RowKit Go.Lib Go.Great

theorem own_lit0I (w : World) : Own encI 1 3 (w.alloc (.cells #[] 3)) w.heap.size (.slice (some ⟨w.heap.size, 0, none⟩) 0 0) ([] : List Int) := World.ownsRow_lit w #[] 0 (Nat.le_refl _) (by simp) rfl
theorem bit_off {b : Nat → Bool} {i j : Nat} (h : bitOn b i j = false) : b j = false := by
  unfold bitOn at h
  split at h
  · cases h
  · exact h
section
variable {a : Act} {w : World} {o : Oper}
theorem run_field0 {x : Operand} (ho : o.op = .fieldAddr 25 x 0) {g : Nat} (h1 : a.eval x = .pointer (some ⟨g, 0, none⟩)) : (execOp a.eval o).run Tryd.prog w = .ok (.value (.pointer (some ⟨g, 0, none⟩))) w := by
  unfold execOp
  simp only [ho, h1]
  simp [go_sem]
theorem run_field1 {x : Operand} (ho : o.op = .fieldAddr 25 x 1) {g : Nat} (h1 : a.eval x = .pointer (some ⟨g, 0, none⟩)) : (execOp a.eval o).run Tryd.prog w = .ok (.value (.pointer (some ⟨g, 1, none⟩))) w := by
  unfold execOp
  simp only [ho, h1]
  simp [go_sem]
theorem run_field2 {x : Operand} (ho : o.op = .fieldAddr 25 x 2) {g : Nat} (h1 : a.eval x = .pointer (some ⟨g, 0, none⟩)) : (execOp a.eval o).run Tryd.prog w = .ok (.value (.pointer (some ⟨g, 2, none⟩))) w := by
  unfold execOp
  simp only [ho, h1]
  simp [go_sem]
theorem run_field3 {x : Operand} (ho : o.op = .fieldAddr 25 x 3) {g : Nat} (h1 : a.eval x = .pointer (some ⟨g, 0, none⟩)) : (execOp a.eval o).run Tryd.prog w = .ok (.value (.pointer (some ⟨g, 3, none⟩))) w := by
  unfold execOp
  simp only [ho, h1]
  simp [go_sem]
theorem run_loadI {x : Operand} (ho : o.op = .load 3 x) {p : Addr} {v : Value} (h1 : a.eval x = .pointer (some p)) (hc : w.cell? p = some v) : (execOp a.eval o).run Tryd.prog w = .ok (.value v) w := by
  unfold execOp
  simp only [ho, h1]
  simp [hc, go_sem]
theorem run_loadII {x : Operand} (ho : o.op = .load 22 x) {p : Addr} {v : Value} (h1 : a.eval x = .pointer (some p)) (hc : w.cell? p = some v) : (execOp a.eval o).run Tryd.prog w = .ok (.value v) w := by
  unfold execOp
  simp only [ho, h1]
  simp [hc, go_sem]
theorem run_loadCC {x : Operand} (ho : o.op = .load 23 x) {p : Addr} {v : Value} (h1 : a.eval x = .pointer (some p)) (hc : w.cell? p = some v) : (execOp a.eval o).run Tryd.prog w = .ok (.value v) w := by
  unfold execOp
  simp only [ho, h1]
  simp [hc, go_sem]
theorem run_lit0 (ho : o.op = .buildSlice 22 0 #[]) : (execOp a.eval o).run Tryd.prog w = .ok (.value (.slice (some ⟨w.heap.size, 0, none⟩) 0 0)) (w.alloc (.cells #[] 3)) := by
  unfold execOp
  simp only [ho]
  simp [go_sem]
theorem run_build4 {x0 x1 x2 x3 : Operand} (ho : o.op = .build 25 #[(0, x0), (1, x1), (2, x2), (3, x3)]) {q k : Int} {A B : Option Addr} {n c m d : Nat} (h0 : a.eval x0 = .int .i64 q) (h1 : a.eval x1 = .slice A n c) (h2 : a.eval x2 = .int .i64 k) (h3 : a.eval x3 = .slice B m d) : (execOp a.eval o).run Tryd.prog w = .ok (.value (.agg #[.int .i64 q, .slice A n c, .int .i64 k, .slice B m d])) w := by
  unfold execOp
  simp only [ho, List.map_toArray, List.map_cons, List.map_nil, h0, h1, h2, h3]
  simp [go_sem]
theorem run_build3 {x0 x1 x2 : Operand} (ho : o.op = .build 25 #[(0, x0), (1, x1), (2, x2)]) {q k : Int} {A : Option Addr} {n c : Nat} (h0 : a.eval x0 = .int .i64 q) (h1 : a.eval x1 = .slice A n c) (h2 : a.eval x2 = .int .i64 k) : (execOp a.eval o).run Tryd.prog w = .ok (.value (.agg #[.int .i64 q, .slice A n c, .int .i64 k, .slice none 0 0])) w := by
  unfold execOp
  simp only [ho, List.map_toArray, List.map_cons, List.map_nil, h0, h1, h2]
  simp [go_sem]
end
theorem KL.grownI {w0 w w' : World} {bs : List BoxR} {rs : List RowL} (h : KL w0 w bs rs []) {v : Value} {xs : List Int} (hv : Own encI 1 3 w w0.heap.size v xs) (hg : w.grownBy w' v.ownBlock) (hr : ∀ r ∈ rs, LnAt w0 w0.heap.size r.l r.A r.B) : KL w0 w' bs rs [] := by
  have hb : Below w0.heap.size w w' := (Below.refl _ w).grown hg h.b.size (fun k hk => (hv.lt k hk).1)
  refine ⟨h.b.trans hb, fun t ht => ⟨(h.bx t ht).1, ?_⟩, h.nd, fun r hr' => .inl ((hr r hr').below (h.b.trans hb)), (fun _ h => by cases h), .nil⟩
  have hk := (h.bx t ht).2
  refine (hg.block t.g hk.lt (fun hrow => ?_)).trans hk
  obtain ⟨cur, hc⟩ := hv.ty hrow.symm
  unfold Bx at hk
  rw [hc] at hk
  injection hk with hk
  injection hk with _ hk _
  exact absurd hk (by decide)
theorem Bx.grownI {w w' : World} {base g : Nat} {p q r s : Value} (hk : Bx w g p q r s) {v : Value} {xs : List Int} (hv : Own encI 1 3 w base v xs) (hg : w.grownBy w' v.ownBlock) : Bx w' g p q r s := by
  refine (hg.block g hk.lt (fun hrow => ?_)).trans hk
  obtain ⟨cur, hc⟩ := hv.ty hrow.symm
  unfold Bx at hk
  rw [hc] at hk
  injection hk with hk
  injection hk with _ hk _
  exact absurd hk (by decide)
theorem Own.grownC {w w' : World} {base : Nat} {v u : Value} {xs : List Int} {ys : List Cl} (hv : Own encI 1 3 w base v xs) (hg : w.grownBy w' v.ownBlock) (hu : Own encC 3 44 w base u ys) : Own encC 3 44 w' base u ys := by
  unfold Own at hu ⊢
  refine hu.kept hg ?_
  by_cases hn : u.ownBlock = none
  · exact .inl hn
  · right
    intro e
    cases hk : u.ownBlock with
    | none => exact hn hk
    | some k =>
      obtain ⟨cur, hc⟩ := Own.ty (show Own encC 3 44 w base u ys from hu) hk
      obtain ⟨cur', hc'⟩ := hv.ty (e ▸ hk)
      rw [hc] at hc'
      injection hc' with hc'
      injection hc' with _ hc' _
      exact absurd hc' (by decide)
end Go.Proofs.YtpldmiencoolhaaDoor
