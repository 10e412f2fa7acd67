/- A number of a line's own row is stored to; a row's number read. -/
import Derived.Test.YtpldmiencoolhaaDoorLnRun
import Derived.Test.YtpldmiencoolhaaDoorLnChgs
namespace Go.Proofs.YtpldmiencoolhaaDoor
open Go.RowKit Go.Lib Go.Great

theorem rowCell {w : World} {C k : Nat} {ad : Addr} {xs : List Int} {x : Int} (h : SlAt encI 1 w C (some ad) xs) (hx : xs[k]? = some x) : w.cell? (ad.add k) = some (.int .i64 x) := by
  obtain ⟨ad', x', e, -, hx', x0⟩ := h.atI (k := k) (List.getElem?_eq_some_iff.1 hx).1
  injection e with e
  subst e
  rw [hx] at hx'
  injection hx' with hx'
  subst hx'
  exact x0
theorem own_lit1I (w : World) (k : Int) : Own encI 1 3 (w.alloc (.cells #[.int .i64 k] 3)) w.heap.size (.slice (some ⟨w.heap.size, 0, none⟩) 1 1) [k] := World.ownsRow_lit w #[.int .i64 k] 1 (Nat.le_refl _) (by decide) rfl
theorem ownAddr {w : World} {base c d : Nat} {l : Ln} {A B : Option Addr} (h : LnOw w base l A c B d) (hn : l.ls ≠ []) : ∃ g, A = some ⟨g, 0, none⟩ := by
  rcases h.ls.2 with ⟨_, h0⟩ | ⟨g, cap, cur, hv, _⟩
  · exact absurd (List.eq_nil_of_length_eq_zero h0) hn
  · injection hv with hv
    exact ⟨g, hv⟩
theorem run_lit1 {a : Act} {w : World} {o : Oper} {x : Operand} (ho : o.op = .buildSlice 22 1 #[(0, x)]) {v : Int} (h1 : a.eval x = .int .i64 v) : (execOp a.eval o).run Tryd.prog w = .ok (.value (.slice (some ⟨w.heap.size, 0, none⟩) 1 1)) (w.alloc (.cells #[.int .i64 v] 3)) := by
  unfold execOp
  simp only [ho, List.map_toArray, List.map_cons, List.map_nil, h1]
  simp [go_sem]
section
variable {ops : Array Oper} {rest : List Oper} {o : Oper} {a : Act} {w0 w : World} {Q : Exit → Act → World → Prop} {bs : List BoxR} {rs : List RowL}
theorem Tryd.klStoreI (hw : Region.wanted o (yielded ops a.tmps) = true) (x y : Operand) (ho : o.op = .store 3 x y) {g n : Nat} (hx : a.eval x = .pointer (some ⟨g, n, none⟩)) {v : Int} (hy : a.eval y = .int .i64 v) (K : Hid (KL w0 w bs rs [])) (hrs : ∀ r ∈ rs, LnAt w0 w0.heap.size r.l r.A r.B) {l : Ln} {c d : Nat} {B : Option Addr} (O : Hid (LnOw w w0.heap.size l (some ⟨g, 0, none⟩) c B d)) (hn : n < l.ls.length)
    (h : ∀ w', Hid (KL w0 w' bs rs []) → Hid (LnOw w' w0.heap.size ⟨l.q, l.ls.set n v, l.k, l.cs⟩ (some ⟨g, 0, none⟩) c B d) → wpList Tryd.prog ops Q rest (a.put o.dst undef) w') : wpList Tryd.prog ops Q (o :: rest) a w :=
  wpList_step fun K' hK => by
    rw [if_pos hw]
    have hv := O.out.ls
    have hs0 := hv
    unfold Own at hs0
    obtain ⟨x0, hx0⟩ : ∃ x0, l.ls[n]? = some x0 := ⟨_, List.getElem?_eq_getElem hn⟩
    have v0 : w.cell? ⟨g, n, none⟩ = some (.int .i64 x0) := (World.ownsRow.cellAt hs0 n (by omega)).trans (by simpa using getElem?_flat encI_len l.ls n x0 0 _ hx0 rfl)
    have v1 := World.ownsRow.frozenAt hs0 n
    have hfs := flat_setG encI_len l.ls n x0 v 0 (.int .i64 v) hx0 (by omega) rfl
    have ST : Own encI 1 3 (w.setCell ⟨g, n, none⟩ (.int .i64 v)) w0.heap.size (.slice (some ⟨g, 0, none⟩) (l.ls.set n v).length c) (l.ls.set n v) := by
      have := (World.ownsRow.stored hs0 n (.int .i64 v)).1
      unfold Own
      rw [List.length_set, hfs, show n * 1 + 0 = n from by omega]
      exact this
    have SL := store_line (o := n) (u := .int .i64 v) hv
    have hg : w0.heap.size ≤ g := (hv.lt g rfl).1
    have bel : Below w0.heap.size w (w.setCell ⟨g, n, none⟩ (.int .i64 v)) := (Below.refl _ w).setCell (p := ⟨g, n, none⟩) hg _
    have K2 : KL w0 (w.setCell ⟨g, n, none⟩ (.int .i64 v)) bs rs [] := ⟨K.out.b.trans bel, fun t ht => ⟨(K.out.bx t ht).1, SL.1 _ _ _ _ _ (K.out.bx t ht).2⟩, K.out.nd, fun r hr => .inl ((hrs r hr).below (K.out.b.trans bel)), (fun _ h => by cases h), .nil⟩
    unfold Oper.wp execOp
    simp only [ho, hx, hy, Instr.storeAt, Instr.sureAddr, Sem.run_bind, Sem.run_pure, Result.andThen_ok, run_storeVar_cell (P := Tryd.prog) w g n 3 (.int .i64 v) (fun i hi => by
      obtain rfl : i = 0 := by omega
      exact ⟨by rw [Nat.add_zero, v0]; rfl, by rw [Nat.add_zero]; exact v1⟩) (by kernel_rfl) rfl]
    exact hK _ _ (h _ (hid K2) (hid ⟨ST, SL.2 _ _ O.out.cs⟩))
end
end Go.Proofs.YtpldmiencoolhaaDoor
