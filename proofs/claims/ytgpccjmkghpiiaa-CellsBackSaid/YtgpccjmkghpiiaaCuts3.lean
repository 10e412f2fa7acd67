/- The walks of the reference's Cut, the law's spoil. -/
import Derived.Test.YtgpccjmkghpiiaaCuts2
import Derived.Deep.AppendLies
namespace Go.Proofs.Ytgpccjmkghpiiaa
open Go.RowKit

/-- 'append(v, ys...)' at a step of a region that draws its order. -/
theorem step_appS {P : Program} {α : Type} {enc : α → List Value} {sz : Nat} {e : TypeId} {ops : Array Oper} {o : Oper} {a : Act} {K : Act → World → Prop} {Q : Exit → Act → World → Prop} {E : Prop} {w : World} (ok : ElemOk P enc sz e) (hgd : o.guard = none) (s x : Operand) (t : TypeId)
    (ho : o.op = .call { callee := .builtin .append, args := #[s, x], argTypes := #[t, t] }) (ht : P.underlying t = some (.slice e)) (base : Nat) (v : Value) (xs : List α) (hs : a.eval s = v) (hown : Own enc sz e w base v xs)
    (B : Nat) (A : Option Addr) (ys : List α) (c : Nat) (hx : a.eval x = .slice A ys.length c) (hsrc : SlAt enc sz w B A ys) (hlen : xs.length + ys.length ≤ 1000000000000) (hbase : base ≤ w.heap.size)
    (h : ∀ v' w', Own enc sz e w' base v' (xs ++ ys) → w.grownBy w' v.ownBlock → K (a.put o.dst v') w') :
    if Region.wanted o (yielded ops a.tmps) = true then Oper.wp P o a w K Q else E := by
  have hw : Region.wanted o (yielded ops a.tmps) = true := by simp [Region.wanted, hgd]
  rw [if_pos hw]
  obtain ⟨v', w', hr, h2, h3, _⟩ := run_append_slice ok t o.type ht w base v xs hown B A ys c hsrc hlen hbase
  exact Lib.wp_append_run w s x t t ho _ _ hs hx v' w' hr (h v' w' h2 h3)

set_option maxHeartbeats 2000000 in
theorem refCut_yes (A : Option Addr) (cs : List Cl) (n c B : Nat) (hn : n = cs.length) (f t : Int) (w : World) (hA : SlAt encC 3 w B A cs) (hl : cs.length ≤ 300000000) (hc : cs.length ≤ c) (h : spanOk cs.length f t) :
    Calls Try.prog 20 #[.slice A n c, .int .i64 f, .int .i64 t] w
      (fun e w' => ∃ v, e = .returned (.tuple #[v, .int .i64 0]) ∧ Own encC 3 33 w' w.heap.size v (cs.take f.toNat ++ cs.drop t.toNat) ∧ Below w.heap.size w w') := by
  subst hn
  obtain ⟨hf0, hft, htn⟩ := h
  obtain ⟨F, rfl⟩ := Int.eq_ofNat_of_zero_le hf0
  obtain ⟨T, rfl⟩ := Int.eq_ofNat_of_zero_le (Int.le_trans hf0 hft)
  have hFT : F ≤ T := by omega
  have hTn : T ≤ cs.length := by omega
  simp only [Int.toNat_natCast]
  have hFc : F ≤ c := by omega
  have hTc : T ≤ c := by omega
  have k1 : IntKind.i64.wrap (F : Int) = (F : Int) := IntWalk.i64_in _ (by omega)
  have k2 : IntKind.i64.wrap (T : Int) = (T : Int) := IntWalk.i64_in _ (by omega)
  have k3 : (0 : Int) ≤ (F : Int) := by omega
  have k4 : (0 : Int) ≤ (T : Int) := by omega
  have k5 : (F : Int) ≤ (c : Int) := by omega
  have k6 : (T : Int) ≤ (cs.length : Int) := by omega
  have hS := hA.live (fun _ => by rw [encC_len]; omega)
  have hX := hS.cut (k := T) hc
  have hlenF : (cs.take F).length = F := by simp; omega
  have hlenD : (cs.drop T).length = cs.length - T := by simp
  have HL := hid hlenF
  have HD := hid hlenD
  clear hA hlenF hlenD
  by_cases hcT : c = T
  · rw [if_pos hcT] at hX
    subst hcT
    have h0 : cs.length - c = 0 := by omega
    go_enter Try.func20, Try.ntmps20
    go_wp2_with (first
      | (go_at_call 37; refine (refSpan_yes _ _ _ _ _ _ ⟨by omega, by omega, by omega⟩).mono ?_; rintro e w' ⟨rfl, rfl⟩))
    go_region_held3 (fun _ => True) (first | trivial) (first
      | (go_at_call 16; refine (refOwn_any A (cs.take F) F c _ HL.out.symm w.drew (hS.take F).drew (by have := HL.out; omega)).mono ?_; rintro e W1 ⟨v1, rfl, ho1, hb1⟩)
      | (refine step_appS Try.okC rfl (.tmp 16) (.tmp 19) 24 rfl Try.underlying24 w.heap.size v1 (cs.take F) rfl ho1 _ _ (cs.drop c) _ (by first | rfl | (rw [HD.out]; first | rfl | (rw [h0]; rfl))) (hX.drew.below hb1) (by have := HL.out; have := HD.out; omega) hb1.size ?_; intro v2 w2 ho2 hg2))
    all_goals
      go_wp2
      go_ret2
      exact ⟨_, rfl, ho2, ((Below.refl _ w).drew.trans hb1).grown hg2 hb1.size fun g hg => (ho1.lt g hg).1⟩
  · rw [if_neg hcT] at hX
    have h0 := hcT
    go_enter Try.func20, Try.ntmps20
    go_wp2_with (first
      | (go_at_call 37; refine (refSpan_yes _ _ _ _ _ _ ⟨by omega, by omega, by omega⟩).mono ?_; rintro e w' ⟨rfl, rfl⟩))
    go_region_held3 (fun _ => True) (first | trivial) (first
      | (go_at_call 16; refine (refOwn_any A (cs.take F) F c _ HL.out.symm w.drew (hS.take F).drew (by have := HL.out; omega)).mono ?_; rintro e W1 ⟨v1, rfl, ho1, hb1⟩)
      | (refine step_appS Try.okC rfl (.tmp 16) (.tmp 19) 24 rfl Try.underlying24 w.heap.size v1 (cs.take F) rfl ho1 _ _ (cs.drop T) _ (by first | rfl | (rw [HD.out]; rfl)) (hX.drew.below hb1) (by have := HL.out; have := HD.out; omega) hb1.size ?_; intro v2 w2 ho2 hg2))
    all_goals
      go_wp2
      go_ret2
      exact ⟨_, rfl, ho2, ((Below.refl _ w).drew.trans hb1).grown hg2 hb1.size fun g hg => (ho1.lt g hg).1⟩

theorem grown_trans {a b c : World} {row : Option Nat} (h : a.grownBy b row) (k : b.grownBy c row) : a.grownBy c row :=
  ⟨k.os.trans h.os, k.tape.trans h.tape, k.output.trans h.output, Nat.le_trans h.size k.size, fun i hi hne => (k.block i (Nat.lt_of_lt_of_le hi h.size) hne).trans (h.block i hi hne)⟩

set_option maxHeartbeats 2000000 in
/-- The law's spoil writes over a row of the caller's own alone. -/
theorem spoil_any (A : Option Addr) (n c base : Nat) (xs : List Cl) (w : World) (ho : Own encC 3 33 w base (.slice A n c) xs) (hn : n = xs.length) (hl : xs.length ≤ 1000000000) :
    Calls Try.prog 23 #[.slice A n c] w (fun e w' => e = .returned (.tuple #[]) ∧ w.grownBy w' (Value.slice A n c).ownBlock) := by
  have hi0 : n ≤ 1000000000 := by omega
  unfold Own at ho
  rw [← hn] at ho
  clear hl hn
  go_enter Try.func23, Try.ntmps23
  go_wp2
  go_loopw [2] (fun i wr => ∃ (k : Nat) (vs : List Value), k ≤ n ∧ i = .int .i64 k ∧ wr.ownsRow base 33 3 (.slice A n c) n vs ∧ w.grownBy wr (Value.slice A n c).ownBlock) (fun i _ => n - (intOf i).toNat)
  case atStart => exact ⟨0, _, Nat.zero_le _, rfl, ho, World.grownBy.refl _ _⟩
  case round =>
    obtain ⟨k, vs, hk, rfl, hown, hbr⟩ := hrel
    by_cases hlt : k < n
    · have hi1 : (k : Int) < (n : Int) := by omega
      have hlen := hown.1
      obtain ⟨g, rfl, hg⟩ : ∃ g, A = some ⟨g, 0, none⟩ ∧ base ≤ g := by
        rcases hown.2 with ⟨h, h'⟩ | ⟨g, cap, cur, h, hg, _⟩
        · omega
        · injection h with h _ _
          exact ⟨g, h, hg⟩
      have x0 : wr.cell? ⟨g, k * 3, none⟩ = some (vs[k * 3]'(by omega)) := (World.ownsRow.cellAt hown _ (by omega)).trans (List.getElem?_eq_getElem _)
      have f0 := World.ownsRow.frozenAt hown (k * 3)
      have h1 := World.ownsRow.stored hown (k * 3) (.int .i32 122)
      have x1 : (wr.setCell ⟨g, k * 3, none⟩ (.int .i32 122)).cell? ⟨g, k * 3 + 1, none⟩ = some (vs[k * 3 + 1]'(by omega)) := (World.ownsRow.cellAt h1.1 _ (by omega)).trans (by simp)
      have f1 := World.ownsRow.frozenAt h1.1 (k * 3 + 1)
      have h2 := World.ownsRow.stored h1.1 (k * 3 + 1) (.int .i64 77)
      have x2 : ((wr.setCell ⟨g, k * 3, none⟩ (.int .i32 122)).setCell ⟨g, k * 3 + 1, none⟩ (.int .i64 77)).cell? ⟨g, k * 3 + 2, none⟩ = some (vs[k * 3 + 2]'(by omega)) := (World.ownsRow.cellAt h2.1 _ (by omega)).trans (by simp)
      have f2 := World.ownsRow.frozenAt h2.1 (k * 3 + 2)
      have h3 := World.ownsRow.stored h2.1 (k * 3 + 2) (.string ⟨#[]⟩)
      have hb3 := hid (grown_trans (grown_trans (grown_trans hbr h1.2) h2.2) h3.2)
      have H3 := hid h3.1
      clear h1 h2 h3 hown
      go_wp2
      go_roundw
      case rel => exact ⟨k + 1, _, by omega, by go_num, H3, hb3⟩
      case measure => simp [intOf]; omega
    · have hi1 : ¬ ((k : Int) < (n : Int)) := by omega
      go_wp2
      go_end0
      exact ⟨rfl, hbr⟩
end Go.Proofs.Ytgpccjmkghpiiaa
