/- Texts on cells and lines, put together: LnReg, LnReg2, LnRun, LnRow. -/
import Derived.Test.YtblbfoniimnkcaaGreatDoorLnTwos
import Derived.Test.YtblbfoniimnkcaaGreatDoorLnJoin
import Derived.Deep.AppendLies
import Derived.Lib.AppendZeros
import Derived.Test.YtblbfoniimnkcaaGreatDoorLnChgs
/- Regions that draw their order: what an operation that comes up waited for; all are done at the end. -/
namespace Go.Proofs.YtblbfoniimnkcaaGreatDoor
open Go.RowKit Go.Lib Go.Great

theorem ready_waits {md : Region.Mode} {ops : Array Oper} {b : Array Bool} {i : Nat} {o : Oper} (h : i ∈ Region.ready md ops b) (ho : ops[i]? = some o) {j : Nat} (hj : (o.after.any fun e => Region.binds md e && e.on == j) = true) : b.getD j false = true := by
  unfold Region.ready at h
  rw [List.mem_filter] at h
  simp only [Bool.and_eq_true, ho, Option.map_some, Option.getD_some, Array.all_eq_true, Array.any_eq_true, beq_iff_eq] at h hj
  obtain ⟨k, hk, h1, h2⟩ := hj
  have := h.2.2 k hk
  rw [h1, h2] at this
  simpa using this
/-- Each edge that binds leads to an earlier operation. -/
def edgesDown (ops : Array Oper) : Bool := (List.range ops.size).all fun i => ((ops[i]?).map fun o => o.after.all fun e => !Region.binds .any e || decide (e.on < i)).getD true
theorem ready_nil {ops : Array Oper} {b : Array Bool} (hd : edgesDown ops = true) (hr : Region.ready .any ops b = []) (hs : b.size = ops.size) : ∀ n i, i < n → i < ops.size → b.getD i false = true := by
  intro n
  induction n with
  | zero => intro i hi; omega
  | succ n ih =>
    intro i hi hlt
    by_cases hin : i < n
    · exact ih i hin hlt
    · obtain rfl : i = n := by omega
      cases hb : b.getD i false with
      | true => rfl
      | false =>
        exfalso
        have hmem : i ∈ Region.ready .any ops b := by
          unfold Region.ready
          rw [List.mem_filter]
          refine ⟨List.mem_range.2 hlt, ?_⟩
          have hb' : b.getD i true = false := by
            simp only [Array.getD_eq_getD_getElem?] at hb ⊢
            rw [Array.getElem?_eq_getElem (by omega)] at hb ⊢
            simpa using hb
          simp only [Bool.and_eq_true, hb', Bool.not_false, true_and, Array.getElem?_eq_getElem hlt, Option.map_some, Option.getD_some]
          rw [Array.all_eq_true]
          intro k hk
          have := List.all_eq_true.1 hd i (List.mem_range.2 hlt)
          rw [Array.getElem?_eq_getElem hlt, Option.map_some, Option.getD_some, Array.all_eq_true] at this
          have h2 := this k hk
          rw [Bool.or_eq_true] at h2
          rcases h2 with h2 | h2
          · rw [h2, Bool.true_or]
          · have h3 := of_decide_eq_true h2
            rw [ih _ h3 (by omega), Bool.or_true]
        rw [hr] at hmem
        cases hmem
theorem getD_put {T : Array Value} {s k : Nat} {v : Value} (hs : s < T.size) : (T.setIfInBounds s v).getD k undef = if k = s then v else T.getD k undef := by
  by_cases h : k = s
  · subst h; rw [if_pos rfl, getD_set_eq hs]
  · rw [if_neg h, getD_set_ne (fun e => h e.symm)]
theorem array_ext_getD {T U : Array Value} (hs : T.size = U.size) (h : ∀ k, k < T.size → T.getD k undef = U.getD k undef) : T = U := by
  apply Array.ext hs
  intro i h1 h2
  have := h i h1
  simpa [Array.getD, h1, h2] using this
end Go.Proofs.YtblbfoniimnkcaaGreatDoor

/- The law of 'n, e := turn(m, do[i], kind)' on lines, for all its orders. (Printed by wip/lnreg.py.) -/
namespace Go.Proofs.YtblbfoniimnkcaaGreatDoor
open Go.RowKit Go.Lib Go.Great

def upds (T : Array Value) (l : List (Nat × Value)) : Array Value := l.foldl (fun T p => T.setIfInBounds p.1 p.2) T
theorem upds_size (l : List (Nat × Value)) : ∀ T : Array Value, (upds T l).size = T.size := by
  induction l with
  | nil => intro T; rfl
  | cons p l ih => intro T; unfold upds; rw [List.foldl_cons]; exact (ih _).trans (by simp)
theorem upds_ne (l : List (Nat × Value)) : ∀ (T : Array Value) (k : Nat), k ∉ l.map (·.1) → (upds T l).getD k undef = T.getD k undef := by
  induction l with
  | nil => intro T k _; rfl
  | cons p l ih =>
    intro T k hk
    rw [List.map_cons, List.mem_cons, not_or] at hk
    unfold upds
    rw [List.foldl_cons]
    exact (ih _ k hk.2).trans (getD_set_ne (fun e => hk.1 e.symm))
theorem upds_mem (l : List (Nat × Value)) : ∀ (T : Array Value), (l.map (·.1)).Nodup → (∀ p ∈ l, p.1 < T.size) → ∀ p ∈ l, (upds T l).getD p.1 undef = p.2 := by
  induction l with
  | nil => intro T _ _ p hp; cases hp
  | cons q l ih =>
    intro T nd hlt p hp
    rw [List.map_cons, List.nodup_cons] at nd
    unfold upds
    rw [List.foldl_cons]
    rcases List.mem_cons.1 hp with rfl | hp
    · exact (upds_ne l _ _ nd.1).trans (getD_set_eq (hlt _ (by simp)))
    · exact ih _ nd.2 (fun p hp => by rw [Array.size_setIfInBounds]; exact hlt p (by simp [hp])) p hp
theorem frame_eq {T T' : Array Value} (l : List (Nat × Value)) (hs : T'.size = T.size) (hlt : ∀ p ∈ l, p.1 < T.size) (nd : (l.map (·.1)).Nodup) (h1 : ∀ p ∈ l, T'.getD p.1 undef = p.2) (h2 : ∀ k, k ∉ l.map (·.1) → T'.getD k undef = T.getD k undef) : T' = upds T l := by
  refine array_ext_getD (hs.trans (upds_size l T).symm) (fun k _ => ?_)
  by_cases hk : k ∈ l.map (·.1)
  · obtain ⟨p, hp, rfl⟩ := List.mem_map.1 hk
    rw [h1 p hp, upds_mem l T nd hlt p hp]
  · rw [h2 k hk, upds_ne l T k hk]
section
variable {o : Oper} {a : Act} {w : World} {K : Act → World → Prop} {Q : Exit → Act → World → Prop}
theorem wp_val {P : Program} {v : Value} (hr : (execOp a.eval o).run P w = .ok (.value v) w) (h : K (a.put o.dst v) w) : o.wp P a w K Q := by
  unfold Oper.wp
  rw [hr]
  exact h
theorem Tryz.wp_call3 (f : FuncId) (p q r : Tmp) (ts : Array TypeId) (ho : o.op = .call { callee := .value (.func f), args := #[.tmp p, .tmp q, .tmp r], argTypes := ts }) {u v x : Value} (hu : a.eval (.tmp p) = u) (hv : a.eval (.tmp q) = v) (hx : a.eval (.tmp r) = x) (hf : ∀ u v x w, (callFunc f #[u, v, x]).run Tryz.prog w = .ok (.enter f #[u, v, x]) w) {R : Ending → World → Prop} (hc : Calls Tryz.prog f #[u, v, x] w R) (hR : ∀ e w', R e w' → ∃ z, e = .returned z ∧ K (a.put o.dst z) w') : o.wp Tryz.prog a w K Q := by
  have hr : (execOp a.eval o).run Tryz.prog w = .ok (.enter f #[u, v, x]) w := by
    unfold execOp
    simp [ho, go_sem]
    rw [show a.tmps[p]?.getD undef = u from by rw [← hu]; simp [Act.eval], show a.tmps[q]?.getD undef = v from by rw [← hv]; simp [Act.eval], show a.tmps[r]?.getD undef = x from by rw [← hx]; simp [Act.eval]]
    exact hf u v x w
  unfold Oper.wp
  rw [hr, Oper.upon_enter]
  refine hc.mono fun e w'' hh => ?_
  obtain ⟨z, rfl, h⟩ := hR e w'' hh
  exact h
end
theorem array13 {b : Array Bool} (h : b.size = 13) : b.size = 13 := h
def dep13 (o : Oper) (j : Nat) : Bool := o.after.any fun e => Region.binds .any e && e.on == j
structure TurnI (T : Array Value) (m : Ln) (A : Option Addr) (c : Nat) (B : Option Addr) (d : Nat) (w0 : World) (bs : List BoxR) (rs : List RowL) (sl : Value) (i : Int) (p : Addr) (x kind : Int) (r : Ln) (re : Int) (A3 : Option Addr) (c3 : Nat) (B3 : Option Addr) (d3 : Nat) (y : BoxR) (b : Nat → Bool) (a : Act) (w : World) : Prop where
  sz : a.tmps.size = T.size
  df : a.defers = []
  fr : ∀ k, k ∉ [42, 43, 44, 45, 46, 47, 48, 41, 49, 50, 10, 11] → a.tmps.getD k undef = T.getD k undef
  kl : KL w0 w bs rs []
  f0 : b 0 = true → a.tmps.getD 42 undef = .agg #[.int .i64 m.q, .slice A m.ls.length c, .int .i64 m.k, .slice B m.cs.length d]
  f1 : b 1 = true → a.tmps.getD 43 undef = sl
  f2 : b 2 = true → a.tmps.getD 44 undef = .int .i64 i
  f3 : b 3 = true → a.tmps.getD 45 undef = .pointer (some p)
  f4 : b 4 = true → a.tmps.getD 46 undef = .int .i64 x
  f5 : b 5 = true → a.tmps.getD 47 undef = .int .i64 kind
  f6 : b 6 = true → a.tmps.getD 48 undef = .tuple #[lnV r A3 c3 B3 d3, .int .i64 re] ∧ LnWr w w0.heap.size r A3 B3
  f7 : b 7 = true → a.tmps.getD 41 undef = .tuple #[lnV r A3 c3 B3 d3, .int .i64 re]
  f8 : b 8 = true → a.tmps.getD 49 undef = lnV r A3 c3 B3 d3
  f9 : b 9 = true → a.tmps.getD 50 undef = .int .i64 re
  f10 : b 10 = true → a.tmps.getD 10 undef = .pointer (some ⟨y.g, 0, none⟩) ∧ w0.heap.size ≤ y.g ∧ (∀ t ∈ bs, t.g ≠ y.g) ∧ Bx w y.g y.a y.b y.c y.d
  f11 : b 11 = true → y = ⟨y.g, .int .i64 r.q, .slice A3 r.ls.length c3, .int .i64 r.k, .slice B3 r.cs.length d3⟩
  f12 : b 12 = true → a.tmps.getD 11 undef = .int .i64 re
  w7 : b 7 = true → b 6 = true
  w8 : b 8 = true → b 7 = true
  w9 : b 9 = true → b 7 = true
  w11 : b 11 = true → b 8 = true ∧ b 10 = true
  w12 : b 12 = true → b 9 = true
section
variable {o0 o1 o2 o3 o4 o5 o6 o7 o8 o9 o10 o11 o12 : Oper}
set_option maxHeartbeats 4000000 in
theorem Tryz.turn_reg {id : Nat} {Q : Exit → Act → World → Prop} {T : Array Value} {m : Ln} {A : Option Addr} {c : Nat} {B : Option Addr} {d g7 : Nat} {w0 w : World} {bs : List BoxR} {rs : List RowL} {A0 : Addr} {n0 c0 : Nat} {i : Int} {p : Addr} {x kind : Int} {r : Ln} {re : Int} {f : FuncId} {ts : Array TypeId}
    (F0 : o0.op = .load 46 (.tmp 7) ∧ o0.dst = some 42 ∧ o0.guard = none)
    (F1 : o1.op = .move (.tmp 1) ∧ o1.dst = some 43 ∧ o1.guard = none)
    (F2 : o2.op = .move (.tmp 8) ∧ o2.dst = some 44 ∧ o2.guard = none)
    (F3 : o3.op = .indexAddr 43 (.tmp 43) (.tmp 44) ∧ o3.dst = some 45 ∧ o3.guard = none)
    (F4 : o4.op = .load 3 (.tmp 45) ∧ o4.dst = some 46 ∧ o4.guard = none)
    (F5 : o5.op = .move (.tmp 9) ∧ o5.dst = some 47 ∧ o5.guard = none)
    (F6 : o6.op = .call { callee := .value (.func f), args := #[.tmp 42, .tmp 46, .tmp 47], argTypes := ts } ∧ o6.dst = some 48 ∧ o6.guard = none)
    (F7 : o7.op = .move (.tmp 48) ∧ o7.dst = some 41 ∧ o7.guard = none)
    (F8 : o8.op = .extract (.tmp 41) 0 ∧ o8.dst = some 49 ∧ o8.guard = none)
    (F9 : o9.op = .extract (.tmp 41) 1 ∧ o9.dst = some 50 ∧ o9.guard = none)
    (F10 : o10.op = .alloc 46 ∧ o10.dst = some 10 ∧ o10.guard = none)
    (F11 : o11.op = .store 46 (.tmp 10) (.tmp 49) ∧ o11.dst = none ∧ o11.guard = none)
    (F12 : o12.op = .assign (.tmp 50) ∧ o12.dst = some 11 ∧ o12.guard = none)
    (D3 : dep13 o3 1 = true ∧ dep13 o3 2 = true)
    (D4 : dep13 o4 3 = true)
    (D6 : dep13 o6 0 = true ∧ dep13 o6 4 = true ∧ dep13 o6 5 = true)
    (D7 : dep13 o7 6 = true)
    (D8 : dep13 o8 7 = true)
    (D9 : dep13 o9 7 = true)
    (D11 : dep13 o11 8 = true ∧ dep13 o11 10 = true)
    (D12 : dep13 o12 9 = true)
    (down : edgesDown #[o0, o1, o2, o3, o4, o5, o6, o7, o8, o9, o10, o11, o12] = true) (hsz : 50 < T.size) (p7 : T.getD 7 undef = .pointer (some ⟨g7, 0, none⟩)) (p1 : T.getD 1 undef = .slice (some A0) n0 c0) (p8 : T.getD 8 undef = .int .i64 i) (p9 : T.getD 9 undef = .int .i64 kind)
    (I3 : ∀ (a : Act) (w : World), a.eval (.tmp 43) = .slice (some A0) n0 c0 → a.eval (.tmp 44) = .int .i64 i → (execOp a.eval o3).run Tryz.prog w = .ok (.value (.pointer (some p))) w)
    (I4 : ∀ (a : Act) (w : World), a.eval (.tmp 45) = .pointer (some p) → w.cell? p = some (.int .i64 x) → (execOp a.eval o4).run Tryz.prog w = .ok (.value (.int .i64 x)) w)
    (hcell : ∀ w', Below w0.heap.size w0 w' → w'.cell? p = some (.int .i64 x))
    (K : KL w0 w bs rs []) (hb1 : (⟨g7, .int .i64 m.q, .slice A m.ls.length c, .int .i64 m.k, .slice B m.cs.length d⟩ : BoxR) ∈ bs) (hl : (⟨m, A, B⟩ : RowL) ∈ rs)
    (C : ∀ W, LnAt W W.heap.size m A B → Below w0.heap.size w0 W → Calls Tryz.prog f #[.agg #[.int .i64 m.q, .slice A m.ls.length c, .int .i64 m.k, .slice B m.cs.length d], .int .i64 x, .int .i64 kind] W (RetLnE (r, re) W)) (H : ∀ u v x w, (callFunc f #[u, v, x]).run Tryz.prog w = .ok (.enter f #[u, v, x]) w)
    (hend : ∀ g A3 c3 B3 d3 w', KL w0 w' (⟨g, .int .i64 r.q, .slice A3 r.ls.length c3, .int .i64 r.k, .slice B3 r.cs.length d3⟩ :: bs) (⟨r, A3, B3⟩ :: rs) [] →
      Q .normal ⟨upds T [(42, .agg #[.int .i64 m.q, .slice A m.ls.length c, .int .i64 m.k, .slice B m.cs.length d]), (43, .slice (some A0) n0 c0), (44, .int .i64 i), (45, .pointer (some p)), (46, .int .i64 x), (47, .int .i64 kind), (48, .tuple #[lnV r A3 c3 B3 d3, .int .i64 re]), (41, .tuple #[lnV r A3 c3 B3 d3, .int .i64 re]), (49, lnV r A3 c3 B3 d3), (50, .int .i64 re), (10, .pointer (some ⟨g, 0, none⟩)), (11, .int .i64 re)], []⟩ w') :
    (Code.region id #[o0, o1, o2, o3, o4, o5, o6, o7, o8, o9, o10, o11, o12] true).wp Tryz.prog Q ⟨T, []⟩ w := by
  refine wp_region_any (by kernel_rfl) ?_
  refine wpAny_inv (fun b a w => b.size = 13 ∧ ∃ A3 c3 B3 d3 y, TurnI T m A c B d w0 bs rs (.slice (some A0) n0 c0) i p x kind r re A3 c3 B3 d3 y (fun k => b.getD k false) a w) ?step ?fin _ _ _ _ ?start ?fuel
  case fuel => simp
  case start =>
    refine ⟨by simp, none, 0, none, 0, ⟨0, undef, undef, undef, undef⟩, ?_⟩
    have no : ∀ k, (Array.replicate (#[o0, o1, o2, o3, o4, o5, o6, o7, o8, o9, o10, o11, o12] : Array Oper).size false).getD k false = true → False := fun k h => by
      simp [Array.getD] at h
    exact { sz := rfl, df := rfl, fr := fun _ _ => rfl, kl := K.quiet ⟨1, rfl⟩, f0 := fun h => (no _ h).elim, f1 := fun h => (no _ h).elim, f2 := fun h => (no _ h).elim, f3 := fun h => (no _ h).elim, f4 := fun h => (no _ h).elim, f5 := fun h => (no _ h).elim, f6 := fun h => (no _ h).elim, f7 := fun h => (no _ h).elim, f8 := fun h => (no _ h).elim, f9 := fun h => (no _ h).elim, f10 := fun h => (no _ h).elim, f11 := fun h => (no _ h).elim, f12 := fun h => (no _ h).elim, w7 := fun h => (no _ h).elim, w8 := fun h => (no _ h).elim, w9 := fun h => (no _ h).elim, w11 := fun h => (no _ h).elim, w12 := fun h => (no _ h).elim }
  case fin =>
    rintro b a w' ⟨hs, A3, c3, B3, d3, y, I⟩ hr
    have all : ∀ k, k < 13 → b.getD k false = true := fun k hk => ready_nil down hr hs 13 k hk hk
    obtain ⟨q10, q4, q4', q4''⟩ := I.f10 (all 10 (by decide))
    have e11 := I.f11 (all 11 (by decide))
    have K2 := (I.kl.push (t := y) q4 q4'' q4').add (Below.refl _ w') (LnWr.zero (A := none) (B := none))
    rw [e11] at K2
    have K3 : KL w0 w' (⟨y.g, .int .i64 r.q, .slice A3 r.ls.length c3, .int .i64 r.k, .slice B3 r.cs.length d3⟩ :: bs) (⟨r, A3, B3⟩ :: rs) [] := ⟨K2.b, K2.bx, K2.nd, fun s hs => by
      rcases List.mem_cons.1 hs with rfl | hs
      · exact .inr ((I.f6 (all 6 (by decide))).2.based (Nat.zero_le _))
      · exact I.kl.row s hs, K2.wr, K2.sep⟩
    have := hend y.g A3 c3 B3 d3 w' K3
    have ea : a = ⟨upds T [(42, .agg #[.int .i64 m.q, .slice A m.ls.length c, .int .i64 m.k, .slice B m.cs.length d]), (43, .slice (some A0) n0 c0), (44, .int .i64 i), (45, .pointer (some p)), (46, .int .i64 x), (47, .int .i64 kind), (48, .tuple #[lnV r A3 c3 B3 d3, .int .i64 re]), (41, .tuple #[lnV r A3 c3 B3 d3, .int .i64 re]), (49, lnV r A3 c3 B3 d3), (50, .int .i64 re), (10, .pointer (some ⟨y.g, 0, none⟩)), (11, .int .i64 re)], []⟩ := by
      obtain ⟨tm, df⟩ := a
      have hd : df = [] := I.df
      subst hd
      refine congrArg (fun z => (⟨z, []⟩ : Act)) (frame_eq [(42, .agg #[.int .i64 m.q, .slice A m.ls.length c, .int .i64 m.k, .slice B m.cs.length d]), (43, .slice (some A0) n0 c0), (44, .int .i64 i), (45, .pointer (some p)), (46, .int .i64 x), (47, .int .i64 kind), (48, .tuple #[lnV r A3 c3 B3 d3, .int .i64 re]), (41, .tuple #[lnV r A3 c3 B3 d3, .int .i64 re]), (49, lnV r A3 c3 B3 d3), (50, .int .i64 re), (10, .pointer (some ⟨y.g, 0, none⟩)), (11, .int .i64 re)] I.sz ?_ ?_ ?_ I.fr)
      · intro q hq; simp at hq; rcases hq with rfl | rfl | rfl | rfl | rfl | rfl | rfl | rfl | rfl | rfl | rfl | rfl <;> simp <;> omega
      · show ([42, 43, 44, 45, 46, 47, 48, 41, 49, 50, 10, 11] : List Nat).Nodup; decide
      · intro q hq
        simp only [List.mem_cons, List.not_mem_nil, or_false] at hq
        rcases hq with rfl | rfl | rfl | rfl | rfl | rfl | rfl | rfl | rfl | rfl | rfl | rfl
        · exact I.f0 (all 0 (by decide))
        · exact I.f1 (all 1 (by decide))
        · exact I.f2 (all 2 (by decide))
        · exact I.f3 (all 3 (by decide))
        · exact I.f4 (all 4 (by decide))
        · exact I.f5 (all 5 (by decide))
        · exact (I.f6 (all 6 (by decide))).1
        · exact I.f7 (all 7 (by decide))
        · exact I.f8 (all 8 (by decide))
        · exact I.f9 (all 9 (by decide))
        · exact (I.f10 (all 10 (by decide))).1
        · exact I.f12 (all 12 (by decide))
    rw [ea]
    exact this
  case step =>
    rintro b a w' i' ⟨hs, A3, c3, B3, d3, y, I⟩ hi
    have off := ready_mem hi
    have hlt : i' < 13 := by
      unfold Region.ready at hi
      rw [List.mem_filter] at hi
      exact List.mem_range.1 hi.1
    have off' : b.getD i' false = false := by
      simp only [Array.getD_eq_getD_getElem?] at off ⊢
      rw [Array.getElem?_eq_getElem (by omega)] at off ⊢
      simpa using off
    obtain ⟨hbig, hbx⟩ := I.kl.bx _ hb1
    have rowat := I.kl.at_ hl
    have asz := I.sz
    have g7' : a.eval (.tmp 7) = .pointer (some ⟨g7, 0, none⟩) := (I.fr 7 (by decide)).trans p7
    have g1' : a.eval (.tmp 1) = .slice (some A0) n0 c0 := (I.fr 1 (by decide)).trans p1
    have g8' : a.eval (.tmp 8) = .int .i64 i := (I.fr 8 (by decide)).trans p8
    have g9' : a.eval (.tmp 9) = .int .i64 kind := (I.fr 9 (by decide)).trans p9
    have bi : (fun k => (b.setIfInBounds i' true).getD k false) = bitOn (fun k => b.getD k false) i' := bit_set (by omega)
    match i', hlt with
    | 0, _ =>
      refine wpOp_step (o := o0) rfl (fun K' hK => ?_)
      rw [if_pos (by simp [Region.wanted, F0.2.2])]
      refine Tryz.wp_loadL (.tmp 7) F0.1 g7' hbx ?_
      refine hK _ _ ⟨by rw [Array.size_setIfInBounds]; exact hs, A3, c3, B3, d3, y, ?_⟩
      rw [bi]
      unfold Act.put
      rw [F0.2.1]
      exact { sz := (Array.size_setIfInBounds ..).trans I.sz, df := I.df, fr := fun k hk => (getD_set_ne (fun e => hk (by rw [← e]; decide))).trans (I.fr k hk), kl := I.kl, f0 := fun _ => getD_set_eq (by rw [asz]; omega), f1 := fun h => (getD_set_ne (by decide)).trans (I.f1 (bit_ne h (by decide))), f2 := fun h => (getD_set_ne (by decide)).trans (I.f2 (bit_ne h (by decide))), f3 := fun h => (getD_set_ne (by decide)).trans (I.f3 (bit_ne h (by decide))), f4 := fun h => (getD_set_ne (by decide)).trans (I.f4 (bit_ne h (by decide))), f5 := fun h => (getD_set_ne (by decide)).trans (I.f5 (bit_ne h (by decide))), f6 := fun h => ⟨(getD_set_ne (by decide)).trans (I.f6 (bit_ne h (by decide))).1, (I.f6 (bit_ne h (by decide))).2⟩, f7 := fun h => (getD_set_ne (by decide)).trans (I.f7 (bit_ne h (by decide))), f8 := fun h => (getD_set_ne (by decide)).trans (I.f8 (bit_ne h (by decide))), f9 := fun h => (getD_set_ne (by decide)).trans (I.f9 (bit_ne h (by decide))), f10 := fun h => ⟨(getD_set_ne (by decide)).trans (I.f10 (bit_ne h (by decide))).1, (I.f10 (bit_ne h (by decide))).2⟩, f11 := fun h => I.f11 (bit_ne h (by decide)), f12 := fun h => (getD_set_ne (by decide)).trans (I.f12 (bit_ne h (by decide))), w7 := fun h => bit_on (I.w7 (bit_ne h (by decide))), w8 := fun h => bit_on (I.w8 (bit_ne h (by decide))), w9 := fun h => bit_on (I.w9 (bit_ne h (by decide))), w11 := fun h => ⟨bit_on (I.w11 (bit_ne h (by decide))).1, bit_on (I.w11 (bit_ne h (by decide))).2⟩, w12 := fun h => bit_on (I.w12 (bit_ne h (by decide))) }
    | 1, _ =>
      refine wpOp_step (o := o1) rfl (fun K' hK => ?_)
      rw [if_pos (by simp [Region.wanted, F1.2.2])]
      refine wp_val (v := .slice (some A0) n0 c0) (by unfold execOp; simp only [F1.1, Sem.run_pure, g1']) ?_
      refine hK _ _ ⟨by rw [Array.size_setIfInBounds]; exact hs, A3, c3, B3, d3, y, ?_⟩
      rw [bi]
      unfold Act.put
      rw [F1.2.1]
      exact { sz := (Array.size_setIfInBounds ..).trans I.sz, df := I.df, fr := fun k hk => (getD_set_ne (fun e => hk (by rw [← e]; decide))).trans (I.fr k hk), kl := I.kl, f0 := fun h => (getD_set_ne (by decide)).trans (I.f0 (bit_ne h (by decide))), f1 := fun _ => getD_set_eq (by rw [asz]; omega), f2 := fun h => (getD_set_ne (by decide)).trans (I.f2 (bit_ne h (by decide))), f3 := fun h => (getD_set_ne (by decide)).trans (I.f3 (bit_ne h (by decide))), f4 := fun h => (getD_set_ne (by decide)).trans (I.f4 (bit_ne h (by decide))), f5 := fun h => (getD_set_ne (by decide)).trans (I.f5 (bit_ne h (by decide))), f6 := fun h => ⟨(getD_set_ne (by decide)).trans (I.f6 (bit_ne h (by decide))).1, (I.f6 (bit_ne h (by decide))).2⟩, f7 := fun h => (getD_set_ne (by decide)).trans (I.f7 (bit_ne h (by decide))), f8 := fun h => (getD_set_ne (by decide)).trans (I.f8 (bit_ne h (by decide))), f9 := fun h => (getD_set_ne (by decide)).trans (I.f9 (bit_ne h (by decide))), f10 := fun h => ⟨(getD_set_ne (by decide)).trans (I.f10 (bit_ne h (by decide))).1, (I.f10 (bit_ne h (by decide))).2⟩, f11 := fun h => I.f11 (bit_ne h (by decide)), f12 := fun h => (getD_set_ne (by decide)).trans (I.f12 (bit_ne h (by decide))), w7 := fun h => bit_on (I.w7 (bit_ne h (by decide))), w8 := fun h => bit_on (I.w8 (bit_ne h (by decide))), w9 := fun h => bit_on (I.w9 (bit_ne h (by decide))), w11 := fun h => ⟨bit_on (I.w11 (bit_ne h (by decide))).1, bit_on (I.w11 (bit_ne h (by decide))).2⟩, w12 := fun h => bit_on (I.w12 (bit_ne h (by decide))) }
    | 2, _ =>
      refine wpOp_step (o := o2) rfl (fun K' hK => ?_)
      rw [if_pos (by simp [Region.wanted, F2.2.2])]
      refine wp_val (v := .int .i64 i) (by unfold execOp; simp only [F2.1, Sem.run_pure, g8']) ?_
      refine hK _ _ ⟨by rw [Array.size_setIfInBounds]; exact hs, A3, c3, B3, d3, y, ?_⟩
      rw [bi]
      unfold Act.put
      rw [F2.2.1]
      exact { sz := (Array.size_setIfInBounds ..).trans I.sz, df := I.df, fr := fun k hk => (getD_set_ne (fun e => hk (by rw [← e]; decide))).trans (I.fr k hk), kl := I.kl, f0 := fun h => (getD_set_ne (by decide)).trans (I.f0 (bit_ne h (by decide))), f1 := fun h => (getD_set_ne (by decide)).trans (I.f1 (bit_ne h (by decide))), f2 := fun _ => getD_set_eq (by rw [asz]; omega), f3 := fun h => (getD_set_ne (by decide)).trans (I.f3 (bit_ne h (by decide))), f4 := fun h => (getD_set_ne (by decide)).trans (I.f4 (bit_ne h (by decide))), f5 := fun h => (getD_set_ne (by decide)).trans (I.f5 (bit_ne h (by decide))), f6 := fun h => ⟨(getD_set_ne (by decide)).trans (I.f6 (bit_ne h (by decide))).1, (I.f6 (bit_ne h (by decide))).2⟩, f7 := fun h => (getD_set_ne (by decide)).trans (I.f7 (bit_ne h (by decide))), f8 := fun h => (getD_set_ne (by decide)).trans (I.f8 (bit_ne h (by decide))), f9 := fun h => (getD_set_ne (by decide)).trans (I.f9 (bit_ne h (by decide))), f10 := fun h => ⟨(getD_set_ne (by decide)).trans (I.f10 (bit_ne h (by decide))).1, (I.f10 (bit_ne h (by decide))).2⟩, f11 := fun h => I.f11 (bit_ne h (by decide)), f12 := fun h => (getD_set_ne (by decide)).trans (I.f12 (bit_ne h (by decide))), w7 := fun h => bit_on (I.w7 (bit_ne h (by decide))), w8 := fun h => bit_on (I.w8 (bit_ne h (by decide))), w9 := fun h => bit_on (I.w9 (bit_ne h (by decide))), w11 := fun h => ⟨bit_on (I.w11 (bit_ne h (by decide))).1, bit_on (I.w11 (bit_ne h (by decide))).2⟩, w12 := fun h => bit_on (I.w12 (bit_ne h (by decide))) }
    | 3, _ =>
      refine wpOp_step (o := o3) rfl (fun K' hK => ?_)
      rw [if_pos (by simp [Region.wanted, F3.2.2])]
      have h1 := ready_waits hi rfl D3.1
      have h2 := ready_waits hi rfl D3.2
      refine wp_val (I3 a w' (I.f1 h1) (I.f2 h2)) ?_
      refine hK _ _ ⟨by rw [Array.size_setIfInBounds]; exact hs, A3, c3, B3, d3, y, ?_⟩
      rw [bi]
      unfold Act.put
      rw [F3.2.1]
      exact { sz := (Array.size_setIfInBounds ..).trans I.sz, df := I.df, fr := fun k hk => (getD_set_ne (fun e => hk (by rw [← e]; decide))).trans (I.fr k hk), kl := I.kl, f0 := fun h => (getD_set_ne (by decide)).trans (I.f0 (bit_ne h (by decide))), f1 := fun h => (getD_set_ne (by decide)).trans (I.f1 (bit_ne h (by decide))), f2 := fun h => (getD_set_ne (by decide)).trans (I.f2 (bit_ne h (by decide))), f3 := fun _ => getD_set_eq (by rw [asz]; omega), f4 := fun h => (getD_set_ne (by decide)).trans (I.f4 (bit_ne h (by decide))), f5 := fun h => (getD_set_ne (by decide)).trans (I.f5 (bit_ne h (by decide))), f6 := fun h => ⟨(getD_set_ne (by decide)).trans (I.f6 (bit_ne h (by decide))).1, (I.f6 (bit_ne h (by decide))).2⟩, f7 := fun h => (getD_set_ne (by decide)).trans (I.f7 (bit_ne h (by decide))), f8 := fun h => (getD_set_ne (by decide)).trans (I.f8 (bit_ne h (by decide))), f9 := fun h => (getD_set_ne (by decide)).trans (I.f9 (bit_ne h (by decide))), f10 := fun h => ⟨(getD_set_ne (by decide)).trans (I.f10 (bit_ne h (by decide))).1, (I.f10 (bit_ne h (by decide))).2⟩, f11 := fun h => I.f11 (bit_ne h (by decide)), f12 := fun h => (getD_set_ne (by decide)).trans (I.f12 (bit_ne h (by decide))), w7 := fun h => bit_on (I.w7 (bit_ne h (by decide))), w8 := fun h => bit_on (I.w8 (bit_ne h (by decide))), w9 := fun h => bit_on (I.w9 (bit_ne h (by decide))), w11 := fun h => ⟨bit_on (I.w11 (bit_ne h (by decide))).1, bit_on (I.w11 (bit_ne h (by decide))).2⟩, w12 := fun h => bit_on (I.w12 (bit_ne h (by decide))) }
    | 4, _ =>
      refine wpOp_step (o := o4) rfl (fun K' hK => ?_)
      rw [if_pos (by simp [Region.wanted, F4.2.2])]
      have h3 := ready_waits hi rfl D4
      refine wp_val (I4 a w' (I.f3 h3) (hcell w' I.kl.b)) ?_
      refine hK _ _ ⟨by rw [Array.size_setIfInBounds]; exact hs, A3, c3, B3, d3, y, ?_⟩
      rw [bi]
      unfold Act.put
      rw [F4.2.1]
      exact { sz := (Array.size_setIfInBounds ..).trans I.sz, df := I.df, fr := fun k hk => (getD_set_ne (fun e => hk (by rw [← e]; decide))).trans (I.fr k hk), kl := I.kl, f0 := fun h => (getD_set_ne (by decide)).trans (I.f0 (bit_ne h (by decide))), f1 := fun h => (getD_set_ne (by decide)).trans (I.f1 (bit_ne h (by decide))), f2 := fun h => (getD_set_ne (by decide)).trans (I.f2 (bit_ne h (by decide))), f3 := fun h => (getD_set_ne (by decide)).trans (I.f3 (bit_ne h (by decide))), f4 := fun _ => getD_set_eq (by rw [asz]; omega), f5 := fun h => (getD_set_ne (by decide)).trans (I.f5 (bit_ne h (by decide))), f6 := fun h => ⟨(getD_set_ne (by decide)).trans (I.f6 (bit_ne h (by decide))).1, (I.f6 (bit_ne h (by decide))).2⟩, f7 := fun h => (getD_set_ne (by decide)).trans (I.f7 (bit_ne h (by decide))), f8 := fun h => (getD_set_ne (by decide)).trans (I.f8 (bit_ne h (by decide))), f9 := fun h => (getD_set_ne (by decide)).trans (I.f9 (bit_ne h (by decide))), f10 := fun h => ⟨(getD_set_ne (by decide)).trans (I.f10 (bit_ne h (by decide))).1, (I.f10 (bit_ne h (by decide))).2⟩, f11 := fun h => I.f11 (bit_ne h (by decide)), f12 := fun h => (getD_set_ne (by decide)).trans (I.f12 (bit_ne h (by decide))), w7 := fun h => bit_on (I.w7 (bit_ne h (by decide))), w8 := fun h => bit_on (I.w8 (bit_ne h (by decide))), w9 := fun h => bit_on (I.w9 (bit_ne h (by decide))), w11 := fun h => ⟨bit_on (I.w11 (bit_ne h (by decide))).1, bit_on (I.w11 (bit_ne h (by decide))).2⟩, w12 := fun h => bit_on (I.w12 (bit_ne h (by decide))) }
    | 5, _ =>
      refine wpOp_step (o := o5) rfl (fun K' hK => ?_)
      rw [if_pos (by simp [Region.wanted, F5.2.2])]
      refine wp_val (v := .int .i64 kind) (by unfold execOp; simp only [F5.1, Sem.run_pure, g9']) ?_
      refine hK _ _ ⟨by rw [Array.size_setIfInBounds]; exact hs, A3, c3, B3, d3, y, ?_⟩
      rw [bi]
      unfold Act.put
      rw [F5.2.1]
      exact { sz := (Array.size_setIfInBounds ..).trans I.sz, df := I.df, fr := fun k hk => (getD_set_ne (fun e => hk (by rw [← e]; decide))).trans (I.fr k hk), kl := I.kl, f0 := fun h => (getD_set_ne (by decide)).trans (I.f0 (bit_ne h (by decide))), f1 := fun h => (getD_set_ne (by decide)).trans (I.f1 (bit_ne h (by decide))), f2 := fun h => (getD_set_ne (by decide)).trans (I.f2 (bit_ne h (by decide))), f3 := fun h => (getD_set_ne (by decide)).trans (I.f3 (bit_ne h (by decide))), f4 := fun h => (getD_set_ne (by decide)).trans (I.f4 (bit_ne h (by decide))), f5 := fun _ => getD_set_eq (by rw [asz]; omega), f6 := fun h => ⟨(getD_set_ne (by decide)).trans (I.f6 (bit_ne h (by decide))).1, (I.f6 (bit_ne h (by decide))).2⟩, f7 := fun h => (getD_set_ne (by decide)).trans (I.f7 (bit_ne h (by decide))), f8 := fun h => (getD_set_ne (by decide)).trans (I.f8 (bit_ne h (by decide))), f9 := fun h => (getD_set_ne (by decide)).trans (I.f9 (bit_ne h (by decide))), f10 := fun h => ⟨(getD_set_ne (by decide)).trans (I.f10 (bit_ne h (by decide))).1, (I.f10 (bit_ne h (by decide))).2⟩, f11 := fun h => I.f11 (bit_ne h (by decide)), f12 := fun h => (getD_set_ne (by decide)).trans (I.f12 (bit_ne h (by decide))), w7 := fun h => bit_on (I.w7 (bit_ne h (by decide))), w8 := fun h => bit_on (I.w8 (bit_ne h (by decide))), w9 := fun h => bit_on (I.w9 (bit_ne h (by decide))), w11 := fun h => ⟨bit_on (I.w11 (bit_ne h (by decide))).1, bit_on (I.w11 (bit_ne h (by decide))).2⟩, w12 := fun h => bit_on (I.w12 (bit_ne h (by decide))) }
    | 6, _ =>
      refine wpOp_step (o := o6) rfl (fun K' hK => ?_)
      rw [if_pos (by simp [Region.wanted, F6.2.2])]
      have h0 := ready_waits hi rfl D6.1
      have h4 := ready_waits hi rfl D6.2.1
      have h5 := ready_waits hi rfl D6.2.2
      refine Tryz.wp_call3 f 42 46 47 ts F6.1 (I.f0 h0) (I.f4 h4) (I.f5 h5) H (C w' rowat I.kl.b) ?_
      rintro e W2 ⟨A9, c9, B9, d9, rfl, -, -, wr, hbw⟩
      refine ⟨_, rfl, ?_⟩
      refine hK _ _ ⟨by rw [Array.size_setIfInBounds]; exact hs, A9, c9, B9, d9, y, ?_⟩
      rw [bi]
      unfold Act.put
      rw [F6.2.1]
      exact { sz := (Array.size_setIfInBounds ..).trans I.sz, df := I.df, fr := fun k hk => (getD_set_ne (fun e => hk (by rw [← e]; decide))).trans (I.fr k hk), kl := I.kl.later hbw, f0 := fun h => (getD_set_ne (by decide)).trans (I.f0 (bit_ne h (by decide))), f1 := fun h => (getD_set_ne (by decide)).trans (I.f1 (bit_ne h (by decide))), f2 := fun h => (getD_set_ne (by decide)).trans (I.f2 (bit_ne h (by decide))), f3 := fun h => (getD_set_ne (by decide)).trans (I.f3 (bit_ne h (by decide))), f4 := fun h => (getD_set_ne (by decide)).trans (I.f4 (bit_ne h (by decide))), f5 := fun h => (getD_set_ne (by decide)).trans (I.f5 (bit_ne h (by decide))), f6 := fun _ => ⟨getD_set_eq (by rw [asz]; omega), wr.based I.kl.b.size⟩, f7 := fun h => by have z := bit_ne h (by decide); have z6 := I.w7 z; simp [off'] at z6, f8 := fun h => by have z := bit_ne h (by decide); have z7 := I.w8 z; have z6 := I.w7 z7; simp [off'] at z6, f9 := fun h => by have z := bit_ne h (by decide); have z7 := I.w9 z; have z6 := I.w7 z7; simp [off'] at z6, f10 := fun h => ⟨(getD_set_ne (by decide)).trans (I.f10 (bit_ne h (by decide))).1, (I.f10 (bit_ne h (by decide))).2.1, (I.f10 (bit_ne h (by decide))).2.2.1, (I.f10 (bit_ne h (by decide))).2.2.2.later hbw⟩, f11 := fun h => by have z := bit_ne h (by decide); have z8 := (I.w11 z).1; have z7 := I.w8 z8; have z6 := I.w7 z7; simp [off'] at z6, f12 := fun h => by have z := bit_ne h (by decide); have z9 := I.w12 z; have z7 := I.w9 z9; have z6 := I.w7 z7; simp [off'] at z6, w7 := fun h => bit_on (I.w7 (bit_ne h (by decide))), w8 := fun h => bit_on (I.w8 (bit_ne h (by decide))), w9 := fun h => bit_on (I.w9 (bit_ne h (by decide))), w11 := fun h => ⟨bit_on (I.w11 (bit_ne h (by decide))).1, bit_on (I.w11 (bit_ne h (by decide))).2⟩, w12 := fun h => bit_on (I.w12 (bit_ne h (by decide))) }
    | 7, _ =>
      refine wpOp_step (o := o7) rfl (fun K' hK => ?_)
      rw [if_pos (by simp [Region.wanted, F7.2.2])]
      have h6 := ready_waits hi rfl D7
      refine wp_val (v := .tuple #[lnV r A3 c3 B3 d3, .int .i64 re]) (by unfold execOp; simp only [F7.1, Sem.run_pure, (show a.eval (.tmp 48) = _ from (I.f6 h6).1)]) ?_
      refine hK _ _ ⟨by rw [Array.size_setIfInBounds]; exact hs, A3, c3, B3, d3, y, ?_⟩
      rw [bi]
      unfold Act.put
      rw [F7.2.1]
      exact { sz := (Array.size_setIfInBounds ..).trans I.sz, df := I.df, fr := fun k hk => (getD_set_ne (fun e => hk (by rw [← e]; decide))).trans (I.fr k hk), kl := I.kl, f0 := fun h => (getD_set_ne (by decide)).trans (I.f0 (bit_ne h (by decide))), f1 := fun h => (getD_set_ne (by decide)).trans (I.f1 (bit_ne h (by decide))), f2 := fun h => (getD_set_ne (by decide)).trans (I.f2 (bit_ne h (by decide))), f3 := fun h => (getD_set_ne (by decide)).trans (I.f3 (bit_ne h (by decide))), f4 := fun h => (getD_set_ne (by decide)).trans (I.f4 (bit_ne h (by decide))), f5 := fun h => (getD_set_ne (by decide)).trans (I.f5 (bit_ne h (by decide))), f6 := fun h => ⟨(getD_set_ne (by decide)).trans (I.f6 (bit_ne h (by decide))).1, (I.f6 (bit_ne h (by decide))).2⟩, f7 := fun _ => getD_set_eq (by rw [asz]; omega), f8 := fun h => (getD_set_ne (by decide)).trans (I.f8 (bit_ne h (by decide))), f9 := fun h => (getD_set_ne (by decide)).trans (I.f9 (bit_ne h (by decide))), f10 := fun h => ⟨(getD_set_ne (by decide)).trans (I.f10 (bit_ne h (by decide))).1, (I.f10 (bit_ne h (by decide))).2⟩, f11 := fun h => I.f11 (bit_ne h (by decide)), f12 := fun h => (getD_set_ne (by decide)).trans (I.f12 (bit_ne h (by decide))), w7 := fun _ => bit_on h6, w8 := fun h => bit_on (I.w8 (bit_ne h (by decide))), w9 := fun h => bit_on (I.w9 (bit_ne h (by decide))), w11 := fun h => ⟨bit_on (I.w11 (bit_ne h (by decide))).1, bit_on (I.w11 (bit_ne h (by decide))).2⟩, w12 := fun h => bit_on (I.w12 (bit_ne h (by decide))) }
    | 8, _ =>
      refine wpOp_step (o := o8) rfl (fun K' hK => ?_)
      rw [if_pos (by simp [Region.wanted, F8.2.2])]
      have h7 := ready_waits hi rfl D8
      refine wp_val (v := lnV r A3 c3 B3 d3) (by unfold execOp; simp only [F8.1, (show a.eval (.tmp 41) = _ from I.f7 h7)]; rfl) ?_
      refine hK _ _ ⟨by rw [Array.size_setIfInBounds]; exact hs, A3, c3, B3, d3, y, ?_⟩
      rw [bi]
      unfold Act.put
      rw [F8.2.1]
      exact { sz := (Array.size_setIfInBounds ..).trans I.sz, df := I.df, fr := fun k hk => (getD_set_ne (fun e => hk (by rw [← e]; decide))).trans (I.fr k hk), kl := I.kl, f0 := fun h => (getD_set_ne (by decide)).trans (I.f0 (bit_ne h (by decide))), f1 := fun h => (getD_set_ne (by decide)).trans (I.f1 (bit_ne h (by decide))), f2 := fun h => (getD_set_ne (by decide)).trans (I.f2 (bit_ne h (by decide))), f3 := fun h => (getD_set_ne (by decide)).trans (I.f3 (bit_ne h (by decide))), f4 := fun h => (getD_set_ne (by decide)).trans (I.f4 (bit_ne h (by decide))), f5 := fun h => (getD_set_ne (by decide)).trans (I.f5 (bit_ne h (by decide))), f6 := fun h => ⟨(getD_set_ne (by decide)).trans (I.f6 (bit_ne h (by decide))).1, (I.f6 (bit_ne h (by decide))).2⟩, f7 := fun h => (getD_set_ne (by decide)).trans (I.f7 (bit_ne h (by decide))), f8 := fun _ => getD_set_eq (by rw [asz]; omega), f9 := fun h => (getD_set_ne (by decide)).trans (I.f9 (bit_ne h (by decide))), f10 := fun h => ⟨(getD_set_ne (by decide)).trans (I.f10 (bit_ne h (by decide))).1, (I.f10 (bit_ne h (by decide))).2⟩, f11 := fun h => I.f11 (bit_ne h (by decide)), f12 := fun h => (getD_set_ne (by decide)).trans (I.f12 (bit_ne h (by decide))), w7 := fun h => bit_on (I.w7 (bit_ne h (by decide))), w8 := fun _ => bit_on h7, w9 := fun h => bit_on (I.w9 (bit_ne h (by decide))), w11 := fun h => ⟨bit_on (I.w11 (bit_ne h (by decide))).1, bit_on (I.w11 (bit_ne h (by decide))).2⟩, w12 := fun h => bit_on (I.w12 (bit_ne h (by decide))) }
    | 9, _ =>
      refine wpOp_step (o := o9) rfl (fun K' hK => ?_)
      rw [if_pos (by simp [Region.wanted, F9.2.2])]
      have h7 := ready_waits hi rfl D9
      refine wp_val (v := .int .i64 re) (by unfold execOp; simp only [F9.1, (show a.eval (.tmp 41) = _ from I.f7 h7)]; rfl) ?_
      refine hK _ _ ⟨by rw [Array.size_setIfInBounds]; exact hs, A3, c3, B3, d3, y, ?_⟩
      rw [bi]
      unfold Act.put
      rw [F9.2.1]
      exact { sz := (Array.size_setIfInBounds ..).trans I.sz, df := I.df, fr := fun k hk => (getD_set_ne (fun e => hk (by rw [← e]; decide))).trans (I.fr k hk), kl := I.kl, f0 := fun h => (getD_set_ne (by decide)).trans (I.f0 (bit_ne h (by decide))), f1 := fun h => (getD_set_ne (by decide)).trans (I.f1 (bit_ne h (by decide))), f2 := fun h => (getD_set_ne (by decide)).trans (I.f2 (bit_ne h (by decide))), f3 := fun h => (getD_set_ne (by decide)).trans (I.f3 (bit_ne h (by decide))), f4 := fun h => (getD_set_ne (by decide)).trans (I.f4 (bit_ne h (by decide))), f5 := fun h => (getD_set_ne (by decide)).trans (I.f5 (bit_ne h (by decide))), f6 := fun h => ⟨(getD_set_ne (by decide)).trans (I.f6 (bit_ne h (by decide))).1, (I.f6 (bit_ne h (by decide))).2⟩, f7 := fun h => (getD_set_ne (by decide)).trans (I.f7 (bit_ne h (by decide))), f8 := fun h => (getD_set_ne (by decide)).trans (I.f8 (bit_ne h (by decide))), f9 := fun _ => getD_set_eq (by rw [asz]; omega), f10 := fun h => ⟨(getD_set_ne (by decide)).trans (I.f10 (bit_ne h (by decide))).1, (I.f10 (bit_ne h (by decide))).2⟩, f11 := fun h => I.f11 (bit_ne h (by decide)), f12 := fun h => (getD_set_ne (by decide)).trans (I.f12 (bit_ne h (by decide))), w7 := fun h => bit_on (I.w7 (bit_ne h (by decide))), w8 := fun h => bit_on (I.w8 (bit_ne h (by decide))), w9 := fun _ => bit_on h7, w11 := fun h => ⟨bit_on (I.w11 (bit_ne h (by decide))).1, bit_on (I.w11 (bit_ne h (by decide))).2⟩, w12 := fun h => bit_on (I.w12 (bit_ne h (by decide))) }
    | 10, _ =>
      refine wpOp_step (o := o10) rfl (fun K' hK => ?_)
      rw [if_pos (by simp [Region.wanted, F10.2.2])]
      refine Tryz.wp_allocL F10.1 ?_
      have hbw : Below w'.heap.size w' (w'.alloc (.cells #[.int .i64 0, .slice none 0 0, .int .i64 0, .slice none 0 0] 46)) := (Below.refl _ w').alloc (Nat.le_refl _) _
      refine hK _ _ ⟨by rw [Array.size_setIfInBounds]; exact hs, A3, c3, B3, d3, ⟨w'.heap.size, .int .i64 0, .slice none 0 0, .int .i64 0, .slice none 0 0⟩, ?_⟩
      rw [bi]
      unfold Act.put
      rw [F10.2.1]
      exact { sz := (Array.size_setIfInBounds ..).trans I.sz, df := I.df, fr := fun k hk => (getD_set_ne (fun e => hk (by rw [← e]; decide))).trans (I.fr k hk), kl := I.kl.later hbw, f0 := fun h => (getD_set_ne (by decide)).trans (I.f0 (bit_ne h (by decide))), f1 := fun h => (getD_set_ne (by decide)).trans (I.f1 (bit_ne h (by decide))), f2 := fun h => (getD_set_ne (by decide)).trans (I.f2 (bit_ne h (by decide))), f3 := fun h => (getD_set_ne (by decide)).trans (I.f3 (bit_ne h (by decide))), f4 := fun h => (getD_set_ne (by decide)).trans (I.f4 (bit_ne h (by decide))), f5 := fun h => (getD_set_ne (by decide)).trans (I.f5 (bit_ne h (by decide))), f6 := fun h => ⟨(getD_set_ne (by decide)).trans (I.f6 (bit_ne h (by decide))).1, (I.f6 (bit_ne h (by decide))).2.later hbw⟩, f7 := fun h => (getD_set_ne (by decide)).trans (I.f7 (bit_ne h (by decide))), f8 := fun h => (getD_set_ne (by decide)).trans (I.f8 (bit_ne h (by decide))), f9 := fun h => (getD_set_ne (by decide)).trans (I.f9 (bit_ne h (by decide))), f10 := fun _ => ⟨getD_set_eq (by rw [asz]; omega), I.kl.b.size, (fun t ht e => by have := (I.kl.bx t ht).2.lt; have e' : t.g = w'.heap.size := e; omega), Bx.new w' _ _ _ _⟩, f11 := fun h => by have z := bit_ne h (by decide); have z10 := (I.w11 z).2; simp [off'] at z10, f12 := fun h => (getD_set_ne (by decide)).trans (I.f12 (bit_ne h (by decide))), w7 := fun h => bit_on (I.w7 (bit_ne h (by decide))), w8 := fun h => bit_on (I.w8 (bit_ne h (by decide))), w9 := fun h => bit_on (I.w9 (bit_ne h (by decide))), w11 := fun h => ⟨bit_on (I.w11 (bit_ne h (by decide))).1, bit_on (I.w11 (bit_ne h (by decide))).2⟩, w12 := fun h => bit_on (I.w12 (bit_ne h (by decide))) }
    | 11, _ =>
      refine wpOp_step (o := o11) rfl (fun K' hK => ?_)
      rw [if_pos (by simp [Region.wanted, F11.2.2])]
      have h8 := ready_waits hi rfl D11.1
      have h10 := ready_waits hi rfl D11.2
      obtain ⟨q1, q2, q3, q4⟩ := I.f10 h10
      refine Tryz.wp_storeL (.tmp 10) (.tmp 49) F11.1 q1 (I.f8 h8) ⟨rfl, rfl, rfl, rfl⟩ q4 (fun W2 og hx => ?_)
      refine hK _ _ ⟨by rw [Array.size_setIfInBounds]; exact hs, A3, c3, B3, d3, ⟨y.g, .int .i64 r.q, .slice A3 r.ls.length c3, .int .i64 r.k, .slice B3 r.cs.length d3⟩, ?_⟩
      rw [bi]
      unfold Act.put
      rw [F11.2.1]
      exact { sz := I.sz, df := I.df, fr := fun k hk => I.fr k hk, kl := I.kl.setOut q2 og q4 q3, f0 := fun h => I.f0 (bit_ne h (by decide)), f1 := fun h => I.f1 (bit_ne h (by decide)), f2 := fun h => I.f2 (bit_ne h (by decide)), f3 := fun h => I.f3 (bit_ne h (by decide)), f4 := fun h => I.f4 (bit_ne h (by decide)), f5 := fun h => I.f5 (bit_ne h (by decide)), f6 := fun h => ⟨(I.f6 (bit_ne h (by decide))).1, og.ln q4 (I.f6 (bit_ne h (by decide))).2⟩, f7 := fun h => I.f7 (bit_ne h (by decide)), f8 := fun h => I.f8 (bit_ne h (by decide)), f9 := fun h => I.f9 (bit_ne h (by decide)), f10 := fun _ => ⟨q1, q2, q3, hx⟩, f11 := fun _ => rfl, f12 := fun h => I.f12 (bit_ne h (by decide)), w7 := fun h => bit_on (I.w7 (bit_ne h (by decide))), w8 := fun h => bit_on (I.w8 (bit_ne h (by decide))), w9 := fun h => bit_on (I.w9 (bit_ne h (by decide))), w11 := fun _ => ⟨bit_on h8, bit_on h10⟩, w12 := fun h => bit_on (I.w12 (bit_ne h (by decide))) }
    | 12, _ =>
      refine wpOp_step (o := o12) rfl (fun K' hK => ?_)
      rw [if_pos (by simp [Region.wanted, F12.2.2])]
      have h9 := ready_waits hi rfl D12
      refine wp_val (v := .int .i64 re) (by unfold execOp; simp only [F12.1, Sem.run_pure, (show a.eval (.tmp 50) = _ from I.f9 h9)]) ?_
      refine hK _ _ ⟨by rw [Array.size_setIfInBounds]; exact hs, A3, c3, B3, d3, y, ?_⟩
      rw [bi]
      unfold Act.put
      rw [F12.2.1]
      exact { sz := (Array.size_setIfInBounds ..).trans I.sz, df := I.df, fr := fun k hk => (getD_set_ne (fun e => hk (by rw [← e]; decide))).trans (I.fr k hk), kl := I.kl, f0 := fun h => (getD_set_ne (by decide)).trans (I.f0 (bit_ne h (by decide))), f1 := fun h => (getD_set_ne (by decide)).trans (I.f1 (bit_ne h (by decide))), f2 := fun h => (getD_set_ne (by decide)).trans (I.f2 (bit_ne h (by decide))), f3 := fun h => (getD_set_ne (by decide)).trans (I.f3 (bit_ne h (by decide))), f4 := fun h => (getD_set_ne (by decide)).trans (I.f4 (bit_ne h (by decide))), f5 := fun h => (getD_set_ne (by decide)).trans (I.f5 (bit_ne h (by decide))), f6 := fun h => ⟨(getD_set_ne (by decide)).trans (I.f6 (bit_ne h (by decide))).1, (I.f6 (bit_ne h (by decide))).2⟩, f7 := fun h => (getD_set_ne (by decide)).trans (I.f7 (bit_ne h (by decide))), f8 := fun h => (getD_set_ne (by decide)).trans (I.f8 (bit_ne h (by decide))), f9 := fun h => (getD_set_ne (by decide)).trans (I.f9 (bit_ne h (by decide))), f10 := fun h => ⟨(getD_set_ne (by decide)).trans (I.f10 (bit_ne h (by decide))).1, (I.f10 (bit_ne h (by decide))).2⟩, f11 := fun h => I.f11 (bit_ne h (by decide)), f12 := fun _ => getD_set_eq (by rw [asz]; omega), w7 := fun h => bit_on (I.w7 (bit_ne h (by decide))), w8 := fun h => bit_on (I.w8 (bit_ne h (by decide))), w9 := fun h => bit_on (I.w9 (bit_ne h (by decide))), w11 := fun h => ⟨bit_on (I.w11 (bit_ne h (by decide))).1, bit_on (I.w11 (bit_ne h (by decide))).2⟩, w12 := fun _ => bit_on h9 }
end
end Go.Proofs.YtblbfoniimnkcaaGreatDoor

/- Single operations on lines: what each yields. Rows that grow beside what is held. -/
namespace Go.Proofs.YtblbfoniimnkcaaGreatDoor
open Go.RowKit Go.Lib Go.Great

theorem own_lit0I (w : World) : Own encI 1 3 (w.alloc (.cells #[] 3)) w.heap.size (.slice (some ⟨w.heap.size, 0, none⟩) 0 0) ([] : List Int) := World.ownsRow_lit w #[] 0 (Nat.le_refl _) (by simp) rfl
theorem bit_off {b : Nat → Bool} {i j : Nat} (h : bitOn b i j = false) : b j = false := by
  unfold bitOn at h
  split at h
  · cases h
  · exact h
section
variable {a : Act} {w : World} {o : Oper}
theorem run_field0 {x : Operand} (ho : o.op = .fieldAddr 46 x 0) {g : Nat} (h1 : a.eval x = .pointer (some ⟨g, 0, none⟩)) : (execOp a.eval o).run Tryz.prog w = .ok (.value (.pointer (some ⟨g, 0, none⟩))) w := by
  unfold execOp
  simp only [ho, h1]
  simp [go_sem]
theorem run_field1 {x : Operand} (ho : o.op = .fieldAddr 46 x 1) {g : Nat} (h1 : a.eval x = .pointer (some ⟨g, 0, none⟩)) : (execOp a.eval o).run Tryz.prog w = .ok (.value (.pointer (some ⟨g, 1, none⟩))) w := by
  unfold execOp
  simp only [ho, h1]
  simp [go_sem]
theorem run_field2 {x : Operand} (ho : o.op = .fieldAddr 46 x 2) {g : Nat} (h1 : a.eval x = .pointer (some ⟨g, 0, none⟩)) : (execOp a.eval o).run Tryz.prog w = .ok (.value (.pointer (some ⟨g, 2, none⟩))) w := by
  unfold execOp
  simp only [ho, h1]
  simp [go_sem]
theorem run_field3 {x : Operand} (ho : o.op = .fieldAddr 46 x 3) {g : Nat} (h1 : a.eval x = .pointer (some ⟨g, 0, none⟩)) : (execOp a.eval o).run Tryz.prog w = .ok (.value (.pointer (some ⟨g, 3, none⟩))) w := by
  unfold execOp
  simp only [ho, h1]
  simp [go_sem]
theorem run_loadI {x : Operand} (ho : o.op = .load 3 x) {p : Addr} {v : Value} (h1 : a.eval x = .pointer (some p)) (hc : w.cell? p = some v) : (execOp a.eval o).run Tryz.prog w = .ok (.value v) w := by
  unfold execOp
  simp only [ho, h1]
  simp [hc, go_sem]
theorem run_loadII {x : Operand} (ho : o.op = .load 43 x) {p : Addr} {v : Value} (h1 : a.eval x = .pointer (some p)) (hc : w.cell? p = some v) : (execOp a.eval o).run Tryz.prog w = .ok (.value v) w := by
  unfold execOp
  simp only [ho, h1]
  simp [hc, go_sem]
theorem run_loadCC {x : Operand} (ho : o.op = .load 44 x) {p : Addr} {v : Value} (h1 : a.eval x = .pointer (some p)) (hc : w.cell? p = some v) : (execOp a.eval o).run Tryz.prog w = .ok (.value v) w := by
  unfold execOp
  simp only [ho, h1]
  simp [hc, go_sem]
theorem run_lit0 (ho : o.op = .buildSlice 43 0 #[]) : (execOp a.eval o).run Tryz.prog w = .ok (.value (.slice (some ⟨w.heap.size, 0, none⟩) 0 0)) (w.alloc (.cells #[] 3)) := by
  unfold execOp
  simp only [ho]
  simp [go_sem]
theorem run_build4 {x0 x1 x2 x3 : Operand} (ho : o.op = .build 46 #[(0, x0), (1, x1), (2, x2), (3, x3)]) {q k : Int} {A B : Option Addr} {n c m d : Nat} (h0 : a.eval x0 = .int .i64 q) (h1 : a.eval x1 = .slice A n c) (h2 : a.eval x2 = .int .i64 k) (h3 : a.eval x3 = .slice B m d) : (execOp a.eval o).run Tryz.prog w = .ok (.value (.agg #[.int .i64 q, .slice A n c, .int .i64 k, .slice B m d])) w := by
  unfold execOp
  simp only [ho, List.map_toArray, List.map_cons, List.map_nil, h0, h1, h2, h3]
  simp [go_sem]
theorem run_build3 {x0 x1 x2 : Operand} (ho : o.op = .build 46 #[(0, x0), (1, x1), (2, x2)]) {q k : Int} {A : Option Addr} {n c : Nat} (h0 : a.eval x0 = .int .i64 q) (h1 : a.eval x1 = .slice A n c) (h2 : a.eval x2 = .int .i64 k) : (execOp a.eval o).run Tryz.prog w = .ok (.value (.agg #[.int .i64 q, .slice A n c, .int .i64 k, .slice none 0 0])) w := by
  unfold execOp
  simp only [ho, List.map_toArray, List.map_cons, List.map_nil, h0, h1, h2]
  simp [go_sem]
end
theorem KL.grownI {w0 w w' : World} {bs : List BoxR} {rs : List RowL} (h : KL w0 w bs rs []) {v : Value} {xs : List Int} (hv : Own encI 1 3 w w0.heap.size v xs) (hg : w.grownBy w' v.ownBlock) (hr : ∀ r ∈ rs, LnAt w0 w0.heap.size r.l r.A r.B) : KL w0 w' bs rs [] := by
  have hb : Below w0.heap.size w w' := (Below.refl _ w).grown hg h.b.size (fun k hk => (hv.lt k hk).1)
  refine ⟨h.b.trans hb, fun t ht => ⟨(h.bx t ht).1, ?_⟩, h.nd, fun r hr' => .inl ((hr r hr').below (h.b.trans hb)), (fun _ h => by cases h), .nil⟩
  have hk := (h.bx t ht).2
  refine (hg.block t.g hk.lt (fun hrow => ?_)).trans hk
  obtain ⟨cur, hc⟩ := hv.ty hrow.symm
  unfold Bx at hk
  rw [hc] at hk
  injection hk with hk
  injection hk with _ hk _
  exact absurd hk (by decide)
theorem Bx.grownI {w w' : World} {base g : Nat} {p q r s : Value} (hk : Bx w g p q r s) {v : Value} {xs : List Int} (hv : Own encI 1 3 w base v xs) (hg : w.grownBy w' v.ownBlock) : Bx w' g p q r s := by
  refine (hg.block g hk.lt (fun hrow => ?_)).trans hk
  obtain ⟨cur, hc⟩ := hv.ty hrow.symm
  unfold Bx at hk
  rw [hc] at hk
  injection hk with hk
  injection hk with _ hk _
  exact absurd hk (by decide)
theorem Own.grownC {w w' : World} {base : Nat} {v u : Value} {xs : List Int} {ys : List Cl} (hv : Own encI 1 3 w base v xs) (hg : w.grownBy w' v.ownBlock) (hu : Own encC 3 60 w base u ys) : Own encC 3 60 w' base u ys := by
  unfold Own at hu ⊢
  refine hu.kept hg ?_
  by_cases hn : u.ownBlock = none
  · exact .inl hn
  · right
    intro e
    cases hk : u.ownBlock with
    | none => exact hn hk
    | some k =>
      obtain ⟨cur, hc⟩ := Own.ty (show Own encC 3 60 w base u ys from hu) hk
      obtain ⟨cur', hc'⟩ := hv.ty (e ▸ hk)
      rw [hc] at hc'
      injection hc' with hc'
      injection hc' with _ hc' _
      exact absurd hc' (by decide)
end Go.Proofs.YtblbfoniimnkcaaGreatDoor

/- A number of a line's own row is stored to; a row's number read. -/
namespace Go.Proofs.YtblbfoniimnkcaaGreatDoor
open Go.RowKit Go.Lib Go.Great

theorem rowCell {w : World} {C k : Nat} {ad : Addr} {xs : List Int} {x : Int} (h : SlAt encI 1 w C (some ad) xs) (hx : xs[k]? = some x) : w.cell? (ad.add k) = some (.int .i64 x) := by
  obtain ⟨ad', x', e, -, hx', x0⟩ := h.atI (k := k) (List.getElem?_eq_some_iff.1 hx).1
  injection e with e
  subst e
  rw [hx] at hx'
  injection hx' with hx'
  subst hx'
  exact x0
theorem own_lit1I (w : World) (k : Int) : Own encI 1 3 (w.alloc (.cells #[.int .i64 k] 3)) w.heap.size (.slice (some ⟨w.heap.size, 0, none⟩) 1 1) [k] := World.ownsRow_lit w #[.int .i64 k] 1 (Nat.le_refl _) (by decide) rfl
theorem ownAddr {w : World} {base c d : Nat} {l : Ln} {A B : Option Addr} (h : LnOw w base l A c B d) (hn : l.ls ≠ []) : ∃ g, A = some ⟨g, 0, none⟩ := by
  rcases h.ls.2 with ⟨_, h0⟩ | ⟨g, cap, cur, hv, _⟩
  · exact absurd (List.eq_nil_of_length_eq_zero h0) hn
  · injection hv with hv
    exact ⟨g, hv⟩
theorem run_lit1 {a : Act} {w : World} {o : Oper} {x : Operand} (ho : o.op = .buildSlice 43 1 #[(0, x)]) {v : Int} (h1 : a.eval x = .int .i64 v) : (execOp a.eval o).run Tryz.prog w = .ok (.value (.slice (some ⟨w.heap.size, 0, none⟩) 1 1)) (w.alloc (.cells #[.int .i64 v] 3)) := by
  unfold execOp
  simp only [ho, List.map_toArray, List.map_cons, List.map_nil, h1]
  simp [go_sem]
section
variable {ops : Array Oper} {rest : List Oper} {o : Oper} {a : Act} {w0 w : World} {Q : Exit → Act → World → Prop} {bs : List BoxR} {rs : List RowL}
theorem Tryz.klStoreI (hw : Region.wanted o (yielded ops a.tmps) = true) (x y : Operand) (ho : o.op = .store 3 x y) {g n : Nat} (hx : a.eval x = .pointer (some ⟨g, n, none⟩)) {v : Int} (hy : a.eval y = .int .i64 v) (K : Hid (KL w0 w bs rs [])) (hrs : ∀ r ∈ rs, LnAt w0 w0.heap.size r.l r.A r.B) {l : Ln} {c d : Nat} {B : Option Addr} (O : Hid (LnOw w w0.heap.size l (some ⟨g, 0, none⟩) c B d)) (hn : n < l.ls.length)
    (h : ∀ w', Hid (KL w0 w' bs rs []) → Hid (LnOw w' w0.heap.size ⟨l.q, l.ls.set n v, l.k, l.cs⟩ (some ⟨g, 0, none⟩) c B d) → wpList Tryz.prog ops Q rest (a.put o.dst undef) w') : wpList Tryz.prog ops Q (o :: rest) a w :=
  wpList_step fun K' hK => by
    rw [if_pos hw]
    have hv := O.out.ls
    have hs0 := hv
    unfold Own at hs0
    obtain ⟨x0, hx0⟩ : ∃ x0, l.ls[n]? = some x0 := ⟨_, List.getElem?_eq_getElem hn⟩
    have v0 : w.cell? ⟨g, n, none⟩ = some (.int .i64 x0) := (World.ownsRow.cellAt hs0 n (by omega)).trans (by simpa using getElem?_flat encI_len l.ls n x0 0 _ hx0 rfl)
    have v1 := World.ownsRow.frozenAt hs0 n
    have hfs := flat_setG encI_len l.ls n x0 v 0 (.int .i64 v) hx0 (by omega) rfl
    have ST : Own encI 1 3 (w.setCell ⟨g, n, none⟩ (.int .i64 v)) w0.heap.size (.slice (some ⟨g, 0, none⟩) (l.ls.set n v).length c) (l.ls.set n v) := by
      have := (World.ownsRow.stored hs0 n (.int .i64 v)).1
      unfold Own
      rw [List.length_set, hfs, show n * 1 + 0 = n from by omega]
      exact this
    have SL := store_line (o := n) (u := .int .i64 v) hv
    have hg : w0.heap.size ≤ g := (hv.lt g rfl).1
    have bel : Below w0.heap.size w (w.setCell ⟨g, n, none⟩ (.int .i64 v)) := (Below.refl _ w).setCell (p := ⟨g, n, none⟩) hg _
    have K2 : KL w0 (w.setCell ⟨g, n, none⟩ (.int .i64 v)) bs rs [] := ⟨K.out.b.trans bel, fun t ht => ⟨(K.out.bx t ht).1, SL.1 _ _ _ _ _ (K.out.bx t ht).2⟩, K.out.nd, fun r hr => .inl ((hrs r hr).below (K.out.b.trans bel)), (fun _ h => by cases h), .nil⟩
    unfold Oper.wp execOp
    simp only [ho, hx, hy, Instr.storeAt, Instr.sureAddr, Sem.run_bind, Sem.run_pure, Result.andThen_ok, run_storeVar_cell (P := Tryz.prog) w g n 3 (.int .i64 v) (fun i hi => by
      obtain rfl : i = 0 := by omega
      exact ⟨by rw [Nat.add_zero, v0]; rfl, by rw [Nat.add_zero]; exact v1⟩) (by kernel_rfl) rfl]
    exact hK _ _ (h _ (hid K2) (hid ⟨ST, SL.2 _ _ O.out.cs⟩))
end
end Go.Proofs.YtblbfoniimnkcaaGreatDoor
