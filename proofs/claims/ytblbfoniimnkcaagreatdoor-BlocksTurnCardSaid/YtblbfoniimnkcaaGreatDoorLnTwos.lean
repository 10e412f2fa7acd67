/- Texts on cells and lines, put together: LnTwo, LnTwo2, LnTwo3, LnTwo4. -/
import Derived.Test.YtblbfoniimnkcaaGreatDoorLnKit
import Derived.Orders
import Derived.RegionTactic
/- A statement 'a, b := f(l), g(l)' on lines, in whatever order its operations come up: two loads, two calls that each hand back a line of their own, two new boxes, two stores. One law for all its orders: what holds is said by what is done already. -/
namespace Go.Proofs.YtblbfoniimnkcaaGreatDoor
open Go.RowKit Go.Lib Go.Great

section
variable {P : Program} {md : Region.Mode} {ops : Array Oper} {Q : Exit → Act → World → Prop}
theorem ready_mem {b : Array Bool} {i : Nat} (h : i ∈ Region.ready md ops b) : b.getD i true = false := by
  unfold Region.ready at h
  rw [List.mem_filter] at h
  simp only [Bool.and_eq_true, Bool.not_eq_true'] at h
  exact h.2.1
theorem count_set {b : Array Bool} {i : Nat} (h : b.getD i true = false) : (b.setIfInBounds i true).toList.count false + 1 = b.toList.count false := by
  have hi : i < b.size := by
    by_cases hi : i < b.size
    · exact hi
    · simp [Array.getD, hi] at h
  have hb : b.toList[i]'(by simpa using hi) = false := by
    simp [Array.getD, hi] at h
    simpa using h
  rw [Array.toList_setIfInBounds, List.count_set (by simpa using hi), hb]
  have : 0 < b.toList.count false := List.count_pos_iff.2 (hb ▸ List.getElem_mem _)
  simp only [beq_self_eq_true, if_true, show ((true : Bool) == false) = false from rfl, Bool.false_eq_true, if_false]
  omega
/-- A region by what holds of those done. -/
theorem wpAny_inv (I : Array Bool → Act → World → Prop) (hstep : ∀ b a w i, I b a w → i ∈ Region.ready md ops b → wpOp P ops Q i (I (b.setIfInBounds i true)) a w) (hend : ∀ b a w, I b a w → Region.ready md ops b = [] → Q .normal a w) :
    ∀ fuel b a w, I b a w → b.toList.count false ≤ fuel → wpAny P md ops Q fuel b a w := by
  intro fuel
  induction fuel with
  | zero =>
    intro b a w h hc
    have hr : Region.ready md ops b = [] := by
      apply List.eq_nil_iff_forall_not_mem.2
      intro i hi
      have := count_set (ready_mem hi)
      omega
    exact ⟨hr, hend b a w h hr⟩
  | succ fuel ih =>
    intro b a w h hc
    exact ⟨hend b a w h, fun i hi => wpOp_mono (fun a' w' h' => ih _ _ _ h' (by have := count_set (ready_mem hi); omega)) (hstep b a w i h hi)⟩
end

section
variable {o : Oper} {a : Act} {w : World} {K : Act → World → Prop} {Q : Exit → Act → World → Prop}
theorem Tryz.wp_loadL (x : Operand) (ho : o.op = .load 46 x) {g : Nat} {p q r s : Value} (hx : a.eval x = .pointer (some ⟨g, 0, none⟩)) (hb : Bx w g p q r s) (h : K (a.put o.dst (.agg #[p, q, r, s])) w) : o.wp Tryz.prog a w K Q := by
  unfold Oper.wp execOp
  simp only [ho, hx, Instr.loadAt, Instr.sureAddr, Sem.run_bind, Sem.run_pure, Result.andThen_ok, run_loadVar_row w g 46 46 #[p, q, r, s] (0, 0) _ hb Tryz.underlying46 rfl (by kernel_rfl)]
  exact h
theorem Tryz.wp_storeL (x y : Operand) (ho : o.op = .store 46 x y) {g : Nat} {p q r s p' q' r' s' : Value} (hx : a.eval x = .pointer (some ⟨g, 0, none⟩)) (hy : a.eval y = .agg #[p', q', r', s']) (h1 : p'.oneCell' = true ∧ q'.oneCell' = true ∧ r'.oneCell' = true ∧ s'.oneCell' = true) (hb : Bx w g p q r s)
    (h : ∀ w', Og g w w' → Bx w' g p' q' r' s' → K (a.put o.dst undef) w') : o.wp Tryz.prog a w K Q := by
  have hc := hb.cells
  refine wp_store_mid 46 x y ho g 0 #[p', q', r', s'] hx hy (fun j hj => ?_) (by kernel_rfl) (by simp [h1.1, h1.2.1, h1.2.2.1, h1.2.2.2]) (h _ ?_ ?_)
  · obtain ⟨⟨c0, c1, c2, c3⟩, f0, f1, f2, f3⟩ := hc
    match j, hj with
    | 0, _ => exact ⟨by rw [c0]; rfl, f0⟩
    | 1, _ => exact ⟨by rw [c1]; rfl, f1⟩
    | 2, _ => exact ⟨by rw [c2]; rfl, f2⟩
    | 3, _ => exact ⟨by rw [c3]; rfl, f3⟩
  · exact Og.set _ _ (Og.set _ _ (Og.set _ _ (Og.set _ _ Og.refl)))
  · exact (((hb.set0 p').set1 q').set2 r').set3 s'
theorem Tryz.wp_allocL (ho : o.op = .alloc 46) (h : K (a.put o.dst (.pointer (some ⟨w.heap.size, 0, none⟩))) (w.alloc (.cells #[.int .i64 0, .slice none 0 0, .int .i64 0, .slice none 0 0] 46))) : o.wp Tryz.prog a w K Q := by
  unfold Oper.wp execOp
  have hz : (Instr.alloc 46 true (.tuple #[])).run Tryz.prog w = .ok (.pointer (some ⟨w.heap.size, 0, none⟩)) (w.alloc (.cells #[.int .i64 0, .slice none 0 0, .int .i64 0, .slice none 0 0] 46)) := by kernel_rfl
  simp only [ho, hz, Sem.run_bind, Sem.run_pure, Result.andThen_ok]
  exact h
theorem Tryz.wp_callL (f : FuncId) (p : Tmp) (ts : Array TypeId) (ho : o.op = .call { callee := .value (.func f), args := #[.tmp p], argTypes := ts }) {v : Value} (hx : a.eval (.tmp p) = v) (hf : ∀ v w, (callFunc f #[v]).run Tryz.prog w = .ok (.enter f #[v]) w) {R : Ending → World → Prop} (hc : Calls Tryz.prog f #[v] w R) (hR : ∀ e w', R e w' → ∃ u, e = .returned u ∧ K (a.put o.dst u) w') : o.wp Tryz.prog a w K Q := by
  have hr : (execOp a.eval o).run Tryz.prog w = .ok (.enter f #[v]) w := by
    unfold execOp
    simp [ho, go_sem]
    rw [show a.tmps[p]?.getD undef = v from by rw [← hx]; simp [Act.eval]]
    exact hf v w
  unfold Oper.wp
  rw [hr, Oper.upon_enter]
  refine hc.mono fun e w'' hh => ?_
  obtain ⟨u, rfl, h⟩ := hR e w'' hh
  exact h
end
/-- A store into a box that is not among those held. -/
theorem KL.setOut {w0 w w' : World} {bs : List BoxR} {rs ws : List RowL} (h : KL w0 w bs rs ws) {g : Nat} {p q r s : Value} (hg : w0.heap.size ≤ g) (ho : Og g w w') (hb : Bx w g p q r s) (hout : ∀ t ∈ bs, t.g ≠ g) : KL w0 w' bs rs ws :=
  ⟨h.b.trans (ho.below hg), fun t ht => ⟨(h.bx t ht).1, ho.bx (hout t ht) (h.bx t ht).2⟩, h.nd, fun r hr => by
    rcases h.row r hr with k | k
    · exact .inl (k.belowM (ho.below hg) (Nat.le_refl _))
    · exact .inr (ho.ln hb k), fun r hr => ho.ln hb (h.wr r hr), h.sep⟩
theorem KL.push {w0 w : World} {bs : List BoxR} {rs ws : List RowL} (h : KL w0 w bs rs ws) {t : BoxR} (hg : w0.heap.size ≤ t.g) (hb : Bx w t.g t.a t.b t.c t.d) (hout : ∀ u ∈ bs, u.g ≠ t.g) : KL w0 w (t :: bs) rs ws :=
  ⟨h.b, fun u hu => by
    rcases List.mem_cons.1 hu with rfl | hu
    · exact ⟨hg, hb⟩
    · exact h.bx u hu, List.pairwise_cons.2 ⟨fun u hu e => hout u hu e.symm, h.nd⟩, h.row, h.wr, h.sep⟩

/-- What holds while the statement runs. -/
structure TwoI (mk : Value → Value → Value → Value → Value → Value → Array Value) (agg : Value) (w0 : World) (bs : List BoxR) (rs : List RowL) (m1 m2 : Ln) (v7 v8 v25 v26 v27 v28 : Value) (x y : BoxR) (A1 : Option Addr) (c1 : Nat) (B1 : Option Addr) (d1 : Nat) (A2 : Option Addr) (c2 : Nat) (B2 : Option Addr) (d2 : Nat) (b : Nat → Bool) (a : Act) (w : World) : Prop where
  fr : a = ⟨mk v7 v8 v25 v26 v27 v28, []⟩
  kl : KL w0 w bs rs []
  l0 : b 0 = true → v25 = agg
  l1 : b 1 = true → v26 = lnV m1 A1 c1 B1 d1 ∧ LnOw w w0.heap.size m1 A1 c1 B1 d1
  l2 : b 2 = true → v27 = agg
  l3 : b 3 = true → v28 = lnV m2 A2 c2 B2 d2 ∧ LnOw w w0.heap.size m2 A2 c2 B2 d2
  ap : b 1 = true → b 3 = true → ∀ g j, RL m1 A1 B1 g j → ¬ RL m2 A2 B2 g j
  l4 : b 4 = true → v7 = .pointer (some ⟨x.g, 0, none⟩) ∧ w0.heap.size ≤ x.g ∧ (∀ t ∈ bs, t.g ≠ x.g) ∧ Bx w x.g x.a x.b x.c x.d
  l5 : b 5 = true → v8 = .pointer (some ⟨y.g, 0, none⟩) ∧ w0.heap.size ≤ y.g ∧ (∀ t ∈ bs, t.g ≠ y.g) ∧ Bx w y.g y.a y.b y.c y.d
  ne : b 4 = true → b 5 = true → x.g ≠ y.g
  l6 : b 6 = true → x = ⟨x.g, .int .i64 m1.q, .slice A1 m1.ls.length c1, .int .i64 m1.k, .slice B1 m1.cs.length d1⟩
  l7 : b 7 = true → y = ⟨y.g, .int .i64 m2.q, .slice A2 m2.ls.length c2, .int .i64 m2.k, .slice B2 m2.cs.length d2⟩
  w6 : b 6 = true → b 1 = true ∧ b 4 = true
  w7 : b 7 = true → b 3 = true ∧ b 5 = true
def bitOn (b : Nat → Bool) (i : Nat) : Nat → Bool := fun k => if k = i then true else b k
theorem bit_ne {b : Nat → Bool} {i k : Nat} (h : bitOn b i k = true) (hn : k ≠ i) : b k = true := by unfold bitOn at h; rwa [if_neg hn] at h
theorem bit_on {b : Nat → Bool} {i k : Nat} (h : b k = true) : bitOn b i k = true := by unfold bitOn; split <;> first | rfl | exact h
theorem bit_set {b : Array Bool} {i : Nat} (hi : i < b.size) : (fun k => (b.setIfInBounds i true).getD k false) = bitOn (fun k => b.getD k false) i := by
  funext k
  unfold bitOn
  by_cases h : k = i
  · subst h; simp [Array.getD, hi]
  · rw [if_neg h]
    simp only [Array.getD_eq_getD_getElem?, Array.getElem?_setIfInBounds, if_neg (fun e => h e.symm : ¬ i = k)]
section
variable {mk : Value → Value → Value → Value → Value → Value → Array Value} {agg : Value} {w0 w w' : World} {bs : List BoxR} {rs : List RowL} {m1 m2 : Ln} {v7 v8 v25 v26 v27 v28 : Value} {x y : BoxR} {A1 : Option Addr} {c1 : Nat} {B1 : Option Addr} {d1 : Nat} {A2 : Option Addr} {c2 : Nat} {B2 : Option Addr} {d2 : Nat} {b : Nat → Bool} {a : Act}
theorem TwoI.later (h : TwoI mk agg w0 bs rs m1 m2 v7 v8 v25 v26 v27 v28 x y A1 c1 B1 d1 A2 c2 B2 d2 b a w) (hb : Below w.heap.size w w') : TwoI mk agg w0 bs rs m1 m2 v7 v8 v25 v26 v27 v28 x y A1 c1 B1 d1 A2 c2 B2 d2 b a w' :=
  ⟨h.fr, h.kl.later hb, h.l0, fun k => ⟨(h.l1 k).1, (h.l1 k).2.later hb⟩, h.l2, fun k => ⟨(h.l3 k).1, (h.l3 k).2.later hb⟩, h.ap, fun k => ⟨(h.l4 k).1, (h.l4 k).2.1, (h.l4 k).2.2.1, (h.l4 k).2.2.2.later hb⟩, fun k => ⟨(h.l5 k).1, (h.l5 k).2.1, (h.l5 k).2.2.1, (h.l5 k).2.2.2.later hb⟩, h.ne, h.l6, h.l7, h.w6, h.w7⟩
end
end Go.Proofs.YtblbfoniimnkcaaGreatDoor

/- The law of 'a, b := f(l), g(l)' on lines, for all its orders. (Printed by wip/lntwo.py.) -/
namespace Go.Proofs.YtblbfoniimnkcaaGreatDoor
open Go.RowKit Go.Lib Go.Great

def depTwo (b0 b1 b2 b3 b4 b5 : Bool) (i : Nat) : Bool := i == 0 || (i == 1 && b0) || i == 2 || (i == 3 && b2) || i == 4 || i == 5 || (i == 6 && (b1 && b4)) || (i == 7 && (b3 && b5))
theorem array8 {b : Array Bool} (h : b.size = 8) : ∃ b0 b1 b2 b3 b4 b5 b6 b7, b = #[b0, b1, b2, b3, b4, b5, b6, b7] := by
  obtain ⟨l⟩ := b
  match l, h with
  | [b0, b1, b2, b3, b4, b5, b6, b7], _ => exact ⟨b0, b1, b2, b3, b4, b5, b6, b7, rfl⟩
theorem LnOw.wrW {w : World} {base : Nat} {l : Ln} {A B : Option Addr} {c d : Nat} (h : LnOw w base l A c B d) {g j : Nat} (hr : RL l A B g j) : base ≤ g ∧ g < w.heap.size := h.wr.rl_low hr
section
variable {o0 o1 o2 o3 o4 o5 o6 o7 : Oper}
set_option maxHeartbeats 4000000 in
theorem Tryz.two_calls {id : Nat} {Q : Exit → Act → World → Prop} {mk : Value → Value → Value → Value → Value → Value → Array Value} {l : Ln} {A : Option Addr} {c : Nat} {B : Option Addr} {d g1 : Nat} {w0 w : World} {bs : List BoxR} {rs : List RowL} {m1 m2 : Ln} {f1 f2 : FuncId} {ts1 ts2 : Array TypeId} {u7 u8 u25 u26 u27 u28 : Value}
    (F0 : o0.op = .load 46 (.tmp 2) ∧ o0.dst = some 25 ∧ o0.guard = none) (F1 : o1.op = .call { callee := .value (.func f1), args := #[.tmp 25], argTypes := ts1 } ∧ o1.dst = some 26 ∧ o1.guard = none)
    (F2 : o2.op = .load 46 (.tmp 2) ∧ o2.dst = some 27 ∧ o2.guard = none) (F3 : o3.op = .call { callee := .value (.func f2), args := #[.tmp 27], argTypes := ts2 } ∧ o3.dst = some 28 ∧ o3.guard = none)
    (F4 : o4.op = .alloc 46 ∧ o4.dst = some 7 ∧ o4.guard = none) (F5 : o5.op = .alloc 46 ∧ o5.dst = some 8 ∧ o5.guard = none)
    (F6 : o6.op = .store 46 (.tmp 7) (.tmp 26) ∧ o6.dst = none ∧ o6.guard = none) (F7 : o7.op = .store 46 (.tmp 8) (.tmp 28) ∧ o7.dst = none ∧ o7.guard = none)
    (M : ∀ v7 v8 v25 v26 v27 v28 u, (mk v7 v8 v25 v26 v27 v28).setIfInBounds 7 u = mk u v8 v25 v26 v27 v28 ∧ (mk v7 v8 v25 v26 v27 v28).setIfInBounds 8 u = mk v7 u v25 v26 v27 v28 ∧ (mk v7 v8 v25 v26 v27 v28).setIfInBounds 25 u = mk v7 v8 u v26 v27 v28 ∧
      (mk v7 v8 v25 v26 v27 v28).setIfInBounds 26 u = mk v7 v8 v25 u v27 v28 ∧ (mk v7 v8 v25 v26 v27 v28).setIfInBounds 27 u = mk v7 v8 v25 v26 u v28 ∧ (mk v7 v8 v25 v26 v27 v28).setIfInBounds 28 u = mk v7 v8 v25 v26 v27 u)
    (G : ∀ v7 v8 v25 v26 v27 v28, (mk v7 v8 v25 v26 v27 v28).getD 2 undef = .pointer (some ⟨g1, 0, none⟩) ∧ (mk v7 v8 v25 v26 v27 v28).getD 7 undef = v7 ∧ (mk v7 v8 v25 v26 v27 v28).getD 8 undef = v8 ∧ (mk v7 v8 v25 v26 v27 v28).getD 25 undef = v25 ∧
      (mk v7 v8 v25 v26 v27 v28).getD 26 undef = v26 ∧ (mk v7 v8 v25 v26 v27 v28).getD 27 undef = v27 ∧ (mk v7 v8 v25 v26 v27 v28).getD 28 undef = v28)
    (D : ∀ b0 b1 b2 b3 b4 b5 b6 b7 : Bool, ∀ i ∈ Region.ready .any #[o0, o1, o2, o3, o4, o5, o6, o7] #[b0, b1, b2, b3, b4, b5, b6, b7], depTwo b0 b1 b2 b3 b4 b5 i = true)
    (Z : ∀ b0 b1 b2 b3 b4 b5 b6 b7 : Bool, Region.ready .any #[o0, o1, o2, o3, o4, o5, o6, o7] #[b0, b1, b2, b3, b4, b5, b6, b7] = [] → (b0 && b1 && b2 && b3 && b4 && b5 && b6 && b7) = true)
    (K : KL w0 w bs rs []) (hb1 : (⟨g1, .int .i64 l.q, .slice A l.ls.length c, .int .i64 l.k, .slice B l.cs.length d⟩ : BoxR) ∈ bs) (hl : (⟨l, A, B⟩ : RowL) ∈ rs)
    (C1 : ∀ W, LnAt W W.heap.size l A B → Calls Tryz.prog f1 #[.agg #[.int .i64 l.q, .slice A l.ls.length c, .int .i64 l.k, .slice B l.cs.length d]] W (RetLnO m1 W)) (H1 : ∀ v w, (callFunc f1 #[v]).run Tryz.prog w = .ok (.enter f1 #[v]) w)
    (C2 : ∀ W, LnAt W W.heap.size l A B → Calls Tryz.prog f2 #[.agg #[.int .i64 l.q, .slice A l.ls.length c, .int .i64 l.k, .slice B l.cs.length d]] W (RetLnO m2 W)) (H2 : ∀ v w, (callFunc f2 #[v]).run Tryz.prog w = .ok (.enter f2 #[v]) w)
    (hend : ∀ g7 g8 A1 c1 B1 d1 A2 c2 B2 d2 w', KL w0 w' [] [] [] → KL w0 w' (⟨g8, .int .i64 m2.q, .slice A2 m2.ls.length c2, .int .i64 m2.k, .slice B2 m2.cs.length d2⟩ :: ⟨g7, .int .i64 m1.q, .slice A1 m1.ls.length c1, .int .i64 m1.k, .slice B1 m1.cs.length d1⟩ :: bs) rs [] →
      LnOw w' w0.heap.size m1 A1 c1 B1 d1 → LnOw w' w0.heap.size m2 A2 c2 B2 d2 → (∀ g j, RL m1 A1 B1 g j → ¬ RL m2 A2 B2 g j) →
      Q .normal ⟨mk (.pointer (some ⟨g7, 0, none⟩)) (.pointer (some ⟨g8, 0, none⟩)) (.agg #[.int .i64 l.q, .slice A l.ls.length c, .int .i64 l.k, .slice B l.cs.length d]) (lnV m1 A1 c1 B1 d1) (.agg #[.int .i64 l.q, .slice A l.ls.length c, .int .i64 l.k, .slice B l.cs.length d]) (lnV m2 A2 c2 B2 d2), []⟩ w') :
    (Code.region id #[o0, o1, o2, o3, o4, o5, o6, o7] true).wp Tryz.prog Q ⟨mk u7 u8 u25 u26 u27 u28, []⟩ w := by
  refine wp_region_any (by kernel_rfl) ?_
  refine wpAny_inv (fun b a w => b.size = 8 ∧ ∃ v7 v8 v25 v26 v27 v28 x y A1 c1 B1 d1 A2 c2 B2 d2, TwoI mk (.agg #[.int .i64 l.q, .slice A l.ls.length c, .int .i64 l.k, .slice B l.cs.length d]) w0 bs rs m1 m2 v7 v8 v25 v26 v27 v28 x y A1 c1 B1 d1 A2 c2 B2 d2 (fun k => b.getD k false) a w) ?step ?fin _ _ _ _ ?start ?fuel
  case fuel => simp
  case start =>
    refine ⟨by simp, u7, u8, u25, u26, u27, u28, ⟨0, undef, undef, undef, undef⟩, ⟨0, undef, undef, undef, undef⟩, none, 0, none, 0, none, 0, none, 0, ?_⟩
    have no : ∀ k, (Array.replicate (#[o0, o1, o2, o3, o4, o5, o6, o7] : Array Oper).size false).getD k false = true → False := fun k h => by
      simp [Array.getD] at h
    exact { fr := rfl, kl := K.quiet ⟨1, rfl⟩, l0 := fun h => (no _ h).elim, l1 := fun h => (no _ h).elim, l2 := fun h => (no _ h).elim, l3 := fun h => (no _ h).elim, ap := fun h => (no _ h).elim, l4 := fun h => (no _ h).elim, l5 := fun h => (no _ h).elim, ne := fun h => (no _ h).elim, l6 := fun h => (no _ h).elim, l7 := fun h => (no _ h).elim, w6 := fun h => (no _ h).elim, w7 := fun h => (no _ h).elim }
  case fin =>
    rintro b a w' ⟨hs, v7, v8, v25, v26, v27, v28, x, y, A1, c1, B1, d1, A2, c2, B2, d2, T⟩ hr
    obtain ⟨b0, b1, b2, b3, b4, b5, b6, b7, rfl⟩ := array8 hs
    have z := Z _ _ _ _ _ _ _ _ hr
    simp only [Bool.and_eq_true] at z
    obtain ⟨⟨⟨⟨⟨⟨⟨rfl, rfl⟩, rfl⟩, rfl⟩, rfl⟩, rfl⟩, rfl⟩, rfl⟩ := z
    obtain ⟨rfl, q4, q4', q4''⟩ := T.l4 rfl
    obtain ⟨rfl, q5, q5', q5''⟩ := T.l5 rfl
    obtain ⟨rfl, o1'⟩ := T.l1 rfl
    obtain ⟨rfl, o3'⟩ := T.l3 rfl
    obtain rfl := T.l0 rfl
    obtain rfl := T.l2 rfl
    have e6 := T.l6 rfl
    have e7 := T.l7 rfl
    have ne := T.ne rfl rfl
    have K2 := (T.kl.push (t := x) q4 q4'' q4').push (t := y) q5 q5'' (fun u hu => by
      rcases List.mem_cons.1 hu with rfl | hu
      · exact ne
      · exact q5' u hu)
    rw [e6, e7] at K2
    have := hend x.g y.g A1 c1 B1 d1 A2 c2 B2 d2 w' (T.kl.less (by simp) (by simp) (List.Sublist.refl _)) K2 o1' o3' (T.ap rfl rfl)
    rw [T.fr]
    exact this
  case step =>
    rintro b a w' i ⟨hs, v7, v8, v25, v26, v27, v28, x, y, A1, c1, B1, d1, A2, c2, B2, d2, T⟩ hi
    obtain ⟨b0, b1, b2, b3, b4, b5, b6, b7, rfl⟩ := array8 hs
    have dp := D _ _ _ _ _ _ _ _ i hi
    have off := ready_mem hi
    unfold depTwo at dp
    simp only [Bool.or_eq_true, Bool.and_eq_true, beq_iff_eq] at dp
    have Gx := G v7 v8 v25 v26 v27 v28
    have Mx := M v7 v8 v25 v26 v27 v28
    have rowat := T.kl.at_ hl
    obtain ⟨hbig, hbx⟩ := T.kl.bx _ hb1
    obtain rfl := T.fr
    rcases dp with (((((((rfl | ⟨rfl, d0⟩) | rfl) | ⟨rfl, d0⟩) | rfl) | rfl) | ⟨rfl, d0, d1'⟩) | ⟨rfl, d0, d1'⟩)
    · refine wpOp_step (o := o0) rfl (fun K' hK => ?_)
      rw [if_pos (by simp [Region.wanted, F0.2.2])]
      refine Tryz.wp_loadL (.tmp 2) F0.1 (Gx.1) hbx ?_
      refine hK _ _ ⟨by simp, v7, v8, (.agg #[.int .i64 l.q, .slice A l.ls.length c, .int .i64 l.k, .slice B l.cs.length d]), v26, v27, v28, x, y, A1, c1, B1, d1, A2, c2, B2, d2, ?_⟩
      rw [bit_set (by simp)]
      exact { fr := by unfold Act.put; rw [F0.2.1]; simp only [(Mx _).2.2.1], kl := T.kl, l0 := fun _ => rfl, l1 := fun h0 => T.l1 (bit_ne h0 (by decide)), l2 := fun h0 => T.l2 (bit_ne h0 (by decide)), l3 := fun h0 => T.l3 (bit_ne h0 (by decide)), ap := fun h0 h1 => T.ap (bit_ne h0 (by decide)) (bit_ne h1 (by decide)), l4 := fun h0 => T.l4 (bit_ne h0 (by decide)), l5 := fun h0 => T.l5 (bit_ne h0 (by decide)), ne := fun h0 h1 => T.ne (bit_ne h0 (by decide)) (bit_ne h1 (by decide)), l6 := fun h0 => T.l6 (bit_ne h0 (by decide)), l7 := fun h0 => T.l7 (bit_ne h0 (by decide)), w6 := fun h => ⟨bit_on (T.w6 (bit_ne h (by decide))).1, bit_on (T.w6 (bit_ne h (by decide))).2⟩, w7 := fun h => ⟨bit_on (T.w7 (bit_ne h (by decide))).1, bit_on (T.w7 (bit_ne h (by decide))).2⟩ }
    · refine wpOp_step (o := o1) rfl (fun K' hK => ?_)
      rw [if_pos (by simp [Region.wanted, F1.2.2])]
      have off' : b1 = false := by simpa using off
      have hv := T.l0 d0
      refine Tryz.wp_callL f1 25 _ F1.1 (v := (.agg #[.int .i64 l.q, .slice A l.ls.length c, .int .i64 l.k, .slice B l.cs.length d])) (by rw [← hv]; exact Gx.2.2.2.1) H1 (C1 _ rowat) ?_
      rintro e W2 ⟨A9, c9, B9, d9, rfl, ho, hbw⟩
      refine ⟨_, rfl, ?_⟩
      have T2 := T.later hbw
      refine hK _ _ ⟨by simp, v7, v8, v25, lnV m1 A9 c9 B9 d9, v27, v28, x, y, A9, c9, B9, d9, A2, c2, B2, d2, ?_⟩
      rw [bit_set (by simp)]
      exact { fr := by unfold Act.put; rw [F1.2.1]; simp only [(Mx _).2.2.2.1], kl := T2.kl, l0 := fun h0 => T2.l0 (bit_ne h0 (by decide)), l1 := fun _ => ⟨rfl, ho.based T.kl.b.size⟩, l2 := fun h0 => T2.l2 (bit_ne h0 (by decide)), l3 := fun h0 => T2.l3 (bit_ne h0 (by decide)), ap := fun h1 h3 g j q1 q2 => by have e1 := ((ho).wrW q1).1; have e2 := ((T.l3 (bit_ne h3 (by decide))).2.wrW q2).2; have := hbw.size; omega, l4 := fun h0 => T2.l4 (bit_ne h0 (by decide)), l5 := fun h0 => T2.l5 (bit_ne h0 (by decide)), ne := fun h0 h1 => T2.ne (bit_ne h0 (by decide)) (bit_ne h1 (by decide)), l6 := fun h => absurd (T.w6 (bit_ne h (by decide))).1 (by simp [off']), l7 := fun h0 => T2.l7 (bit_ne h0 (by decide)), w6 := fun h => ⟨bit_on (T2.w6 (bit_ne h (by decide))).1, bit_on (T2.w6 (bit_ne h (by decide))).2⟩, w7 := fun h => ⟨bit_on (T2.w7 (bit_ne h (by decide))).1, bit_on (T2.w7 (bit_ne h (by decide))).2⟩ }
    · refine wpOp_step (o := o2) rfl (fun K' hK => ?_)
      rw [if_pos (by simp [Region.wanted, F2.2.2])]
      refine Tryz.wp_loadL (.tmp 2) F2.1 (Gx.1) hbx ?_
      refine hK _ _ ⟨by simp, v7, v8, v25, v26, (.agg #[.int .i64 l.q, .slice A l.ls.length c, .int .i64 l.k, .slice B l.cs.length d]), v28, x, y, A1, c1, B1, d1, A2, c2, B2, d2, ?_⟩
      rw [bit_set (by simp)]
      exact { fr := by unfold Act.put; rw [F2.2.1]; simp only [(Mx _).2.2.2.2.1], kl := T.kl, l0 := fun h0 => T.l0 (bit_ne h0 (by decide)), l1 := fun h0 => T.l1 (bit_ne h0 (by decide)), l2 := fun _ => rfl, l3 := fun h0 => T.l3 (bit_ne h0 (by decide)), ap := fun h0 h1 => T.ap (bit_ne h0 (by decide)) (bit_ne h1 (by decide)), l4 := fun h0 => T.l4 (bit_ne h0 (by decide)), l5 := fun h0 => T.l5 (bit_ne h0 (by decide)), ne := fun h0 h1 => T.ne (bit_ne h0 (by decide)) (bit_ne h1 (by decide)), l6 := fun h0 => T.l6 (bit_ne h0 (by decide)), l7 := fun h0 => T.l7 (bit_ne h0 (by decide)), w6 := fun h => ⟨bit_on (T.w6 (bit_ne h (by decide))).1, bit_on (T.w6 (bit_ne h (by decide))).2⟩, w7 := fun h => ⟨bit_on (T.w7 (bit_ne h (by decide))).1, bit_on (T.w7 (bit_ne h (by decide))).2⟩ }
    · refine wpOp_step (o := o3) rfl (fun K' hK => ?_)
      rw [if_pos (by simp [Region.wanted, F3.2.2])]
      have off' : b3 = false := by simpa using off
      have hv := T.l2 d0
      refine Tryz.wp_callL f2 27 _ F3.1 (v := (.agg #[.int .i64 l.q, .slice A l.ls.length c, .int .i64 l.k, .slice B l.cs.length d])) (by rw [← hv]; exact Gx.2.2.2.2.2.1) H2 (C2 _ rowat) ?_
      rintro e W2 ⟨A9, c9, B9, d9, rfl, ho, hbw⟩
      refine ⟨_, rfl, ?_⟩
      have T2 := T.later hbw
      refine hK _ _ ⟨by simp, v7, v8, v25, v26, v27, lnV m2 A9 c9 B9 d9, x, y, A1, c1, B1, d1, A9, c9, B9, d9, ?_⟩
      rw [bit_set (by simp)]
      exact { fr := by unfold Act.put; rw [F3.2.1]; simp only [(Mx _).2.2.2.2.2], kl := T2.kl, l0 := fun h0 => T2.l0 (bit_ne h0 (by decide)), l1 := fun h0 => T2.l1 (bit_ne h0 (by decide)), l2 := fun h0 => T2.l2 (bit_ne h0 (by decide)), l3 := fun _ => ⟨rfl, ho.based T.kl.b.size⟩, ap := fun h1 h3 g j q1 q2 => by have e1 := ((ho).wrW q2).1; have e2 := ((T.l1 (bit_ne h1 (by decide))).2.wrW q1).2; have := hbw.size; omega, l4 := fun h0 => T2.l4 (bit_ne h0 (by decide)), l5 := fun h0 => T2.l5 (bit_ne h0 (by decide)), ne := fun h0 h1 => T2.ne (bit_ne h0 (by decide)) (bit_ne h1 (by decide)), l6 := fun h0 => T2.l6 (bit_ne h0 (by decide)), l7 := fun h => absurd (T.w7 (bit_ne h (by decide))).1 (by simp [off']), w6 := fun h => ⟨bit_on (T2.w6 (bit_ne h (by decide))).1, bit_on (T2.w6 (bit_ne h (by decide))).2⟩, w7 := fun h => ⟨bit_on (T2.w7 (bit_ne h (by decide))).1, bit_on (T2.w7 (bit_ne h (by decide))).2⟩ }
    · refine wpOp_step (o := o4) rfl (fun K' hK => ?_)
      rw [if_pos (by simp [Region.wanted, F4.2.2])]
      have off' : b4 = false := by simpa using off
      refine Tryz.wp_allocL F4.1 ?_
      have T2 := T.later ((Below.refl _ w').alloc (Nat.le_refl _) (.cells #[.int .i64 0, .slice none 0 0, .int .i64 0, .slice none 0 0] 46))
      refine hK _ _ ⟨by simp, (.pointer (some ⟨w'.heap.size, 0, none⟩)), v8, v25, v26, v27, v28, ⟨w'.heap.size, .int .i64 0, .slice none 0 0, .int .i64 0, .slice none 0 0⟩, y, A1, c1, B1, d1, A2, c2, B2, d2, ?_⟩
      rw [bit_set (by simp)]
      exact { fr := by unfold Act.put; rw [F4.2.1]; simp only [(Mx _).1], kl := T2.kl, l0 := fun h0 => T2.l0 (bit_ne h0 (by decide)), l1 := fun h0 => T2.l1 (bit_ne h0 (by decide)), l2 := fun h0 => T2.l2 (bit_ne h0 (by decide)), l3 := fun h0 => T2.l3 (bit_ne h0 (by decide)), ap := fun h0 h1 => T2.ap (bit_ne h0 (by decide)) (bit_ne h1 (by decide)), l4 := fun _ => ⟨rfl, T.kl.b.size, (fun t ht e => by have := (T.kl.bx t ht).2.lt; have e' : t.g = w'.heap.size := e; omega), Bx.new w' _ _ _ _⟩, l5 := fun h0 => T2.l5 (bit_ne h0 (by decide)), ne := fun h4 h5 => by have := (T.l5 (bit_ne h5 (by decide))).2.2.2.lt; show _ ≠ _; dsimp only; omega, l6 := fun h => absurd (T.w6 (bit_ne h (by decide))).2 (by simp [off']), l7 := fun h0 => T2.l7 (bit_ne h0 (by decide)), w6 := fun h => ⟨bit_on (T2.w6 (bit_ne h (by decide))).1, bit_on (T2.w6 (bit_ne h (by decide))).2⟩, w7 := fun h => ⟨bit_on (T2.w7 (bit_ne h (by decide))).1, bit_on (T2.w7 (bit_ne h (by decide))).2⟩ }
    · refine wpOp_step (o := o5) rfl (fun K' hK => ?_)
      rw [if_pos (by simp [Region.wanted, F5.2.2])]
      have off' : b5 = false := by simpa using off
      refine Tryz.wp_allocL F5.1 ?_
      have T2 := T.later ((Below.refl _ w').alloc (Nat.le_refl _) (.cells #[.int .i64 0, .slice none 0 0, .int .i64 0, .slice none 0 0] 46))
      refine hK _ _ ⟨by simp, v7, (.pointer (some ⟨w'.heap.size, 0, none⟩)), v25, v26, v27, v28, x, ⟨w'.heap.size, .int .i64 0, .slice none 0 0, .int .i64 0, .slice none 0 0⟩, A1, c1, B1, d1, A2, c2, B2, d2, ?_⟩
      rw [bit_set (by simp)]
      exact { fr := by unfold Act.put; rw [F5.2.1]; simp only [(Mx _).2.1], kl := T2.kl, l0 := fun h0 => T2.l0 (bit_ne h0 (by decide)), l1 := fun h0 => T2.l1 (bit_ne h0 (by decide)), l2 := fun h0 => T2.l2 (bit_ne h0 (by decide)), l3 := fun h0 => T2.l3 (bit_ne h0 (by decide)), ap := fun h0 h1 => T2.ap (bit_ne h0 (by decide)) (bit_ne h1 (by decide)), l4 := fun h0 => T2.l4 (bit_ne h0 (by decide)), l5 := fun _ => ⟨rfl, T.kl.b.size, (fun t ht e => by have := (T.kl.bx t ht).2.lt; have e' : t.g = w'.heap.size := e; omega), Bx.new w' _ _ _ _⟩, ne := fun h4 h5 => by have := (T.l4 (bit_ne h4 (by decide))).2.2.2.lt; show _ ≠ _; dsimp only; omega, l6 := fun h0 => T2.l6 (bit_ne h0 (by decide)), l7 := fun h => absurd (T.w7 (bit_ne h (by decide))).2 (by simp [off']), w6 := fun h => ⟨bit_on (T2.w6 (bit_ne h (by decide))).1, bit_on (T2.w6 (bit_ne h (by decide))).2⟩, w7 := fun h => ⟨bit_on (T2.w7 (bit_ne h (by decide))).1, bit_on (T2.w7 (bit_ne h (by decide))).2⟩ }
    · refine wpOp_step (o := o6) rfl (fun K' hK => ?_)
      rw [if_pos (by simp [Region.wanted, F6.2.2])]
      obtain ⟨hv, ho⟩ := T.l1 d0
      obtain ⟨hp, q1, q2, q3⟩ := T.l4 d1'
      refine Tryz.wp_storeL (.tmp 7) (.tmp 26) F6.1 (Gx.2.1.trans hp) ((Gx.2.2.2.2.1).trans hv) ⟨rfl, rfl, rfl, rfl⟩ q3 (fun W2 og hx => ?_)
      refine hK _ _ ⟨by simp, v7, v8, v25, v26, v27, v28, ⟨x.g, .int .i64 m1.q, .slice A1 m1.ls.length c1, .int .i64 m1.k, .slice B1 m1.cs.length d1⟩, y, A1, c1, B1, d1, A2, c2, B2, d2, ?_⟩
      rw [bit_set (by simp)]
      exact { fr := by unfold Act.put; rw [F6.2.1], kl := T.kl.setOut q1 og q3 q2, l0 := fun h0 => T.l0 (bit_ne h0 (by decide)), l1 := fun h => ⟨(T.l1 (bit_ne h (by decide))).1, (T.l1 (bit_ne h (by decide))).2.og og q3⟩, l2 := fun h0 => T.l2 (bit_ne h0 (by decide)), l3 := fun h => ⟨(T.l3 (bit_ne h (by decide))).1, (T.l3 (bit_ne h (by decide))).2.og og q3⟩, ap := fun h0 h1 => T.ap (bit_ne h0 (by decide)) (bit_ne h1 (by decide)), l4 := fun h => ⟨hp, q1, q2, hx⟩, l5 := fun h => by have z := T.l5 (bit_ne h (by decide)); exact ⟨z.1, z.2.1, z.2.2.1, og.bx (fun e => T.ne d1' (bit_ne h (by decide)) e.symm) z.2.2.2⟩, ne := fun h0 h1 => T.ne (bit_ne h0 (by decide)) (bit_ne h1 (by decide)), l6 := fun _ => rfl, l7 := fun h0 => T.l7 (bit_ne h0 (by decide)), w6 := fun h => ⟨bit_on d0, bit_on d1'⟩, w7 := fun h => ⟨bit_on (T.w7 (bit_ne h (by decide))).1, bit_on (T.w7 (bit_ne h (by decide))).2⟩ }
    · refine wpOp_step (o := o7) rfl (fun K' hK => ?_)
      rw [if_pos (by simp [Region.wanted, F7.2.2])]
      obtain ⟨hv, ho⟩ := T.l3 d0
      obtain ⟨hp, q1, q2, q3⟩ := T.l5 d1'
      refine Tryz.wp_storeL (.tmp 8) (.tmp 28) F7.1 (Gx.2.2.1.trans hp) ((Gx.2.2.2.2.2.2).trans hv) ⟨rfl, rfl, rfl, rfl⟩ q3 (fun W2 og hx => ?_)
      refine hK _ _ ⟨by simp, v7, v8, v25, v26, v27, v28, x, ⟨y.g, .int .i64 m2.q, .slice A2 m2.ls.length c2, .int .i64 m2.k, .slice B2 m2.cs.length d2⟩, A1, c1, B1, d1, A2, c2, B2, d2, ?_⟩
      rw [bit_set (by simp)]
      exact { fr := by unfold Act.put; rw [F7.2.1], kl := T.kl.setOut q1 og q3 q2, l0 := fun h0 => T.l0 (bit_ne h0 (by decide)), l1 := fun h => ⟨(T.l1 (bit_ne h (by decide))).1, (T.l1 (bit_ne h (by decide))).2.og og q3⟩, l2 := fun h0 => T.l2 (bit_ne h0 (by decide)), l3 := fun h => ⟨(T.l3 (bit_ne h (by decide))).1, (T.l3 (bit_ne h (by decide))).2.og og q3⟩, ap := fun h0 h1 => T.ap (bit_ne h0 (by decide)) (bit_ne h1 (by decide)), l4 := fun h => by have z := T.l4 (bit_ne h (by decide)); exact ⟨z.1, z.2.1, z.2.2.1, og.bx (fun e => T.ne (bit_ne h (by decide)) d1' e) z.2.2.2⟩, l5 := fun h => ⟨hp, q1, q2, hx⟩, ne := fun h0 h1 => T.ne (bit_ne h0 (by decide)) (bit_ne h1 (by decide)), l6 := fun h0 => T.l6 (bit_ne h0 (by decide)), l7 := fun _ => rfl, w6 := fun h => ⟨bit_on (T.w6 (bit_ne h (by decide))).1, bit_on (T.w6 (bit_ne h (by decide))).2⟩, w7 := fun h => ⟨bit_on d0, bit_on d1'⟩ }
end
end Go.Proofs.YtblbfoniimnkcaaGreatDoor

/- The law of 'return a, b, OK' on lines, for all its orders. (Printed by wip/lntwo3.py.) -/
namespace Go.Proofs.YtblbfoniimnkcaaGreatDoor
open Go.RowKit Go.Lib Go.Great

theorem array5 {b : Array Bool} (h : b.size = 5) : ∃ b0 b1 b2 b3 b4, b = #[b0, b1, b2, b3, b4] := by
  obtain ⟨l⟩ := b
  match l, h with
  | [b0, b1, b2, b3, b4], _ => exact ⟨b0, b1, b2, b3, b4, rfl⟩
def depRet (b0 b1 : Bool) (i : Nat) : Bool := i == 0 || i == 1 || (i == 2 && b0) || (i == 3 && b1) || i == 4
structure RetI (mk : Value → Value → Value → Array Value) (w0 : World) (bs : List BoxR) (rs ws : List RowL) (x y : BoxR) (g3 g4 : Nat) (er v6 va vb : Value) (b : Nat → Bool) (a : Act) (w : World) : Prop where
  fr : a = ⟨mk v6 va vb, []⟩
  kl : KL w0 w bs rs ws
  x3 : ∃ p q r s, Bx w g3 p q r s
  x4 : ∃ p q r s, Bx w g4 p q r s
  l0 : b 0 = true → va = .agg #[x.a, x.b, x.c, x.d]
  l1 : b 1 = true → vb = .agg #[y.a, y.b, y.c, y.d]
  l2 : b 2 = true → Bx w g3 x.a x.b x.c x.d
  l3 : b 3 = true → Bx w g4 y.a y.b y.c y.d
  l4 : b 4 = true → v6 = er
section
variable {o0 o1 o2 o3 o4 : Oper}
set_option maxHeartbeats 4000000 in
theorem Tryz.two_rets {id : Nat} {Q : Exit → Act → World → Prop} {mk : Value → Value → Value → Array Value} {x y : BoxR} {g3 g4 : Nat} {w0 w : World} {bs : List BoxR} {rs ws : List RowL} {er u6 ua ub p3 q3 r3 t3 p4 q4 r4 t4 : Value} (s3 s4 s6 sa sb s7 s8 : Nat)
    (F0 : o0.op = .load 46 (.tmp s7) ∧ o0.dst = some sa ∧ o0.guard = none) (F1 : o1.op = .load 46 (.tmp s8) ∧ o1.dst = some sb ∧ o1.guard = none)
    (F2 : o2.op = .store 46 (.tmp s3) (.tmp sa) ∧ o2.dst = none ∧ o2.guard = none) (F3 : o3.op = .store 46 (.tmp s4) (.tmp sb) ∧ o3.dst = none ∧ o3.guard = none)
    (F4 : o4.op = .assign (.const er) ∧ o4.dst = some s6 ∧ o4.guard = none)
    (M : ∀ v6 va vb u, (mk v6 va vb).setIfInBounds s6 u = mk u va vb ∧ (mk v6 va vb).setIfInBounds sa u = mk v6 u vb ∧ (mk v6 va vb).setIfInBounds sb u = mk v6 va u)
    (G : ∀ v6 va vb, (mk v6 va vb).getD s3 undef = .pointer (some ⟨g3, 0, none⟩) ∧ (mk v6 va vb).getD s4 undef = .pointer (some ⟨g4, 0, none⟩) ∧ (mk v6 va vb).getD s7 undef = .pointer (some ⟨x.g, 0, none⟩) ∧ (mk v6 va vb).getD s8 undef = .pointer (some ⟨y.g, 0, none⟩) ∧ (mk v6 va vb).getD sa undef = va ∧ (mk v6 va vb).getD sb undef = vb)
    (D : ∀ b0 b1 b2 b3 b4 : Bool, ∀ i ∈ Region.ready .any #[o0, o1, o2, o3, o4] #[b0, b1, b2, b3, b4], depRet b0 b1 i = true)
    (Z : ∀ b0 b1 b2 b3 b4 : Bool, Region.ready .any #[o0, o1, o2, o3, o4] #[b0, b1, b2, b3, b4] = [] → (b0 && b1 && b2 && b3 && b4) = true)
    (K : KL w0 w (⟨g4, p4, q4, r4, t4⟩ :: ⟨g3, p3, q3, r3, t3⟩ :: bs) rs ws) (hx : x ∈ bs) (hy : y ∈ bs)
    (hxo : x.a.oneCell' = true ∧ x.b.oneCell' = true ∧ x.c.oneCell' = true ∧ x.d.oneCell' = true) (hyo : y.a.oneCell' = true ∧ y.b.oneCell' = true ∧ y.c.oneCell' = true ∧ y.d.oneCell' = true)
    (hend : ∀ w', KL w0 w' bs rs ws → Bx w' g3 x.a x.b x.c x.d → Bx w' g4 y.a y.b y.c y.d → Q .normal ⟨mk er (.agg #[x.a, x.b, x.c, x.d]) (.agg #[y.a, y.b, y.c, y.d]), []⟩ w') :
    (Code.region id #[o0, o1, o2, o3, o4] true).wp Tryz.prog Q ⟨mk u6 ua ub, []⟩ w := by
  have hg3 : w0.heap.size ≤ g3 := (K.bx ⟨g3, p3, q3, r3, t3⟩ (by simp)).1
  have hg4 : w0.heap.size ≤ g4 := (K.bx ⟨g4, p4, q4, r4, t4⟩ (by simp)).1
  have nd := K.nd
  rw [List.pairwise_cons, List.pairwise_cons] at nd
  have n43 : g4 ≠ g3 := nd.1 ⟨g3, p3, q3, r3, t3⟩ (by simp)
  have out3 : ∀ u ∈ bs, u.g ≠ g3 := fun u hu e => nd.2.1 u hu e.symm
  have out4 : ∀ u ∈ bs, u.g ≠ g4 := fun u hu e => nd.1 u (by simp [hu]) e.symm
  refine wp_region_any (by kernel_rfl) ?_
  refine wpAny_inv (fun b a w => b.size = 5 ∧ ∃ v6 va vb, RetI mk w0 bs rs ws x y g3 g4 er v6 va vb (fun k => b.getD k false) a w) ?step ?fin _ _ _ _ ?start ?fuel
  case fuel => simp
  case start =>
    refine ⟨by simp, u6, ua, ub, ?_⟩
    have no : ∀ k, (Array.replicate (#[o0, o1, o2, o3, o4] : Array Oper).size false).getD k false = true → False := fun k h => by
      simp [Array.getD] at h
    exact { fr := rfl, kl := (K.less (by simp) (fun r h => h) (List.Sublist.refl _)).quiet ⟨1, rfl⟩, x3 := ⟨p3, q3, r3, t3, (K.bx ⟨g3, p3, q3, r3, t3⟩ (by simp)).2⟩, x4 := ⟨p4, q4, r4, t4, (K.bx ⟨g4, p4, q4, r4, t4⟩ (by simp)).2⟩, l0 := fun h => (no _ h).elim, l1 := fun h => (no _ h).elim, l2 := fun h => (no _ h).elim, l3 := fun h => (no _ h).elim, l4 := fun h => (no _ h).elim }
  case fin =>
    rintro b a w' ⟨hs, v6, va, vb, T⟩ hr
    obtain ⟨b0, b1, b2, b3, b4, rfl⟩ := array5 hs
    have z := Z _ _ _ _ _ hr
    simp only [Bool.and_eq_true] at z
    obtain ⟨⟨⟨⟨rfl, rfl⟩, rfl⟩, rfl⟩, rfl⟩ := z
    obtain rfl := T.l0 rfl
    obtain rfl := T.l1 rfl
    obtain rfl := T.l4 rfl
    have := hend w' T.kl (T.l2 rfl) (T.l3 rfl)
    rw [T.fr]
    exact this
  case step =>
    rintro b a w' i ⟨hs, v6, va, vb, T⟩ hi
    obtain ⟨b0, b1, b2, b3, b4, rfl⟩ := array5 hs
    have dp := D _ _ _ _ _ i hi
    unfold depRet at dp
    simp only [Bool.or_eq_true, Bool.and_eq_true, beq_iff_eq] at dp
    have Gx := G v6 va vb
    have Mx := M v6 va vb
    obtain ⟨-, hbx⟩ := T.kl.bx _ hx
    obtain ⟨-, hby⟩ := T.kl.bx _ hy
    obtain rfl := T.fr
    rcases dp with (((rfl | rfl) | ⟨rfl, d0⟩) | ⟨rfl, d0⟩) | rfl
    · refine wpOp_step (o := o0) rfl (fun K' hK => ?_)
      rw [if_pos (by simp [Region.wanted, F0.2.2])]
      refine Tryz.wp_loadL (.tmp s7) F0.1 (Gx.2.2.1) hbx ?_
      refine hK _ _ ⟨by simp, v6, .agg #[x.a, x.b, x.c, x.d], vb, ?_⟩
      rw [bit_set (by simp)]
      exact { fr := by unfold Act.put; rw [F0.2.1]; simp only [(Mx _).2.1], kl := T.kl, x3 := T.x3, x4 := T.x4, l0 := fun _ => rfl, l1 := fun h => T.l1 (bit_ne h (by decide)), l2 := fun h => T.l2 (bit_ne h (by decide)), l3 := fun h => T.l3 (bit_ne h (by decide)), l4 := fun h => T.l4 (bit_ne h (by decide)) }
    · refine wpOp_step (o := o1) rfl (fun K' hK => ?_)
      rw [if_pos (by simp [Region.wanted, F1.2.2])]
      refine Tryz.wp_loadL (.tmp s8) F1.1 (Gx.2.2.2.1) hby ?_
      refine hK _ _ ⟨by simp, v6, va, .agg #[y.a, y.b, y.c, y.d], ?_⟩
      rw [bit_set (by simp)]
      exact { fr := by unfold Act.put; rw [F1.2.1]; simp only [(Mx _).2.2], kl := T.kl, x3 := T.x3, x4 := T.x4, l0 := fun h => T.l0 (bit_ne h (by decide)), l1 := fun _ => rfl, l2 := fun h => T.l2 (bit_ne h (by decide)), l3 := fun h => T.l3 (bit_ne h (by decide)), l4 := fun h => T.l4 (bit_ne h (by decide)) }
    · refine wpOp_step (o := o2) rfl (fun K' hK => ?_)
      rw [if_pos (by simp [Region.wanted, F2.2.2])]
      obtain ⟨p, q, r, s, hb⟩ := T.x3
      refine Tryz.wp_storeL (.tmp s3) (.tmp sa) F2.1 Gx.1 (Gx.2.2.2.2.1.trans (T.l0 d0)) hxo hb (fun W2 og hbn => ?_)
      refine hK _ _ ⟨by simp, v6, va, vb, ?_⟩
      rw [bit_set (by simp)]
      exact { fr := by unfold Act.put; rw [F2.2.1], kl := T.kl.setOut hg3 og hb out3, x3 := ⟨_, _, _, _, hbn⟩, x4 := (by obtain ⟨p, q, r, s, h⟩ := T.x4; exact ⟨_, _, _, _, og.bx n43 h⟩), l0 := fun h => T.l0 (bit_ne h (by decide)), l1 := fun h => T.l1 (bit_ne h (by decide)), l2 := fun _ => hbn, l3 := fun h => og.bx n43 (T.l3 (bit_ne h (by decide))), l4 := fun h => T.l4 (bit_ne h (by decide)) }
    · refine wpOp_step (o := o3) rfl (fun K' hK => ?_)
      rw [if_pos (by simp [Region.wanted, F3.2.2])]
      obtain ⟨p, q, r, s, hb⟩ := T.x4
      refine Tryz.wp_storeL (.tmp s4) (.tmp sb) F3.1 Gx.2.1 (Gx.2.2.2.2.2.trans (T.l1 d0)) hyo hb (fun W2 og hbn => ?_)
      refine hK _ _ ⟨by simp, v6, va, vb, ?_⟩
      rw [bit_set (by simp)]
      exact { fr := by unfold Act.put; rw [F3.2.1], kl := T.kl.setOut hg4 og hb out4, x3 := (by obtain ⟨p, q, r, s, h⟩ := T.x3; exact ⟨_, _, _, _, og.bx n43.symm h⟩), x4 := ⟨_, _, _, _, hbn⟩, l0 := fun h => T.l0 (bit_ne h (by decide)), l1 := fun h => T.l1 (bit_ne h (by decide)), l2 := fun h => og.bx n43.symm (T.l2 (bit_ne h (by decide))), l3 := fun _ => hbn, l4 := fun h => T.l4 (bit_ne h (by decide)) }
    · refine wpOp_step (o := o4) rfl (fun K' hK => ?_)
      rw [if_pos (by simp [Region.wanted, F4.2.2])]
      unfold Oper.wp execOp
      simp only [F4.1]
      show K' (({ tmps := mk v6 va vb, defers := [] } : Act).put o4.dst er) w'
      refine hK _ _ ⟨by simp, er, va, vb, ?_⟩
      rw [bit_set (by simp)]
      exact { fr := by unfold Act.put; rw [F4.2.1]; simp only [(Mx _).1], kl := T.kl, x3 := T.x3, x4 := T.x4, l0 := fun h => T.l0 (bit_ne h (by decide)), l1 := fun h => T.l1 (bit_ne h (by decide)), l2 := fun h => T.l2 (bit_ne h (by decide)), l3 := fun h => T.l3 (bit_ne h (by decide)), l4 := fun _ => rfl }
end
end Go.Proofs.YtblbfoniimnkcaaGreatDoor

/- The laws of 'a, b := f(l), g(l)' and of 'return a, b, OK' on lines, at whatever frame. (Printed by wip/lntwo4.py.) -/
namespace Go.Proofs.YtblbfoniimnkcaaGreatDoor
open Go.RowKit Go.Lib Go.Great

def upd6 (T : Array Value) (v7 v8 v25 v26 v27 v28 : Value) : Array Value := (((((T.setIfInBounds 7 v7).setIfInBounds 8 v8).setIfInBounds 25 v25).setIfInBounds 26 v26).setIfInBounds 27 v27).setIfInBounds 28 v28
theorem set_getD (T : Array Value) (i : Nat) (h : i < T.size) : T.setIfInBounds i (T.getD i undef) = T := by
  apply Array.ext_getElem?
  intro k
  rw [Array.getElem?_setIfInBounds]
  split
  · rename_i e
    subst e
    simp [h]
  · rfl
theorem getD_set_ne {T : Array Value} {i j : Nat} {v : Value} (h : i ≠ j) : (T.setIfInBounds i v).getD j undef = T.getD j undef := by
  simp only [Array.getD_eq_getD_getElem?, Array.getElem?_setIfInBounds, if_neg h]
theorem getD_set_eq {T : Array Value} {i : Nat} {v : Value} (h : i < T.size) : (T.setIfInBounds i v).getD i undef = v := by
  simp only [Array.getD_eq_getD_getElem?, Array.getElem?_setIfInBounds, if_true, if_pos h, Option.getD_some]
theorem set_ne {T : Array Value} {i j : Nat} {u v : Value} (h : i ≠ j) : (T.setIfInBounds i u).setIfInBounds j v = (T.setIfInBounds j v).setIfInBounds i u := by
  apply Array.ext_getElem?
  intro k
  simp only [Array.getElem?_setIfInBounds, Array.size_setIfInBounds]
  by_cases h1 : i = k
  · subst h1; rw [if_neg (fun e => h e.symm)]; simp
  · by_cases h2 : j = k
    · subst h2; simp [h1]
    · simp [h1, h2]
theorem set_eq {T : Array Value} {i : Nat} {u v : Value} : (T.setIfInBounds i u).setIfInBounds i v = T.setIfInBounds i v := by
  apply Array.ext_getElem?
  intro k
  simp only [Array.getElem?_setIfInBounds, Array.size_setIfInBounds]
  split <;> simp_all
theorem upd6_set (T : Array Value) (v7 v8 v25 v26 v27 v28 u : Value) : (upd6 T v7 v8 v25 v26 v27 v28).setIfInBounds 7 u = upd6 T u v8 v25 v26 v27 v28 ∧ (upd6 T v7 v8 v25 v26 v27 v28).setIfInBounds 8 u = upd6 T v7 u v25 v26 v27 v28 ∧ (upd6 T v7 v8 v25 v26 v27 v28).setIfInBounds 25 u = upd6 T v7 v8 u v26 v27 v28 ∧
      (upd6 T v7 v8 v25 v26 v27 v28).setIfInBounds 26 u = upd6 T v7 v8 v25 u v27 v28 ∧ (upd6 T v7 v8 v25 v26 v27 v28).setIfInBounds 27 u = upd6 T v7 v8 v25 v26 u v28 ∧ (upd6 T v7 v8 v25 v26 v27 v28).setIfInBounds 28 u = upd6 T v7 v8 v25 v26 v27 u := by
  unfold upd6
  refine ⟨?_, ?_, ?_, ?_, ?_, ?_⟩
  · rw [set_ne (by decide), set_ne (i := 27) (by decide), set_ne (i := 26) (by decide), set_ne (i := 25) (by decide), set_ne (i := 8) (by decide), set_eq]
  · rw [set_ne (by decide), set_ne (i := 27) (by decide), set_ne (i := 26) (by decide), set_ne (i := 25) (by decide), set_eq]
  · rw [set_ne (by decide), set_ne (i := 27) (by decide), set_ne (i := 26) (by decide), set_eq]
  · rw [set_ne (by decide), set_ne (i := 27) (by decide), set_eq]
  · rw [set_ne (by decide), set_eq]
  · rw [set_eq]
theorem upd6_get {T : Array Value} (h : 28 < T.size) (v7 v8 v25 v26 v27 v28 : Value) : (upd6 T v7 v8 v25 v26 v27 v28).getD 2 undef = T.getD 2 undef ∧ (upd6 T v7 v8 v25 v26 v27 v28).getD 7 undef = v7 ∧ (upd6 T v7 v8 v25 v26 v27 v28).getD 8 undef = v8 ∧ (upd6 T v7 v8 v25 v26 v27 v28).getD 25 undef = v25 ∧
      (upd6 T v7 v8 v25 v26 v27 v28).getD 26 undef = v26 ∧ (upd6 T v7 v8 v25 v26 v27 v28).getD 27 undef = v27 ∧ (upd6 T v7 v8 v25 v26 v27 v28).getD 28 undef = v28 := by
  unfold upd6
  refine ⟨?_, ?_, ?_, ?_, ?_, ?_, ?_⟩
  · rw [getD_set_ne (by decide), getD_set_ne (by decide), getD_set_ne (by decide), getD_set_ne (by decide), getD_set_ne (by decide), getD_set_ne (by decide)]
  · rw [getD_set_ne (by decide), getD_set_ne (by decide), getD_set_ne (by decide), getD_set_ne (by decide), getD_set_ne (by decide), getD_set_eq (by omega)]
  · rw [getD_set_ne (by decide), getD_set_ne (by decide), getD_set_ne (by decide), getD_set_ne (by decide), getD_set_eq (by simp; omega)]
  · rw [getD_set_ne (by decide), getD_set_ne (by decide), getD_set_ne (by decide), getD_set_eq (by simp; omega)]
  · rw [getD_set_ne (by decide), getD_set_ne (by decide), getD_set_eq (by simp; omega)]
  · rw [getD_set_ne (by decide), getD_set_eq (by simp; omega)]
  · rw [getD_set_eq (by simp; omega)]
theorem upd6_self {T : Array Value} (h : 28 < T.size) : upd6 T (T.getD 7 undef) (T.getD 8 undef) (T.getD 25 undef) (T.getD 26 undef) (T.getD 27 undef) (T.getD 28 undef) = T := by
  unfold upd6
  rw [set_getD T 7 (by omega), set_getD T 8 (by omega), set_getD T 25 (by omega), set_getD T 26 (by omega), set_getD T 27 (by omega), set_getD T 28 (by omega)]
def upd3 (s6 sa sb : Nat) (T : Array Value) (v6 va vb : Value) : Array Value := ((T.setIfInBounds s6 v6).setIfInBounds sa va).setIfInBounds sb vb
theorem upd3_set {s6 sa sb : Nat} (h1 : s6 ≠ sa) (h2 : s6 ≠ sb) (h3 : sa ≠ sb) (T : Array Value) (v6 va vb u : Value) : (upd3 s6 sa sb T v6 va vb).setIfInBounds s6 u = upd3 s6 sa sb T u va vb ∧ (upd3 s6 sa sb T v6 va vb).setIfInBounds sa u = upd3 s6 sa sb T v6 u vb ∧ (upd3 s6 sa sb T v6 va vb).setIfInBounds sb u = upd3 s6 sa sb T v6 va u := by
  unfold upd3
  refine ⟨?_, ?_, ?_⟩
  · rw [set_ne (i := sb) h2.symm, set_ne (i := sa) h1.symm, set_eq]
  · rw [set_ne (i := sb) h3.symm, set_eq]
  · rw [set_eq]
theorem upd3_ne {s6 sa sb : Nat} {T : Array Value} {v6 va vb : Value} {k : Nat} (h1 : s6 ≠ k) (h2 : sa ≠ k) (h3 : sb ≠ k) : (upd3 s6 sa sb T v6 va vb).getD k undef = T.getD k undef := by
  unfold upd3
  rw [getD_set_ne h3, getD_set_ne h2, getD_set_ne h1]
theorem upd3_self {s6 sa sb : Nat} {T : Array Value} (h6 : s6 < T.size) (ha : sa < T.size) (hb : sb < T.size) : upd3 s6 sa sb T (T.getD s6 undef) (T.getD sa undef) (T.getD sb undef) = T := by
  unfold upd3
  rw [set_getD T s6 h6, set_getD T sa ha, set_getD T sb hb]
section
variable {o0 o1 o2 o3 o4 o5 o6 o7 : Oper}
theorem Tryz.two_callsT {id : Nat} {Q : Exit → Act → World → Prop} {l : Ln} {A : Option Addr} {c : Nat} {B : Option Addr} {d g1 : Nat} {w0 w : World} {bs : List BoxR} {rs : List RowL} {m1 m2 : Ln} {f1 f2 : FuncId} {ts1 ts2 : Array TypeId}
    (F0 : o0.op = .load 46 (.tmp 2) ∧ o0.dst = some 25 ∧ o0.guard = none) (F1 : o1.op = .call { callee := .value (.func f1), args := #[.tmp 25], argTypes := ts1 } ∧ o1.dst = some 26 ∧ o1.guard = none)
    (F2 : o2.op = .load 46 (.tmp 2) ∧ o2.dst = some 27 ∧ o2.guard = none) (F3 : o3.op = .call { callee := .value (.func f2), args := #[.tmp 27], argTypes := ts2 } ∧ o3.dst = some 28 ∧ o3.guard = none)
    (F4 : o4.op = .alloc 46 ∧ o4.dst = some 7 ∧ o4.guard = none) (F5 : o5.op = .alloc 46 ∧ o5.dst = some 8 ∧ o5.guard = none)
    (F6 : o6.op = .store 46 (.tmp 7) (.tmp 26) ∧ o6.dst = none ∧ o6.guard = none) (F7 : o7.op = .store 46 (.tmp 8) (.tmp 28) ∧ o7.dst = none ∧ o7.guard = none)
    {T : Array Value} (hsz : 28 < T.size) (hp : T.getD 2 undef = .pointer (some ⟨g1, 0, none⟩))
    (D : ∀ b0 b1 b2 b3 b4 b5 b6 b7 : Bool, ∀ i ∈ Region.ready .any #[o0, o1, o2, o3, o4, o5, o6, o7] #[b0, b1, b2, b3, b4, b5, b6, b7], depTwo b0 b1 b2 b3 b4 b5 i = true)
    (Z : ∀ b0 b1 b2 b3 b4 b5 b6 b7 : Bool, Region.ready .any #[o0, o1, o2, o3, o4, o5, o6, o7] #[b0, b1, b2, b3, b4, b5, b6, b7] = [] → (b0 && b1 && b2 && b3 && b4 && b5 && b6 && b7) = true)
    (K : KL w0 w bs rs []) (hb1 : (⟨g1, .int .i64 l.q, .slice A l.ls.length c, .int .i64 l.k, .slice B l.cs.length d⟩ : BoxR) ∈ bs) (hl : (⟨l, A, B⟩ : RowL) ∈ rs)
    (C1 : ∀ W, LnAt W W.heap.size l A B → Calls Tryz.prog f1 #[.agg #[.int .i64 l.q, .slice A l.ls.length c, .int .i64 l.k, .slice B l.cs.length d]] W (RetLnO m1 W)) (H1 : ∀ v w, (callFunc f1 #[v]).run Tryz.prog w = .ok (.enter f1 #[v]) w)
    (C2 : ∀ W, LnAt W W.heap.size l A B → Calls Tryz.prog f2 #[.agg #[.int .i64 l.q, .slice A l.ls.length c, .int .i64 l.k, .slice B l.cs.length d]] W (RetLnO m2 W)) (H2 : ∀ v w, (callFunc f2 #[v]).run Tryz.prog w = .ok (.enter f2 #[v]) w)
    (hend : ∀ g7 g8 A1 c1 B1 d1 A2 c2 B2 d2 w', KL w0 w' [] [] [] → KL w0 w' (⟨g8, .int .i64 m2.q, .slice A2 m2.ls.length c2, .int .i64 m2.k, .slice B2 m2.cs.length d2⟩ :: ⟨g7, .int .i64 m1.q, .slice A1 m1.ls.length c1, .int .i64 m1.k, .slice B1 m1.cs.length d1⟩ :: bs) rs [] →
      LnOw w' w0.heap.size m1 A1 c1 B1 d1 → LnOw w' w0.heap.size m2 A2 c2 B2 d2 → (∀ g j, RL m1 A1 B1 g j → ¬ RL m2 A2 B2 g j) →
      Q .normal ⟨upd6 T (.pointer (some ⟨g7, 0, none⟩)) (.pointer (some ⟨g8, 0, none⟩)) (.agg #[.int .i64 l.q, .slice A l.ls.length c, .int .i64 l.k, .slice B l.cs.length d]) (lnV m1 A1 c1 B1 d1) (.agg #[.int .i64 l.q, .slice A l.ls.length c, .int .i64 l.k, .slice B l.cs.length d]) (lnV m2 A2 c2 B2 d2), []⟩ w') :
    (Code.region id #[o0, o1, o2, o3, o4, o5, o6, o7] true).wp Tryz.prog Q ⟨T, []⟩ w := by
  have := Tryz.two_calls (id := id) (Q := Q) (mk := upd6 T) (u7 := T.getD 7 undef) (u8 := T.getD 8 undef) (u25 := T.getD 25 undef) (u26 := T.getD 26 undef) (u27 := T.getD 27 undef) (u28 := T.getD 28 undef) F0 F1 F2 F3 F4 F5 F6 F7 (upd6_set T)
    (fun v7 v8 v25 v26 v27 v28 => by have h := upd6_get hsz v7 v8 v25 v26 v27 v28; rw [hp] at h; exact h) D Z K hb1 hl C1 H1 C2 H2 hend
  rwa [upd6_self hsz] at this
theorem Tryz.two_retsT {id : Nat} {Q : Exit → Act → World → Prop} {x y : BoxR} {g3 g4 : Nat} {w0 w : World} {bs : List BoxR} {rs ws : List RowL} {er p3 q3 r3 t3 p4 q4 r4 t4 : Value} (s3 s4 s6 sa sb s7 s8 : Nat)
    (F0 : o0.op = .load 46 (.tmp s7) ∧ o0.dst = some sa ∧ o0.guard = none) (F1 : o1.op = .load 46 (.tmp s8) ∧ o1.dst = some sb ∧ o1.guard = none)
    (F2 : o2.op = .store 46 (.tmp s3) (.tmp sa) ∧ o2.dst = none ∧ o2.guard = none) (F3 : o3.op = .store 46 (.tmp s4) (.tmp sb) ∧ o3.dst = none ∧ o3.guard = none)
    (F4 : o4.op = .assign (.const er) ∧ o4.dst = some s6 ∧ o4.guard = none)
    {T : Array Value} (n6a : s6 ≠ sa) (n6b : s6 ≠ sb) (nab : sa ≠ sb) (z6 : s6 < T.size) (za : sa < T.size) (zb : sb < T.size) (hn : ∀ k ∈ [s3, s4, s7, s8], s6 ≠ k ∧ sa ≠ k ∧ sb ≠ k)
    (p3' : T.getD s3 undef = .pointer (some ⟨g3, 0, none⟩)) (p4' : T.getD s4 undef = .pointer (some ⟨g4, 0, none⟩)) (p7' : T.getD s7 undef = .pointer (some ⟨x.g, 0, none⟩)) (p8' : T.getD s8 undef = .pointer (some ⟨y.g, 0, none⟩))
    (D : ∀ b0 b1 b2 b3 b4 : Bool, ∀ i ∈ Region.ready .any #[o0, o1, o2, o3, o4] #[b0, b1, b2, b3, b4], depRet b0 b1 i = true)
    (Z : ∀ b0 b1 b2 b3 b4 : Bool, Region.ready .any #[o0, o1, o2, o3, o4] #[b0, b1, b2, b3, b4] = [] → (b0 && b1 && b2 && b3 && b4) = true)
    (K : KL w0 w (⟨g4, p4, q4, r4, t4⟩ :: ⟨g3, p3, q3, r3, t3⟩ :: bs) rs ws) (hx : x ∈ bs) (hy : y ∈ bs)
    (hxo : x.a.oneCell' = true ∧ x.b.oneCell' = true ∧ x.c.oneCell' = true ∧ x.d.oneCell' = true) (hyo : y.a.oneCell' = true ∧ y.b.oneCell' = true ∧ y.c.oneCell' = true ∧ y.d.oneCell' = true)
    (hend : ∀ w', KL w0 w' bs rs ws → Bx w' g3 x.a x.b x.c x.d → Bx w' g4 y.a y.b y.c y.d → Q .normal ⟨upd3 s6 sa sb T er (.agg #[x.a, x.b, x.c, x.d]) (.agg #[y.a, y.b, y.c, y.d]), []⟩ w') :
    (Code.region id #[o0, o1, o2, o3, o4] true).wp Tryz.prog Q ⟨T, []⟩ w := by
  have := Tryz.two_rets (id := id) (Q := Q) (mk := upd3 s6 sa sb T) (u6 := T.getD s6 undef) (ua := T.getD sa undef) (ub := T.getD sb undef) s3 s4 s6 sa sb s7 s8 F0 F1 F2 F3 F4 (upd3_set n6a n6b nab T)
    (fun v6 va vb => by
      have q3 := hn s3 (by simp)
      have q4 := hn s4 (by simp)
      have q7 := hn s7 (by simp)
      have q8 := hn s8 (by simp)
      refine ⟨?_, ?_, ?_, ?_, ?_, ?_⟩
      · rw [upd3_ne q3.1 q3.2.1 q3.2.2]; exact p3'
      · rw [upd3_ne q4.1 q4.2.1 q4.2.2]; exact p4'
      · rw [upd3_ne q7.1 q7.2.1 q7.2.2]; exact p7'
      · rw [upd3_ne q8.1 q8.2.1 q8.2.2]; exact p8'
      · unfold upd3; rw [getD_set_ne nab.symm, getD_set_eq (by simpa using za)]
      · unfold upd3; rw [getD_set_eq (by simpa using zb)]) D Z K hx hy hxo hyo hend
  rwa [upd3_self z6 za zb] at this
end
end Go.Proofs.YtblbfoniimnkcaaGreatDoor
