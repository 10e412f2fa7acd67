/- The walk of cells.Runs: the runs of a row, in new memory. -/
import Derived.Test.YtoagikkjomobgaaDoorRunsF
import Derived.Test.YtoagikkjomobgaaDoorAppIn
namespace Go.Proofs.YtoagikkjomobgaaDoor
open Go.RowKit Go.Shelf
attribute [local go_sem] Oper.semAt_some

theorem Tryd.okN : ElemOk Tryd.prog encN 5 42 := ElemOk.mk' (z := .agg #[.int .i64 0, .int .i64 0, .int .i64 0, .string .empty, .int .i64 0]) (bytes := 48) encN_len encN_one (by omega) (by kernel_rfl) rfl (by omega)

set_option maxHeartbeats 1000000 in
theorem runs_in (n : Nat) (v : Value) (hv : ∃ A n c, v = .slice A n c) (w : World) :
    CallsIn Fence.wide n Tryd.prog 28 #[v] w fun e w' => e = .returned (.func (.func 38) #[] #[.pointer (some ⟨w.heap.size, 0, none⟩)]) ∧ w' = w.alloc (.cells #[v] 22) := by
  obtain ⟨A, n', c, rfl⟩ := hv
  refine callsIn_of_wp Tryd.func28 rfl trivial ?_ rfl
  simp only [Tryd.ntmps28, List.size_toArray, List.length_cons, List.length_nil, Nat.reduceAdd, Nat.reduceSub, Array.replicate_succ, Array.replicate_zero, List.push_toArray, List.append_toArray, List.nil_append, List.cons_append]
  gi_wp2
  go_ret
  exact ⟨rfl, rfl⟩

/-- What the loop's own cells hold when pre has come. -/
def RunsI (w : World) (pre : List Rn) (W : World) : Prop :=
  (∃ v, Boxed W w.heap.size 35 v ∧ Own encN 5 42 W (w.heap.size + 2) v pre ∧ (pre = [] → v = .slice none 0 0)) ∧ Below w.heap.size w W
theorem runsI_own (w : World) (B : Nat) (hB : w.heap.size ≤ B) : OwnFrom B (RunsI w) := by
  rintro s W W' row ⟨⟨v, h1, h2, h3⟩, h4⟩ hg hr
  refine ⟨⟨v, h1.kept hg ?_, World.ownsRow.kept h2 hg ?_, h3⟩, h4.grown hg h4.size fun k hk => Nat.le_trans hB (hr k hk).1⟩
  · rintro rfl
    obtain ⟨_, o, ho, hc⟩ := hr _ rfl
    rw [show W.heap[w.heap.size]? = _ from h1] at ho
    injection ho with ho
    subst ho
    cases hc
  · rcases h2.2 with ⟨rfl, _⟩ | ⟨g, cap, cur, rfl, _, hgg, _⟩
    · exact .inl rfl
    · refine .inr ?_
      rintro rfl
      obtain ⟨_, o, ho, hc⟩ := hr g rfl
      rw [hgg] at ho
      injection ho with ho
      subst ho
      cases hc

theorem kpN_t {t : TypeId} {n₀ Bs : Nat} {A B C : World} (h : KpN t n₀ Bs A B) (k : KpN t n₀ Bs B C) : KpN t n₀ Bs A C :=
  ⟨⟨h.1.1.trans k.1.1, fun hb => (k.1.2 (Nat.lt_of_lt_of_le hb h.1.1.size)).trans (h.1.2 hb)⟩, fun i c hi hc => k.2 i c (h.2 i c hi hc) hc⟩
theorem kpN_b {t : TypeId} {n₀ Bs : Nat} {w : World} (hn : n₀ ≤ w.heap.size) (hB : Bs < w.heap.size) (W : World) (l : Nat) (o o' : Obj) (hl : w.heap.size ≤ l) (h : W.heap[l]? = some o) (hc : o.isCells = false) (hw : o.isWalk = false) : KpN t n₀ Bs W (W.putObj l o') :=
  ⟨⟨belowK_b hn W l o o' hl h hc hw, fun _ => World.putObj_heap_other (by omega)⟩, fun k _ hk _ => (World.putObj_heap_other (fun e => by subst e; rw [h] at hk; injection hk with hk; subst hk; cases hc)).trans hk⟩
theorem kpN_alloc (t : TypeId) (n₀ Bs : Nat) (W : World) (hn : n₀ ≤ W.heap.size) (o : Obj) : KpN t n₀ Bs W (W.alloc o) :=
  ⟨⟨(Below.refl _ _).alloc hn o, fun h => Below.heap_alloc _ _ _ h⟩, fun k _ hk _ => (Below.heap_alloc _ _ k (Array.getElem?_eq_some_iff.1 hk).1).trans hk⟩

set_option maxRecDepth 100000 in
set_option maxHeartbeats 4000000 in
theorem runs_any (A : Option Addr) (cs : List Cl) (m c B : Nat) (hm : m = cs.length) (w : World) (hA : SlAt encC 3 w B A cs) (hl : cs.length ≤ 1000000000) :
    Calls Tryd.prog 12 #[.slice A m c] w (RetOwn encN 5 42 w (runsL cs)) := by
  subst hm
  have hS := hA.live (fun _ => by rw [encC_len]; omega)
  refine (callsIn_wide (n := 6)).1 ?_
  refine callsIn_of_wp_marks Tryd.func12 rfl trivial ?_ rfl
  simp only [Tryd.ntmps12, List.size_toArray, List.length_cons, List.length_nil, Nat.reduceAdd, Nat.reduceSub, Array.replicate_succ, Array.replicate_zero, List.push_toArray, List.append_toArray, List.nil_append, List.cons_append]
  gi_wp2_with (refine ⟨trivial, ?_⟩; gi_at_call 28; refine (runs_in _ _ ⟨_, _, _, rfl⟩ _).mono ?_; rintro e w' ⟨rfl, rfl⟩)
  have bO := Boxed.new w 35 (.slice none 0 0)
  have hB0 : Below w.heap.size w ((w.alloc (.cells #[.slice none 0 0] 35)).alloc (.cells #[.slice A cs.length c] 22)) := ((Below.refl _ w).alloc (Nat.le_refl _) _).alloc (by simp) _
  have bN := Boxed.new (w.alloc (.cells #[.slice none 0 0] 35)) 22 (.slice A cs.length c)
  rw [World.size_alloc] at bN
  have hst : SeqStopsK Fence.wide (6 - 1) Tryd.prog 38 #[.pointer (some ⟨w.heap.size + 1, 0, none⟩)] encsN (KpN 42 w.heap.size (w.heap.size + 1)) (fun ys => ys = runsL cs) (fun pre => pre <+: runsL cs) cs.length ((w.alloc (.cells #[.slice none 0 0] 35)).alloc (.cells #[.slice A cs.length c] 22)) := by
    intro l J Jx W hW hJ _ hY h0
    have hsz : w.heap.size + 2 ≤ W.heap.size := by have := hW.size; simp at this; omega
    have hWb : Below w.heap.size w W := hB0.trans (hW.mono (by simp; omega))
    have hbox : W.cell? ⟨w.heap.size + 1, 0, none⟩ = some (.slice A cs.length c) := (hW.cell (p := ⟨w.heap.size + 1, 0, none⟩) (by simp)).trans bN.cell
    exact runs1_in (6 - 1) l (w.heap.size + 1) w.heap.size A cs c hl J Jx W (by omega) hJ (by omega) hY hbox (hS.below hWb) h0

  refine wpIn_rangeFunc_ownH rfl (by omega) (gf := 38) (lb := #[.pointer (some ⟨w.heap.size + 1, 0, none⟩)]) rfl trivial (enters_of Tryd.func38 (by kernel_rfl) rfl)
    hst kpN_t (kpN_b (by simp; omega) (by simp)) (Below.refl _ _) ?hps
    (RunsI w) (fun _ _ _ => False) (runsI_own w _ (by simp; omega)) (fun _ _ _ _ _ hs _ _ => hs)
    ⟨⟨_, bO.alloc _, Own.nil, fun _ => rfl⟩, hB0⟩
    (fun x a' W => ∃ Bx, W.heap[Bx]? = some (.cells #[.int .i64 x.f, .int .i64 x.t, .int .i64 x.b, .string x.h, .int .i64 x.k] 42 (0, 0)) ∧ a' = { tmps := #[.slice A cs.length c, undef, .slice none 0 0, .pointer (some ⟨w.heap.size, 0, none⟩), .pointer (some ⟨Bx, 0, none⟩), .slice A cs.length c, .func (.func 38) #[] #[.pointer (some ⟨w.heap.size + 1, 0, none⟩)], .agg #[.int .i64 x.f, .int .i64 x.t, .int .i64 x.b, .string x.h, .int .i64 x.k], undef, undef, undef, undef, undef], defers := [] })
    (fun x a' _ X Y row hs hg hr => by
      obtain ⟨Bx, h1, h2⟩ := hs
      refine ⟨Bx, (hg.block Bx (Array.getElem?_eq_some_iff.1 h1).1 ?_).trans h1, h2⟩
      rintro rfl
      obtain ⟨_, o, ho, hc⟩ := hr _ rfl
      rw [h1] at ho
      injection ho with ho
      subst ho
      cases hc)
    ?assign ?body ?done ?stop
  case hps => intro x; rfl
  case assign =>
    rintro l pre x W K hI hK
    have hsz := hI.2.size
    dsimp only [encsN]
    gi_wp2
    exact hK _ _ ((KeepsOthers.alloc _ _).from _) (kpN_alloc _ _ _ _ hsz _) (OwnFrom.alloc (runsI_own w _ (Nat.le_refl _)) _ hI) ⟨W.heap.size, heap_alloc_new _ _, rfl⟩
  case body =>
    rintro l pre x a' W hl' ⟨r, hr⟩ ⟨⟨v, hv, hown, hnil⟩, hB⟩ ⟨Bx, hbx, rfl⟩ hlt
    have hc := hv.cell
    have c0 := cell_of_row W Bx 0 _ _ _ hbx
    have c1 := cell_of_row W Bx 1 _ _ _ hbx
    have c2 := cell_of_row W Bx 2 _ _ _ hbx
    have c3 := cell_of_row W Bx 3 _ _ _ hbx
    have c4 := cell_of_row W Bx 4 _ _ _ hbx
    have hsW : w.heap.size + 2 ≤ W.heap.size := by have := (Array.getElem?_eq_some_iff.1 hr).1; simp at hl'; omega
    gi_wp2_with (gi_at_builtin; refine wpListIn_app1 Tryd.okN rfl (.tmp 8) (.tmp 10) 35 rfl Tryd.underlying35 (w.heap.size + 2) v pre rfl hown hnil x rfl rfl (by omega) hsW ?_; intro v' w1 hown' hg' hkeep hne; obtain ⟨A', N, c', rfl, -⟩ := hown'.shape; obtain ⟨hv1, hv2, hr2, hk2, hb2⟩ := hv.appended (by decide) (hown.based (by omega)) hB.size (Nat.le_refl _) (hown'.based (base' := w.heap.size) (by omega)) hg'; have hc1 := hv1.cell; have hf1 := hv1.frozen)
    refine ⟨hk2.from _, ⟨⟨hb2, fun hbs => ?_⟩, fun k c' hk hc' => ?_⟩, ⟨_, hv2, ?_, fun h => by simp at h⟩, hB.trans hb2⟩
    · have hne2 : some (w.heap.size + 1) ≠ v.ownBlock := fun e => by have := (hown.lt _ e.symm).1; omega
      exact ((Below.heap_setCell _ _ _ _ (by simp)).trans (hg'.block _ (by simp; omega) hne2)).trans (Below.heap_alloc _ _ _ hbs)
    · refine (Below.heap_setCell _ _ _ _ ?_).trans (hkeep k _ hk hc')
      rintro rfl
      rw [show W.heap[w.heap.size]? = _ from hv] at hk
      injection hk with hk
      injection hk with _ hk
      exact absurd hk (by decide)
    · refine World.ownsRow.kept hown' (grownBy_setCell' w1 w.heap.size _) (.inr fun e => ?_)
      have := (hown'.lt _ e).1
      omega
  case done =>
    rintro D ys W hD rfl ⟨⟨v, hv, hown, hnil⟩, hB⟩ hK
    have hc := hv.cell
    gi_wp2
    refine ⟨by simp, .inl ⟨_, _, rfl, run_takeDeferred hK, ?_⟩⟩
    exact ⟨_, results_tmp rfl _ _ _, v, rfl, ownsRow_putObj (hown.based (by omega)) _ hK rfl, hB.trans (belowK_b (w := w) (Nat.le_refl _) W D _ _ (by simp at hD; omega) hK rfl rfl)⟩
  case stop =>
    rintro D c' pre W _ _ h _
    exact h.elim
end Go.Proofs.YtoagikkjomobgaaDoor
