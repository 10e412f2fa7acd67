/- What is kept of rows of cells of one's own; Set, Link, All, Some whatever the span; the walk of the law CellsSets. (Printed by wip/cellsets.py.) -/
import Derived.Test.YtoagikkjomobgaaDoorCellAll
import Derived.Test.YtoagikkjomobgaaDoorLawMay5
import Derived.Laws.OwnMore
namespace Go.Proofs.YtoagikkjomobgaaDoor
open Go.RowKit Go.Lib

theorem grown_trans5 {a b c : World} {row : Option Nat} (h : a.grownBy b row) (k : b.grownBy c row) : a.grownBy c row :=
  ⟨k.os.trans h.os, k.tape.trans h.tape, k.output.trans h.output, Nat.le_trans h.size k.size, fun i hi hne => (k.block i (Nat.lt_of_lt_of_le hi h.size) hne).trans (h.block i hi hne)⟩

structure KpC (w : World) (O : List (Value × List Cl)) (W : World) : Prop where
  b : Below w.heap.size w W
  o : ∀ t ∈ O, Own encC 3 29 W w.heap.size t.1 t.2
  d : O.Pairwise fun s t => ∀ g, s.1.ownBlock = some g → t.1.ownBlock ≠ some g
theorem KpC.start (w : World) : KpC w [] w := ⟨Below.refl _ _, (fun _ h => by cases h), List.Pairwise.nil⟩
theorem KpC.later {w W W' : World} {O : List (Value × List Cl)} (k : KpC w O W) (h : Below W.heap.size W W') : KpC w O W' := ⟨k.b.trans (h.mono k.b.size), fun t ht => (k.o t ht).later h, k.d⟩
theorem KpC.quiet {w W W' : World} {O : List (Value × List Cl)} (k : KpC w O W) (h : ∃ q, W' = W.drewN q) : KpC w O W' := k.later (quiet_below5 (Below.refl _ W) h)
theorem KpC.add {w W W' : World} {O : List (Value × List Cl)} {v : Value} {ys : List Cl} (k : KpC w O W) (h : Below W.heap.size W W') (ho : Own encC 3 29 W' W.heap.size v ys) : KpC w ((v, ys) :: O) W' := by
  refine ⟨k.b.trans (h.mono k.b.size), fun t ht => ?_, List.Pairwise.cons (fun t ht g hg e => ?_) k.d⟩
  · rcases List.mem_cons.1 ht with rfl | ht
    · exact ho.based k.b.size
    · exact (k.o t ht).later h
  · have h1 := (ho.lt g hg).1
    have h2 := ((k.o t ht).lt g e).2
    omega
theorem Own.slC {w : World} {base : Nat} {A : Option Addr} {n c : Nat} {xs : List Cl} (h : Own encC 3 29 w base (.slice A n c) xs) : SlAt encC 3 w w.heap.size A xs := by
  obtain ⟨A', c', e, _, _, _, hs⟩ := h.form encC_len
  injection e with e1 e2 e3
  rw [e1]; exact hs
theorem KpC.sl {w W : World} {O : List (Value × List Cl)} {A : Option Addr} {n c : Nat} {ys : List Cl} (k : KpC w O W) (h : (Value.slice A n c, ys) ∈ O) : SlAt encC 3 W W.heap.size A ys := (k.o _ h).slC
theorem KpC.spoil {w W W' : World} {O1 O2 : List (Value × List Cl)} {t : Value × List Cl} (k : KpC w (O1 ++ t :: O2) W) (h : W.grownBy W' t.1.ownBlock) : KpC w (O1 ++ O2) W' := by
  have ht := k.o t (by simp)
  have hd := List.pairwise_append.1 k.d
  have hd2 := List.pairwise_cons.1 hd.2.1
  refine ⟨k.b.grown h k.b.size fun g hg => (ht.lt g hg).1, fun s hs => World.ownsRow.kept (k.o s (by
    rcases List.mem_append.1 hs with h | h
    · exact List.mem_append.2 (.inl h)
    · exact List.mem_append.2 (.inr (List.mem_cons_of_mem _ h)))) h ?_, k.d.sublist (List.Sublist.append (List.Sublist.refl _) (List.sublist_cons_self _ _))⟩
  cases hb : s.1.ownBlock with
  | none => exact .inl rfl
  | some g =>
    refine .inr fun e => ?_
    rcases List.mem_append.1 hs with h | h
    · exact hd.2.2 s h t (by simp) g hb e.symm
    · exact hd2.1 s h g e.symm hb

/-! ### whatever the span -/
def okB (n : Nat) (f t : Int) : Bool := decide (0 ≤ f) && (decide (f ≤ t) && decide (t ≤ (n : Int)))
theorem okB_iff {n : Nat} {f t : Int} : okB n f t = true ↔ spanOk n f t := by unfold okB spanOk; simp
def setL (s cl f t : Int) (cs : List Cl) : List Cl := if okB cs.length f t then setAt (setC s cl) f.toNat t.toNat cs else []
def setE (f t : Int) (cs : List Cl) : Int := if okB cs.length f t then 0 else 1
def linkL (h : ByteArray) (f t : Int) (cs : List Cl) : List Cl := if okB cs.length f t && linkB h then setAt (setH h) f.toNat t.toNat cs else []
def linkE (h : ByteArray) (f t : Int) (cs : List Cl) : Int := if okB cs.length f t && linkB h then 0 else 1
def allB5 (s f t : Int) (cs : List Cl) : Bool := okB cs.length f t && (decide (f.toNat < t.toNat) && !(partC cs f.toNat t.toNat).any (predA s))
def someB5 (s f t : Int) (cs : List Cl) : Bool := okB cs.length f t && (partC cs f.toNat t.toNat).any (predS s)
theorem ansC_mk {w w' : World} {e : Ending} {xs ys : List Cl} {er er' : Int} (h : AnsC w xs er e w') (h1 : xs = ys) (h2 : er = er') : AnsC w ys er' e w' := by subst h1 h2; exact h
theorem span_nat {n : Nat} {f t : Int} (h : spanOk n f t) : ∃ F T : Nat, f = (F : Int) ∧ t = (T : Int) ∧ F ≤ T ∧ T ≤ n := by
  obtain ⟨h1, h2, h3⟩ := h
  obtain ⟨F, rfl⟩ := Int.eq_ofNat_of_zero_le h1
  obtain ⟨T, rfl⟩ := Int.eq_ofNat_of_zero_le (Int.le_trans h1 h2)
  exact ⟨F, T, rfl, rfl, by omega, by omega⟩
theorem setC_any (A : Option Addr) (cs : List Cl) (n c B : Nat) (hn : n = cs.length) (f t s cl : Int) (w : World) (hA : SlAt encC 3 w B A cs) (hl : cs.length ≤ 1000000000) :
    Calls Tryd.prog 6 #[.slice A n c, .int .i64 f, .int .i64 t, .int .i64 s, .int .i64 cl] w (AnsC w (setL s cl f t cs) (setE f t cs)) := by
  cases h : okB cs.length f t with
  | true => exact (set_yes A cs n c B hn f t s cl w hA hl (okB_iff.1 h)).mono fun e w' h2 => ansC_mk (xs := setAt (setC s cl) f.toNat t.toNat cs) (er := 0) h2 (by unfold setL; rw [h]; rfl) (by unfold setE; rw [h]; rfl)
  | false => exact (set_no A n c f t s cl w (by rw [hn]; exact fun k => by rw [okB_iff.2 k] at h; cases h)).mono fun e w' h2 => ansC_mk h2 (by unfold setL; rw [h]; rfl) (by unfold setE; rw [h]; rfl)
theorem isB {b b' : Bool} {w w' : World} {e : Ending} (h : IsBool b w e w') (k : b = b') : IsBool b' w e w' := by subst k; exact h
theorem allC_any (A : Option Addr) (cs : List Cl) (n c B : Nat) (hn : n = cs.length) (f t s : Int) (w : World) (hA : SlAt encC 3 w B A cs) (hl : cs.length ≤ 1000000000) (hc : cs.length ≤ c) :
    Calls Tryd.prog 8 #[.slice A n c, .int .i64 f, .int .i64 t, .int .i64 s] w (IsBool (allB5 s f t cs) w) := by
  cases h : okB cs.length f t with
  | false => exact (cellsAll_no A n c f t s w (by rw [hn]; exact fun k => by rw [okB_iff.2 k] at h; cases h)).mono fun e w' h2 => isB h2 (by unfold allB5; rw [h]; rfl)
  | true =>
    obtain ⟨F, T, rfl, rfl, hFT, hTn⟩ := span_nat (okB_iff.1 h)
    by_cases e : F = T
    · subst e
      exact (cellsAll_eq A n c F s w (by omega)).mono fun e w' h2 => isB h2 (by unfold allB5; rw [h]; simp)
    · exact (cellsAll_lt A cs n c B hn F T s w hA hl hc (by omega) hTn).mono fun e w' h2 => isB h2 (by unfold allB5; rw [h]; simp only [Int.toNat_natCast]; rw [decide_eq_true (show F < T by omega)]; simp)
theorem someC_any (A : Option Addr) (cs : List Cl) (n c B : Nat) (hn : n = cs.length) (f t s : Int) (w : World) (hA : SlAt encC 3 w B A cs) (hl : cs.length ≤ 1000000000) (hc : cs.length ≤ c) :
    Calls Tryd.prog 9 #[.slice A n c, .int .i64 f, .int .i64 t, .int .i64 s] w (IsBool (someB5 s f t cs) w) := by
  cases h : okB cs.length f t with
  | false => exact (cellsSome_no A n c f t s w (by rw [hn]; exact fun k => by rw [okB_iff.2 k] at h; cases h)).mono fun e w' h2 => isB h2 (by unfold someB5; rw [h]; rfl)
  | true =>
    obtain ⟨F, T, rfl, rfl, hFT, hTn⟩ := span_nat (okB_iff.1 h)
    by_cases e : c = F
    · exact (cellsSome_end A cs n c B hn F T s w hA hl hc hFT hTn e).mono fun e w' h2 => isB h2 (by unfold someB5; rw [h]; simp only [Int.toNat_natCast, Bool.true_and])
    · exact (cellsSome_in A cs n c B hn F T s w hA hl hc hFT hTn e).mono fun e w' h2 => isB h2 (by unfold someB5; rw [h]; simp only [Int.toNat_natCast, Bool.true_and])
theorem setL_len {s cl f t : Int} {cs : List Cl} : (setL s cl f t cs).length ≤ cs.length := by unfold setL; split <;> simp [length_setAt]
theorem linkL_len {h : ByteArray} {f t : Int} {cs : List Cl} : (linkL h f t cs).length ≤ cs.length := by unfold linkL; split <;> simp [length_setAt]
end Go.Proofs.YtoagikkjomobgaaDoor
