/- What is kept of rows of cells of one's own; Set, Link, All, Some whatever the span; the walk of the law CellsSets. (Printed by wip/cellsets.py.) -/
import Derived.Test.YtgpccjmkghpiiaaDoorCellAll
import Derived.Test.YtgpccjmkghpiiaaDoorLawMay5
import Derived.Laws.OwnMore
namespace Go.Proofs.YtgpccjmkghpiiaaDoor
open Go.RowKit Go.Lib

theorem grown_trans5 {a b c : World} {row : Option Nat} (h : a.grownBy b row) (k : b.grownBy c row) : a.grownBy c row :=
  ⟨k.os.trans h.os, k.tape.trans h.tape, k.output.trans h.output, Nat.le_trans h.size k.size, fun i hi hne => (k.block i (Nat.lt_of_lt_of_le hi h.size) hne).trans (h.block i hi hne)⟩

set_option maxHeartbeats 2000000 in
/-- The law's spoil writes over a row of the caller's own alone. -/
theorem spoil5_any (A : Option Addr) (n c base : Nat) (xs : List Cl) (w : World) (ho : Own encC 3 37 w base (.slice A n c) xs) (hn : n = xs.length) (hl : xs.length ≤ 1000000000) :
    Calls Tryd.prog 14 #[.slice A n c] w (fun e w' => e = .returned (.tuple #[]) ∧ w.grownBy w' (Value.slice A n c).ownBlock) := by
  have hi0 : n ≤ 1000000000 := by omega
  unfold Own at ho
  rw [← hn] at ho
  clear hl hn
  go_enter Tryd.func14, Tryd.ntmps14
  go_wp2
  go_loopw [2] (fun i wr => ∃ (k : Nat) (vs : List Value), k ≤ n ∧ i = .int .i64 k ∧ wr.ownsRow base 37 3 (.slice A n c) n vs ∧ w.grownBy wr (Value.slice A n c).ownBlock) (fun i _ => n - (intOf i).toNat)
  case atStart => exact ⟨0, _, Nat.zero_le _, rfl, ho, World.grownBy.refl _ _⟩
  case round =>
    obtain ⟨k, vs, hk, rfl, hown, hbr⟩ := hrel
    by_cases hlt : k < n
    · have hi1 : (k : Int) < (n : Int) := by omega
      have hlen := hown.1
      obtain ⟨g, rfl, hg⟩ : ∃ g, A = some ⟨g, 0, none⟩ ∧ base ≤ g := by
        rcases hown.2 with ⟨h, h'⟩ | ⟨g, cap, cur, h, hg, _⟩
        · omega
        · injection h with h _ _
          exact ⟨g, h, hg⟩
      have x0 : wr.cell? ⟨g, k * 3, none⟩ = some (vs[k * 3]'(by omega)) := (World.ownsRow.cellAt hown _ (by omega)).trans (List.getElem?_eq_getElem _)
      have f0 := World.ownsRow.frozenAt hown (k * 3)
      have h1 := World.ownsRow.stored hown (k * 3) (.int .i32 122)
      have x1 : (wr.setCell ⟨g, k * 3, none⟩ (.int .i32 122)).cell? ⟨g, k * 3 + 1, none⟩ = some (vs[k * 3 + 1]'(by omega)) := (World.ownsRow.cellAt h1.1 _ (by omega)).trans (by simp)
      have f1 := World.ownsRow.frozenAt h1.1 (k * 3 + 1)
      have h2 := World.ownsRow.stored h1.1 (k * 3 + 1) (.int .i64 77)
      have x2 : ((wr.setCell ⟨g, k * 3, none⟩ (.int .i32 122)).setCell ⟨g, k * 3 + 1, none⟩ (.int .i64 77)).cell? ⟨g, k * 3 + 2, none⟩ = some (vs[k * 3 + 2]'(by omega)) := (World.ownsRow.cellAt h2.1 _ (by omega)).trans (by simp)
      have f2 := World.ownsRow.frozenAt h2.1 (k * 3 + 2)
      have h3 := World.ownsRow.stored h2.1 (k * 3 + 2) (.string ⟨#[]⟩)
      have hb3 := hid (grown_trans5 (grown_trans5 (grown_trans5 hbr h1.2) h2.2) h3.2)
      have H3 := hid h3.1
      clear h1 h2 h3 hown
      go_wp2
      go_roundw
      case rel => exact ⟨k + 1, _, by omega, by go_num, H3, hb3⟩
      case measure => simp [intOf]; omega
    · have hi1 : ¬ ((k : Int) < (n : Int)) := by omega
      go_wp2
      go_end0
      exact ⟨rfl, hbr⟩

structure KpC (w : World) (O : List (Value × List Cl)) (W : World) : Prop where
  b : Below w.heap.size w W
  o : ∀ t ∈ O, Own encC 3 37 W w.heap.size t.1 t.2
  d : O.Pairwise fun s t => ∀ g, s.1.ownBlock = some g → t.1.ownBlock ≠ some g
theorem KpC.start (w : World) : KpC w [] w := ⟨Below.refl _ _, (fun _ h => by cases h), List.Pairwise.nil⟩
theorem KpC.later {w W W' : World} {O : List (Value × List Cl)} (k : KpC w O W) (h : Below W.heap.size W W') : KpC w O W' := ⟨k.b.trans (h.mono k.b.size), fun t ht => (k.o t ht).later h, k.d⟩
theorem KpC.quiet {w W W' : World} {O : List (Value × List Cl)} (k : KpC w O W) (h : ∃ q, W' = W.drewN q) : KpC w O W' := k.later (quiet_below5 (Below.refl _ W) h)
theorem KpC.add {w W W' : World} {O : List (Value × List Cl)} {v : Value} {ys : List Cl} (k : KpC w O W) (h : Below W.heap.size W W') (ho : Own encC 3 37 W' W.heap.size v ys) : KpC w ((v, ys) :: O) W' := by
  refine ⟨k.b.trans (h.mono k.b.size), fun t ht => ?_, List.Pairwise.cons (fun t ht g hg e => ?_) k.d⟩
  · rcases List.mem_cons.1 ht with rfl | ht
    · exact ho.based k.b.size
    · exact (k.o t ht).later h
  · have h1 := (ho.lt g hg).1
    have h2 := ((k.o t ht).lt g e).2
    omega
theorem Own.slC {w : World} {base : Nat} {A : Option Addr} {n c : Nat} {xs : List Cl} (h : Own encC 3 37 w base (.slice A n c) xs) : SlAt encC 3 w w.heap.size A xs := by
  obtain ⟨A', c', e, _, _, _, hs⟩ := h.form encC_len
  injection e with e1 e2 e3
  rw [e1]; exact hs
theorem KpC.sl {w W : World} {O : List (Value × List Cl)} {A : Option Addr} {n c : Nat} {ys : List Cl} (k : KpC w O W) (h : (Value.slice A n c, ys) ∈ O) : SlAt encC 3 W W.heap.size A ys := (k.o _ h).slC
theorem KpC.spoil {w W W' : World} {O1 O2 : List (Value × List Cl)} {t : Value × List Cl} (k : KpC w (O1 ++ t :: O2) W) (h : W.grownBy W' t.1.ownBlock) : KpC w (O1 ++ O2) W' := by
  have ht := k.o t (by simp)
  have hd := List.pairwise_append.1 k.d
  have hd2 := List.pairwise_cons.1 hd.2.1
  refine ⟨k.b.grown h k.b.size fun g hg => (ht.lt g hg).1, fun s hs => World.ownsRow.kept (k.o s (by
    rcases List.mem_append.1 hs with h | h
    · exact List.mem_append.2 (.inl h)
    · exact List.mem_append.2 (.inr (List.mem_cons_of_mem _ h)))) h ?_, k.d.sublist (List.Sublist.append (List.Sublist.refl _) (List.sublist_cons_self _ _))⟩
  cases hb : s.1.ownBlock with
  | none => exact .inl rfl
  | some g =>
    refine .inr fun e => ?_
    rcases List.mem_append.1 hs with h | h
    · exact hd.2.2 s h t (by simp) g hb e.symm
    · exact hd2.1 s h g e.symm hb

/-! ### whatever the span -/
def okB (n : Nat) (f t : Int) : Bool := decide (0 ≤ f) && (decide (f ≤ t) && decide (t ≤ (n : Int)))
theorem okB_iff {n : Nat} {f t : Int} : okB n f t = true ↔ spanOk n f t := by unfold okB spanOk; simp
def setL (s cl f t : Int) (cs : List Cl) : List Cl := if okB cs.length f t then setAt (setC s cl) f.toNat t.toNat cs else []
def setE (f t : Int) (cs : List Cl) : Int := if okB cs.length f t then 0 else 1
def linkL (h : ByteArray) (f t : Int) (cs : List Cl) : List Cl := if okB cs.length f t && linkB h then setAt (setH h) f.toNat t.toNat cs else []
def linkE (h : ByteArray) (f t : Int) (cs : List Cl) : Int := if okB cs.length f t && linkB h then 0 else 1
def allB5 (s f t : Int) (cs : List Cl) : Bool := okB cs.length f t && (decide (f.toNat < t.toNat) && !(partC cs f.toNat t.toNat).any (predA s))
def someB5 (s f t : Int) (cs : List Cl) : Bool := okB cs.length f t && (partC cs f.toNat t.toNat).any (predS s)
theorem ansC_mk {w w' : World} {e : Ending} {xs ys : List Cl} {er er' : Int} (h : AnsC w xs er e w') (h1 : xs = ys) (h2 : er = er') : AnsC w ys er' e w' := by subst h1 h2; exact h
theorem span_nat {n : Nat} {f t : Int} (h : spanOk n f t) : ∃ F T : Nat, f = (F : Int) ∧ t = (T : Int) ∧ F ≤ T ∧ T ≤ n := by
  obtain ⟨h1, h2, h3⟩ := h
  obtain ⟨F, rfl⟩ := Int.eq_ofNat_of_zero_le h1
  obtain ⟨T, rfl⟩ := Int.eq_ofNat_of_zero_le (Int.le_trans h1 h2)
  exact ⟨F, T, rfl, rfl, by omega, by omega⟩
theorem setC_any (A : Option Addr) (cs : List Cl) (n c B : Nat) (hn : n = cs.length) (f t s cl : Int) (w : World) (hA : SlAt encC 3 w B A cs) (hl : cs.length ≤ 1000000000) :
    Calls Tryd.prog 9 #[.slice A n c, .int .i64 f, .int .i64 t, .int .i64 s, .int .i64 cl] w (AnsC w (setL s cl f t cs) (setE f t cs)) := by
  cases h : okB cs.length f t with
  | true => exact (set_yes A cs n c B hn f t s cl w hA hl (okB_iff.1 h)).mono fun e w' h2 => ansC_mk (xs := setAt (setC s cl) f.toNat t.toNat cs) (er := 0) h2 (by unfold setL; rw [h]; rfl) (by unfold setE; rw [h]; rfl)
  | false => exact (set_no A n c f t s cl w (by rw [hn]; exact fun k => by rw [okB_iff.2 k] at h; cases h)).mono fun e w' h2 => ansC_mk h2 (by unfold setL; rw [h]; rfl) (by unfold setE; rw [h]; rfl)
theorem refSetC_any (A : Option Addr) (cs : List Cl) (n c B : Nat) (hn : n = cs.length) (f t s cl : Int) (w : World) (hA : SlAt encC 3 w B A cs) (hl : cs.length ≤ 1000000000) :
    Calls Tryd.prog 10 #[.slice A n c, .int .i64 f, .int .i64 t, .int .i64 s, .int .i64 cl] w (AnsC w (setL s cl f t cs) (setE f t cs)) := by
  cases h : okB cs.length f t with
  | true => exact (refSet_yes A cs n c B hn f t s cl w hA hl (okB_iff.1 h)).mono fun e w' h2 => ansC_mk h2 (by unfold setL; rw [h]; rfl) (by unfold setE; rw [h]; rfl)
  | false => exact (refSet_no A n c f t s cl w (by rw [hn]; exact fun k => by rw [okB_iff.2 k] at h; cases h)).mono fun e w' h2 => ansC_mk h2 (by unfold setL; rw [h]; rfl) (by unfold setE; rw [h]; rfl)
theorem linkC_any (A : Option Addr) (cs : List Cl) (n c B : Nat) (hn : n = cs.length) (f t : Int) (h : ByteArray) (w : World) (hA : SlAt encC 3 w B A cs) (hl : cs.length ≤ 1000000000) (hh : h.size ≤ 1000000000) (hT : Tb w) :
    Calls Tryd.prog 11 #[.slice A n c, .int .i64 f, .int .i64 t, .string h] w (AnsC w (linkL h f t cs) (linkE h f t cs)) := by
  cases hk : linkB h with
  | false => exact (link_bad A n c f t h w hh hk hT).mono fun e w' h2 => ansC_mk h2 (by unfold linkL; rw [hk, Bool.and_false]; rfl) (by unfold linkE; rw [hk, Bool.and_false]; rfl)
  | true =>
    cases hs : okB cs.length f t with
    | true => exact (link_yes A cs n c B hn f t h w hA hl (okB_iff.1 hs) hh hk hT).mono fun e w' h2 => ansC_mk h2 (by unfold linkL; rw [hk, hs]; rfl) (by unfold linkE; rw [hk, hs]; rfl)
    | false => exact (link_no A n c f t h w (by rw [hn]; exact fun k => by rw [okB_iff.2 k] at hs; cases hs) hh hk hT).mono fun e w' h2 => ansC_mk h2 (by unfold linkL; rw [hs]; rfl) (by unfold linkE; rw [hs]; rfl)
theorem refLinksC_any (A : Option Addr) (cs : List Cl) (n c B : Nat) (hn : n = cs.length) (f t : Int) (h : ByteArray) (w : World) (hA : SlAt encC 3 w B A cs) (hl : cs.length ≤ 1000000000) (hh : h.size ≤ 1000000000) :
    Calls Tryd.prog 12 #[.slice A n c, .int .i64 f, .int .i64 t, .string h] w (AnsC w (linkL h f t cs) (linkE h f t cs)) := by
  cases hs : okB cs.length f t with
  | false => exact (refLinks_no A n c f t h w (by rw [hn]; exact fun k => by rw [okB_iff.2 k] at hs; cases hs)).mono fun e w' h2 => ansC_mk h2 (by unfold linkL; rw [hs]; rfl) (by unfold linkE; rw [hs]; rfl)
  | true =>
    cases hk : linkB h with
    | true => exact (refLinks_yes A cs n c B hn f t h w hA hl (okB_iff.1 hs) hh hk).mono fun e w' h2 => ansC_mk h2 (by unfold linkL; rw [hk, hs]; rfl) (by unfold linkE; rw [hk, hs]; rfl)
    | false => exact (refLinks_bad A n c f t h w (by rw [hn]; exact okB_iff.1 hs) hh hk).mono fun e w' h2 => ansC_mk h2 (by unfold linkL; rw [hk, Bool.and_false]; rfl) (by unfold linkE; rw [hk, Bool.and_false]; rfl)
theorem isB {b b' : Bool} {w w' : World} {e : Ending} (h : IsBool b w e w') (k : b = b') : IsBool b' w e w' := by subst k; exact h
theorem allC_any (A : Option Addr) (cs : List Cl) (n c B : Nat) (hn : n = cs.length) (f t s : Int) (w : World) (hA : SlAt encC 3 w B A cs) (hl : cs.length ≤ 1000000000) (hc : cs.length ≤ c) :
    Calls Tryd.prog 15 #[.slice A n c, .int .i64 f, .int .i64 t, .int .i64 s] w (IsBool (allB5 s f t cs) w) := by
  cases h : okB cs.length f t with
  | false => exact (cellsAll_no A n c f t s w (by rw [hn]; exact fun k => by rw [okB_iff.2 k] at h; cases h)).mono fun e w' h2 => isB h2 (by unfold allB5; rw [h]; rfl)
  | true =>
    obtain ⟨F, T, rfl, rfl, hFT, hTn⟩ := span_nat (okB_iff.1 h)
    by_cases e : F = T
    · subst e
      exact (cellsAll_eq A n c F s w (by omega)).mono fun e w' h2 => isB h2 (by unfold allB5; rw [h]; simp)
    · exact (cellsAll_lt A cs n c B hn F T s w hA hl hc (by omega) hTn).mono fun e w' h2 => isB h2 (by unfold allB5; rw [h]; simp only [Int.toNat_natCast]; rw [decide_eq_true (show F < T by omega)]; simp)
theorem refAllC_any (A : Option Addr) (cs : List Cl) (n c B : Nat) (hn : n = cs.length) (f t s : Int) (w : World) (hA : SlAt encC 3 w B A cs) (hl : cs.length ≤ 1000000000) :
    Calls Tryd.prog 16 #[.slice A n c, .int .i64 f, .int .i64 t, .int .i64 s] w (IsBool (allB5 s f t cs) w) := by
  cases h : okB cs.length f t with
  | false => exact (refAll_no A n c f t s w (by rw [hn]; exact fun k => by rw [okB_iff.2 k] at h; cases h)).mono fun e w' ⟨h2, h3⟩ => isB (b := false) ⟨h2, by rw [← h3]; exact Below.refl _ _⟩ (by unfold allB5; rw [h]; rfl)
  | true =>
    obtain ⟨F, T, rfl, rfl, hFT, hTn⟩ := span_nat (okB_iff.1 h)
    exact (refAll_yes A cs n c B hn F T s w hA hl hFT hTn).mono fun e w' ⟨h2, h3⟩ => ⟨by rw [h2]; unfold allB5; rw [h]; simp only [Int.toNat_natCast, Bool.true_and], by rw [← h3]; exact Below.refl _ _⟩
theorem someC_any (A : Option Addr) (cs : List Cl) (n c B : Nat) (hn : n = cs.length) (f t s : Int) (w : World) (hA : SlAt encC 3 w B A cs) (hl : cs.length ≤ 1000000000) (hc : cs.length ≤ c) :
    Calls Tryd.prog 17 #[.slice A n c, .int .i64 f, .int .i64 t, .int .i64 s] w (IsBool (someB5 s f t cs) w) := by
  cases h : okB cs.length f t with
  | false => exact (cellsSome_no A n c f t s w (by rw [hn]; exact fun k => by rw [okB_iff.2 k] at h; cases h)).mono fun e w' h2 => isB h2 (by unfold someB5; rw [h]; rfl)
  | true =>
    obtain ⟨F, T, rfl, rfl, hFT, hTn⟩ := span_nat (okB_iff.1 h)
    by_cases e : c = F
    · exact (cellsSome_end A cs n c B hn F T s w hA hl hc hFT hTn e).mono fun e w' h2 => isB h2 (by unfold someB5; rw [h]; simp only [Int.toNat_natCast, Bool.true_and])
    · exact (cellsSome_in A cs n c B hn F T s w hA hl hc hFT hTn e).mono fun e w' h2 => isB h2 (by unfold someB5; rw [h]; simp only [Int.toNat_natCast, Bool.true_and])
theorem refSomeC_any (A : Option Addr) (cs : List Cl) (n c B : Nat) (hn : n = cs.length) (f t s : Int) (w : World) (hA : SlAt encC 3 w B A cs) (hl : cs.length ≤ 1000000000) :
    Calls Tryd.prog 18 #[.slice A n c, .int .i64 f, .int .i64 t, .int .i64 s] w (IsBool (someB5 s f t cs) w) := by
  cases h : okB cs.length f t with
  | false => exact (refSome_no A n c f t s w (by rw [hn]; exact fun k => by rw [okB_iff.2 k] at h; cases h)).mono fun e w' ⟨h2, h3⟩ => isB (b := false) ⟨h2, by rw [← h3]; exact Below.refl _ _⟩ (by unfold someB5; rw [h]; rfl)
  | true =>
    obtain ⟨F, T, rfl, rfl, hFT, hTn⟩ := span_nat (okB_iff.1 h)
    exact (refSome_yes A cs n c B hn F T s w hA hl hFT hTn).mono fun e w' ⟨h2, h3⟩ => ⟨by rw [h2]; unfold someB5; rw [h]; simp only [Int.toNat_natCast, Bool.true_and], by rw [← h3]; exact Below.refl _ _⟩
theorem setL_len {s cl f t : Int} {cs : List Cl} : (setL s cl f t cs).length ≤ cs.length := by unfold setL; split <;> simp [length_setAt]
theorem linkL_len {h : ByteArray} {f t : Int} {cs : List Cl} : (linkL h f t cs).length ≤ cs.length := by unfold linkL; split <;> simp [length_setAt]
end Go.Proofs.YtgpccjmkghpiiaaDoor
