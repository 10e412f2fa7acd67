/- What cells and its reference answer to Insert, Cut and Part, whatever the span. -/
import Derived.Test.YtgpccjmkghpiiaaCuts3
namespace Go.Proofs.Ytgpccjmkghpiiaa
open Go.RowKit

def insL (cs : List Cl) (f : Int) (ms : List Cl) : List Cl := if spanOk cs.length f f then cs.take f.toNat ++ (ms ++ cs.drop f.toNat) else []
def cutL (cs : List Cl) (f t : Int) : List Cl := if spanOk cs.length f t then cs.take f.toNat ++ cs.drop t.toNat else []
def partL (cs : List Cl) (f t : Int) : List Cl := if spanOk cs.length f t then (cs.drop f.toNat).take (t.toNat - f.toNat) else []
def errI (n : Nat) (f t : Int) : Int := if spanOk n f t then 0 else 1
theorem length_insL (cs : List Cl) (f : Int) (ms : List Cl) : (insL cs f ms).length ≤ cs.length + ms.length := by
  unfold insL; split
  · simp; omega
  · simp
theorem length_cutL (cs : List Cl) (f t : Int) : (cutL cs f t).length ≤ cs.length + cs.length := by
  unfold cutL; split
  · simp; omega
  · simp
theorem length_partL (cs : List Cl) (f t : Int) : (partL cs f t).length ≤ cs.length := by
  unfold partL; split
  · simp; omega
  · simp
/-- A new row and an error's number. -/
def RetAns (w : World) (xs : List Cl) (er : Int) (e : Ending) (w' : World) : Prop := ∃ v, e = .returned (.tuple #[v, .int .i64 er]) ∧ Own encC 3 33 w' w.heap.size v xs ∧ Below w.heap.size w w'
theorem Own.shapeS {α : Type} {enc : α → List Value} {sz : Nat} {e : TypeId} {w : World} {base : Nat} {v : Value} {xs : List α} (h : Own enc sz e w base v xs) (he : ∀ x, (enc x).length = sz) :
    ∃ A n c, v = .slice A n c ∧ Hid (n = xs.length) ∧ Hid (xs.length ≤ c) ∧ SlAt enc sz w w.heap.size A xs := by
  obtain ⟨A, c, hv, hl, _, _, hS⟩ := h.form he
  exact ⟨A, _, c, hv, rfl, hl, hS⟩
/-- A row of one's own stays where another's row is written. -/
theorem Own.besides {α : Type} {enc : α → List Value} {sz : Nat} {e : TypeId} {w w' : World} {base : Nat} {v : Value} {xs : List α} {row : Option Nat} (h : Own enc sz e w base v xs) (hg : w.grownBy w' row) (hr : ∀ g, row = some g → g < base) : Own enc sz e w' base v xs :=
  World.ownsRow.kept h hg (by
    cases hv : v.ownBlock with
    | none => exact .inl rfl
    | some k =>
      refine .inr fun e => ?_
      have := (h.lt k hv).1
      have := hr k e.symm
      omega)

theorem insert_any (A : Option Addr) (cs : List Cl) (n c B : Nat) (hn : n = cs.length) (f : Int) (w : World) (hA : SlAt encC 3 w B A cs) (hl : cs.length ≤ 300000000) (hc : cs.length ≤ c) (M : Option Addr) (ms : List Cl) (m cm D : Nat) (hm : m = ms.length) (hM : SlAt encC 3 w D M ms) (hl2 : ms.length ≤ 300000000) :
    Calls Try.prog 17 #[.slice A n c, .int .i64 f, .slice M m cm] w (RetAns w (insL cs f ms) (errI cs.length f f)) := by
  unfold insL errI
  by_cases h : spanOk cs.length f f
  · rw [if_pos h, if_pos h]
    exact insert_yes A M cs ms n c B m cm D hn hm f w hA hM hl hl2 hc h
  · rw [if_neg h, if_neg h]
    refine (insert_no A n c f w M m cm (by rw [hn]; exact h)).mono ?_
    rintro e w' ⟨rfl, rfl⟩
    exact ⟨_, rfl, Own.nil, Below.refl _ _⟩

theorem cut_any (A : Option Addr) (cs : List Cl) (n c B : Nat) (hn : n = cs.length) (f t : Int) (w : World) (hA : SlAt encC 3 w B A cs) (hl : cs.length ≤ 300000000) (hc : cs.length ≤ c) :
    Calls Try.prog 19 #[.slice A n c, .int .i64 f, .int .i64 t] w (RetAns w (cutL cs f t) (errI cs.length f t)) := by
  unfold cutL errI
  by_cases h : spanOk cs.length f t
  · rw [if_pos h, if_pos h]
    exact cut_yes A cs n c B hn f t w hA (by omega) hc h
  · rw [if_neg h, if_neg h]
    refine (cut_no A n c f t w (by rw [hn]; exact h)).mono ?_
    rintro e w' ⟨rfl, rfl⟩
    exact ⟨_, rfl, Own.nil, Below.refl _ _⟩

theorem part_any (A : Option Addr) (cs : List Cl) (n c B : Nat) (hn : n = cs.length) (f t : Int) (w : World) (hA : SlAt encC 3 w B A cs) (hl : cs.length ≤ 300000000) (hc : cs.length ≤ c) :
    Calls Try.prog 21 #[.slice A n c, .int .i64 f, .int .i64 t] w (RetAns w (partL cs f t) (errI cs.length f t)) := by
  unfold partL errI
  by_cases h : spanOk cs.length f t
  · rw [if_pos h, if_pos h]
    exact part_yes A cs n c B hn f t w hA (by omega) hc h
  · rw [if_neg h, if_neg h]
    refine (part_no A n c f t w (by rw [hn]; exact h)).mono ?_
    rintro e w' ⟨rfl, rfl⟩
    exact ⟨_, rfl, Own.nil, Below.refl _ _⟩

theorem refInsert_any (A : Option Addr) (cs : List Cl) (n c B : Nat) (hn : n = cs.length) (f : Int) (w : World) (hA : SlAt encC 3 w B A cs) (hl : cs.length ≤ 300000000) (hc : cs.length ≤ c) (M : Option Addr) (ms : List Cl) (m cm D : Nat) (hm : m = ms.length) (hM : SlAt encC 3 w D M ms) (hl2 : ms.length ≤ 300000000) :
    Calls Try.prog 18 #[.slice A n c, .int .i64 f, .slice M m cm] w (RetAns w (insL cs f ms) (errI cs.length f f)) := by
  unfold insL errI
  by_cases h : spanOk cs.length f f
  · rw [if_pos h, if_pos h]
    exact refInsert_yes A M cs ms n c B m cm D hn hm f w hA hM hl hl2 hc h
  · rw [if_neg h, if_neg h]
    refine (refInsert_no A n c f w M m cm (by rw [hn]; exact h)).mono ?_
    rintro e w' ⟨rfl, rfl⟩
    exact ⟨_, rfl, Own.nil, Below.refl _ _⟩

theorem refCut_any (A : Option Addr) (cs : List Cl) (n c B : Nat) (hn : n = cs.length) (f t : Int) (w : World) (hA : SlAt encC 3 w B A cs) (hl : cs.length ≤ 300000000) (hc : cs.length ≤ c) :
    Calls Try.prog 20 #[.slice A n c, .int .i64 f, .int .i64 t] w (RetAns w (cutL cs f t) (errI cs.length f t)) := by
  unfold cutL errI
  by_cases h : spanOk cs.length f t
  · rw [if_pos h, if_pos h]
    exact refCut_yes A cs n c B hn f t w hA (by omega) hc h
  · rw [if_neg h, if_neg h]
    refine (refCut_no A n c f t w (by rw [hn]; exact h)).mono ?_
    rintro e w' ⟨rfl, rfl⟩
    exact ⟨_, rfl, Own.nil, Below.refl _ _⟩

theorem refPart_any (A : Option Addr) (cs : List Cl) (n c B : Nat) (hn : n = cs.length) (f t : Int) (w : World) (hA : SlAt encC 3 w B A cs) (hl : cs.length ≤ 300000000) (hc : cs.length ≤ c) :
    Calls Try.prog 22 #[.slice A n c, .int .i64 f, .int .i64 t] w (RetAns w (partL cs f t) (errI cs.length f t)) := by
  unfold partL errI
  by_cases h : spanOk cs.length f t
  · rw [if_pos h, if_pos h]
    exact refPart_yes A cs n c B hn f t w hA (by omega) hc h
  · rw [if_neg h, if_neg h]
    refine (refPart_no A n c f t w (by rw [hn]; exact h)).mono ?_
    rintro e w' ⟨rfl, rfl⟩
    exact ⟨_, rfl, Own.nil, Below.refl _ _⟩

theorem refSame_self (A B : Option Addr) (xs : List Cl) (n m c d C D : Nat) (hn : n = xs.length) (hm : m = xs.length) (w : World) (hA : SlAt encC 3 w C A xs) (hB : SlAt encC 3 w D B xs) (hx : xs.length ≤ 1000000000) :
    Calls Try.prog 10 #[.slice A n c, .slice B m d] w (RetQuiet (.bool true) w) := by
  have h := refSame_any A B xs xs n m c d C D hn hm w hA hB hx
  rwa [decide_eq_true rfl] at h
theorem same_self (A B : Option Addr) (xs : List Cl) (n m c d C D : Nat) (hn : n = xs.length) (hm : m = xs.length) (w : World) (hA : SlAt encC 3 w C A xs) (hB : SlAt encC 3 w D B xs) (hx : xs.length ≤ 1000000000) :
    Calls Try.prog 28 #[.slice A n c, .slice B m d] w (RetQuiet (.bool true) w) := by
  have h := same_any A B xs xs n m c d C D hn hm w hA hB hx
  rwa [decide_eq_true rfl] at h
end Go.Proofs.Ytgpccjmkghpiiaa
