/- A line as four values, what the package lines makes of it, said of lists; rows that may be written, wherever they begin. -/
import Derived.Test.YtblbfoniimnkcaaGreatDoorCellMay
import Derived.Laws.OwnMore
namespace Go.Proofs.YtblbfoniimnkcaaGreatDoor
open Go.RowKit Go.Lib

structure Ln where
  q : Int
  ls : List Int
  k : Int
  cs : List Cl
theorem Ln.ext' {x y : Ln} (h1 : x.q = y.q) (h2 : x.ls = y.ls) (h3 : x.k = y.k) (h4 : x.cs = y.cs) : x = y := by
  cases x; cases y; cases h1; cases h2; cases h3; cases h4; rfl
instance : DecidableEq Ln := fun x y =>
  if h : x.q = y.q ∧ x.ls = y.ls ∧ x.k = y.k ∧ x.cs = y.cs then .isTrue (Ln.ext' h.1 h.2.1 h.2.2.1 h.2.2.2)
  else .isFalse fun e => h (by subst e; exact ⟨rfl, rfl, rfl, rfl⟩)
theorem Ln.eq_iff {x y : Ln} : x = y ↔ x.q = y.q ∧ x.ls = y.ls ∧ x.k = y.k ∧ x.cs = y.cs :=
  ⟨fun e => by subst e; exact ⟨rfl, rfl, rfl, rfl⟩, fun h => Ln.ext' h.1 h.2.1 h.2.2.1 h.2.2.2⟩
def zL : Ln := ⟨0, [], 0, []⟩
def badI (x : Int) : Bool := decide (x ≠ 0) && decide (x ≠ 1)
def okI (ls : List Int) : Bool := !ls.any badI
def mayL (l : Ln) : Bool := !decide (l.q < 0) && (!decide (6 < l.q) && (!decide (6 < l.ls.length) && (!decide (l.k < 0) && (!decide (3 < l.k) && (!(decide (0 < l.ls.length) && decide (l.k ≠ 0)) && (okI l.ls && mayCs l.cs))))))
def lastI (ls : List Int) : Int := ls.getLastD (-1)
def indentL (l : Ln) : Ln × Int :=
  if mayL l then
    if l.ls = [] then (if l.q < 6 then (⟨l.q + 1, l.ls, l.k, l.cs⟩, 0) else (zL, 7))
    else if l.ls.length < 6 then (⟨l.q, l.ls ++ [lastI l.ls], l.k, l.cs⟩, 0) else (zL, 7)
  else (zL, 1)
def outdentL (l : Ln) : Ln × Int :=
  if mayL l then
    if l.ls = [] then (if 0 < l.q then (⟨l.q - 1, l.ls, l.k, l.cs⟩, 0) else (zL, 7))
    else (⟨l.q, l.ls.dropLast, l.k, l.cs⟩, 0)
  else (zL, 1)
def listL (l : Ln) (kind : Int) : Ln × Int :=
  if (kind = 0 ∨ kind = 1) ∧ mayL l then
    if l.ls = [] then (⟨l.q, [kind], 0, l.cs⟩, 0)
    else if lastI l.ls = kind then (zL, 7) else (⟨l.q, l.ls.dropLast ++ [kind], l.k, l.cs⟩, 0)
  else (zL, 1)
def formatL (l : Ln) (kind : Int) : Ln × Int :=
  if (0 ≤ kind ∧ kind ≤ 3) ∧ mayL l then
    if l.ls = [] ∧ l.k ≠ kind then (⟨l.q, l.ls, kind, l.cs⟩, 0) else (zL, 7)
  else (zL, 1)
def freeL (l : Ln) : Ln × Int :=
  if mayL l then
    if l.ls = [] then
      if 0 < l.k then (⟨l.q, l.ls, 0, l.cs⟩, 0)
      else if 0 < l.q then (⟨l.q - 1, l.ls, l.k, l.cs⟩, 0) else (zL, 7)
    else (⟨l.q, l.ls.dropLast, l.k, l.cs⟩, 0)
  else (zL, 1)
def inL (l : Ln) (at_ : Int) : Bool := mayL l && (!decide (at_ < 0) && !decide ((l.cs.length : Int) < at_))
def splitA (l : Ln) (at_ : Int) : Ln := if inL l at_ then ⟨l.q, l.ls, l.k, l.cs.take at_.toNat⟩ else zL
def splitB (l : Ln) (at_ : Int) : Ln := if inL l at_ then ⟨l.q, l.ls, if at_ = l.cs.length then 0 else l.k, l.cs.drop at_.toNat⟩ else zL
def splitE (l : Ln) (at_ : Int) : Int := if inL l at_ then 0 else 1
def joinL (a b : Ln) : Ln × Int := if mayL a && mayL b then (⟨a.q, a.ls, a.k, a.cs ++ b.cs⟩, 0) else (zL, 1)

/-! ### rows that may be written -/
/-- From cell o of block g on, of a row that is the call's own, there are xs. -/
def Wr {α : Type} (enc : α → List Value) (sz : Nat) (e : TypeId) (w : World) (base : Nat) (A : Option Addr) (xs : List α) : Prop :=
  xs ≠ [] → ∃ g o cur, A = some ⟨g, o, none⟩ ∧ base ≤ g ∧ w.heap[g]? = some (.cells cur e (0, 0)) ∧ o + xs.length * sz ≤ cur.size ∧ (cur.toList.drop o).take (xs.length * sz) = xs.flatMap enc
section
variable {α : Type} {enc : α → List Value} {sz : Nat} {e : TypeId} {w w' : World} {base : Nat} {A : Option Addr} {xs : List α}
theorem Wr.nil : Wr enc sz e w base A ([] : List α) := fun h => absurd rfl h
theorem Own.wr {n c : Nat} (h : Own enc sz e w base (.slice A n c) xs) : Wr enc sz e w base A xs := fun hn => by
  rcases h.2 with ⟨_, h0⟩ | ⟨g, cap, cur, hv, hb, hg, hle, _, hsz, ht⟩
  · exact absurd (List.eq_nil_of_length_eq_zero h0) hn
  · injection hv with h1 h2 h3
    exact ⟨g, 0, cur, h1, hb, hg, by rw [Nat.zero_add, hsz]; exact Nat.mul_le_mul_right _ hle, by rw [List.drop_zero]; exact ht⟩
theorem Wr.based {base' : Nat} (h : Wr enc sz e w base A xs) (hb : base' ≤ base) : Wr enc sz e w base' A xs := fun hn => by
  obtain ⟨g, o, cur, h1, h2, h3⟩ := h hn
  exact ⟨g, o, cur, h1, by omega, h3⟩
theorem Wr.keep (h : Wr enc sz e w base A xs) (hk : ∀ g, w.heap[g]?.isSome → base ≤ g → w'.heap[g]? = w.heap[g]?) : Wr enc sz e w' base A xs := fun hn => by
  obtain ⟨g, o, cur, h1, h2, h3, h4⟩ := h hn
  exact ⟨g, o, cur, h1, h2, by rw [hk g (by rw [h3]; rfl) h2]; exact h3, h4⟩
theorem Wr.later (h : Wr enc sz e w base A xs) (hb : Below w.heap.size w w') : Wr enc sz e w' base A xs :=
  h.keep fun g hg _ => hb.block g (Array.getElem?_eq_some_iff.1 (Option.get_mem hg)).1
theorem Wr.sl (h : Wr enc sz e w base A xs) (he : ∀ x, (enc x).length = sz) : SlAt enc sz w w.heap.size A xs := fun hn => by
  obtain ⟨g, o, cur, rfl, h2, h3, h4, h5⟩ := h hn
  refine ⟨_, rfl, (Array.getElem?_eq_some_iff.1 h3).1, fun k x hx j u hu => ?_⟩
  have hf := getElem?_flat he xs k x j u hx hu
  have hk : k * sz + j < xs.length * sz := by
    have := (List.getElem?_eq_some_iff.1 hf).1
    rwa [length_flat he] at this
  rw [add_add', show (⟨g, o, none⟩ : Addr).add (k * sz + j) = ⟨g, o + (k * sz + j), none⟩ from by unfold Addr.add; split <;> simp_all, cell_of_row w g _ cur e (0, 0) h3]
  rw [← h5, List.getElem?_take, if_pos hk, List.getElem?_drop] at hf
  simpa using hf
/-- A part of a row. -/
theorem Wr.take (h : Wr enc sz e w base A xs) (he : ∀ x, (enc x).length = sz) (n : Nat) : Wr enc sz e w base A (xs.take n) := fun hn => by
  obtain ⟨g, o, cur, rfl, h2, h3, h4, h5⟩ := h (by rintro rfl; simp at hn)
  have hle : (xs.take n).length * sz ≤ xs.length * sz := Nat.mul_le_mul_right _ (by rw [List.length_take]; omega)
  refine ⟨g, o, cur, rfl, h2, h3, by omega, ?_⟩
  have h6 := congrArg (List.take ((xs.take n).length * sz)) h5
  rw [List.take_take, Nat.min_eq_left hle] at h6
  rw [h6]
  conv => lhs; rw [← List.take_append_drop n xs, List.flatMap_append]
  rw [List.take_append_of_le_length (by rw [length_flat he]; exact Nat.le_of_eq (by rw [List.take_append_drop]))]
  rw [List.take_of_length_le (by rw [length_flat he, List.take_append_drop]; exact Nat.le_refl _)]
theorem Wr.drop (h : Wr enc sz e w base A xs) (he : ∀ x, (enc x).length = sz) {k cap : Nat} (hc : xs.length ≤ cap) : Wr enc sz e w base (if cap = k then A else A.map (·.add (k * sz))) (xs.drop k) := fun hn => by
  have hlt : k < xs.length := by
    rcases Nat.lt_or_ge k xs.length with h1 | h1
    · exact h1
    · exact absurd (List.drop_eq_nil_of_le h1) hn
  obtain ⟨g, o, cur, rfl, h2, h3, h4, h5⟩ := h (by rintro rfl; simp at hn)
  rw [if_neg (by omega)]
  have hm : k * sz + (xs.drop k).length * sz = xs.length * sz := by rw [← Nat.add_mul, List.length_drop]; congr 1; omega
  refine ⟨g, o + k * sz, cur, by show some _ = _; congr 1; unfold Addr.add; split <;> simp_all, h2, h3, by omega, ?_⟩
  have h6 := congrArg (List.drop (k * sz)) h5
  rw [List.drop_take, List.drop_drop, show xs.length * sz - k * sz = (xs.drop k).length * sz from by omega] at h6
  rw [h6]
  conv => lhs; rw [← List.take_append_drop k xs, List.flatMap_append]
  rw [List.drop_append_of_le_length (by rw [length_flat he]; exact Nat.le_of_eq (by rw [List.length_take, Nat.min_eq_left (by omega)])), List.drop_eq_nil_of_le (by rw [length_flat he, List.length_take, Nat.min_eq_left (by omega)]; exact Nat.le_refl _), List.nil_append]
end

/-! ### a line's value -/
def lnV (l : Ln) (A : Option Addr) (c : Nat) (B : Option Addr) (d : Nat) : Value := .agg #[.int .i64 l.q, .slice A l.ls.length c, .int .i64 l.k, .slice B l.cs.length d]
/-- What reads as a line. -/
structure LnAt (w : World) (C : Nat) (l : Ln) (A : Option Addr) (B : Option Addr) : Prop where
  ls : SlAt encI 1 w C A l.ls
  cs : SlAt encC 3 w C B l.cs
/-- The same, in rows that may be written. -/
structure LnWr (w : World) (base : Nat) (l : Ln) (A : Option Addr) (B : Option Addr) : Prop where
  ls : Wr encI 1 3 w base A l.ls
  cs : Wr encC 3 60 w base B l.cs
theorem LnAt.below {w w' : World} {C : Nat} {l : Ln} {A B : Option Addr} (h : LnAt w C l A B) (hb : Below C w w') : LnAt w' C l A B := ⟨h.ls.below hb, h.cs.below hb⟩
theorem LnAt.belowM {w w' : World} {C D : Nat} {l : Ln} {A B : Option Addr} (h : LnAt w C l A B) (hb : Below D w w') (hC : C ≤ D) : LnAt w' C l A B := ⟨h.ls.belowM hb hC, h.cs.belowM hb hC⟩
theorem LnAt.more {w : World} {C D : Nat} {l : Ln} {A B : Option Addr} (h : LnAt w C l A B) (hC : C ≤ D) : LnAt w D l A B := ⟨h.ls.more hC, h.cs.more hC⟩
theorem LnAt.live {w : World} {C : Nat} {l : Ln} {A B : Option Addr} (h : LnAt w C l A B) : LnAt w w.heap.size l A B := ⟨h.ls.live (fun _ => by rw [encI_len]; omega), h.cs.live (fun _ => by rw [encC_len]; omega)⟩
theorem LnWr.at_ {w : World} {base : Nat} {l : Ln} {A B : Option Addr} (h : LnWr w base l A B) : LnAt w w.heap.size l A B := ⟨h.ls.sl encI_len, h.cs.sl encC_len⟩
theorem LnWr.later {w w' : World} {base : Nat} {l : Ln} {A B : Option Addr} (h : LnWr w base l A B) (hb : Below w.heap.size w w') : LnWr w' base l A B := ⟨h.ls.later hb, h.cs.later hb⟩
theorem LnWr.based {w : World} {base base' : Nat} {l : Ln} {A B : Option Addr} (h : LnWr w base l A B) (hb : base' ≤ base) : LnWr w base' l A B := ⟨h.ls.based hb, h.cs.based hb⟩
theorem LnWr.zero {w : World} {base : Nat} {A B : Option Addr} : LnWr w base zL A B := ⟨Wr.nil, Wr.nil⟩
/-- What a call hands back: a line in new rows. -/
def RetLn (l : Ln) (w : World) (e : Ending) (w' : World) : Prop := ∃ A c B d, e = .returned (lnV l A c B d) ∧ l.ls.length ≤ c ∧ l.cs.length ≤ d ∧ LnWr w' w.heap.size l A B ∧ Below w.heap.size w w'
/-- .. and an error. -/
def RetLnE (r : Ln × Int) (w : World) (e : Ending) (w' : World) : Prop := ∃ A c B d, e = .returned (.tuple #[lnV r.1 A c B d, .int .i64 r.2]) ∧ r.1.ls.length ≤ c ∧ r.1.cs.length ≤ d ∧ LnWr w' w.heap.size r.1 A B ∧ Below w.heap.size w w'
end Go.Proofs.YtblbfoniimnkcaaGreatDoor
