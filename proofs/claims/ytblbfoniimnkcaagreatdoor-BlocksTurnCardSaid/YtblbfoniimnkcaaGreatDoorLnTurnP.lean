/- What lines.turned makes of a change; each change as a plain function; it is the plain answer. No program in sight. -/
import Derived.Test.YtblbfoniimnkcaaGreatDoorLnBox
namespace Go.Proofs.YtblbfoniimnkcaaGreatDoor
open Go.RowKit Go.Lib

def turnedL (f : Ln → Ln × Bool) (l : Ln) : Ln × Int := if mayL l then (if (f l).2 then ((f l).1, 0) else (zL, 7)) else (zL, 1)
def fIndent (l : Ln) : Ln × Bool := if l.ls = [] then (⟨l.q + 1, l.ls, l.k, l.cs⟩, decide (l.q + 1 ≤ 6)) else (⟨l.q, l.ls ++ [lastI l.ls], l.k, l.cs⟩, decide (l.ls.length + 1 ≤ 6))
def fOutdent (l : Ln) : Ln × Bool := if l.ls = [] then (⟨l.q - 1, l.ls, l.k, l.cs⟩, decide (0 ≤ l.q - 1)) else (⟨l.q, l.ls.dropLast, l.k, l.cs⟩, true)
def fList (kind : Int) (l : Ln) : Ln × Bool := if l.ls = [] then (⟨l.q, [kind], 0, l.cs⟩, true) else (⟨l.q, l.ls.dropLast ++ [kind], l.k, l.cs⟩, decide (lastI l.ls ≠ kind))
def fFormat (kind : Int) (l : Ln) : Ln × Bool := (⟨l.q, l.ls, kind, l.cs⟩, decide (l.ls = [] ∧ l.k ≠ kind))
def fFree (l : Ln) : Ln × Bool :=
  if l.ls = [] then (if 0 < l.k then (⟨l.q, l.ls, 0, l.cs⟩, true) else if 0 < l.q then (⟨l.q - 1, l.ls, l.k, l.cs⟩, true) else (l, false))
  else (⟨l.q, l.ls.dropLast, l.k, l.cs⟩, true)
theorem indentL_eq (l : Ln) : indentL l = turnedL fIndent l := by
  unfold indentL turnedL fIndent
  by_cases hm : mayL l = true
  · simp only [hm, if_true]
    by_cases hl : l.ls = []
    · simp only [hl, if_true, decide_eq_true_eq]
      by_cases h : l.q < 6
      · rw [if_pos h, if_pos (by omega)]
      · rw [if_neg h, if_neg (by omega)]
    · simp only [hl, if_false, decide_eq_true_eq]
      by_cases h : l.ls.length < 6
      · rw [if_pos h, if_pos (by omega)]
      · rw [if_neg h, if_neg (by omega)]
  · simp only [hm, if_false, Bool.false_eq_true]
theorem outdentL_eq (l : Ln) : outdentL l = turnedL fOutdent l := by
  unfold outdentL turnedL fOutdent
  by_cases hm : mayL l = true
  · simp only [hm, if_true]
    by_cases hl : l.ls = []
    · simp only [hl, if_true, decide_eq_true_eq]
      by_cases h : 0 < l.q
      · rw [if_pos h, if_pos (by omega)]
      · rw [if_neg h, if_neg (by omega)]
    · simp only [hl, if_false, if_true]
  · simp only [hm, if_false, Bool.false_eq_true]
theorem listL_eq (l : Ln) (kind : Int) : listL l kind = if kind = 0 ∨ kind = 1 then turnedL (fList kind) l else (zL, 1) := by
  unfold listL turnedL fList
  by_cases hk : kind = 0 ∨ kind = 1
  · by_cases hm : mayL l = true
    · rw [if_pos ⟨hk, hm⟩, if_pos hk]
      simp only [hm, if_true]
      by_cases hl : l.ls = []
      · simp only [hl, if_true]
      · simp only [hl, if_false]
        by_cases h : lastI l.ls = kind
        · rw [if_pos h, if_neg (by simp [h])]
        · rw [if_neg h, if_pos (by simp [h])]
    · rw [if_neg (by rintro ⟨_, h⟩; exact hm h), if_pos hk]
      simp only [hm, if_false, Bool.false_eq_true]
  · rw [if_neg (by rintro ⟨h, _⟩; exact hk h), if_neg hk]
theorem formatL_eq (l : Ln) (kind : Int) : formatL l kind = if 0 ≤ kind ∧ kind ≤ 3 then turnedL (fFormat kind) l else (zL, 1) := by
  unfold formatL turnedL fFormat
  by_cases hk : 0 ≤ kind ∧ kind ≤ 3
  · by_cases hm : mayL l = true
    · rw [if_pos ⟨hk, hm⟩, if_pos hk]
      simp only [hm, if_true, decide_eq_true_eq]
    · rw [if_neg (by rintro ⟨_, h⟩; exact hm h), if_pos hk]
      simp only [hm, if_false, Bool.false_eq_true]
  · rw [if_neg (by rintro ⟨h, _⟩; exact hk h), if_neg hk]
theorem freeL_eq (l : Ln) : freeL l = turnedL fFree l := by
  unfold freeL turnedL fFree
  by_cases hm : mayL l = true
  · simp only [hm, if_true]
    by_cases hl : l.ls = []
    · simp only [hl, if_true]
      by_cases h : 0 < l.k
      · simp only [h, if_true]
      · simp only [h, if_false]
        by_cases h2 : 0 < l.q
        · simp only [h2, if_true]
        · simp only [h2, if_false, Bool.false_eq_true]
    · simp only [hl, if_false, if_true]
  · simp only [hm, if_false, Bool.false_eq_true]
theorem mayL_parts {l : Ln} (h : mayL l = true) : 0 ≤ l.q ∧ l.q ≤ 6 ∧ l.ls.length ≤ 6 ∧ 0 ≤ l.k ∧ l.k ≤ 3 ∧ (l.ls ≠ [] → l.k = 0) ∧ (∀ x ∈ l.ls, x = 0 ∨ x = 1) ∧ mayCs l.cs = true := by
  unfold mayL okI at h
  simp only [Bool.and_eq_true, Bool.not_eq_true', decide_eq_false_iff_not, Bool.and_eq_false_iff, List.any_eq_false, badI, decide_eq_true_eq] at h
  obtain ⟨h1, h2, h3, h4, h5, h6, h7, h8⟩ := h
  refine ⟨by omega, by omega, by omega, by omega, by omega, fun hn => ?_, fun x hx => ?_, h8⟩
  · have : 0 < l.ls.length := List.length_pos_iff.2 hn
    rcases h6 with h6 | h6
    · omega
    · simpa using h6
  · have := h7 x hx
    simp only [ne_eq, not_and, Decidable.not_not] at this
    by_cases h0 : x = 0
    · exact .inl h0
    · exact .inr (this h0)
theorem mayL_of {l : Ln} (h1 : 0 ≤ l.q) (h2 : l.q ≤ 6) (h3 : l.ls.length ≤ 6) (h4 : 0 ≤ l.k) (h5 : l.k ≤ 3) (h6 : l.ls ≠ [] → l.k = 0) (h7 : ∀ x ∈ l.ls, x = 0 ∨ x = 1) (h8 : mayCs l.cs = true) : mayL l = true := by
  unfold mayL okI
  simp only [Bool.and_eq_true, Bool.not_eq_true', decide_eq_false_iff_not, Bool.and_eq_false_iff, List.any_eq_false, badI, decide_eq_true_eq]
  refine ⟨by omega, by omega, by omega, by omega, by omega, ?_, fun x hx => ?_, h8⟩
  · by_cases hn : l.ls = []
    · left; rw [hn]; simp
    · right; simpa using h6 hn
  · have := h7 x hx
    simp only [ne_eq, not_and, Decidable.not_not]
    omega
theorem lastI_at {ls : List Int} {n : Nat} {x : Int} (h : ls[n]? = some x) (hn : n + 1 = ls.length) : lastI ls = x := by
  unfold lastI
  rw [List.getLastD_eq_getLast?, List.getLast?_eq_getElem?, show ls.length - 1 = n from by omega, h]
  rfl
theorem dropLast_at {ls : List Int} {n : Nat} (hn : n + 1 = ls.length) : ls.dropLast = ls.take n := by
  rw [List.dropLast_eq_take, show ls.length - 1 = n from by omega]
theorem lastI_mem {ls : List Int} (h : ls ≠ []) : lastI ls ∈ ls := by
  unfold lastI
  rw [List.getLastD_eq_getLast?, List.getLast?_eq_some_getLast h]
  exact List.getLast_mem h
/-- A line in rows that the call owns whole. -/
structure LnOw (w : World) (base : Nat) (l : Ln) (A : Option Addr) (c : Nat) (B : Option Addr) (d : Nat) : Prop where
  ls : Own encI 1 3 w base (.slice A l.ls.length c) l.ls
  cs : Own encC 3 60 w base (.slice B l.cs.length d) l.cs
theorem Own.cap_le {α : Type} {enc : α → List Value} {sz : Nat} {e : TypeId} {w : World} {base : Nat} {A : Option Addr} {n c : Nat} {xs : List α} (h : Own enc sz e w base (.slice A n c) xs) (he : ∀ x, (enc x).length = sz) : xs.length ≤ c ∧ c ≤ maxLen := by
  obtain ⟨A', c', hv, h1, h2, _⟩ := h.form he
  injection hv with _ _ hc
  subst hc
  exact ⟨h1, h2⟩
theorem LnOw.wr {w : World} {base : Nat} {l : Ln} {A B : Option Addr} {c d : Nat} (h : LnOw w base l A c B d) : LnWr w base l A B := ⟨h.ls.wr, h.cs.wr⟩
theorem LnOw.caps {w : World} {base : Nat} {l : Ln} {A B : Option Addr} {c d : Nat} (h : LnOw w base l A c B d) : l.ls.length ≤ c ∧ l.cs.length ≤ d := ⟨(h.ls.cap_le encI_len).1, (h.cs.cap_le encC_len).1⟩
theorem LnOw.later {w w' : World} {base : Nat} {l : Ln} {A B : Option Addr} {c d : Nat} (h : LnOw w base l A c B d) (hb : Below w.heap.size w w') : LnOw w' base l A c B d := ⟨h.ls.later hb, h.cs.later hb⟩
theorem LnOw.based {w : World} {base base' : Nat} {l : Ln} {A B : Option Addr} {c d : Nat} (h : LnOw w base l A c B d) (hb : base' ≤ base) : LnOw w base' l A c B d := ⟨h.ls.based hb, h.cs.based hb⟩
theorem LnOw.drewN {w : World} {base : Nat} {l : Ln} {A B : Option Addr} {c d : Nat} (h : LnOw w base l A c B d) (q : Nat) : LnOw (w.drewN q) base l A c B d := ⟨h.ls, h.cs⟩
theorem LnOw.drew {w : World} {base : Nat} {l : Ln} {A B : Option Addr} {c d : Nat} (h : LnOw w base l A c B d) : LnOw w.drew base l A c B d := ⟨h.ls, h.cs⟩
theorem Own.setLow {α : Type} {enc : α → List Value} {sz : Nat} {e : TypeId} {w : World} {base : Nat} {v : Value} {xs : List α} {g o : Nat} (hp : g < base) (u : Value) (h : Own enc sz e w base v xs) : Own enc sz e (w.setCell ⟨g, o, none⟩ u) base v xs := by
  unfold Own World.ownsRow at h ⊢
  refine ⟨h.1, ?_⟩
  rcases h.2 with h | ⟨g', cap, cur, h1, h2, h3, h4⟩
  · exact .inl h
  · exact .inr ⟨g', cap, cur, h1, h2, (Below.heap_setCell _ _ _ _ (by show g' ≠ g; omega)).trans h3, h4⟩
theorem LnOw.setLow {w : World} {base : Nat} {l : Ln} {A B : Option Addr} {c d : Nat} {g o : Nat} (hp : g < base) (u : Value) (h : LnOw w base l A c B d) : LnOw (w.setCell ⟨g, o, none⟩ u) base l A c B d := ⟨h.ls.setLow hp u, h.cs.setLow hp u⟩
/-- What a call hands back: a line in rows of the call's own, each a block for itself. -/
def RetLnO (l : Ln) (w : World) (e : Ending) (w' : World) : Prop := ∃ A c B d, e = .returned (lnV l A c B d) ∧ LnOw w' w.heap.size l A c B d ∧ Below w.heap.size w w'
theorem RetLnO.ln {l : Ln} {w : World} {e : Ending} {w' : World} (h : RetLnO l w e w') : RetLn l w e w' := by
  obtain ⟨A, c, B, d, h1, h2, h3⟩ := h
  exact ⟨A, c, B, d, h1, h2.caps.1, h2.caps.2, h2.wr, h3⟩
/-! ### one block written over -/
/-- Nothing but block g may be another. -/
structure Og (g : Nat) (w w' : World) : Prop where
  os : w'.os = w.os
  tape : w'.tape = w.tape
  output : w'.output = w.output
  size : w'.heap.size = w.heap.size
  block : ∀ h, h ≠ g → w'.heap[h]? = w.heap[h]?
section
variable {g : Nat} {w w' w2 : World}
theorem Og.refl : Og g w w := ⟨rfl, rfl, rfl, rfl, fun _ _ => rfl⟩
theorem Og.drewN (q : Nat) (h : Og g w w') : Og g w (w'.drewN q) := ⟨h.os, h.tape, h.output, h.size, h.block⟩
theorem Og.drew (h : Og g w w') : Og g w w'.drew := ⟨h.os, h.tape, h.output, h.size, h.block⟩
theorem Og.set (o : Nat) (u : Value) (h : Og g w w') : Og g w (w'.setCell ⟨g, o, none⟩ u) :=
  ⟨h.os, h.tape, h.output, by simpa [World.setCell] using h.size, fun k hk => (Below.heap_setCell _ _ _ _ hk).trans (h.block k hk)⟩
theorem Og.below {base : Nat} (h : Og g w w') (hg : base ≤ g) : Below base w w' := ⟨h.os, h.tape, h.output, Nat.le_of_eq h.size.symm, fun k hk => h.block k (by omega)⟩
theorem Og.bx {r : Nat} {a b c d : Value} (h : Og g w w') (hr : r ≠ g) (hb : Bx w r a b c d) : Bx w' r a b c d := (h.block r hr).trans hb
theorem Og.wr {α : Type} {enc : α → List Value} {sz : Nat} {e : TypeId} {base : Nat} {A : Option Addr} {xs : List α} {a b c d : Value} (h : Og g w w') (hb : Bx w g a b c d) (he : e ≠ 46) (hw : Wr enc sz e w base A xs) : Wr enc sz e w' base A xs := fun hn => by
  obtain ⟨g', o, cur, h1, h2, h3, h4⟩ := hw hn
  refine ⟨g', o, cur, h1, h2, ?_, h4⟩
  rw [h.block g' (fun e1 => ?_)]
  · exact h3
  · subst e1
    unfold Bx at hb
    rw [h3] at hb
    injection hb with hb
    injection hb with _ hb _
    exact he hb
theorem Og.own {α : Type} {enc : α → List Value} {sz : Nat} {e : TypeId} {base : Nat} {v : Value} {xs : List α} {a b c d : Value} (h : Og g w w') (hb : Bx w g a b c d) (he : e ≠ 46) (hw : Own enc sz e w base v xs) : Own enc sz e w' base v xs := by
  unfold Own World.ownsRow at hw ⊢
  refine ⟨hw.1, ?_⟩
  rcases hw.2 with hw | ⟨g', cap, cur, h1, h2, h3, h4⟩
  · exact .inl hw
  · refine .inr ⟨g', cap, cur, h1, h2, ?_, h4⟩
    rw [h.block g' (fun e1 => ?_)]
    · exact h3
    · subst e1
      unfold Bx at hb
      rw [h3] at hb
      injection hb with hb
      injection hb with _ hb _
      exact he hb
theorem Og.ln {base : Nat} {l : Ln} {A B : Option Addr} {a b c d : Value} (h : Og g w w') (hb : Bx w g a b c d) (hl : LnWr w base l A B) : LnWr w' base l A B := ⟨h.wr hb (by decide) hl.ls, h.wr hb (by decide) hl.cs⟩
end
/-- What a change hands back: whether it was one, and the line in its block. -/
def ChgRet (r : Ln × Bool) (g base : Nat) (w : World) (e : Ending) (w' : World) : Prop :=
  e = .returned (.bool r.2) ∧ ∃ A c B d, Bx w' g (.int .i64 r.1.q) (.slice A r.1.ls.length c) (.int .i64 r.1.k) (.slice B r.1.cs.length d) ∧ r.1.ls.length ≤ c ∧ r.1.cs.length ≤ d ∧ LnWr w' base r.1 A B ∧ Below base w w' ∧ ∀ r a b c d, r ≠ g → Bx w r a b c d → Bx w' r a b c d
theorem ChgRet.of {r : Ln × Bool} {g base : Nat} {w w' : World} {x y z u : Value} (hb : Bx w g x y z u) (hg : base ≤ g) (ho : Og g w w') (A : Option Addr) (c : Nat) (B : Option Addr) (d : Nat) (hw : LnWr w base r.1 A B) (h1 : r.1.ls.length ≤ c) (h2 : r.1.cs.length ≤ d)
    (hx : Bx w' g (.int .i64 r.1.q) (.slice A r.1.ls.length c) (.int .i64 r.1.k) (.slice B r.1.cs.length d)) {b : Bool} (hr : r.2 = b) : ChgRet r g base w (.returned (.bool b)) w' :=
  ⟨by rw [hr], A, c, B, d, hx, h1, h2, ho.ln hb hw, ho.below hg, fun _ _ _ _ _ hr h => ho.bx hr h⟩
theorem Own.ty {α : Type} {enc : α → List Value} {sz : Nat} {e : TypeId} {w : World} {base : Nat} {v : Value} {xs : List α} (h : Own enc sz e w base v xs) {k : Nat} (hk : v.ownBlock = some k) : ∃ cur, w.heap[k]? = some (.cells cur e (0, 0)) := by
  rcases h.2 with ⟨rfl, _⟩ | ⟨g, cap, cur, rfl, _, hg, _⟩
  · cases hk
  · injection hk with hk
    subst hk
    exact ⟨cur, hg⟩
/-- The list's row grew: nothing else of the line did. -/
theorem grown_line {w w1 : World} {o : Obj} {base : Nat} {v : Value} {xs : List Int} (hv : Own encI 1 3 w base v xs) (hg : (w.alloc o).grownBy w1 v.ownBlock) :
    (∀ r a b c d, Bx w r a b c d → Bx w1 r a b c d) ∧ ∀ u ys, Own encC 3 60 w base u ys → Own encC 3 60 w1 base u ys := by
  have key : ∀ (k : Nat) (cur : Array Value) (e : TypeId), w.heap[k]? = some (Obj.cells cur e (0, 0)) → e ≠ 3 → w1.heap[k]? = w.heap[k]? := by
    intro k cur e hk he
    have hlt := (Array.getElem?_eq_some_iff.1 hk).1
    rw [hg.block k (by simp; omega) (fun hr => ?_)]
    · exact Below.heap_alloc w o k hlt
    · obtain ⟨cur', h'⟩ := hv.ty hr.symm
      rw [hk] at h'
      injection h' with h'
      injection h' with _ h' _
      exact he h'
  refine ⟨fun r a b c d h => (key r _ _ h (by decide)).trans h, fun u ys h => ?_⟩
  unfold Own World.ownsRow at h ⊢
  refine ⟨h.1, ?_⟩
  rcases h.2 with h | ⟨g', cap, cur, h1, h2, h3, h4⟩
  · exact .inl h
  · exact .inr ⟨g', cap, cur, h1, h2, (key g' _ _ h3 (by decide)).trans h3, h4⟩
end Go.Proofs.YtblbfoniimnkcaaGreatDoor
