/- Plain lemmas on memory: a slice that reads as a list, a row of the call's own, the runes of a text. No program in sight. -/
import Derived.WalkKit
import Derived.WalkLawsBesides
import Derived.WalkSpells
import Derived.Below
import Derived.Laws.OwnMore
import Derived.Laws.Rows
import Derived.Deep.Draws
import Derived.Lib.OthersKept
import Derived.Laws.Cover4
namespace Go.Proofs.YtoagikkjomobgaaDoor
open Go.RowKit

theorem block_add (a : Addr) (n : Nat) : (a.add n).block = a.block := by unfold Addr.add; split <;> rfl
theorem add_add' (a : Addr) (i j : Nat) : (a.add i).add j = a.add (i + j) := by
  unfold Addr.add
  by_cases hi : i = 0 <;> by_cases hj : j = 0 <;> simp [hi, hj, Nat.add_assoc]
theorem add_zero' (a : Addr) : a.add 0 = a := by simp [Addr.add]

theorem below_drewN {B : Nat} {a w : World} (h : Below B a w) (n : Nat) : Below B a (w.drewN n) := ⟨h.os, h.tape, h.output, h.size, h.block⟩
theorem hid {p : Prop} (h : p) : Hid p := h
theorem drewN_zero (w : World) : w.drewN 0 = w := rfl

/-- The slice at address A reads as xs, each element laid out by enc in sz cells, below block B. -/
def SlAt {α : Type} (enc : α → List Value) (sz : Nat) (w : World) (B : Nat) (A : Option Addr) (xs : List α) : Prop :=
  xs ≠ [] → ∃ ad, A = some ad ∧ ad.block < B ∧ ∀ k x, xs[k]? = some x → ∀ j u, (enc x)[j]? = some u → w.cell? ((ad.add (k * sz)).add j) = some u

section
variable {α : Type} {enc : α → List Value} {sz : Nat} {w w' : World} {B B' : Nat} {A : Option Addr} {xs : List α}
theorem SlAt.nil : SlAt enc sz w B A [] := fun h => absurd rfl h
theorem SlAt.keep (h : SlAt enc sz w B A xs) (hk : ∀ p : Addr, p.block < B → w'.cell? p = w.cell? p) : SlAt enc sz w' B A xs := fun hn => by
  obtain ⟨ad, e, hb, hc⟩ := h hn
  exact ⟨ad, e, hb, fun k x hx j u hu => (hk _ (by rw [block_add, block_add]; exact hb)).trans (hc k x hx j u hu)⟩
theorem SlAt.more (h : SlAt enc sz w B A xs) (hB : B ≤ B') : SlAt enc sz w B' A xs := fun hn => by
  obtain ⟨ad, e, hb, hc⟩ := h hn
  exact ⟨ad, e, by omega, hc⟩
theorem SlAt.below (h : SlAt enc sz w B A xs) (hb : Below B w w') : SlAt enc sz w' B A xs := h.keep fun _ hp => hb.cell hp
theorem SlAt.belowM {C : Nat} (h : SlAt enc sz w B A xs) (hb : Below C w w') (hC : B ≤ C) : SlAt enc sz w' B A xs := h.keep fun _ hp => hb.cell (by omega)
theorem SlAt.drew (h : SlAt enc sz w B A xs) : SlAt enc sz w.drew B A xs := h
theorem SlAt.drewN (h : SlAt enc sz w B A xs) (k : Nat) : SlAt enc sz (w.drewN k) B A xs := h
theorem SlAt.alloc (h : SlAt enc sz w B A xs) (hB : B ≤ w.heap.size) (o : Obj) : SlAt enc sz (w.alloc o) B A xs := h.keep fun p hp => World.cell?_alloc_lt w o p (by omega)
theorem SlAt.setCell (h : SlAt enc sz w B A xs) {p : Addr} (hB : B ≤ p.block) (u : Value) : SlAt enc sz (w.setCell p u) B A xs :=
  h.keep fun q hq => World.cell?_setCell_other w p q u (fun e => by subst e; omega)
theorem SlAt.grown (h : SlAt enc sz w B A xs) {row : Option Nat} (hg : w.grownBy w' row) (hB : B ≤ w.heap.size) (hr : ∀ g, row = some g → B ≤ g) : SlAt enc sz w' B A xs :=
  h.keep fun p hp => World.cell?_of_block (hg.block p.block (by omega) (fun e => by have := hr _ e.symm; omega))
/-- Its cells lie in memory that is there. -/
theorem SlAt.live (h : SlAt enc sz w B A xs) (he : ∀ x, 0 < (enc x).length) : SlAt enc sz w w.heap.size A xs := fun hn => by
  obtain ⟨ad, e, _, hc⟩ := h hn
  refine ⟨ad, e, ?_, hc⟩
  cases xs with
  | nil => exact absurd rfl hn
  | cons x xs =>
    have hx := he x
    have hcell := hc 0 x (by simp) 0 _ (List.getElem?_eq_getElem hx)
    have hb := block_lt_of_cell hcell
    rw [block_add, block_add] at hb
    exact hb
theorem SlAt.at_ {k : Nat} (h : SlAt enc sz w B A xs) (hk : k < xs.length) : ∃ ad x, A = some ad ∧ ad.block < B ∧ xs[k]? = some x ∧ ∀ j u, (enc x)[j]? = some u → w.cell? ((ad.add (k * sz)).add j) = some u := by
  obtain ⟨ad, e, hb, hc⟩ := h (by rintro rfl; simp at hk)
  exact ⟨ad, xs[k], e, hb, List.getElem?_eq_getElem hk, hc k _ (List.getElem?_eq_getElem hk)⟩
theorem SlAt.take (h : SlAt enc sz w B A xs) (n : Nat) : SlAt enc sz w B A (xs.take n) := fun hn => by
  obtain ⟨ad, e, hb, hc⟩ := h (by rintro rfl; simp at hn)
  refine ⟨ad, e, hb, fun k x hx => hc k x ?_⟩
  rw [List.getElem?_take] at hx
  split at hx
  · exact hx
  · cases hx
/-- A slice cut at k: the model keeps the old address where nothing is left of the capacity. -/
theorem SlAt.cut (h : SlAt enc sz w B A xs) {k cap : Nat} (hc : xs.length ≤ cap) : SlAt enc sz w B (if cap = k then A else A.map (·.add (k * sz))) (xs.drop k) := fun hn => by
  have hlt : k < xs.length := by
    rcases Nat.lt_or_ge k xs.length with h1 | h1
    · exact h1
    · exact absurd (List.drop_eq_nil_of_le h1) hn
  obtain ⟨ad, rfl, hb, hcell⟩ := h (by rintro rfl; simp at hn)
  rw [if_neg (by omega)]
  refine ⟨ad.add (k * sz), rfl, by rw [block_add]; exact hb, fun i x hx j u hu => ?_⟩
  rw [List.getElem?_drop] at hx
  have := hcell (k + i) x hx j u hu
  rw [add_add' ad (k * sz) (i * sz), ← Nat.add_mul]
  exact this
end

theorem getElem?_flat {α : Type} {enc : α → List Value} {sz : Nat} (he : ∀ x, (enc x).length = sz) : ∀ (xs : List α) (k : Nat) (x : α) (j : Nat) (u : Value), xs[k]? = some x → (enc x)[j]? = some u → (xs.flatMap enc)[k * sz + j]? = some u := by
  intro xs
  induction xs with
  | nil => intro k x j u h; simp at h
  | cons y ys ih =>
    intro k x j u hx hu
    have hj : j < sz := by rw [← he x]; exact (List.getElem?_eq_some_iff.1 hu).1
    rw [List.flatMap_cons]
    cases k with
    | zero =>
      simp at hx
      subst hx
      rw [Nat.zero_mul, Nat.zero_add, List.getElem?_append_left (by rw [he]; exact hj)]
      exact hu
    | succ k =>
      rw [List.getElem?_append_right (by rw [he, Nat.add_mul]; omega), he]
      have : (k + 1) * sz + j - sz = k * sz + j := by rw [Nat.add_mul]; omega
      rw [this]
      exact ih k x j u (by simpa using hx) hu

theorem length_flat {α : Type} {enc : α → List Value} {sz : Nat} (he : ∀ x, (enc x).length = sz) (xs : List α) : (xs.flatMap enc).length = xs.length * sz := by
  induction xs with
  | nil => simp
  | cons y ys ih => rw [List.flatMap_cons, List.length_append, ih, he, List.length_cons, Nat.add_mul]; omega

/-- A row of the call's own that holds xs. -/
def Own {α : Type} (enc : α → List Value) (sz : Nat) (e : TypeId) (w : World) (base : Nat) (v : Value) (xs : List α) : Prop :=
  w.ownsRow base e sz v xs.length (xs.flatMap enc)

section
variable {α : Type} {enc : α → List Value} {sz : Nat} {e : TypeId} {w w' : World} {base : Nat} {v : Value} {xs : List α}
theorem Own.nil : Own enc sz e w base (.slice none 0 0) ([] : List α) := World.ownsRow_nil w base e sz
theorem Own.alloc (h : Own enc sz e w base v xs) (o : Obj) : Own enc sz e (w.alloc o) base v xs := World.ownsRow.alloc h o
theorem Own.drew (h : Own enc sz e w base v xs) : Own enc sz e w.drew base v xs := h
theorem Own.drewN (h : Own enc sz e w base v xs) (n : Nat) : Own enc sz e (w.drewN n) base v xs := h
theorem Own.lt (h : Own enc sz e w base v xs) : ∀ k, v.ownBlock = some k → base ≤ k ∧ k < w.heap.size := World.ownsRow.lt h
/-- Kept where the world below some number that it lies under is kept. -/
theorem Own.below {B : Nat} (h : Own enc sz e w base v xs) (hb : Below B w w') (hlt : ∀ k, v.ownBlock = some k → k < B) : Own enc sz e w' base v xs := by
  refine ⟨h.1, ?_⟩
  rcases h.2 with hn | ⟨g, cap, cur, rfl, hg, hgg, rest⟩
  · exact .inl hn
  · exact .inr ⟨g, cap, cur, rfl, hg, (hb.block g (hlt g rfl)).trans hgg, rest⟩
theorem Own.later (h : Own enc sz e w base v xs) (hb : Below w.heap.size w w') : Own enc sz e w' base v xs := h.below hb fun k hk => (h.lt k hk).2
theorem Own.based (h : Own enc sz e w base v xs) {base' : Nat} (hb : base' ≤ base) : Own enc sz e w base' v xs := by
  refine ⟨h.1, ?_⟩
  rcases h.2 with hn | ⟨g, cap, cur, rfl, hg, rest⟩
  · exact .inl hn
  · exact .inr ⟨g, cap, cur, rfl, by omega, rest⟩
/-- Its value, its length a letter of its own: for a walk that goes on with it. -/
theorem Own.shape (h : Own enc sz e w base v xs) : ∃ A n c, v = .slice A n c ∧ Hid (n = xs.length) := by
  rcases h.2 with ⟨rfl, h0⟩ | ⟨g, cap, cur, rfl, _⟩
  · exact ⟨none, 0, 0, rfl, h0.symm⟩
  · exact ⟨_, _, _, rfl, rfl⟩
/-- Its value, written out, and how it reads. -/
theorem Own.form (h : Own enc sz e w base v xs) (he : ∀ x, (enc x).length = sz) : ∃ A c, v = .slice A xs.length c ∧ xs.length ≤ c ∧ c ≤ maxLen ∧ (∀ ad, A = some ad → ∃ g, ad = ⟨g, 0, none⟩ ∧ base ≤ g ∧ g < w.heap.size ∧ v.ownBlock = some g) ∧ SlAt enc sz w w.heap.size A xs := by
  rcases h.2 with ⟨rfl, h0⟩ | ⟨g, cap, cur, rfl, hg, hgg, hle, hml, hsz, htake⟩
  · have hx : xs = [] := List.eq_nil_of_length_eq_zero h0
    subst hx
    exact ⟨none, 0, rfl, by simp, by simp, fun _ h => (by cases h), SlAt.nil⟩
  · have hlt : g < w.heap.size := (Array.getElem?_eq_some_iff.1 hgg).1
    refine ⟨_, _, rfl, hle, hml, fun ad h => ⟨g, by injection h with h; exact h.symm, hg, hlt, rfl⟩, fun _ => ⟨_, rfl, hlt, fun k x hx j u hu => ?_⟩⟩
    rw [add_add']
    exact World.ownsRow.cells h rfl _ _ (getElem?_flat he xs k x j u hx hu)
end
end Go.Proofs.YtoagikkjomobgaaDoor
