/- Texts on cells and lines, put together: Lib, Runes, App, Cell, CellPlain. -/
import Derived.WalkKit
import Derived.WalkLawsBesides
import Derived.WalkSpells
import Derived.Below
import Derived.Laws.OwnMore
import Derived.Laws.Rows
import Derived.Deep.Draws
import Derived.Lib.OthersKept
import Derived.Laws.Cover4
import Derived.Maps.AppendAt
/- Plain lemmas on memory: a slice that reads as a list, a row of the call's own, the runes of a text. No program in sight. -/
namespace Go.Proofs.YtblbfoniimnkcaaGreatDoor
open Go.RowKit

theorem block_add (a : Addr) (n : Nat) : (a.add n).block = a.block := by unfold Addr.add; split <;> rfl
theorem add_add' (a : Addr) (i j : Nat) : (a.add i).add j = a.add (i + j) := by
  unfold Addr.add
  by_cases hi : i = 0 <;> by_cases hj : j = 0 <;> simp [hi, hj, Nat.add_assoc]
theorem add_zero' (a : Addr) : a.add 0 = a := by simp [Addr.add]

theorem below_drewN {B : Nat} {a w : World} (h : Below B a w) (n : Nat) : Below B a (w.drewN n) := ⟨h.os, h.tape, h.output, h.size, h.block⟩
theorem hid {p : Prop} (h : p) : Hid p := h
theorem drewN_zero (w : World) : w.drewN 0 = w := rfl

/-- The slice at address A reads as xs, each element laid out by enc in sz cells, below block B. -/
def SlAt {α : Type} (enc : α → List Value) (sz : Nat) (w : World) (B : Nat) (A : Option Addr) (xs : List α) : Prop :=
  xs ≠ [] → ∃ ad, A = some ad ∧ ad.block < B ∧ ∀ k x, xs[k]? = some x → ∀ j u, (enc x)[j]? = some u → w.cell? ((ad.add (k * sz)).add j) = some u

section
variable {α : Type} {enc : α → List Value} {sz : Nat} {w w' : World} {B B' : Nat} {A : Option Addr} {xs : List α}
theorem SlAt.nil : SlAt enc sz w B A [] := fun h => absurd rfl h
theorem SlAt.keep (h : SlAt enc sz w B A xs) (hk : ∀ p : Addr, p.block < B → w'.cell? p = w.cell? p) : SlAt enc sz w' B A xs := fun hn => by
  obtain ⟨ad, e, hb, hc⟩ := h hn
  exact ⟨ad, e, hb, fun k x hx j u hu => (hk _ (by rw [block_add, block_add]; exact hb)).trans (hc k x hx j u hu)⟩
theorem SlAt.more (h : SlAt enc sz w B A xs) (hB : B ≤ B') : SlAt enc sz w B' A xs := fun hn => by
  obtain ⟨ad, e, hb, hc⟩ := h hn
  exact ⟨ad, e, by omega, hc⟩
theorem SlAt.below (h : SlAt enc sz w B A xs) (hb : Below B w w') : SlAt enc sz w' B A xs := h.keep fun _ hp => hb.cell hp
theorem SlAt.belowM {C : Nat} (h : SlAt enc sz w B A xs) (hb : Below C w w') (hC : B ≤ C) : SlAt enc sz w' B A xs := h.keep fun _ hp => hb.cell (by omega)
theorem SlAt.drew (h : SlAt enc sz w B A xs) : SlAt enc sz w.drew B A xs := h
theorem SlAt.drewN (h : SlAt enc sz w B A xs) (k : Nat) : SlAt enc sz (w.drewN k) B A xs := h
theorem SlAt.alloc (h : SlAt enc sz w B A xs) (hB : B ≤ w.heap.size) (o : Obj) : SlAt enc sz (w.alloc o) B A xs := h.keep fun p hp => World.cell?_alloc_lt w o p (by omega)
theorem SlAt.setCell (h : SlAt enc sz w B A xs) {p : Addr} (hB : B ≤ p.block) (u : Value) : SlAt enc sz (w.setCell p u) B A xs :=
  h.keep fun q hq => World.cell?_setCell_other w p q u (fun e => by subst e; omega)
theorem SlAt.grown (h : SlAt enc sz w B A xs) {row : Option Nat} (hg : w.grownBy w' row) (hB : B ≤ w.heap.size) (hr : ∀ g, row = some g → B ≤ g) : SlAt enc sz w' B A xs :=
  h.keep fun p hp => World.cell?_of_block (hg.block p.block (by omega) (fun e => by have := hr _ e.symm; omega))
/-- Its cells lie in memory that is there. -/
theorem SlAt.live (h : SlAt enc sz w B A xs) (he : ∀ x, 0 < (enc x).length) : SlAt enc sz w w.heap.size A xs := fun hn => by
  obtain ⟨ad, e, _, hc⟩ := h hn
  refine ⟨ad, e, ?_, hc⟩
  cases xs with
  | nil => exact absurd rfl hn
  | cons x xs =>
    have hx := he x
    have hcell := hc 0 x (by simp) 0 _ (List.getElem?_eq_getElem hx)
    have hb := block_lt_of_cell hcell
    rw [block_add, block_add] at hb
    exact hb
theorem SlAt.at_ {k : Nat} (h : SlAt enc sz w B A xs) (hk : k < xs.length) : ∃ ad x, A = some ad ∧ ad.block < B ∧ xs[k]? = some x ∧ ∀ j u, (enc x)[j]? = some u → w.cell? ((ad.add (k * sz)).add j) = some u := by
  obtain ⟨ad, e, hb, hc⟩ := h (by rintro rfl; simp at hk)
  exact ⟨ad, xs[k], e, hb, List.getElem?_eq_getElem hk, hc k _ (List.getElem?_eq_getElem hk)⟩
theorem SlAt.take (h : SlAt enc sz w B A xs) (n : Nat) : SlAt enc sz w B A (xs.take n) := fun hn => by
  obtain ⟨ad, e, hb, hc⟩ := h (by rintro rfl; simp at hn)
  refine ⟨ad, e, hb, fun k x hx => hc k x ?_⟩
  rw [List.getElem?_take] at hx
  split at hx
  · exact hx
  · cases hx
/-- A slice cut at k: the model keeps the old address where nothing is left of the capacity. -/
theorem SlAt.cut (h : SlAt enc sz w B A xs) {k cap : Nat} (hc : xs.length ≤ cap) : SlAt enc sz w B (if cap = k then A else A.map (·.add (k * sz))) (xs.drop k) := fun hn => by
  have hlt : k < xs.length := by
    rcases Nat.lt_or_ge k xs.length with h1 | h1
    · exact h1
    · exact absurd (List.drop_eq_nil_of_le h1) hn
  obtain ⟨ad, rfl, hb, hcell⟩ := h (by rintro rfl; simp at hn)
  rw [if_neg (by omega)]
  refine ⟨ad.add (k * sz), rfl, by rw [block_add]; exact hb, fun i x hx j u hu => ?_⟩
  rw [List.getElem?_drop] at hx
  have := hcell (k + i) x hx j u hu
  rw [add_add' ad (k * sz) (i * sz), ← Nat.add_mul]
  exact this
end

theorem getElem?_flat {α : Type} {enc : α → List Value} {sz : Nat} (he : ∀ x, (enc x).length = sz) : ∀ (xs : List α) (k : Nat) (x : α) (j : Nat) (u : Value), xs[k]? = some x → (enc x)[j]? = some u → (xs.flatMap enc)[k * sz + j]? = some u := by
  intro xs
  induction xs with
  | nil => intro k x j u h; simp at h
  | cons y ys ih =>
    intro k x j u hx hu
    have hj : j < sz := by rw [← he x]; exact (List.getElem?_eq_some_iff.1 hu).1
    rw [List.flatMap_cons]
    cases k with
    | zero =>
      simp at hx
      subst hx
      rw [Nat.zero_mul, Nat.zero_add, List.getElem?_append_left (by rw [he]; exact hj)]
      exact hu
    | succ k =>
      rw [List.getElem?_append_right (by rw [he, Nat.add_mul]; omega), he]
      have : (k + 1) * sz + j - sz = k * sz + j := by rw [Nat.add_mul]; omega
      rw [this]
      exact ih k x j u (by simpa using hx) hu

theorem length_flat {α : Type} {enc : α → List Value} {sz : Nat} (he : ∀ x, (enc x).length = sz) (xs : List α) : (xs.flatMap enc).length = xs.length * sz := by
  induction xs with
  | nil => simp
  | cons y ys ih => rw [List.flatMap_cons, List.length_append, ih, he, List.length_cons, Nat.add_mul]; omega

/-- A row of the call's own that holds xs. -/
def Own {α : Type} (enc : α → List Value) (sz : Nat) (e : TypeId) (w : World) (base : Nat) (v : Value) (xs : List α) : Prop :=
  w.ownsRow base e sz v xs.length (xs.flatMap enc)

section
variable {α : Type} {enc : α → List Value} {sz : Nat} {e : TypeId} {w w' : World} {base : Nat} {v : Value} {xs : List α}
theorem Own.nil : Own enc sz e w base (.slice none 0 0) ([] : List α) := World.ownsRow_nil w base e sz
theorem Own.alloc (h : Own enc sz e w base v xs) (o : Obj) : Own enc sz e (w.alloc o) base v xs := World.ownsRow.alloc h o
theorem Own.drew (h : Own enc sz e w base v xs) : Own enc sz e w.drew base v xs := h
theorem Own.drewN (h : Own enc sz e w base v xs) (n : Nat) : Own enc sz e (w.drewN n) base v xs := h
theorem Own.lt (h : Own enc sz e w base v xs) : ∀ k, v.ownBlock = some k → base ≤ k ∧ k < w.heap.size := World.ownsRow.lt h
/-- Kept where the world below some number that it lies under is kept. -/
theorem Own.below {B : Nat} (h : Own enc sz e w base v xs) (hb : Below B w w') (hlt : ∀ k, v.ownBlock = some k → k < B) : Own enc sz e w' base v xs := by
  refine ⟨h.1, ?_⟩
  rcases h.2 with hn | ⟨g, cap, cur, rfl, hg, hgg, rest⟩
  · exact .inl hn
  · exact .inr ⟨g, cap, cur, rfl, hg, (hb.block g (hlt g rfl)).trans hgg, rest⟩
theorem Own.later (h : Own enc sz e w base v xs) (hb : Below w.heap.size w w') : Own enc sz e w' base v xs := h.below hb fun k hk => (h.lt k hk).2
theorem Own.based (h : Own enc sz e w base v xs) {base' : Nat} (hb : base' ≤ base) : Own enc sz e w base' v xs := by
  refine ⟨h.1, ?_⟩
  rcases h.2 with hn | ⟨g, cap, cur, rfl, hg, rest⟩
  · exact .inl hn
  · exact .inr ⟨g, cap, cur, rfl, by omega, rest⟩
/-- Its value, its length a letter of its own: for a walk that goes on with it. -/
theorem Own.shape (h : Own enc sz e w base v xs) : ∃ A n c, v = .slice A n c ∧ Hid (n = xs.length) := by
  rcases h.2 with ⟨rfl, h0⟩ | ⟨g, cap, cur, rfl, _⟩
  · exact ⟨none, 0, 0, rfl, h0.symm⟩
  · exact ⟨_, _, _, rfl, rfl⟩
/-- Its value, written out, and how it reads. -/
theorem Own.form (h : Own enc sz e w base v xs) (he : ∀ x, (enc x).length = sz) : ∃ A c, v = .slice A xs.length c ∧ xs.length ≤ c ∧ c ≤ maxLen ∧ (∀ ad, A = some ad → ∃ g, ad = ⟨g, 0, none⟩ ∧ base ≤ g ∧ g < w.heap.size ∧ v.ownBlock = some g) ∧ SlAt enc sz w w.heap.size A xs := by
  rcases h.2 with ⟨rfl, h0⟩ | ⟨g, cap, cur, rfl, hg, hgg, hle, hml, hsz, htake⟩
  · have hx : xs = [] := List.eq_nil_of_length_eq_zero h0
    subst hx
    exact ⟨none, 0, rfl, by simp, by simp, fun _ h => (by cases h), SlAt.nil⟩
  · have hlt : g < w.heap.size := (Array.getElem?_eq_some_iff.1 hgg).1
    refine ⟨_, _, rfl, hle, hml, fun ad h => ⟨g, by injection h with h; exact h.symm, hg, hlt, rfl⟩, fun _ => ⟨_, rfl, hlt, fun k x hx j u hu => ?_⟩⟩
    rw [add_add']
    exact World.ownsRow.cells h rfl _ _ (getElem?_flat he xs k x j u hx hu)
end
end Go.Proofs.YtblbfoniimnkcaaGreatDoor

/- The runes of a text, as the model decodes them. No program in sight. -/
namespace Go.Proofs.YtblbfoniimnkcaaGreatDoor
open Go.RowKit

/-- The characters of s from byte i on, at most b of them. -/
def dec (s : ByteArray) : Nat → Nat → List Int
  | 0, _ => []
  | b + 1, i => if i < s.size then ((Utf8.decode s i).1 : Int) :: dec s b (i + (Utf8.decode s i).2) else []
def runes (s : ByteArray) : List Int := dec s s.size 0

theorem decode_width (s : ByteArray) (i : Nat) : 1 ≤ (Utf8.decode s i).2 ∧ (Utf8.decode s i).2 ≤ 4 := by
  unfold Utf8.decode
  simp only
  repeat' split
  all_goals (dsimp only; omega)
theorem decode_range (s : ByteArray) (i : Nat) : (Utf8.decode s i).1 ≤ 1114111 := by
  have hv : ∀ c : Nat, Utf8.valid c = true → c ≤ 1114111 := fun c h => by
    rw [validRune_eq] at h
    have := of_decide_eq_true h
    omega
  unfold Utf8.decode
  extract_lets at' cont b0
  repeat' split
  all_goals dsimp only [Utf8.runeError]
  all_goals first
    | omega
    | (rename_i h; exact hv _ (Bool.and_eq_true_iff.1 h).2)

theorem dec_fuel (s : ByteArray) : ∀ b b' i, s.size ≤ i + b → s.size ≤ i + b' → dec s b i = dec s b' i := by
  intro b
  induction b with
  | zero =>
    intro b' i h h'
    cases b' with
    | zero => rfl
    | succ b' => simp only [dec]; rw [if_neg (by omega)]
  | succ b ih =>
    intro b' i h h'
    have hw := decode_width s i
    cases b' with
    | zero => simp only [dec]; rw [if_neg (by omega)]
    | succ b' =>
      simp only [dec]
      split
      · rw [ih b' _ (by omega) (by omega)]
      · rfl
/-- The characters from byte i on. -/
def decFrom (s : ByteArray) (i : Nat) : List Int := dec s s.size i
theorem decFrom_lt (s : ByteArray) (i : Nat) (h : i < s.size) : decFrom s i = ((Utf8.decode s i).1 : Int) :: decFrom s (i + (Utf8.decode s i).2) := by
  have hw := decode_width s i
  unfold decFrom
  obtain ⟨b, hb⟩ : ∃ b, s.size = b + 1 := ⟨s.size - 1, by omega⟩
  rw [hb, dec, if_pos h]
  rw [dec_fuel s b (b + 1) _ (by omega) (by omega)]
theorem decFrom_ge (s : ByteArray) (i : Nat) (h : s.size ≤ i) : decFrom s i = [] := by
  unfold decFrom
  cases hs : s.size with
  | zero => rfl
  | succ b => rw [dec, if_neg (by omega)]
theorem runes_eq (s : ByteArray) : runes s = decFrom s 0 := rfl
theorem length_dec (s : ByteArray) : ∀ b i, (dec s b i).length ≤ b := by
  intro b
  induction b with
  | zero => intro i; simp [dec]
  | succ b ih =>
    intro i
    simp only [dec]
    split
    · have := ih (i + (Utf8.decode s i).2); simp; omega
    · simp
theorem length_runes (s : ByteArray) : (runes s).length ≤ s.size := length_dec s _ _
theorem dec_range (s : ByteArray) : ∀ b i, ∀ r ∈ dec s b i, 0 ≤ r ∧ r ≤ 1114111 := by
  intro b
  induction b with
  | zero => intro i r h; simp [dec] at h
  | succ b ih =>
    intro i r h
    simp only [dec] at h
    split at h
    · rcases List.mem_cons.1 h with h | h
      · have := decode_range s i; omega
      · exact ih _ r h
    · cases h
theorem runes_range (s : ByteArray) : ∀ r ∈ runes s, 0 ≤ r ∧ r ≤ 1114111 := dec_range s _ _
theorem runesFrom_dec (s : ByteArray) : ∀ b i (acc : Array Value), Conv.runesFrom s b i acc = acc ++ ((dec s b i).map (Value.int .i32)).toArray := by
  intro b
  induction b with
  | zero => intro i acc; simp [Conv.runesFrom, dec]
  | succ b ih =>
    intro i acc
    unfold Conv.runesFrom
    simp only [dec]
    split
    · simp only [ih]
      simp
    · simp
theorem runesFrom_runes (s : ByteArray) : Conv.runesFrom s s.size 0 #[] = ((runes s).map (Value.int .i32)).toArray := by
  rw [runesFrom_dec]; simp [runes]
/-- One cell an element. -/
def encR (r : Int) : List Value := [.int .i32 r]
def encI (r : Int) : List Value := [.int .i64 r]
theorem encR_len (r : Int) : (encR r).length = 1 := rfl
theorem encI_len (r : Int) : (encI r).length = 1 := rfl
theorem flatR (xs : List Int) : xs.flatMap encR = xs.map (Value.int .i32) := by
  induction xs with
  | nil => rfl
  | cons x xs ih => simp [encR, ih]
theorem SlAt.atR {w : World} {B : Nat} {A : Option Addr} {xs : List Int} (h : SlAt encR 1 w B A xs) {k : Nat} (hk : k < xs.length) : ∃ ad x, A = some ad ∧ ad.block < B ∧ xs[k]? = some x ∧ w.cell? (ad.add k) = some (.int .i32 x) := by
  obtain ⟨ad, x, e, hb, hx, hc⟩ := h.at_ hk
  have := hc 0 _ rfl
  rw [add_zero', Nat.mul_one] at this
  exact ⟨ad, x, e, hb, hx, this⟩
theorem SlAt.atI {w : World} {B : Nat} {A : Option Addr} {xs : List Int} (h : SlAt encI 1 w B A xs) {k : Nat} (hk : k < xs.length) : ∃ ad x, A = some ad ∧ ad.block < B ∧ xs[k]? = some x ∧ w.cell? (ad.add k) = some (.int .i64 x) := by
  obtain ⟨ad, x, e, hb, hx, hc⟩ := h.at_ hk
  have := hc 0 _ rfl
  rw [add_zero', Nat.mul_one] at this
  exact ⟨ad, x, e, hb, hx, this⟩
theorem take_snoc' {α : Type} {xs : List α} {k : Nat} {x : α} (h : xs[k]? = some x) : xs.take (k + 1) = xs.take k ++ [x] := by
  rw [List.take_add_one, h]; rfl
/-- '[]rune(s)': a draw, a new row of the runes. -/
theorem run_runes (P : Program) (src dst e : TypeId) (s : ByteArray) (hs : P.underlying src = some .string) (hd : P.underlying dst = some (.slice e)) (he : P.underlying e = some (.int .i32)) (hsz : s.size ≤ 70368744177664) (w : World) :
    ∃ c o, (convert src dst (.string s)).run P w = .ok (.slice (some ⟨w.heap.size, 0, none⟩) (runes s).length c) (w.drew.alloc o) ∧ Own encR 1 e (w.drew.alloc o) w.heap.size (.slice (some ⟨w.heap.size, 0, none⟩) (runes s).length c) (runes s) := by
  have hlen := length_runes s
  have h := run_runes_of_string (P := P) w src dst e s hs hd he (by rw [runesFrom_runes]; simp; omega)
  have hn : (Conv.runesFrom s s.size 0 #[]).size = (runes s).length := by rw [runesFrom_runes]; simp
  rw [hn] at h
  refine ⟨_, _, h, ?_⟩
  have hge := grownCap_ge w (runes s).length 0 e
  have hcm := grownCap_le_maxLen w (runes s).length 0 e (by unfold maxLen; omega)
  refine ⟨by rw [flatR]; simp, .inr ⟨w.heap.size, _, _, rfl, Nat.le_refl _, heap_alloc_new w.drew _, hge, hcm, ?_, ?_⟩⟩
  · rw [runesFrom_runes]; simp; omega
  · rw [runesFrom_runes, flatR, Nat.mul_one]; simp
end Go.Proofs.YtblbfoniimnkcaaGreatDoor

/- append onto a row of the call's own, said of lists: one element from a new block; a whole slice. Over any program. -/
namespace Go.Proofs.YtblbfoniimnkcaaGreatDoor
open Go.RowKit

/-- A type's row of the table: its cells, its zero, its bytes. -/
structure ElemOk (P : Program) {α : Type} (enc : α → List Value) (sz : Nat) (e : TypeId) : Prop where
  len : ∀ x, (enc x).length = sz
  one : ∀ x, ∀ u ∈ enc x, u.oneCell' = true
  pos : 0 < sz
  info : ∃ i z bytes, P.info? e = some i ∧ i.zero = some z ∧ i.size = sz ∧ i.bytes = bytes ∧ z.cells.size = sz ∧ bytes ≤ 128

theorem ElemOk.mk' {P : Program} {α : Type} {enc : α → List Value} {sz : Nat} {e : TypeId} {z : Value} {bytes : Nat} (hl : ∀ x, (enc x).length = sz) (ho : ∀ x, ∀ u ∈ enc x, u.oneCell' = true) (hp : 0 < sz)
    (h : (P.info? e).map (fun i => (i.zero, i.size, i.bytes)) = some (some z, sz, bytes)) (hz : z.cells.size = sz) (hb : bytes ≤ 128) : ElemOk P enc sz e :=
  ⟨hl, ho, hp, by obtain ⟨i, a, b, c, d⟩ := info_parts h; exact ⟨i, z, bytes, a, b, c, d, hz, hb⟩⟩

section
variable {P : Program} {α : Type} {enc : α → List Value} {sz : Nat} {e : TypeId}

theorem run_append_slice (ok : ElemOk P enc sz e) (t ty : TypeId) (ht : P.underlying t = some (.slice e)) (w : World) (base : Nat) (v : Value) (xs : List α) (hown : Own enc sz e w base v xs)
    (B : Nat) (A : Option Addr) (ys : List α) (c : Nat) (hsrc : SlAt enc sz w B A ys) (hlen : xs.length + ys.length ≤ 1000000000000) (hbase : base ≤ w.heap.size) :
    ∃ v' w', (Builtin.append_ #[t, t] ty #[v, .slice A ys.length c]).run P w = .ok v' w' ∧ Own enc sz e w' base v' (xs ++ ys) ∧ w.grownBy w' v.ownBlock ∧ (v'.ownBlock = v.ownBlock ∨ v'.ownBlock = some w.heap.size) ∧ (ys ≠ [] → v' ≠ .slice none 0 0) ∧ (v ≠ .slice none 0 0 → v' ≠ .slice none 0 0) := by
  obtain ⟨i, z, bytes, hi, hz, hsize, hby, hzs, hb128⟩ := ok.info
  have hbytes : (xs.length + ys.length) * bytes ≤ 140737488355328 := Nat.le_trans (Nat.mul_le_mul hlen hb128) (by omega)
  have nilcase : ys = [] → A = none → ∃ v' w', (Builtin.append_ #[t, t] ty #[v, .slice A ys.length c]).run P w = .ok v' w' ∧ Own enc sz e w' base v' (xs ++ ys) ∧ w.grownBy w' v.ownBlock ∧ (v'.ownBlock = v.ownBlock ∨ v'.ownBlock = some w.heap.size) ∧ (ys ≠ [] → v' ≠ .slice none 0 0) ∧ (v ≠ .slice none 0 0 → v' ≠ .slice none 0 0) := by
    rintro rfl rfl
    refine ⟨v, w, ?_, by simpa using hown, World.grownBy.refl w _, .inl rfl, fun h => absurd rfl h, fun h => h⟩
    rcases hown.2 with ⟨rfl, _⟩ | ⟨g, cap, cur, rfl, _, _, hnc, _⟩
    · simp [Builtin.append_, run_underlying ht, sizeOf, typeInfo, hi, Builtin.lenOf, Builtin.firstCells]
    · simp [Builtin.append_, run_underlying ht, sizeOf, typeInfo, hi, Builtin.lenOf, Builtin.firstCells, hnc, storeCells]
  have some_ : ∀ ad, A = some ad → (∀ j u, (ys.flatMap enc)[j]? = some u → w.cell? (ad.add j) = some u) → ∃ v' w', (Builtin.append_ #[t, t] ty #[v, .slice A ys.length c]).run P w = .ok v' w' ∧ Own enc sz e w' base v' (xs ++ ys) ∧ w.grownBy w' v.ownBlock ∧ (v'.ownBlock = v.ownBlock ∨ v'.ownBlock = some w.heap.size) ∧ (ys ≠ [] → v' ≠ .slice none 0 0) ∧ (v ≠ .slice none 0 0 → v' ≠ .slice none 0 0) := by
    rintro ad rfl hcells
    obtain ⟨v', w', hrun, h2, h3, h4, h5⟩ := run_append_own_at (P := P) w base t ty e i z sz bytes ht hi hz hsize hby hzs ok.pos v xs.length (xs.flatMap enc) hown ad ys.length c (ys.flatMap enc) (length_flat ok.len ys) hcells
      (fun u hu => by obtain ⟨x, _, hx⟩ := List.mem_flatMap.1 hu; exact ok.one x u hx) (by unfold maxLen; omega) hbytes hbase
    refine ⟨v', w', hrun, ?_, h3, h5, ?_, ?_⟩
    · unfold Own
      rw [List.length_append, List.flatMap_append]
      exact h2
    · intro hne he
      have h6 := (h4.1 he).2
      cases ys with
      | nil => exact hne rfl
      | cons y ys => simp at h6
    · exact fun hne he => hne (h4.1 he).1
  rcases A with _ | ad
  · cases ys with
    | nil => exact nilcase rfl rfl
    | cons y ys =>
      obtain ⟨ad, h, _⟩ := hsrc (by simp)
      cases h
  · refine some_ ad rfl ?_
    cases ys with
    | nil => intro j u h; simp at h
    | cons y ys =>
      obtain ⟨ad', h, _, hc⟩ := hsrc (by simp)
      injection h with h
      subst h
      intro j u hu
      have hjl : j < ((y :: ys).flatMap enc).length := (List.getElem?_eq_some_iff.1 hu).1
      rw [length_flat ok.len] at hjl
      have hp := ok.pos
      have hk : j / sz < (y :: ys).length := Nat.div_lt_of_lt_mul (by rw [Nat.mul_comm]; exact hjl)
      have hm : j % sz < sz := Nat.mod_lt _ hp
      have hx : (y :: ys)[j / sz]? = some (y :: ys)[j / sz] := List.getElem?_eq_getElem hk
      have hl : j % sz < (enc (y :: ys)[j / sz]).length := by rw [ok.len]; exact hm
      have hu2 : (enc (y :: ys)[j / sz])[j % sz]? = some (enc (y :: ys)[j / sz])[j % sz] := List.getElem?_eq_getElem hl
      have e1 := getElem?_flat ok.len (y :: ys) (j / sz) _ (j % sz) _ hx hu2
      have e2 : j / sz * sz + j % sz = j := by rw [Nat.mul_comm]; exact Nat.div_add_mod j sz
      rw [e2, hu] at e1
      injection e1 with e1
      have e3 := hc (j / sz) _ hx (j % sz) _ hu2
      rw [add_add', e2, ← e1] at e3
      exact e3

/-- 'append(v, ys...)' in a plain region. -/
theorem wpList_appS {ops : Array Oper} {rest : List Oper} {o : Oper} {a : Act} {Q : Exit → Act → World → Prop} {w : World} (ok : ElemOk P enc sz e) (hgd : o.guard = none) (s x : Operand) (t : TypeId)
    (ho : o.op = .call { callee := .builtin .append, args := #[s, x], argTypes := #[t, t] }) (ht : P.underlying t = some (.slice e)) (base : Nat) (v : Value) (xs : List α) (hs : a.eval s = v) (hown : Own enc sz e w base v xs)
    (B : Nat) (A : Option Addr) (ys : List α) (c : Nat) (hx : a.eval x = .slice A ys.length c) (hsrc : SlAt enc sz w B A ys) (hlen : xs.length + ys.length ≤ 1000000000000) (hbase : base ≤ w.heap.size)
    (h : ∀ v' w', Own enc sz e w' base v' (xs ++ ys) → w.grownBy w' v.ownBlock → (v'.ownBlock = v.ownBlock ∨ v'.ownBlock = some w.heap.size) → (v ≠ .slice none 0 0 → v' ≠ .slice none 0 0) → wpList P ops Q rest (a.put o.dst v') w') : wpList P ops Q (o :: rest) a w :=
  wpList_plain hgd fun K hK => by
    obtain ⟨v', w', hr, h2, h3, h4, _, h5⟩ := run_append_slice ok t o.type ht w base v xs hown B A ys c hsrc hlen hbase
    unfold Oper.wp execOp
    simp only [ho, resolve, invoke, builtin, Sem.run_bind, Sem.run_pure, Result.andThen_ok, List.map_toArray, List.map_cons, List.map_nil, hs, hx, hr]
    exact hK _ _ (h v' w' h2 h3 h4 h5)

theorem slAt_new (w : World) (cs : Array Value) (e' : TypeId) (y : α) (hcs : cs.toList = enc y) : SlAt enc sz (w.alloc (.cells cs e')) (w.heap.size + 1) (some ⟨w.heap.size, 0, none⟩) [y] := fun _ => by
  refine ⟨_, rfl, by simp, fun k x hx j u hu => ?_⟩
  cases k with
  | succ k => simp at hx
  | zero =>
    simp at hx
    subst hx
    rw [add_add', Nat.zero_mul, Nat.zero_add]
    have hadd : (⟨w.heap.size, 0, none⟩ : Addr).add j = ⟨w.heap.size, j, none⟩ := by unfold Addr.add; split <;> simp_all
    rw [hadd, cell_of_row _ _ j cs e' (0, 0) (heap_alloc_new w _), ← hu, ← hcs]
    simp

/-- 'append(v, y)' in a plain region: y lies in a block that has just been laid. -/
theorem wpList_app1 {ops : Array Oper} {rest : List Oper} {o : Oper} {a : Act} {Q : Exit → Act → World → Prop} {w : World} {cs : Array Value} {e' : TypeId} (ok : ElemOk P enc sz e) (hgd : o.guard = none) (s x : Operand) (t : TypeId)
    (ho : o.op = .call { callee := .builtin .append, args := #[s, x], argTypes := #[t, t] }) (ht : P.underlying t = some (.slice e)) (base : Nat) (v : Value) (xs : List α) (hs : a.eval s = v) (hown : Own enc sz e w base v xs)
    (y : α) (hcs : cs.toList = enc y) (hx : a.eval x = .slice (some ⟨w.heap.size, 0, none⟩) 1 1) (hlen : xs.length + 1 ≤ 1000000000000) (hbase : base ≤ w.heap.size)
    (h : ∀ v' w', Own enc sz e w' base v' (xs ++ [y]) → Below base w w' → (w.alloc (.cells cs e')).grownBy w' v.ownBlock → wpList P ops Q rest (a.put o.dst v') w') : wpList P ops Q (o :: rest) a (w.alloc (.cells cs e')) :=
  wpList_appS ok hgd s x t ho ht base v xs hs (hown.alloc _) (w.heap.size + 1) _ [y] 1 hx (slAt_new w cs e' y hcs) hlen (by simp; omega) fun v' w' h1 h2 _ _ =>
    h v' w' h1 (((Below.refl base w).alloc hbase _).grown h2 (by simp; omega) fun k hk => (hown.lt k hk).1) h2
/-- The same, the new block's number spelled in the walk's way. -/
theorem wpList_app1g {ops : Array Oper} {rest : List Oper} {o : Oper} {a : Act} {Q : Exit → Act → World → Prop} {w : World} {cs : Array Value} {e' : TypeId} (ok : ElemOk P enc sz e) (hgd : o.guard = none) (s x : Operand) (t : TypeId)
    (ho : o.op = .call { callee := .builtin .append, args := #[s, x], argTypes := #[t, t] }) (ht : P.underlying t = some (.slice e)) (base : Nat) (v : Value) (xs : List α) (hs : a.eval s = v) (hown : Own enc sz e w base v xs)
    (y : α) (hcs : cs.toList = enc y) (g : Nat) (hx : a.eval x = .slice (some ⟨g, 0, none⟩) 1 1) (hg : g = w.heap.size) (hlen : xs.length + 1 ≤ 1000000000000) (hbase : base ≤ w.heap.size)
    (h : ∀ v' w', Own enc sz e w' base v' (xs ++ [y]) → Below base w w' → (w.alloc (.cells cs e')).grownBy w' v.ownBlock → wpList P ops Q rest (a.put o.dst v') w') : wpList P ops Q (o :: rest) a (w.alloc (.cells cs e')) :=
  wpList_app1 ok hgd s x t ho ht base v xs hs hown y hcs (by rw [hx, hg]) hlen hbase h
end
end Go.Proofs.YtblbfoniimnkcaaGreatDoor

/- A cell as three values, and what the package cells makes of rows of cells, said of lists. No program in sight. -/
namespace Go.Proofs.YtblbfoniimnkcaaGreatDoor
open Go.RowKit

structure Cl where
  r : Int
  b : Int
  h : ByteArray
theorem Cl.ext' {x y : Cl} (h1 : x.r = y.r) (h2 : x.b = y.b) (h3 : x.h = y.h) : x = y := by
  cases x; cases y; cases h1; cases h2; cases h3; rfl
theorem toList_inj {s t : ByteArray} (h : s.toList = t.toList) : s = t := by
  have h' : s.data.toList = t.data.toList := by rwa [ByteArray.toList_eq, ByteArray.toList_eq] at h
  cases s; cases t
  congr 1
  exact Array.ext' h'
instance : DecidableEq Cl := fun x y =>
  if h : x.r = y.r ∧ x.b = y.b ∧ x.h = y.h then .isTrue (Cl.ext' h.1 h.2.1 h.2.2)
  else .isFalse fun e => h (by subst e; exact ⟨rfl, rfl, rfl⟩)
def encC (c : Cl) : List Value := [.int .i32 c.r, .int .i64 c.b, .string c.h]
theorem encC_len (c : Cl) : (encC c).length = 3 := rfl
theorem encC_one : ∀ c, ∀ u ∈ encC c, u.oneCell' = true := by
  intro c u h
  simp [encC] at h
  rcases h with rfl | rfl | rfl <;> rfl
def mkc (b : Int) (h : ByteArray) (r : Int) : Cl := ⟨r, b, h⟩

theorem SlAt.atC {w : World} {B : Nat} {A : Option Addr} {xs : List Cl} (h : SlAt encC 3 w B A xs) {k : Nat} (hk : k < xs.length) :
    ∃ ad x, A = some ad ∧ ad.block < B ∧ xs[k]? = some x ∧ w.cell? (ad.add (k * 3)) = some (.int .i32 x.r) ∧ w.cell? ⟨(ad.add (k * 3)).block, (ad.add (k * 3)).off + 1, none⟩ = some (.int .i64 x.b) ∧ w.cell? ⟨(ad.add (k * 3)).block, (ad.add (k * 3)).off + 2, none⟩ = some (.string x.h) := by
  obtain ⟨ad, x, e, hb, hx, hc⟩ := h.at_ hk
  refine ⟨ad, x, e, hb, hx, ?_, hc 1 _ rfl, hc 2 _ rfl⟩
  have := hc 0 _ rfl
  rwa [add_zero'] at this
/-- A cell's numbers are numbers of their kinds. -/
def WfC (c : Cl) : Prop := -2147483648 ≤ c.r ∧ c.r ≤ 2147483647 ∧ -9223372036854775808 ≤ c.b ∧ c.b ≤ 9223372036854775807
def WfCs (cs : List Cl) : Prop := ∀ c ∈ cs, WfC c
end Go.Proofs.YtblbfoniimnkcaaGreatDoor

/- What the packages cells and quillworkref05 compute, said of lists. No program in sight. -/
namespace Go.Proofs.YtblbfoniimnkcaaGreatDoor
open Go.RowKit

/-- How much a row is for the laws: its cells, and an eighth of its links' bytes. -/
def heft (cs : List Cl) : Nat := cs.length + (cs.map fun c => c.h.size / 8).sum
theorem heft_take (cs : List Cl) (k : Nat) (c : Cl) (h : cs[k]? = some c) : ((cs.take (k + 1)).map fun c => c.h.size / 8).sum = ((cs.take k).map fun c => c.h.size / 8).sum + c.h.size / 8 := by
  rw [take_snoc' h, List.map_append, List.sum_append]; simp
theorem sum_take_le (l : List Nat) (k : Nat) : (l.take k).sum ≤ l.sum := by
  have h := congrArg List.sum (List.take_append_drop k l)
  rw [List.sum_append] at h
  omega
theorem heft_take_le (cs : List Cl) (k : Nat) : ((cs.take k).map fun c => c.h.size / 8).sum ≤ (cs.map fun c => c.h.size / 8).sum := by
  rw [List.map_take]; exact sum_take_le _ _

/-- The place in a row of n that is meant by at. -/
def place (n : Nat) (at_ : Int) : Nat := min at_.toNat n
theorem place_le (n : Nat) (a : Int) : place n a ≤ n := Nat.min_le_right _ _
/-- The link of the cell behind, if there is one; that of the cell ahead, if it has one, first. -/
def hrefAt (cs : List Cl) (k : Nat) : ByteArray := match cs[k]? with | some c => c.h | none => .empty
def linkAt (cs : List Cl) (p : Nat) : ByteArray := if 0 < p ∧ hrefAt cs (p - 1) ≠ .empty then hrefAt cs (p - 1) else hrefAt cs p
/-- Back from k over the cells of link h. -/
def backTo (cs : List Cl) (h : ByteArray) : Nat → Nat
  | 0 => 0
  | k + 1 => if hrefAt cs k = h then backTo cs h k else k + 1
/-- On over the cells of link h, b of them at most. -/
def onTo (cs : List Cl) (h : ByteArray) : Nat → Nat → Nat
  | 0, k => k
  | b + 1, k => if k < cs.length ∧ hrefAt cs k = h then onTo cs h b (k + 1) else k
def withinL (cs : List Cl) (at_ : Int) : Nat × Nat :=
  let p := place cs.length at_
  let h := linkAt cs p
  if h = .empty then (p, p) else (backTo cs h p, onTo cs h cs.length p)
theorem onTo_stop (cs : List Cl) (h : ByteArray) (k : Nat) (hk : ¬ (k < cs.length ∧ hrefAt cs k = h)) : ∀ b, onTo cs h b k = k := by
  intro b; cases b with
  | zero => rfl
  | succ b => rw [onTo, if_neg hk]
theorem onTo_fuel (cs : List Cl) (h : ByteArray) : ∀ b b' k, cs.length ≤ k + b → cs.length ≤ k + b' → onTo cs h b k = onTo cs h b' k := by
  intro b
  induction b with
  | zero => intro b' k h1 h2; rw [onTo_stop cs h k (by omega), onTo_stop cs h k (by omega)]
  | succ b ih =>
    intro b' k h1 h2
    by_cases hk : k < cs.length ∧ hrefAt cs k = h
    · cases b' with
      | zero => omega
      | succ b' => rw [onTo, onTo, if_pos hk, if_pos hk]; exact ih b' (k + 1) (by omega) (by omega)
    · rw [onTo_stop cs h k hk, onTo_stop cs h k hk]
theorem onTo_step (cs : List Cl) (h : ByteArray) (k : Nat) (hk : k < cs.length) (he : hrefAt cs k = h) : onTo cs h cs.length k = onTo cs h cs.length (k + 1) := by
  obtain ⟨n, hn⟩ : ∃ n, cs.length = n + 1 := ⟨cs.length - 1, by omega⟩
  rw [onTo_fuel cs h cs.length (n + 1) k (by omega) (by omega), onTo, if_pos ⟨hk, he⟩]
  exact onTo_fuel cs h _ _ _ (by omega) (by omega)
theorem hrefAt_some {cs : List Cl} {k : Nat} {c : Cl} (h : cs[k]? = some c) : hrefAt cs k = c.h := by unfold hrefAt; rw [h]

/-- Where a run that begins at k ends: i cells of it are known. -/
structure Rn where
  f : Int
  t : Int
  b : Int
  h : ByteArray
  k : Int
theorem Rn.ext' {x y : Rn} (h1 : x.f = y.f) (h2 : x.t = y.t) (h3 : x.b = y.b) (h4 : x.h = y.h) (h5 : x.k = y.k) : x = y := by
  cases x; cases y; cases h1; cases h2; cases h3; cases h4; cases h5; rfl
def encN (x : Rn) : List Value := [.int .i64 x.f, .int .i64 x.t, .int .i64 x.b, .string x.h, .int .i64 x.k]
theorem encN_len (c : Rn) : (encN c).length = 5 := rfl
theorem encN_one : ∀ c, ∀ u ∈ encN c, u.oneCell' = true := by
  intro c u h
  simp [encN] at h
  rcases h with rfl | rfl | rfl | rfl | rfl <;> rfl
/-- On over the cells alike c, b of them at most. -/
def runTo (cs : List Cl) (c : Cl) : Nat → Nat → Nat
  | 0, k => k
  | b + 1, k => match cs[k]? with
    | some x => if x.r ≠ 10 ∧ x.b = c.b ∧ x.h = c.h then runTo cs c b (k + 1) else k
    | none => k
def runAt (cs : List Cl) (c : Cl) (k : Nat) : Rn := if c.r = 10 then ⟨k, k + 1, c.b, c.h, 1⟩ else ⟨k, runTo cs c cs.length (k + 1), c.b, c.h, 0⟩
theorem runTo_ge (cs : List Cl) (c : Cl) : ∀ b k, k ≤ runTo cs c b k := by
  intro b
  induction b with
  | zero => intro k; exact Nat.le_refl _
  | succ b ih =>
    intro k
    rw [runTo]
    split
    · split
      · exact Nat.le_trans (Nat.le_succ k) (ih (k + 1))
      · exact Nat.le_refl _
    · exact Nat.le_refl _
theorem runTo_le (cs : List Cl) (c : Cl) : ∀ b k, k ≤ cs.length → runTo cs c b k ≤ cs.length := by
  intro b
  induction b with
  | zero => intro k hk; exact hk
  | succ b ih =>
    intro k hk
    rw [runTo]
    split
    · rename_i x hx
      split
      · exact ih (k + 1) ((List.getElem?_eq_some_iff.1 hx).1)
      · exact hk
    · exact hk
theorem runTo_fuel (cs : List Cl) (c : Cl) : ∀ b b' k, cs.length ≤ k + b → cs.length ≤ k + b' → runTo cs c b k = runTo cs c b' k := by
  intro b
  induction b with
  | zero =>
    intro b' k h1 h2
    cases b' with
    | zero => rfl
    | succ b' => rw [runTo, runTo, List.getElem?_eq_none (by omega)]
  | succ b ih =>
    intro b' k h1 h2
    cases b' with
    | zero => rw [runTo, runTo, List.getElem?_eq_none (by omega)]
    | succ b' =>
      rw [runTo, runTo]
      split
      · rw [ih b' (k + 1) (by omega) (by omega)]
      · rfl
theorem runTo_step (cs : List Cl) (c x : Cl) (k : Nat) (hx : cs[k]? = some x) (h : x.r ≠ 10 ∧ x.b = c.b ∧ x.h = c.h) : runTo cs c cs.length k = runTo cs c cs.length (k + 1) := by
  have hk := (List.getElem?_eq_some_iff.1 hx).1
  rw [runTo_fuel cs c cs.length (cs.length + 1) k (by omega) (by omega), runTo, hx]
  simp only
  rw [if_pos h]
theorem runTo_stop (cs : List Cl) (c : Cl) (k : Nat) (h : ∀ x, cs[k]? = some x → ¬ (x.r ≠ 10 ∧ x.b = c.b ∧ x.h = c.h)) : ∀ b, runTo cs c b k = k := by
  intro b
  cases b with
  | zero => rfl
  | succ b =>
    rw [runTo]
    split
    · rename_i x hx; rw [if_neg (h x hx)]
    · rfl
/-- The runs of a row from cell k on. -/
def runsFrom (cs : List Cl) : Nat → Nat → List Rn
  | 0, _ => []
  | b + 1, k => match cs[k]? with
    | some c => runAt cs c k :: runsFrom cs b (if c.r = 10 then k + 1 else runTo cs c cs.length (k + 1))
    | none => []
def runsL (cs : List Cl) : List Rn := runsFrom cs cs.length 0
theorem runsFrom_fuel (cs : List Cl) : ∀ b b' k, cs.length ≤ k + b → cs.length ≤ k + b' → runsFrom cs b k = runsFrom cs b' k := by
  intro b
  induction b with
  | zero =>
    intro b' k h1 h2
    cases b' with
    | zero => rfl
    | succ b' => rw [runsFrom, runsFrom, List.getElem?_eq_none (by omega)]
  | succ b ih =>
    intro b' k h1 h2
    cases b' with
    | zero => rw [runsFrom, runsFrom, List.getElem?_eq_none (by omega)]
    | succ b' =>
      rw [runsFrom, runsFrom]
      split
      · rename_i c hc
        congr 1
        have := runTo_ge cs c cs.length (k + 1)
        split
        · exact ih b' _ (by omega) (by omega)
        · exact ih b' _ (by omega) (by omega)
      · rfl
def nextRun (cs : List Cl) (c : Cl) (k : Nat) : Nat := if c.r = 10 then k + 1 else runTo cs c cs.length (k + 1)
theorem nextRun_gt (cs : List Cl) (c : Cl) (k : Nat) : k < nextRun cs c k := by
  unfold nextRun
  have := runTo_ge cs c cs.length (k + 1)
  split <;> omega
theorem nextRun_le (cs : List Cl) (c : Cl) (k : Nat) (hk : k < cs.length) : nextRun cs c k ≤ cs.length := by
  unfold nextRun
  have := runTo_le cs c cs.length (k + 1) (by omega)
  split <;> omega
theorem runsFrom_step (cs : List Cl) (c : Cl) (k : Nat) (hc : cs[k]? = some c) : runsFrom cs cs.length k = runAt cs c k :: runsFrom cs cs.length (nextRun cs c k) := by
  have hk := (List.getElem?_eq_some_iff.1 hc).1
  have hg := nextRun_gt cs c k
  rw [runsFrom_fuel cs cs.length (cs.length + 1) k (by omega) (by omega), runsFrom, hc]
  rfl
theorem runsFrom_end (cs : List Cl) (k : Nat) (hk : cs.length ≤ k) : ∀ b, runsFrom cs b k = [] := by
  intro b
  cases b with
  | zero => rfl
  | succ b => rw [runsFrom, List.getElem?_eq_none hk]
theorem length_runsFrom (cs : List Cl) : ∀ b k, (runsFrom cs b k).length ≤ cs.length - k := by
  intro b
  induction b with
  | zero => intro k; simp [runsFrom]
  | succ b ih =>
    intro k
    rw [runsFrom]
    split
    · rename_i c hc
      have hk := (List.getElem?_eq_some_iff.1 hc).1
      have hg := nextRun_gt cs c k
      have hl := nextRun_le cs c k hk
      have := ih (nextRun cs c k)
      show (runsFrom cs b (nextRun cs c k)).length + 1 ≤ _
      omega
    · simp

/-- The text of a row. -/
def textL (cs : List Cl) : ByteArray := runesBytes (cs.map (·.r))
def spanOk (n : Nat) (f t : Int) : Prop := 0 ≤ f ∧ f ≤ t ∧ t ≤ n
instance (n : Nat) (f t : Int) : Decidable (spanOk n f t) := inferInstanceAs (Decidable (_ ∧ _ ∧ _))
end Go.Proofs.YtblbfoniimnkcaaGreatDoor
