/- Texts on cells and lines, put together: Doc, DocP, DocW, Kg, KgOps, KgRet, KgIn. -/
import Derived.Test.YtblbfoniimnkcaaGreatDoorLn
import Derived.Deep.MidRow
import Derived.Laws.Rows
import Derived.Great.Ranges
import Derived.Great.Walk
import Derived.Test.YtblbfoniimnkcaaGreatDoorLnTurnP
import Derived.Test.YtblbfoniimnkcaaGreatDoorLnIW
import Derived.Test.YtblbfoniimnkcaaGreatDoorProg
import Derived.TacticsIn
import Derived.OwnWalkIn
/- A row of lines, a state: what reads as one; what the packages doc, typing and blocks make of them, said of lists. No program in sight. -/
namespace Go.Proofs.YtblbfoniimnkcaaGreatDoor
open Go.RowKit Go.Lib

/-- A line as it stands in a row of lines: with where its own rows lie. -/
structure Hd where
  l : Ln
  A : Option Addr
  c : Nat
  B : Option Addr
  d : Nat
def encH (h : Hd) : List Value := [.int .i64 h.l.q, .slice h.A h.l.ls.length h.c, .int .i64 h.l.k, .slice h.B h.l.cs.length h.d]
theorem encH_len (h : Hd) : (encH h).length = 4 := rfl
def hdV (h : Hd) : Value := .agg #[.int .i64 h.l.q, .slice h.A h.l.ls.length h.c, .int .i64 h.l.k, .slice h.B h.l.cs.length h.d]
def lnsOf (hs : List Hd) : List Ln := hs.map (·.l)
theorem lnsOf_len (hs : List Hd) : (lnsOf hs).length = hs.length := List.length_map _
theorem lnsOf_get {hs : List Hd} {k : Nat} {h : Hd} (e : hs[k]? = some h) : (lnsOf hs)[k]? = some h.l := by unfold lnsOf; rw [List.getElem?_map, e]; rfl
/-- What reads as a row of lines. -/
structure DocAt (w : World) (C : Nat) (A : Option Addr) (hs : List Hd) : Prop where
  row : SlAt encH 4 w C A hs
  lines : ∀ h ∈ hs, LnAt w C h.l h.A h.B
section
variable {w w' : World} {C D : Nat} {A : Option Addr} {hs : List Hd}
theorem DocAt.below (h : DocAt w C A hs) (hb : Below C w w') : DocAt w' C A hs := ⟨h.row.below hb, fun x hx => (h.lines x hx).below hb⟩
theorem DocAt.belowM (h : DocAt w C A hs) (hb : Below D w w') (hC : C ≤ D) : DocAt w' C A hs := ⟨h.row.belowM hb hC, fun x hx => (h.lines x hx).belowM hb hC⟩
theorem DocAt.more (h : DocAt w C A hs) (hC : C ≤ D) : DocAt w D A hs := ⟨h.row.more hC, fun x hx => (h.lines x hx).more hC⟩
theorem DocAt.live (h : DocAt w C A hs) : DocAt w w.heap.size A hs := ⟨h.row.live (fun _ => by rw [encH_len]; omega), fun x hx => (h.lines x hx).live⟩
theorem SlAt.atH (h : SlAt encH 4 w C A hs) {k : Nat} (hk : k < hs.length) :
    ∃ ad x, A = some ad ∧ ad.block < C ∧ hs[k]? = some x ∧ w.cell? (ad.add (k * 4)) = some (.int .i64 x.l.q) ∧ w.cell? ⟨(ad.add (k * 4)).block, (ad.add (k * 4)).off + 1, none⟩ = some (.slice x.A x.l.ls.length x.c) ∧ w.cell? ⟨(ad.add (k * 4)).block, (ad.add (k * 4)).off + 2, none⟩ = some (.int .i64 x.l.k) ∧ w.cell? ⟨(ad.add (k * 4)).block, (ad.add (k * 4)).off + 3, none⟩ = some (.slice x.B x.l.cs.length x.d) := by
  obtain ⟨ad, x, e, hb, hx, hc⟩ := h.at_ hk
  refine ⟨ad, x, e, hb, hx, ?_, hc 1 _ rfl, hc 2 _ rfl, hc 3 _ rfl⟩
  have := hc 0 _ rfl
  rwa [add_zero'] at this
theorem DocAt.ln (h : DocAt w C A hs) {k : Nat} {x : Hd} (e : hs[k]? = some x) : LnAt w C x.l x.A x.B := h.lines x (List.mem_of_getElem? e)
end

/-! ### documents -/
def sizeD (d : List Ln) : Nat := (d.map fun l => l.cs.length).sum
theorem sizeD_take {d : List Ln} {k : Nat} {l : Ln} (h : d[k]? = some l) : sizeD (d.take (k + 1)) = sizeD (d.take k) + l.cs.length := by
  unfold sizeD
  rw [List.take_add_one, h]
  simp
theorem sizeD_take_le (d : List Ln) (k : Nat) : sizeD (d.take k) ≤ sizeD d := by
  unfold sizeD
  conv => rhs; rw [← List.take_append_drop k d, List.map_append, List.sum_append]
  omega
theorem sizeD_all (d : List Ln) {k : Nat} (h : d.length ≤ k) : sizeD (d.take k) = sizeD d := by rw [List.take_of_length_le h]
def mayD (d : List Ln) : Bool := decide (1 ≤ d.length) && (decide (d.length ≤ 200) && (decide (sizeD d ≤ 4000) && d.all mayL))
/-- A place: its line, its character. -/
structure Ps where
  l : Int
  a : Int
deriving DecidableEq
def isD (d : List Ln) (p : Ps) : Bool := decide (0 ≤ p.l) && (decide (p.l < d.length) && (decide (0 ≤ p.a) && match d[p.l.toNat]? with | some l => decide (p.a ≤ l.cs.length) | none => false))
/-- The two in order. -/
def ltP (p q : Ps) : Bool := decide (p.l < q.l ∨ (p.l = q.l ∧ p.a < q.a))
/-- A state. -/
structure Stt where
  d : List Ln
  a : Ps
  f : Ps
  on : Int
  off : Int
instance : DecidableEq Stt := fun x y =>
  if h : x.d = y.d ∧ x.a = y.a ∧ x.f = y.f ∧ x.on = y.on ∧ x.off = y.off then .isTrue (by cases x; cases y; obtain ⟨h1, h2, h3, h4, h5⟩ := h; cases h1; cases h2; cases h3; cases h4; cases h5; rfl)
  else .isFalse fun e => h (by subst e; exact ⟨rfl, rfl, rfl, rfl, rfl⟩)
def fromS (s : Stt) : Ps := if ltP s.f s.a then s.f else s.a
def toS (s : Stt) : Ps := if ltP s.f s.a then s.a else s.f
/-- The bits of a state may be. -/
def bitsOk (on off : Int) : Bool := decide (bits .andNot .i64 on 15 = 0) && (decide (bits .andNot .i64 off 15 = 0) && decide (bits .and .i64 on off = 0))
def mayS (s : Stt) : Bool := mayD s.d && (isD s.d s.a && (isD s.d s.f && bitsOk s.on s.off))
def zS : Stt := ⟨[], ⟨0, 0⟩, ⟨0, 0⟩, 0, 0⟩
theorem from_line (s : Stt) : 0 ≤ s.a.l → 0 ≤ s.f.l → 0 ≤ (fromS s).l := by
  unfold fromS; split <;> intros <;> assumption
theorem mayS_in {s : Stt} (h : mayS s = true) : 0 ≤ (fromS s).l ∧ (fromS s).l ≤ (toS s).l ∧ (toS s).l < s.d.length ∧ s.d.length ≤ 200 := by
  unfold mayS mayD isD at h
  simp only [Bool.and_eq_true, decide_eq_true_eq] at h
  obtain ⟨⟨h1, h2, h3, h4⟩, ⟨a1, a2, a3, a4⟩, ⟨f1, f2, f3, f4⟩, h5⟩ := h
  unfold fromS toS ltP
  by_cases hc : s.f.l < s.a.l ∨ (s.f.l = s.a.l ∧ s.f.a < s.a.a)
  · rw [if_pos (decide_eq_true hc), if_pos (decide_eq_true hc)]
    omega
  · rw [if_neg (by simpa using hc), if_neg (by simpa using hc)]
    omega
/-- The lines that are selected, from i on till j. -/
def selF (d : List Ln) (i j : Nat) : List Ln := (d.take (j + 1)).drop i
def sel (s : Stt) : List Ln := selF s.d (fromS s).l.toNat (toS s).l.toNat

/-! ### what is told of lines that are selected -/
def listedL (kind : Int) (l : Ln) : Bool := decide (0 < l.ls.length) && decide (lastI l.ls = kind)
def listedS (s : Stt) (kind : Int) : Bool × Bool := if mayS s then ((sel s).all (listedL kind), (sel s).any (listedL kind)) else (false, false)
def kindS (s : Stt) : Int × Bool :=
  if mayS s then match sel s with
    | [] => (-1, true)
    | x :: xs => if (x :: xs).all fun l => decide (l.ls.length = 0) && decide (l.k = x.k) then (x.k, true) else (0, false)
  else (0, false)

/-! ### lines that are selected, turned -/
/-- The first n lines from i on, each turned where it can be; how many were. -/
def turnAt (f : Ln → Ln × Int) (d : List Ln) (k : Nat) : List Ln := match d[k]? with
  | some l => if (f l).2 = 0 then d.set k (f l).1 else d
  | none => d
def turnedAt (f : Ln → Ln × Int) (d : List Ln) (k : Nat) : Bool := match d[k]? with
  | some l => decide ((f l).2 = 0)
  | none => false
def turnsN (f : Ln → Ln × Int) (d : List Ln) (i : Nat) : Nat → List Ln
  | 0 => d
  | n + 1 => turnAt f (turnsN f d i n) (i + n)
def someN (f : Ln → Ln × Int) (d : List Ln) (i : Nat) : Nat → Bool
  | 0 => false
  | n + 1 => someN f d i n || turnedAt f d (i + n)
def eachS (f : Ln → Ln × Int) (s : Stt) : Stt × Int :=
  if mayS s then
    let i := (fromS s).l.toNat
    let n := (toS s).l.toNat + 1 - i
    if someN f s.d i n then (⟨turnsN f s.d i n, s.a, s.f, 0, 0⟩, 0) else (zS, 7)
  else (zS, 1)
def formatS (s : Stt) (kind : Int) : Stt × Int := if 0 ≤ kind ∧ kind ≤ 3 then eachS (formatL · kind) s else (zS, 1)
def indentS (s : Stt) : Stt × Int := eachS indentL s
def outdentS (s : Stt) : Stt × Int := eachS outdentL s
def listS (s : Stt) (kind : Int) : Stt × Int :=
  if kind = 0 ∨ kind = 1 then (if (listedS s kind).1 then eachS outdentL s else eachS (listL · kind) s) else (zS, 1)
/-- typing.Select. -/
def selS (s : Stt) (p q : Ps) : Stt × Int := if mayS s ∧ isD s.d p ∧ isD s.d q then (⟨s.d, p, q, 0, 0⟩, 0) else (zS, 1)
end Go.Proofs.YtblbfoniimnkcaaGreatDoor

/- What turning selected lines comes to, said of lists. No program in sight. -/
namespace Go.Proofs.YtblbfoniimnkcaaGreatDoor
open Go.RowKit Go.Lib

theorem turnAt_len (f : Ln → Ln × Int) (d : List Ln) (k : Nat) : (turnAt f d k).length = d.length := by
  unfold turnAt; split <;> try rfl
  split <;> simp
theorem turnsN_len (f : Ln → Ln × Int) (d : List Ln) (i n : Nat) : (turnsN f d i n).length = d.length := by
  induction n with
  | zero => rfl
  | succ n ih => show (turnAt f (turnsN f d i n) (i + n)).length = _; rw [turnAt_len, ih]
theorem turnAt_other (f : Ln → Ln × Int) (d : List Ln) {k j : Nat} (h : j ≠ k) : (turnAt f d k)[j]? = d[j]? := by
  unfold turnAt; split <;> try rfl
  split
  · rw [List.getElem?_set_ne (Ne.symm h)]
  · rfl
/-- Lines out of those that were gone over are as they were. -/
theorem turnsN_out (f : Ln → Ln × Int) (d : List Ln) (i : Nat) : ∀ (n j : Nat), (j < i ∨ i + n ≤ j) → (turnsN f d i n)[j]? = d[j]? := by
  intro n
  induction n with
  | zero => intro j _; rfl
  | succ n ih =>
    intro j hj
    show (turnAt f (turnsN f d i n) (i + n))[j]? = _
    rw [turnAt_other f _ (by omega), ih j (by omega)]
theorem turnsN_at (f : Ln → Ln × Int) (d : List Ln) (i n : Nat) {k : Nat} {l : Ln} (hk : d[k]? = some l) (h1 : i ≤ k) (h2 : k < i + n) : (turnsN f d i n)[k]? = some (if (f l).2 = 0 then (f l).1 else l) := by
  induction n with
  | zero => omega
  | succ n ih =>
    show (turnAt f (turnsN f d i n) (i + n))[k]? = _
    by_cases e : k = i + n
    · subst e
      have hd : (turnsN f d i n)[i + n]? = some l := (turnsN_out f d i n (i + n) (.inr (Nat.le_refl _))).trans hk
      have hlt : i + n < (turnsN f d i n).length := (List.getElem?_eq_some_iff.1 hd).1
      unfold turnAt
      rw [hd]
      dsimp only
      by_cases h0 : (f l).2 = 0
      · rw [if_pos h0, if_pos h0, List.getElem?_set_self hlt]
      · rw [if_neg h0, if_neg h0, hd]
    · rw [turnAt_other f _ e, ih (by omega)]
/-- One round: the line there was, turned; set if it could be. -/
theorem turnsN_yes (f : Ln → Ln × Int) (d : List Ln) (i n : Nat) {l : Ln} (hk : d[i + n]? = some l) (h0 : (f l).2 = 0) : turnsN f d i (n + 1) = (turnsN f d i n).set (i + n) (f l).1 ∧ someN f d i (n + 1) = true := by
  have hd : (turnsN f d i n)[i + n]? = some l := (turnsN_out f d i n (i + n) (.inr (Nat.le_refl _))).trans hk
  refine ⟨?_, ?_⟩
  · show turnAt f (turnsN f d i n) (i + n) = _
    unfold turnAt; rw [hd]; dsimp only; rw [if_pos h0]
  · show (someN f d i n || turnedAt f d (i + n)) = true
    unfold turnedAt; rw [hk]; dsimp only; rw [decide_eq_true h0, Bool.or_true]
theorem turnsN_no (f : Ln → Ln × Int) (d : List Ln) (i n : Nat) {l : Ln} (hk : d[i + n]? = some l) (h0 : (f l).2 ≠ 0) : turnsN f d i (n + 1) = turnsN f d i n ∧ someN f d i (n + 1) = someN f d i n := by
  have hd : (turnsN f d i n)[i + n]? = some l := (turnsN_out f d i n (i + n) (.inr (Nat.le_refl _))).trans hk
  refine ⟨?_, ?_⟩
  · show turnAt f (turnsN f d i n) (i + n) = _
    unfold turnAt; rw [hd]; dsimp only; rw [if_neg h0]
  · show (someN f d i n || turnedAt f d (i + n)) = _
    unfold turnedAt; rw [hk]; dsimp only; rw [decide_eq_false h0, Bool.or_false]
theorem selF_len (d : List Ln) (i j : Nat) (h : j < d.length) : (selF d i j).length = j + 1 - i := by
  unfold selF; rw [List.length_drop, List.length_take]; omega
theorem selF_get (d : List Ln) {i j k : Nat} (h : i + k ≤ j) : (selF d i j)[k]? = d[i + k]? := by
  unfold selF; rw [List.getElem?_drop, List.getElem?_take, if_pos (by omega)]
/-- The selected lines that were gone over, one more. -/
theorem selF_take (d : List Ln) {i j k : Nat} {l : Ln} (h : i + k ≤ j) (hl : d[i + k]? = some l) : (selF d i j).take (k + 1) = (selF d i j).take k ++ [l] := by
  rw [List.take_add_one, selF_get d h, hl]; rfl
theorem selF_all (d : List Ln) {i j k : Nat} (h : j < d.length) (hk : j + 1 - i ≤ k) : (selF d i j).take k = selF d i j := List.take_of_length_le (by rw [selF_len d i j h]; exact hk)
end Go.Proofs.YtblbfoniimnkcaaGreatDoor

/- Documents in new memory: what reads as one and may be written; kept over what a call, a store, an append leaves. No program in sight. -/
namespace Go.Proofs.YtblbfoniimnkcaaGreatDoor
open Go.RowKit Go.Lib Go.Great

/-- The blocks from lo up to hi are the same. -/
def SameB (lo hi : Nat) (w w' : World) : Prop := ∀ k, lo ≤ k → k < hi → w'.heap[k]? = w.heap[k]?
/-- A document that lies between lo and hi, and reads so wherever these blocks are the same. -/
def DocF (lo hi : Nat) (w : World) (A : Option Addr) (hs : List Hd) : Prop := hi ≤ w.heap.size ∧ ∀ w', SameB lo hi w w' → DocAt w' hi A hs
theorem DocF.at_ {lo hi : Nat} {w : World} {A : Option Addr} {hs : List Hd} (h : DocF lo hi w A hs) : DocAt w w.heap.size A hs := (h.2 w fun _ _ _ => rfl).more h.1
theorem DocF.same {lo hi : Nat} {w w' : World} {A : Option Addr} {hs : List Hd} (h : DocF lo hi w A hs) (hs' : SameB lo hi w w') (hz : hi ≤ w'.heap.size) : DocF lo hi w' A hs :=
  ⟨hz, fun w2 h2 => h.2 w2 fun k h1 h3 => (h2 k h1 h3).trans (hs' k h1 h3)⟩
theorem DocF.later {lo hi : Nat} {w w' : World} {A : Option Addr} {hs : List Hd} (h : DocF lo hi w A hs) (hb : Below w.heap.size w w') : DocF lo hi w' A hs :=
  h.same (fun k _ h2 => hb.block k (Nat.lt_of_lt_of_le h2 h.1)) (Nat.le_trans h.1 hb.size)
theorem SlAt.heap {α : Type} {enc : α → List Value} {sz : Nat} {w w' : World} {B : Nat} {A : Option Addr} {xs : List α} (h : SlAt enc sz w B A xs) (hk : ∀ k, k < B → w'.heap[k]? = w.heap[k]?) : SlAt enc sz w' B A xs :=
  h.keep fun _ hp => World.cell?_of_block (hk _ hp)
theorem DocAt.heap {w w' : World} {C : Nat} {A : Option Addr} {hs : List Hd} (h : DocAt w C A hs) (hk : ∀ k, k < C → w'.heap[k]? = w.heap[k]?) : DocAt w' C A hs :=
  ⟨h.row.heap hk, fun x hx => ⟨(h.lines x hx).ls.heap hk, (h.lines x hx).cs.heap hk⟩⟩
/-- One that came in. -/
theorem DocAt.f {w : World} {A : Option Addr} {hs : List Hd} (h : DocAt w w.heap.size A hs) : DocF 0 w.heap.size w A hs := ⟨Nat.le_refl _, fun _ hs' => h.heap fun k hk => hs' k (Nat.zero_le _) hk⟩

theorem encH_one (x : Hd) : ∀ u ∈ encH x, u.oneCell' = true := by
  intro u hu
  simp [encH] at hu
  rcases hu with rfl | rfl | rfl | rfl <;> rfl
/-- A line's own rows: what they hold, and that there is room. -/
structure HdW (w : World) (base : Nat) (h : Hd) : Prop where
  wr : LnWr w base h.l h.A h.B
  c : h.l.ls.length ≤ h.c
  d : h.l.cs.length ≤ h.d
/-- A document in new memory. -/
structure DocW (w : World) (base : Nat) (A : Option Addr) (hs : List Hd) : Prop where
  row : Wr encH 4 46 w base A hs
  lines : ∀ h ∈ hs, HdW w base h
section
variable {w w' : World} {base : Nat} {A : Option Addr} {hs : List Hd} {h : Hd}
theorem HdW.later (k : HdW w base h) (hb : Below w.heap.size w w') : HdW w' base h := ⟨k.wr.later hb, k.c, k.d⟩
theorem HdW.based {b : Nat} (k : HdW w base h) (hb : b ≤ base) : HdW w b h := ⟨k.wr.based hb, k.c, k.d⟩
theorem HdW.at_ (k : HdW w base h) : LnAt w w.heap.size h.l h.A h.B := k.wr.at_
theorem DocW.later (k : DocW w base A hs) (hb : Below w.heap.size w w') : DocW w' base A hs := ⟨k.row.later hb, fun x hx => (k.lines x hx).later hb⟩
theorem DocW.based {b : Nat} (k : DocW w base A hs) (hb : b ≤ base) : DocW w b A hs := ⟨k.row.based hb, fun x hx => (k.lines x hx).based hb⟩
theorem DocW.at_ (k : DocW w base A hs) : DocAt w w.heap.size A hs := ⟨k.row.sl encH_len, fun x hx => (k.lines x hx).at_⟩
theorem DocW.nil : DocW w base none [] := ⟨Wr.nil, fun _ h => by cases h⟩
theorem Wr.same {α : Type} {enc : α → List Value} {sz : Nat} {e : TypeId} {xs : List α} (k : Wr enc sz e w base A xs) (hs : SameB base w.heap.size w w') : Wr enc sz e w' base A xs :=
  k.keep fun g hg hb => hs g hb (Array.getElem?_eq_some_iff.1 (Option.get_mem hg)).1
theorem HdW.same (k : HdW w base h) (hs : SameB base w.heap.size w w') : HdW w' base h := ⟨⟨k.wr.ls.same hs, k.wr.cs.same hs⟩, k.c, k.d⟩
theorem DocW.same (k : DocW w base A hs) (h : SameB base w.heap.size w w') : DocW w' base A hs := ⟨k.row.same h, fun x hx => (k.lines x hx).same h⟩
theorem Wr.slHi {α : Type} {enc : α → List Value} {sz : Nat} {e : TypeId} {xs : List α} {hi : Nat} (k : Wr enc sz e w base A xs) (he : ∀ x, (enc x).length = sz) (hs : SameB base hi w w') (hz : w.heap.size ≤ hi) : SlAt enc sz w' hi A xs := fun hn => by
  obtain ⟨g, o, cur, e1, h2, h3, h4, h5⟩ := k hn
  have hlt := (Array.getElem?_eq_some_iff.1 h3).1
  have h3' : w'.heap[g]? = some (.cells cur e (0, 0)) := (hs g h2 (by omega)).trans h3
  obtain ⟨ad, e2, _, hc⟩ := (show Wr enc sz e w' base A xs from fun _ => ⟨g, o, cur, e1, h2, h3', h4, h5⟩).sl he hn
  refine ⟨ad, e2, ?_, hc⟩
  rw [e1] at e2
  injection e2 with e2
  subst e2
  show g < hi
  omega
/-- It reads so wherever the blocks that it lies in are the same. -/
theorem DocW.f (k : DocW w base A hs) : DocF base w.heap.size w A hs :=
  ⟨Nat.le_refl _, fun _ h => ⟨k.row.slHi encH_len h (Nat.le_refl _), fun x hx => ⟨(k.lines x hx).wr.ls.slHi encI_len h (Nat.le_refl _), (k.lines x hx).wr.cs.slHi encC_len h (Nat.le_refl _)⟩⟩⟩
/-- A document in new memory, between lo and hi. -/
def DocWF (lo hi : Nat) (w : World) (A : Option Addr) (hs : List Hd) : Prop := hi ≤ w.heap.size ∧ (hs ≠ [] → ∀ ad, A = some ad → ad.block < hi) ∧ ∀ w', SameB lo hi w w' → DocW w' lo A hs
theorem DocW.wf (k : DocW w base A hs) : DocWF base w.heap.size w A hs := ⟨Nat.le_refl _, fun hn ad e => by
  obtain ⟨g, o, cur, e2, _, h3, _⟩ := k.row hn
  rw [e] at e2
  injection e2 with e2
  subst e2
  exact (Array.getElem?_eq_some_iff.1 h3).1, fun _ h => k.same h⟩
theorem DocWF.doc {lo hi : Nat} (k : DocWF lo hi w A hs) : DocW w lo A hs := k.2.2 w fun _ _ _ => rfl
theorem DocWF.same {lo hi : Nat} (k : DocWF lo hi w A hs) (h : SameB lo hi w w') (hz : hi ≤ w'.heap.size) : DocWF lo hi w' A hs := ⟨hz, k.2.1, fun w2 h2 => k.2.2 w2 fun j h1 h3 => (h2 j h1 h3).trans (h j h1 h3)⟩
/-- A block of another type turned. -/
theorem Wr.turned {α : Type} {enc : α → List Value} {sz : Nat} {e : TypeId} {xs : List α} (k : Wr enc sz e w base A xs) {g : Nat} (hg : ∀ j, j ≠ g → j < w.heap.size → w'.heap[j]? = w.heap[j]?) (ht : ∀ cur, w.heap[g]? ≠ some (.cells cur e (0, 0))) : Wr enc sz e w' base A xs := fun hn => by
  obtain ⟨g', o, cur, h1, h2, h3, h4⟩ := k hn
  refine ⟨g', o, cur, h1, h2, ?_, h4⟩
  rw [hg g' (fun e => ht cur (by subst e; exact h3)) (Array.getElem?_eq_some_iff.1 h3).1]
  exact h3
theorem HdW.turned (k : HdW w base h) {g : Nat} (hg : ∀ j, j ≠ g → j < w.heap.size → w'.heap[j]? = w.heap[j]?) {cur : Array Value} {t : TypeId} {z : Nat × Nat} (ht : w.heap[g]? = some (.cells cur t z)) (h1 : t ≠ 3) (h2 : t ≠ 60) : HdW w' base h :=
  ⟨⟨k.wr.ls.turned hg fun c e => by rw [ht] at e; injection e with e; injection e with _ e; exact h1 e, k.wr.cs.turned hg fun c e => by rw [ht] at e; injection e with e; injection e with _ e; exact h2 e⟩, k.c, k.d⟩
/-- Behind an append onto a row of lines. -/
theorem HdW.grown (k : HdW w base h) {v : Value} {rs : List Hd} (hown : Own encH 4 46 w base v rs) (hg : w.grownBy w' v.ownBlock) : HdW w' base h := by
  rcases hown.2 with ⟨rfl, _⟩ | ⟨g, cap, cur, rfl, _, hgg, _⟩
  · exact k.later ⟨hg.os, hg.tape, hg.output, hg.size, fun j hj => hg.block j hj (by simp [Value.ownBlock])⟩
  · exact k.turned (g := g) (fun j hj hlt => hg.block j hlt (by simp [Value.ownBlock]; exact hj)) hgg (by decide) (by decide)
end
/-- What a call hands back: a document in new memory. -/
def RetDoc (d : List Ln) (w : World) (e : Ending) (w' : World) : Prop := ∃ A n c hs, e = .returned (.slice A n c) ∧ n = hs.length ∧ n ≤ c ∧ lnsOf hs = d ∧ DocW w' w.heap.size A hs ∧ Below w.heap.size w w'
theorem RetDoc.mk' {d : List Ln} {w w' : World} {v : Value} {rs : List Hd} (h : Own encH 4 46 w' w.heap.size v rs) (hl : ∀ x ∈ rs, HdW w' w.heap.size x) (hd : lnsOf rs = d) (hb : Below w.heap.size w w') : RetDoc d w (.returned v) w' := by
  obtain ⟨A, c, rfl, h1, h2, -, -⟩ := h.form encH_len
  exact ⟨A, rs.length, c, rs, rfl, rfl, h1, hd, ⟨h.wr, hl⟩, hb⟩
end Go.Proofs.YtblbfoniimnkcaaGreatDoor

/- What a walk over documents and states holds: boxes of any type, documents, kept over its calls and its stores. No program in sight. -/
namespace Go.Proofs.YtblbfoniimnkcaaGreatDoor
open Go.RowKit Go.Lib Go.Great

structure BoxG where
  g : Nat
  t : TypeId
  cs : List Value
/-- What a call handed back: where a document lies, how long it is, what it holds. -/
structure DocX where
  A : Option Addr
  n : Nat
  c : Nat
  hs : List Hd
/-- A document that is held; wr: it lies in new memory, and may be written. -/
structure DocR where
  hs : List Hd
  A : Option Addr
  wr : Bool
def DocR.F (d : DocR) (b0 lo hi : Nat) (w : World) : Prop := match d.wr with
  | true => b0 ≤ lo ∧ DocWF lo hi w d.A d.hs
  | false => DocF lo hi w d.A d.hs
theorem DocR.F.hi {d : DocR} {b0 lo hi : Nat} {w : World} (h : d.F b0 lo hi w) : hi ≤ w.heap.size := by
  unfold DocR.F at h; split at h
  · exact h.2.1
  · exact h.1
theorem DocR.F.same {d : DocR} {b0 lo hi : Nat} {w w' : World} (h : d.F b0 lo hi w) (hs : SameB lo hi w w') (hz : hi ≤ w'.heap.size) : d.F b0 lo hi w' := by
  unfold DocR.F at h ⊢; split at h
  · exact ⟨h.1, h.2.same hs hz⟩
  · exact h.same hs hz
theorem DocR.F.later {d : DocR} {b0 lo hi : Nat} {w w' : World} (h : d.F b0 lo hi w) (hb : Below w.heap.size w w') : d.F b0 lo hi w' :=
  h.same (fun k _ h2 => hb.block k (Nat.lt_of_lt_of_le h2 h.hi)) (Nat.le_trans h.hi hb.size)
theorem DocR.F.at_ {d : DocR} {b0 lo hi : Nat} {w : World} (h : d.F b0 lo hi w) : DocAt w w.heap.size d.A d.hs := by
  unfold DocR.F at h; split at h
  · exact h.2.doc.at_
  · exact h.at_
/-- What is held: boxes, the call's own; documents, in other blocks. -/
structure KG (w0 w : World) (bs : List BoxG) (ds : List DocR) : Prop where
  b : Below w0.heap.size w0 w
  bx : ∀ x ∈ bs, w0.heap.size ≤ x.g ∧ w.heap[x.g]? = some (.cells x.cs.toArray x.t (0, 0))
  nd : bs.Pairwise fun s t => s.g ≠ t.g
  doc : ∀ d ∈ ds, ∃ lo hi, d.F w0.heap.size lo hi w ∧ ∀ x ∈ bs, x.g < lo ∨ hi ≤ x.g
section
variable {w0 w w' : World} {bs : List BoxG} {ds : List DocR}
theorem KG.lt (h : KG w0 w bs ds) {x : BoxG} (hx : x ∈ bs) : x.g < w.heap.size := (Array.getElem?_eq_some_iff.1 (h.bx x hx).2).1
theorem KG.start (w : World) (ds : List DocR) (h : ∀ d ∈ ds, d.wr = false ∧ DocAt w w.heap.size d.A d.hs) : KG w w [] ds :=
  ⟨Below.refl _ _, (fun _ h => by cases h), .nil, fun d hd => ⟨0, w.heap.size, by unfold DocR.F; rw [(h d hd).1]; exact (h d hd).2.f, (fun _ h => by cases h)⟩⟩
theorem KG.later (h : KG w0 w bs ds) (hb : Below w.heap.size w w') : KG w0 w' bs ds :=
  ⟨h.b.trans (hb.mono h.b.size), fun x hx => ⟨(h.bx x hx).1, (hb.block _ (h.lt hx)).trans (h.bx x hx).2⟩, h.nd, fun d hd => by
    obtain ⟨lo, hi, h1, h2⟩ := h.doc d hd
    exact ⟨lo, hi, h1.later hb, h2⟩⟩
theorem KG.quiet (h : KG w0 w bs ds) (hq : ∃ q, w' = w.drewN q) : KG w0 w' bs ds := by
  obtain ⟨q, rfl⟩ := hq
  exact h.later (below_drewN (Below.refl _ w) q)
/-- A new box. -/
theorem KG.new (h : KG w0 w bs ds) (t : TypeId) (cs : List Value) {g : Nat} (hg : g = w.heap.size) (hw : w' = w.alloc (.cells cs.toArray t)) : KG w0 w' (⟨g, t, cs⟩ :: bs) ds := by
  subst hg hw
  have hb : Below w.heap.size w (w.alloc (.cells cs.toArray t)) := (Below.refl _ w).alloc (Nat.le_refl _) _
  have k := h.later hb
  refine ⟨k.b, fun x hx => ?_, List.pairwise_cons.2 ⟨fun x hx e => ?_, h.nd⟩, fun d hd => ?_⟩
  · rcases List.mem_cons.1 hx with rfl | hx
    · exact ⟨h.b.size, heap_alloc_new w _⟩
    · exact k.bx x hx
  · have := h.lt hx
    have e' : w.heap.size = x.g := e
    omega
  · obtain ⟨lo, hi, h1, h2⟩ := h.doc d hd
    refine ⟨lo, hi, h1.later hb, fun x hx => ?_⟩
    rcases List.mem_cons.1 hx with rfl | hx
    · exact .inr h1.hi
    · exact h2 x hx
/-- A box is stored to. -/
theorem KG.set {O1 O2 : List BoxG} {t : BoxG} (h : KG w0 w (O1 ++ t :: O2) ds) {cs : List Value} (ho : w'.os = w.os ∧ w'.tape = w.tape ∧ w'.output = w.output ∧ w'.heap.size = w.heap.size) (hk : ∀ k, k ≠ t.g → w'.heap[k]? = w.heap[k]?) (hx : w'.heap[t.g]? = some (.cells cs.toArray t.t (0, 0))) :
    KG w0 w' (O1 ++ ⟨t.g, t.t, cs⟩ :: O2) ds := by
  have ht := h.bx t (by simp)
  have hnd := h.nd
  rw [List.pairwise_append, List.pairwise_cons] at hnd
  obtain ⟨n1, ⟨n2, n3⟩, n4⟩ := hnd
  have hb : Below w0.heap.size w w' := ⟨ho.1, ho.2.1, ho.2.2.1, Nat.le_of_eq ho.2.2.2.symm, fun k hlt => hk k (fun e => by have := ht.1; omega)⟩
  refine ⟨h.b.trans hb, fun u hu => ?_, ?_, fun d hd => ?_⟩
  · rcases List.mem_append.1 hu with hu | hu
    · exact ⟨(h.bx u (by simp [hu])).1, (hk u.g (n4 u hu t (by simp))).trans (h.bx u (by simp [hu])).2⟩
    · rcases List.mem_cons.1 hu with rfl | hu
      · exact ⟨ht.1, hx⟩
      · exact ⟨(h.bx u (by simp [hu])).1, (hk u.g (fun e => n2 u hu e.symm)).trans (h.bx u (by simp [hu])).2⟩
  · rw [List.pairwise_append, List.pairwise_cons]
    refine ⟨n1, ⟨fun u hu => n2 u hu, n3⟩, fun u hu v hv => ?_⟩
    rcases List.mem_cons.1 hv with rfl | hv
    · exact n4 u hu t (by simp)
    · exact n4 u hu v (by simp [hv])
  · obtain ⟨lo, hi, h1, h2⟩ := h.doc d hd
    have h3 := h2 t (by simp)
    refine ⟨lo, hi, h1.same (fun k hk1 hk2 => hk k (fun e => by subst e; omega)) (by rw [ho.2.2.2]; exact h1.hi), fun x hx => ?_⟩
    rcases List.mem_append.1 hx with hx | hx
    · exact h2 x (by simp [hx])
    · rcases List.mem_cons.1 hx with rfl | hx
      · exact h3
      · exact h2 x (by simp [hx])
/-- Some let go. -/
theorem KG.less (h : KG w0 w bs ds) {bs' : List BoxG} {ds' : List DocR} (h1 : bs'.Sublist bs) (h2 : ∀ d ∈ ds', d ∈ ds) : KG w0 w bs' ds' :=
  ⟨h.b, fun x hx => h.bx x (h1.subset hx), h.nd.sublist h1, fun d hd => by
    obtain ⟨lo, hi, k1, k2⟩ := h.doc d (h2 d hd)
    exact ⟨lo, hi, k1, fun x hx => k2 x (h1.subset hx)⟩⟩
/-- A document that a call handed back. -/
theorem KG.add (h : KG w0 w bs ds) (hb : Below w.heap.size w w') {hs : List Hd} {A : Option Addr} (hd : DocF w.heap.size w'.heap.size w' A hs) : KG w0 w' bs (⟨hs, A, false⟩ :: ds) := by
  have k := h.later hb
  refine ⟨k.b, k.bx, k.nd, fun d hm => ?_⟩
  rcases List.mem_cons.1 hm with rfl | hm
  · exact ⟨_, _, hd, fun x hx => .inl (h.lt hx)⟩
  · exact k.doc d hm
/-- .. in new memory. -/
theorem KG.addW (h : KG w0 w bs ds) (hb : Below w.heap.size w w') {hs : List Hd} {A : Option Addr} (hd : DocW w' w.heap.size A hs) : KG w0 w' bs (⟨hs, A, true⟩ :: ds) := by
  have k := h.later hb
  refine ⟨k.b, k.bx, k.nd, fun d hm => ?_⟩
  rcases List.mem_cons.1 hm with rfl | hm
  · exact ⟨_, _, ⟨h.b.size, hd.wf⟩, fun x hx => .inl (h.lt hx)⟩
  · exact k.doc d hm
theorem KG.docW (h : KG w0 w bs ds) {hs : List Hd} {A : Option Addr} (hd : ⟨hs, A, true⟩ ∈ ds) : DocW w w0.heap.size A hs := by
  obtain ⟨lo, hi, h1, _⟩ := h.doc _ hd
  exact h1.2.doc.based h1.1
theorem KG.at_ (h : KG w0 w bs ds) {d : DocR} (hd : d ∈ ds) : DocAt w w.heap.size d.A d.hs := by
  obtain ⟨lo, hi, h1, _⟩ := h.doc d hd
  exact h1.at_
theorem KG.cell (h : KG w0 w bs ds) {x : BoxG} (hx : x ∈ bs) {o : Nat} {v : Value} (hv : x.cs[o]? = some v) : w.cell? ⟨x.g, o, none⟩ = some v := by
  rw [cell_of_row w x.g o x.cs.toArray x.t (0, 0) (h.bx x hx).2]
  simpa using hv
theorem KG.soft (h : KG w0 w bs ds) {x : BoxG} (hx : x ∈ bs) (o : Nat) : w.frozen? ⟨x.g, o, none⟩ = false := frozen_of_row w x.g o _ _ (h.bx x hx).2
end

/-! ### the operations -/
def set2 (cs : List Value) (o : Nat) : List Value → List Value
  | [] => cs
  | v :: vs => set2 (cs.set o v) (o + 1) vs
theorem heap_setCells : ∀ (vs : List Value) (w : World) (g o : Nat) (cs : List Value) (t : TypeId), w.heap[g]? = some (.cells cs.toArray t (0, 0)) → (w.setCells g o vs).heap[g]? = some (.cells (set2 cs o vs).toArray t (0, 0)) ∧ (∀ k, k ≠ g → (w.setCells g o vs).heap[k]? = w.heap[k]?) ∧ (w.setCells g o vs).os = w.os ∧ (w.setCells g o vs).tape = w.tape ∧ (w.setCells g o vs).output = w.output ∧ (w.setCells g o vs).heap.size = w.heap.size := by
  intro vs
  induction vs with
  | nil => intro w g o cs t h; exact ⟨h, fun _ _ => rfl, rfl, rfl, rfl, rfl⟩
  | cons v vs ih =>
    intro w g o cs t h
    have h1 : (w.setCell ⟨g, o, none⟩ v).heap[g]? = some (.cells (cs.set o v).toArray t (0, 0)) := by
      have := heap_setCell_same w g o cs.toArray t v h
      simpa using this
    obtain ⟨a, b, c, d, e, f⟩ := ih (w.setCell ⟨g, o, none⟩ v) g (o + 1) (cs.set o v) t h1
    exact ⟨a, fun k hk => (b k hk).trans (Below.heap_setCell _ _ _ _ (by simpa using hk)), c, d, e, f.trans (by simp [World.setCell])⟩
end Go.Proofs.YtblbfoniimnkcaaGreatDoor

/- The operations of a walk over documents and states, each in one step, over the bundle KG. -/
namespace Go.Proofs.YtblbfoniimnkcaaGreatDoor
open Go.RowKit Go.Lib Go.Great

section
variable {P : Program}
theorem run_loadVar_addr (w : World) (ad : Addr) (ty : TypeId) (cs : List Value) (d : TypeDesc) (hc : ∀ j v, cs[j]? = some v → w.cell? (ad.add j) = some v)
    (hu : P.underlying ty = some d) (hd : d.isRow = true) (hi : (P.info? ty).map (·.size) = some cs.length) :
    (loadVar ty ad).run P w = .ok (.agg cs.toArray) w := by
  have hl : (loadCells ad cs.length).run P w = .ok cs.toArray w := run_loadCells_list (P := P) w ad cs hc
  cases hq : P.info? ty with
  | none => simp [hq] at hi
  | some i =>
    have hs : i.size = cs.length := by simpa [hq] using hi
    have hagg : (isAgg ty).run P w = .ok true w := by
      unfold isAgg
      rw [Sem.run_bind, run_underlying hu w]
      cases d <;> simp_all
    simp [loadVar, Sem.run_bind, hagg, sizeOf, typeInfo, hq, hs, hl]
theorem run_loadVar_one (w : World) (ad : Addr) (ty : TypeId) (v : Value) (d : TypeDesc) (hc : w.cell? ad = some v)
    (hu : P.underlying ty = some d) (hd : d.isRow = false) : (loadVar ty ad).run P w = .ok v w := by
  have hagg : (isAgg ty).run P w = .ok false w := by
    unfold isAgg
    rw [Sem.run_bind, run_underlying hu w]
    cases d <;> simp_all
  simp [loadVar, Sem.run_bind, hagg, hc]
theorem Addr.add_off (g o j : Nat) : (⟨g, o, none⟩ : Addr).add j = ⟨g, o + j, none⟩ := by unfold Addr.add; split <;> simp_all
theorem Addr.add_pos (a : Addr) {j : Nat} (h : 0 < j) : a.add j = ⟨a.block, a.off + j, none⟩ := by
  unfold Addr.add
  rw [if_neg (by omega)]
end
section
variable {P : Program} {ops : Array Oper} {rest : List Oper} {o : Oper} {a : Act} {w0 w : World} {Q : Exit → Act → World → Prop} {bs : List BoxG} {ds : List DocR}
theorem wpList_loadV (hw : Region.wanted o (yielded ops a.tmps) = true) (ty : TypeId) (x : Operand) (ho : o.op = .load ty x) {ad : Addr} (hx : a.eval x = .pointer (some ad)) {v : Value} (hl : (loadVar ty ad).run P w = .ok v w)
    (h : wpList P ops Q rest (a.put o.dst v) w) : wpList P ops Q (o :: rest) a w :=
  wpList_step fun K hK => by
    rw [if_pos hw]
    unfold Oper.wp execOp
    simp only [ho, hx, Instr.loadAt, Instr.sureAddr, Sem.run_bind, Sem.run_pure, Result.andThen_ok, hl]
    exact hK _ _ h
/-- Some cells of a box, as a struct. -/
theorem kgLoadA (hw : Region.wanted o (yielded ops a.tmps) = true) (ty : TypeId) (x : Operand) (ho : o.op = .load ty x) (n : Nat) (d : TypeDesc) (hu : P.underlying ty = some d) (hd : d.isRow = true) (hi : (P.info? ty).map (·.size) = some n)
    (K : Hid (KG w0 w bs ds)) {g off : Nat} (hx : a.eval x = .pointer (some ⟨g, off, none⟩)) {t : TypeId} {cs part : List Value} (hb : (⟨g, t, cs⟩ : BoxG) ∈ bs) (hp : (cs.drop off).take n = part) (hn : part.length = n)
    (h : wpList P ops Q rest (a.put o.dst (.agg part.toArray)) w) : wpList P ops Q (o :: rest) a w :=
  wpList_loadV hw ty x ho hx (run_loadVar_addr w _ ty part d (fun j v hj => by
    rw [Addr.add_off]
    refine K.out.cell hb ?_
    rw [← hp, List.getElem?_take] at hj
    split at hj
    · rwa [List.getElem?_drop] at hj
    · cases hj) hu hd (by rw [hi, hn])) h
/-- One cell of a box. -/
theorem kgLoad1 (hw : Region.wanted o (yielded ops a.tmps) = true) (ty : TypeId) (x : Operand) (ho : o.op = .load ty x) (d : TypeDesc) (hu : P.underlying ty = some d) (hd : d.isRow = false)
    (K : Hid (KG w0 w bs ds)) {g off : Nat} (hx : a.eval x = .pointer (some ⟨g, off, none⟩)) {t : TypeId} {cs : List Value} {v : Value} (hb : (⟨g, t, cs⟩ : BoxG) ∈ bs) (hp : cs[off]? = some v)
    (h : wpList P ops Q rest (a.put o.dst v) w) : wpList P ops Q (o :: rest) a w :=
  wpList_loadV hw ty x ho hx (run_loadVar_one w _ ty v d (K.out.cell hb hp) hu hd) h
/-- A line of a document. -/
theorem kgElem (hw : Region.wanted o (yielded ops a.tmps) = true) (ty : TypeId) (x : Operand) (ho : o.op = .load ty x) (d : TypeDesc) (hu : P.underlying ty = some d) (hd : d.isRow = true) (hi : (P.info? ty).map (·.size) = some 4)
    (K : Hid (KG w0 w bs ds)) {ad : Addr} {k : Nat} (hx : a.eval x = .pointer (some (ad.add (k * 4)))) {hs : List Hd} {b : Bool} (hm : (⟨hs, some ad, b⟩ : DocR) ∈ ds) {l : Hd} (hl : hs[k]? = some l)
    (h : wpList P ops Q rest (a.put o.dst (.agg #[.int .i64 l.l.q, .slice l.A l.l.ls.length l.c, .int .i64 l.l.k, .slice l.B l.l.cs.length l.d])) w) : wpList P ops Q (o :: rest) a w :=
  wpList_loadV hw ty x ho hx (run_loadVar_addr w _ ty (encH l) d (fun j v hj => by
    obtain ⟨ad', e, _, hc⟩ := (K.out.at_ hm).row (by intro e; have : hs = [] := e; rw [this] at hl; simp at hl)
    injection e with e
    subst e
    exact hc k l hl j v hj) hu hd (by rw [hi]; rfl)) h
/-- One field of a line of a document. -/
theorem kgElem1 (hw : Region.wanted o (yielded ops a.tmps) = true) (ty : TypeId) (x : Operand) (ho : o.op = .load ty x) (d : TypeDesc) (hu : P.underlying ty = some d) (hd : d.isRow = false)
    (K : Hid (KG w0 w bs ds)) {ad : Addr} {k j : Nat} (hx : a.eval x = .pointer (some ⟨(ad.add (k * 4)).block, (ad.add (k * 4)).off + j, none⟩)) {hs : List Hd} {b : Bool} (hm : (⟨hs, some ad, b⟩ : DocR) ∈ ds) {l : Hd} (hl : hs[k]? = some l) (hj : 0 < j) {v : Value} (hv : (encH l)[j]? = some v)
    (h : wpList P ops Q rest (a.put o.dst v) w) : wpList P ops Q (o :: rest) a w :=
  wpList_loadV hw ty x ho hx (run_loadVar_one w _ ty v d (by
    obtain ⟨ad', e, _, hc⟩ := (K.out.at_ hm).row (by intro e; have : hs = [] := e; rw [this] at hl; simp at hl)
    injection e with e
    subst e
    have := hc k l hl j v hv
    rwa [Addr.add_pos _ hj] at this) hu hd) h
/-- A new box of a value. -/
theorem kgBox (hw : Region.wanted o (yielded ops a.tmps) = true) (t : TypeId) (x : Operand) (ho : o.op = .box t x) (d : Option Tmp) (hd : o.dst = d) {v : Value} (hx : a.eval x = v) (cs : List Value) (hc : v.cells = cs.toArray) (K : Hid (KG w0 w bs ds))
    (h : ∀ g w', Hid (KG w0 w' (⟨g, t, cs⟩ :: bs) ds) → wpList P ops Q rest (a.put d (.pointer (some ⟨g, 0, none⟩))) w') : wpList P ops Q (o :: rest) a w :=
  wpList_step fun K' hK => by
    subst hd hx
    rw [if_pos hw]
    unfold Oper.wp execOp
    simp only [ho, Sem.run_bind, Instr.box, newVar, newRow, run_newObj_alloc, Sem.run_pure, Result.andThen_ok, hc]
    exact hK _ _ (h _ _ (hid (K.out.new t cs rfl rfl)))
/-- A new box of nothing. -/
theorem kgAlloc (hw : Region.wanted o (yielded ops a.tmps) = true) (t : TypeId) (ho : o.op = .alloc t) (d : Option Tmp) (hd : o.dst = d) (cs : List Value) (hz : ∀ w : World, (Instr.alloc t true (.tuple #[])).run P w = .ok (.pointer (some ⟨w.heap.size, 0, none⟩)) (w.alloc (.cells cs.toArray t))) (K : Hid (KG w0 w bs ds))
    (h : ∀ g w', Hid (KG w0 w' (⟨g, t, cs⟩ :: bs) ds) → wpList P ops Q rest (a.put d (.pointer (some ⟨g, 0, none⟩))) w') : wpList P ops Q (o :: rest) a w :=
  wpList_step fun K' hK => by
    subst hd
    rw [if_pos hw]
    unfold Oper.wp execOp
    simp only [ho, hz, Sem.run_bind, Sem.run_pure, Result.andThen_ok]
    exact hK _ _ (h _ _ (hid (K.out.new t cs rfl rfl)))
/-- Cells of a box stored to. -/
theorem kgStore (hw : Region.wanted o (yielded ops a.tmps) = true) (ty : TypeId) (x y : Operand) (ho : o.op = .store ty x y) (n : Nat) (hi : (P.info? ty).map (·.size) = some n) (O1 : List BoxG) {t : BoxG} {O2 : List BoxG} (K : Hid (KG w0 w (O1 ++ t :: O2) ds)) {off : Nat} (hx : a.eval x = .pointer (some ⟨t.g, off, none⟩))
    {v : Value} (hy : a.eval y = v) (vs : List Value) (hv : v.cells = vs.toArray) (hn : vs.length = n) (hle : off + n ≤ t.cs.length) (h1 : ∀ u ∈ vs, u.oneCell' = true) {cs : List Value} (hc : set2 t.cs off vs = cs)
    (h : ∀ w', Hid (KG w0 w' (O1 ++ ⟨t.g, t.t, cs⟩ :: O2) ds) → wpList P ops Q rest (a.put o.dst undef) w') : wpList P ops Q (o :: rest) a w :=
  wpList_step fun K' hK => by
    subst hc hy
    rw [if_pos hw]
    have hb := K.out.bx t (by simp)
    obtain ⟨q1, q2, q3, q4, q5, q6⟩ := heap_setCells vs w t.g off t.cs t.t hb.2
    have hrun := run_storeCells_cells (P := P) t.g off vs 0 w (fun j hj => by
      rw [cell_of_row w t.g _ t.cs.toArray t.t (0, 0) hb.2]
      simp
      omega) (fun j hj => frozen_of_row w t.g _ _ _ hb.2) h1
    simp only [Nat.add_zero] at hrun
    have hst : (storeVar ty ⟨t.g, off, none⟩ (a.eval y)).run P w = .ok () (w.setCells t.g off vs) := by
      cases hq : P.info? ty with
      | none => simp [hq] at hi
      | some i =>
        have hs : i.size = vs.length := by rw [hn]; simpa [hq] using hi
        simp [storeVar, sizeOf, typeInfo, hq, hv, hs, hrun]
    unfold Oper.wp execOp
    simp only [ho, hx, Instr.storeAt, Instr.sureAddr, Sem.run_bind, Sem.run_pure, Result.andThen_ok, hst]
    exact hK _ _ (h _ (hid (K.out.set ⟨q3, q4, q5, q6⟩ q2 q1)))
end
end Go.Proofs.YtblbfoniimnkcaaGreatDoor

/- Results out of boxes; a step of a walk inside a fence, by the run of its operation. -/
namespace Go.Proofs.YtblbfoniimnkcaaGreatDoor
open Go.RowKit Go.Lib Go.Great

section
variable {P : Program} {fn : Func} {p q u : Tmp} {ty ty2 : TypeId} {tmps : Array Value} {w : World} {ad ad2 : Addr} {v v2 : Value}
theorem results_c (h : fn.results = #[.cell p ty]) (hp : tmps.getD p undef = .pointer (some ad)) (hl : (loadVar ty ad).run P w = .ok v w) : (results fn tmps).run P w = .ok v w := by
  have hp' : tmps[p]?.getD undef = .pointer (some ad) := by simpa using hp
  simp [results, h, hp', asAddr, hl]
theorem results_ct (h : fn.results = #[.cell p ty, .tmp u]) (hp : tmps.getD p undef = .pointer (some ad)) (hl : (loadVar ty ad).run P w = .ok v w) (hu : tmps.getD u undef = v2) : (results fn tmps).run P w = .ok (.tuple #[v, v2]) w := by
  have hp' : tmps[p]?.getD undef = .pointer (some ad) := by simpa using hp
  have hu' : tmps[u]?.getD undef = v2 := by simpa using hu
  simp [results, h, hp', hu', asAddr, Result.andThen, hl]
theorem results_cc (h : fn.results = #[.cell p ty, .cell q ty2]) (hp : tmps.getD p undef = .pointer (some ad)) (hl : (loadVar ty ad).run P w = .ok v w) (hq : tmps.getD q undef = .pointer (some ad2)) (hl2 : (loadVar ty2 ad2).run P w = .ok v2 w) : (results fn tmps).run P w = .ok (.tuple #[v, v2]) w := by
  have hp' : tmps[p]?.getD undef = .pointer (some ad) := by simpa using hp
  have hq' : tmps[q]?.getD undef = .pointer (some ad2) := by simpa using hq
  simp [results, h, hp', hq', asAddr, Result.andThen, hl, hl2]
end
section
variable {P : Program} {w0 w : World} {bs : List BoxG} {ds : List DocR}
theorem KG.loadA (K : KG w0 w bs ds) {ty : TypeId} {g off n : Nat} {d : TypeDesc} {t : TypeId} {cs part : List Value} (hb : (⟨g, t, cs⟩ : BoxG) ∈ bs) (hu : P.underlying ty = some d) (hd : d.isRow = true) (hi : (P.info? ty).map (·.size) = some n) (hp : (cs.drop off).take n = part) (hn : part.length = n) : (loadVar ty ⟨g, off, none⟩).run P w = .ok (.agg part.toArray) w :=
  run_loadVar_addr w _ ty part d (fun j v hj => by
    rw [Addr.add_off]
    refine K.cell hb ?_
    rw [← hp, List.getElem?_take] at hj
    split at hj
    · rwa [List.getElem?_drop] at hj
    · cases hj) hu hd (by rw [hi, hn])
theorem KG.load1 (K : KG w0 w bs ds) {ty : TypeId} {g off : Nat} {d : TypeDesc} {t : TypeId} {cs : List Value} {v : Value} (hb : (⟨g, t, cs⟩ : BoxG) ∈ bs) (hu : P.underlying ty = some d) (hd : d.isRow = false) (hp : cs[off]? = some v) : (loadVar ty ⟨g, off, none⟩).run P w = .ok v w :=
  run_loadVar_one w _ ty v d (K.cell hb hp) hu hd
end
end Go.Proofs.YtblbfoniimnkcaaGreatDoor

/- The operations of a walk over documents and states, each in one step, inside a fence. (Printed by wip/blin.py.) -/
namespace Go.Proofs.YtblbfoniimnkcaaGreatDoor
open Go.RowKit Go.Lib Go.Great

/-- Only block g may have changed. -/
structure Onl (g : Nat) (w w' : World) : Prop where
  os : w'.os = w.os
  tape : w'.tape = w.tape
  output : w'.output = w.output
  size : w'.heap.size = w.heap.size
  block : ∀ k, k ≠ g → w'.heap[k]? = w.heap[k]?
section
variable {P : Program} {ops : Array Oper} {rest : List Oper} {o : Oper} {a : Act} {w0 w : World} {Q : Exit → Act → World → Prop} {bs : List BoxG} {ds : List DocR}
/-- A new box of nothing. -/
theorem kgAllocB (hw : Region.wanted o (yielded ops a.tmps) = true) (t : TypeId) (ho : o.op = .alloc t) (d : Option Tmp) (hd : o.dst = d) (cs : List Value) (hz : ∀ w : World, (Instr.alloc t true (.tuple #[])).run P w = .ok (.pointer (some ⟨w.heap.size, 0, none⟩)) (w.alloc (.cells cs.toArray t))) (K : Hid (KG w0 w bs ds))
    (h : ∀ g w', Hid (Below w.heap.size w w') → Hid (KG w0 w' (⟨g, t, cs⟩ :: bs) ds) → wpList P ops Q rest (a.put d (.pointer (some ⟨g, 0, none⟩))) w') : wpList P ops Q (o :: rest) a w :=
  wpList_step fun K' hK => by
    subst hd
    rw [if_pos hw]
    unfold Oper.wp execOp
    simp only [ho, hz, Sem.run_bind, Sem.run_pure, Result.andThen_ok]
    exact hK _ _ (h _ _ (hid ((Below.refl _ w).alloc (Nat.le_refl _) _)) (hid (K.out.new t cs rfl rfl)))
/-- Cells of a box stored to. -/
theorem kgStoreT (hw : Region.wanted o (yielded ops a.tmps) = true) (ty : TypeId) (x y : Operand) (ho : o.op = .store ty x y) (n : Nat) (hi : (P.info? ty).map (·.size) = some n) (O1 : List BoxG) {t : BoxG} {O2 : List BoxG} (K : Hid (KG w0 w (O1 ++ t :: O2) ds)) {off : Nat} (hx : a.eval x = .pointer (some ⟨t.g, off, none⟩))
    {v : Value} (hy : a.eval y = v) (vs : List Value) (hv : v.cells = vs.toArray) (hn : vs.length = n) (hle : off + n ≤ t.cs.length) (h1 : ∀ u ∈ vs, u.oneCell' = true) {cs : List Value} (hc : set2 t.cs off vs = cs)
    (h : ∀ w', Hid (Onl t.g w w') → Hid (KG w0 w' (O1 ++ ⟨t.g, t.t, cs⟩ :: O2) ds) → wpList P ops Q rest (a.put o.dst undef) w') : wpList P ops Q (o :: rest) a w :=
  wpList_step fun K' hK => by
    subst hc hy
    rw [if_pos hw]
    have hb := K.out.bx t (by simp)
    obtain ⟨q1, q2, q3, q4, q5, q6⟩ := heap_setCells vs w t.g off t.cs t.t hb.2
    have hrun := run_storeCells_cells (P := P) t.g off vs 0 w (fun j hj => by
      rw [cell_of_row w t.g _ t.cs.toArray t.t (0, 0) hb.2]
      simp
      omega) (fun j hj => frozen_of_row w t.g _ _ _ hb.2) h1
    simp only [Nat.add_zero] at hrun
    have hst : (storeVar ty ⟨t.g, off, none⟩ (a.eval y)).run P w = .ok () (w.setCells t.g off vs) := by
      cases hq : P.info? ty with
      | none => simp [hq] at hi
      | some i =>
        have hs : i.size = vs.length := by rw [hn]; simpa [hq] using hi
        simp [storeVar, sizeOf, typeInfo, hq, hv, hs, hrun]
    unfold Oper.wp execOp
    simp only [ho, hx, Instr.storeAt, Instr.sureAddr, Sem.run_bind, Sem.run_pure, Result.andThen_ok, hst]
    exact hK _ _ (h _ (hid ⟨q3, q4, q5, q6, fun k hk => q2 k hk⟩) (hid (K.out.set ⟨q3, q4, q5, q6⟩ q2 q1)))
end
section
variable {F : Fence} {n : Nat} {P : Program} {ops : Array Oper} {rest : List Oper} {o : Oper} {a : Act} {w0 w : World} {Q : Exit → Act → World → Prop} {bs : List BoxG} {ds : List DocR}
theorem wpListIn_loadV (hw : Region.wanted o (yielded ops a.tmps) = true) (ty : TypeId) (x : Operand) (ho : o.op = .load ty x) {ad : Addr} (hx : a.eval x = .pointer (some ad)) {v : Value} (hl : (loadVar ty ad).run P w = .ok v w)
    (h : wpListIn F n P ops Q rest (a.put o.dst v) w) : wpListIn F n P ops Q (o :: rest) a w :=
  wpListIn_step fun K hK => by
    rw [if_pos hw]
    unfold Oper.wpIn
    refine ⟨by simp [Oper.about, ho], ?_⟩
    rw [Oper.semAt_plain F _ _ (by rw [ho]; intro c hc'; cases hc')]
    unfold execOp
    simp only [ho, hx, Instr.loadAt, Instr.sureAddr, Sem.run_bind, Sem.run_pure, Result.andThen_ok, hl]
    exact hK _ _ h
/-- Some cells of a box, as a struct. -/
theorem kiLoadA (hw : Region.wanted o (yielded ops a.tmps) = true) (ty : TypeId) (x : Operand) (ho : o.op = .load ty x) (m : Nat) (d : TypeDesc) (hu : P.underlying ty = some d) (hd : d.isRow = true) (hi : (P.info? ty).map (·.size) = some m)
    (K : Hid (KG w0 w bs ds)) {g off : Nat} (hx : a.eval x = .pointer (some ⟨g, off, none⟩)) {t : TypeId} {cs part : List Value} (hb : (⟨g, t, cs⟩ : BoxG) ∈ bs) (hp : (cs.drop off).take m = part) (hn : part.length = m)
    (h : wpListIn F n P ops Q rest (a.put o.dst (.agg part.toArray)) w) : wpListIn F n P ops Q (o :: rest) a w :=
  wpListIn_loadV hw ty x ho hx (run_loadVar_addr w _ ty part d (fun j v hj => by
    rw [Addr.add_off]
    refine K.out.cell hb ?_
    rw [← hp, List.getElem?_take] at hj
    split at hj
    · rwa [List.getElem?_drop] at hj
    · cases hj) hu hd (by rw [hi, hn])) h
/-- One cell of a box. -/
theorem kiLoad1 (hw : Region.wanted o (yielded ops a.tmps) = true) (ty : TypeId) (x : Operand) (ho : o.op = .load ty x) (d : TypeDesc) (hu : P.underlying ty = some d) (hd : d.isRow = false)
    (K : Hid (KG w0 w bs ds)) {g off : Nat} (hx : a.eval x = .pointer (some ⟨g, off, none⟩)) {t : TypeId} {cs : List Value} {v : Value} (hb : (⟨g, t, cs⟩ : BoxG) ∈ bs) (hp : cs[off]? = some v)
    (h : wpListIn F n P ops Q rest (a.put o.dst v) w) : wpListIn F n P ops Q (o :: rest) a w :=
  wpListIn_loadV hw ty x ho hx (run_loadVar_one w _ ty v d (K.out.cell hb hp) hu hd) h
/-- A line of a document. -/
theorem kiElem (hw : Region.wanted o (yielded ops a.tmps) = true) (ty : TypeId) (x : Operand) (ho : o.op = .load ty x) (d : TypeDesc) (hu : P.underlying ty = some d) (hd : d.isRow = true) (hi : (P.info? ty).map (·.size) = some 4)
    (K : Hid (KG w0 w bs ds)) {ad : Addr} {k : Nat} (hx : a.eval x = .pointer (some (ad.add (k * 4)))) {hs : List Hd} {b : Bool} (hm : (⟨hs, some ad, b⟩ : DocR) ∈ ds) {l : Hd} (hl : hs[k]? = some l)
    (h : wpListIn F n P ops Q rest (a.put o.dst (.agg #[.int .i64 l.l.q, .slice l.A l.l.ls.length l.c, .int .i64 l.l.k, .slice l.B l.l.cs.length l.d])) w) : wpListIn F n P ops Q (o :: rest) a w :=
  wpListIn_loadV hw ty x ho hx (run_loadVar_addr w _ ty (encH l) d (fun j v hj => by
    obtain ⟨ad', e, _, hc⟩ := (K.out.at_ hm).row (by intro e; have : hs = [] := e; rw [this] at hl; simp at hl)
    injection e with e
    subst e
    exact hc k l hl j v hj) hu hd (by rw [hi]; rfl)) h
/-- One field of a line of a document. -/
theorem kiElem1 (hw : Region.wanted o (yielded ops a.tmps) = true) (ty : TypeId) (x : Operand) (ho : o.op = .load ty x) (d : TypeDesc) (hu : P.underlying ty = some d) (hd : d.isRow = false)
    (K : Hid (KG w0 w bs ds)) {ad : Addr} {k j : Nat} (hx : a.eval x = .pointer (some ⟨(ad.add (k * 4)).block, (ad.add (k * 4)).off + j, none⟩)) {hs : List Hd} {b : Bool} (hm : (⟨hs, some ad, b⟩ : DocR) ∈ ds) {l : Hd} (hl : hs[k]? = some l) (hj : 0 < j) {v : Value} (hv : (encH l)[j]? = some v)
    (h : wpListIn F n P ops Q rest (a.put o.dst v) w) : wpListIn F n P ops Q (o :: rest) a w :=
  wpListIn_loadV hw ty x ho hx (run_loadVar_one w _ ty v d (by
    obtain ⟨ad', e, _, hc⟩ := (K.out.at_ hm).row (by intro e; have : hs = [] := e; rw [this] at hl; simp at hl)
    injection e with e
    subst e
    have := hc k l hl j v hv
    rwa [Addr.add_pos _ hj] at this) hu hd) h
/-- A new box of a value. -/
theorem kiBox (hw : Region.wanted o (yielded ops a.tmps) = true) (t : TypeId) (x : Operand) (ho : o.op = .box t x) (d : Option Tmp) (hd : o.dst = d) {v : Value} (hx : a.eval x = v) (cs : List Value) (hc : v.cells = cs.toArray) (K : Hid (KG w0 w bs ds))
    (h : ∀ g w', Hid (KG w0 w' (⟨g, t, cs⟩ :: bs) ds) → wpListIn F n P ops Q rest (a.put d (.pointer (some ⟨g, 0, none⟩))) w') : wpListIn F n P ops Q (o :: rest) a w :=
  wpListIn_step fun K' hK => by
    subst hd hx
    rw [if_pos hw]
    unfold Oper.wpIn
    refine ⟨by simp [Oper.about, ho], ?_⟩
    rw [Oper.semAt_plain F _ _ (by rw [ho]; intro c hc'; cases hc')]
    unfold execOp
    simp only [ho, Sem.run_bind, Instr.box, newVar, newRow, run_newObj_alloc, Sem.run_pure, Result.andThen_ok, hc]
    exact hK _ _ (h _ _ (hid (K.out.new t cs rfl rfl)))
/-- A new box of nothing. -/
theorem kiAlloc (hw : Region.wanted o (yielded ops a.tmps) = true) (t : TypeId) (ho : o.op = .alloc t) (d : Option Tmp) (hd : o.dst = d) (cs : List Value) (hz : ∀ w : World, (Instr.alloc t true (.tuple #[])).run P w = .ok (.pointer (some ⟨w.heap.size, 0, none⟩)) (w.alloc (.cells cs.toArray t))) (K : Hid (KG w0 w bs ds))
    (h : ∀ g w', Hid (KG w0 w' (⟨g, t, cs⟩ :: bs) ds) → wpListIn F n P ops Q rest (a.put d (.pointer (some ⟨g, 0, none⟩))) w') : wpListIn F n P ops Q (o :: rest) a w :=
  wpListIn_step fun K' hK => by
    subst hd
    rw [if_pos hw]
    unfold Oper.wpIn
    refine ⟨by simp [Oper.about, ho], ?_⟩
    rw [Oper.semAt_plain F _ _ (by rw [ho]; intro c hc'; cases hc')]
    unfold execOp
    simp only [ho, hz, Sem.run_bind, Sem.run_pure, Result.andThen_ok]
    exact hK _ _ (h _ _ (hid (K.out.new t cs rfl rfl)))
/-- Cells of a box stored to. -/
theorem kiStore (hw : Region.wanted o (yielded ops a.tmps) = true) (ty : TypeId) (x y : Operand) (ho : o.op = .store ty x y) (m : Nat) (hi : (P.info? ty).map (·.size) = some m) (O1 : List BoxG) {t : BoxG} {O2 : List BoxG} (K : Hid (KG w0 w (O1 ++ t :: O2) ds)) {off : Nat} (hx : a.eval x = .pointer (some ⟨t.g, off, none⟩))
    {v : Value} (hy : a.eval y = v) (vs : List Value) (hv : v.cells = vs.toArray) (hn : vs.length = m) (hle : off + m ≤ t.cs.length) (h1 : ∀ u ∈ vs, u.oneCell' = true) {cs : List Value} (hc : set2 t.cs off vs = cs)
    (h : ∀ w', Hid (KG w0 w' (O1 ++ ⟨t.g, t.t, cs⟩ :: O2) ds) → wpListIn F n P ops Q rest (a.put o.dst undef) w') : wpListIn F n P ops Q (o :: rest) a w :=
  wpListIn_step fun K' hK => by
    subst hc hy
    rw [if_pos hw]
    have hb := K.out.bx t (by simp)
    obtain ⟨q1, q2, q3, q4, q5, q6⟩ := heap_setCells vs w t.g off t.cs t.t hb.2
    have hrun := run_storeCells_cells (P := P) t.g off vs 0 w (fun j hj => by
      rw [cell_of_row w t.g _ t.cs.toArray t.t (0, 0) hb.2]
      simp
      omega) (fun j hj => frozen_of_row w t.g _ _ _ hb.2) h1
    simp only [Nat.add_zero] at hrun
    have hst : (storeVar ty ⟨t.g, off, none⟩ (a.eval y)).run P w = .ok () (w.setCells t.g off vs) := by
      cases hq : P.info? ty with
      | none => simp [hq] at hi
      | some i =>
        have hs : i.size = vs.length := by rw [hn]; simpa [hq] using hi
        simp [storeVar, sizeOf, typeInfo, hq, hv, hs, hrun]
    unfold Oper.wpIn
    refine ⟨by simp [Oper.about, ho], ?_⟩
    rw [Oper.semAt_plain F _ _ (by rw [ho]; intro c hc'; cases hc')]
    unfold execOp
    simp only [ho, hx, Instr.storeAt, Instr.sureAddr, Sem.run_bind, Sem.run_pure, Result.andThen_ok, hst]
    exact hK _ _ (h _ (hid (K.out.set ⟨q3, q4, q5, q6⟩ q2 q1)))
/-- Cells of a box stored to. -/
theorem kiStoreT (hw : Region.wanted o (yielded ops a.tmps) = true) (ty : TypeId) (x y : Operand) (ho : o.op = .store ty x y) (m : Nat) (hi : (P.info? ty).map (·.size) = some m) (O1 : List BoxG) {t : BoxG} {O2 : List BoxG} (K : Hid (KG w0 w (O1 ++ t :: O2) ds)) {off : Nat} (hx : a.eval x = .pointer (some ⟨t.g, off, none⟩))
    {v : Value} (hy : a.eval y = v) (vs : List Value) (hv : v.cells = vs.toArray) (hn : vs.length = m) (hle : off + m ≤ t.cs.length) (h1 : ∀ u ∈ vs, u.oneCell' = true) {cs : List Value} (hc : set2 t.cs off vs = cs)
    (h : ∀ w', Hid (Onl t.g w w') → Hid (KG w0 w' (O1 ++ ⟨t.g, t.t, cs⟩ :: O2) ds) → wpListIn F n P ops Q rest (a.put o.dst undef) w') : wpListIn F n P ops Q (o :: rest) a w :=
  wpListIn_step fun K' hK => by
    subst hc hy
    rw [if_pos hw]
    have hb := K.out.bx t (by simp)
    obtain ⟨q1, q2, q3, q4, q5, q6⟩ := heap_setCells vs w t.g off t.cs t.t hb.2
    have hrun := run_storeCells_cells (P := P) t.g off vs 0 w (fun j hj => by
      rw [cell_of_row w t.g _ t.cs.toArray t.t (0, 0) hb.2]
      simp
      omega) (fun j hj => frozen_of_row w t.g _ _ _ hb.2) h1
    simp only [Nat.add_zero] at hrun
    have hst : (storeVar ty ⟨t.g, off, none⟩ (a.eval y)).run P w = .ok () (w.setCells t.g off vs) := by
      cases hq : P.info? ty with
      | none => simp [hq] at hi
      | some i =>
        have hs : i.size = vs.length := by rw [hn]; simpa [hq] using hi
        simp [storeVar, sizeOf, typeInfo, hq, hv, hs, hrun]
    unfold Oper.wpIn
    refine ⟨by simp [Oper.about, ho], ?_⟩
    rw [Oper.semAt_plain F _ _ (by rw [ho]; intro c hc'; cases hc')]
    unfold execOp
    simp only [ho, hx, Instr.storeAt, Instr.sureAddr, Sem.run_bind, Sem.run_pure, Result.andThen_ok, hst]
    exact hK _ _ (h _ (hid ⟨q3, q4, q5, q6, fun k hk => q2 k hk⟩) (hid (K.out.set ⟨q3, q4, q5, q6⟩ q2 q1)))
/-- A new box of nothing. -/
theorem kiAllocB (hw : Region.wanted o (yielded ops a.tmps) = true) (t : TypeId) (ho : o.op = .alloc t) (d : Option Tmp) (hd : o.dst = d) (cs : List Value) (hz : ∀ w : World, (Instr.alloc t true (.tuple #[])).run P w = .ok (.pointer (some ⟨w.heap.size, 0, none⟩)) (w.alloc (.cells cs.toArray t))) (K : Hid (KG w0 w bs ds))
    (h : ∀ g w', Hid (Below w.heap.size w w') → Hid (KG w0 w' (⟨g, t, cs⟩ :: bs) ds) → wpListIn F n P ops Q rest (a.put d (.pointer (some ⟨g, 0, none⟩))) w') : wpListIn F n P ops Q (o :: rest) a w :=
  wpListIn_step fun K' hK => by
    subst hd
    rw [if_pos hw]
    unfold Oper.wpIn
    refine ⟨by simp [Oper.about, ho], ?_⟩
    rw [Oper.semAt_plain F _ _ (by rw [ho]; intro c hc'; cases hc')]
    unfold execOp
    simp only [ho, hz, Sem.run_bind, Sem.run_pure, Result.andThen_ok]
    exact hK _ _ (h _ _ (hid ((Below.refl _ w).alloc (Nat.le_refl _) _)) (hid (K.out.new t cs rfl rfl)))
/-- Some cells of a box that was there, as a struct. -/
theorem kiOldA (hw : Region.wanted o (yielded ops a.tmps) = true) (ty : TypeId) (x : Operand) (ho : o.op = .load ty x) (m : Nat) (d : TypeDesc) (hu : P.underlying ty = some d) (hd : d.isRow = true) (hi : (P.info? ty).map (·.size) = some m) {w1 : World} {bs1 : List BoxG} {ds1 : List DocR}
    (KO : Hid (KG w0 w1 bs1 ds1)) (K : Hid (KG w1 w bs ds)) {g off : Nat} (hx : a.eval x = .pointer (some ⟨g, off, none⟩)) {t : TypeId} {cs part : List Value} (hb : (⟨g, t, cs⟩ : BoxG) ∈ bs1) (hp : (cs.drop off).take m = part) (hn : part.length = m)
    (h : wpListIn F n P ops Q rest (a.put o.dst (.agg part.toArray)) w) : wpListIn F n P ops Q (o :: rest) a w :=
  wpListIn_loadV hw ty x ho hx (run_loadVar_addr w _ ty part d (fun j v hj => by
    rw [Addr.add_off]
    rw [K.out.b.cell (KO.out.lt hb)]
    refine KO.out.cell hb ?_
    rw [← hp, List.getElem?_take] at hj
    split at hj
    · rwa [List.getElem?_drop] at hj
    · cases hj) hu hd (by rw [hi, hn])) h
/-- One cell of a box that was there. -/
theorem kiOld1 (hw : Region.wanted o (yielded ops a.tmps) = true) (ty : TypeId) (x : Operand) (ho : o.op = .load ty x) (d : TypeDesc) (hu : P.underlying ty = some d) (hd : d.isRow = false) {w1 : World} {bs1 : List BoxG} {ds1 : List DocR}
    (KO : Hid (KG w0 w1 bs1 ds1)) (K : Hid (KG w1 w bs ds)) {g off : Nat} (hx : a.eval x = .pointer (some ⟨g, off, none⟩)) {t : TypeId} {cs : List Value} {v : Value} (hb : (⟨g, t, cs⟩ : BoxG) ∈ bs1) (hp : cs[off]? = some v)
    (h : wpListIn F n P ops Q rest (a.put o.dst v) w) : wpListIn F n P ops Q (o :: rest) a w :=
  wpListIn_loadV hw ty x ho hx (run_loadVar_one w _ ty v d ((K.out.b.cell (KO.out.lt hb)).trans (KO.out.cell hb hp)) hu hd) h
end
end Go.Proofs.YtblbfoniimnkcaaGreatDoor
