/- Plain: letters made small, by strings.Map and byte by byte; the names of tags, and what finds them. No program in sight. -/
import Derived.Lib.MapLaws
import Derived.WalkKit
namespace Go.Proofs.YtoagikkjomobgaaDoor
open Go.Lib

/-- What the mapping makes of a rune. -/
def lowI (c : Int) : Int := if 65 ≤ c ∧ c ≤ 90 then c + 32 else c
/-- What the reference makes of a byte. -/
def lowB (c : UInt8) : UInt8 := if 65 ≤ c.toNat ∧ c.toNat ≤ 90 then c + 32 else c
theorem lowI_bd (x : Nat) (h : x ≤ 1114111) : -2147483648 ≤ lowI x ∧ lowI x ≤ 2147483647 := by unfold lowI; split <;> omega
theorem lowB_nat (c : UInt8) : ((lowB c).toNat : Int) = lowI (c.toNat : Int) := by
  have h := c.toNat_lt
  unfold lowB lowI
  by_cases h1 : 65 ≤ c.toNat ∧ c.toNat ≤ 90
  · rw [if_pos h1, if_pos (by omega)]
    have : (c + 32).toNat = (c.toNat + 32) % 256 := by simp [UInt8.toNat_add]
    omega
  · rw [if_neg h1, if_neg (by omega)]
theorem lowB_great (c : UInt8) (h : 128 ≤ c.toNat) : lowB c = c := by unfold lowB; rw [if_neg (by omega)]

/-- What is encoded of a rune beyond ASCII begins with a byte beyond ASCII. -/
theorem encodeRune_head (r : Int) (h : 128 ≤ r) : ∃ x l, encodeRune r = x :: l ∧ 128 ≤ x.toNat := by
  have key : ∀ z : Int, 128 ≤ z → z ≤ 255 → 128 ≤ z.toNat.toUInt8.toNat := fun z h0 h1 => by
    rw [Nat.toUInt8, UInt8.toNat_ofNat']; omega
  unfold encodeRune encodeRuneZ
  rw [if_neg (by omega)]
  by_cases h1 : 128 ≤ r ∧ r ≤ 2047
  · rw [if_pos h1]; exact ⟨_, _, rfl, key _ (by omega) (by omega)⟩
  · rw [if_neg h1]
    by_cases h2 : (2048 ≤ r ∧ r < 55296) ∨ (57343 < r ∧ r ≤ 65535)
    · rw [if_pos h2]; exact ⟨_, _, rfl, key _ (by omega) (by omega)⟩
    · rw [if_neg h2]
      by_cases h3 : 65536 ≤ r ∧ r ≤ 1114111
      · rw [if_pos h3]; exact ⟨_, _, rfl, key _ (by omega) (by omega)⟩
      · rw [if_neg h3]; exact ⟨_, _, rfl, by decide⟩
theorem decodeL_ascii (x : UInt8) (l : List UInt8) (h : x.toNat < 128) : decodeL (x :: l) = (x.toNat, 1) := by
  rw [decodeL_N]; unfold decodeN; simp [h]
theorem decodeL_great (x : UInt8) (l : List UInt8) (h : 128 ≤ x.toNat) : 128 ≤ (decodeL (x :: l)).1 := by
  have hx := x.toNat_lt
  rw [decodeL_N]
  simp only [List.getD_cons_zero]
  rcases decodeN_shape (x :: l).length x.toNat ((x :: l).getD 1 0).toNat ((x :: l).getD 2 0).toNat ((x :: l).getD 3 0).toNat with ⟨c, e⟩ | ⟨c1, c2, c3, cv, e⟩ | ⟨c1, c2, c3, c4, cv, cs, e⟩ | ⟨c1, c2, c3, c4, c5, cv, cw, e⟩ | e
  · omega
  · rw [e]; exact cv
  · rw [e]; dsimp only; omega
  · rw [e]; dsimp only; omega
  · rw [e]; decide

/-- Against a text of ASCII the two are one. -/
theorem mapD_low : ∀ (n : Nat) (l b : List UInt8), l.length ≤ n → (∀ y ∈ b, y.toNat < 128) → (mapD lowI l = b ↔ l.map lowB = b)
  | _, [], b, _, _ => by simp [mapD_nil]
  | 0, x :: l, b, h, _ => by simp at h
  | n + 1, x :: l, b, hn, hb => by
    rw [mapD_step lowI (x :: l) (by simp), List.map_cons]
    by_cases hx : x.toNat < 128
    · rw [decodeL_ascii x l hx]
      dsimp only
      have hl : lowI (x.toNat : Int) = ((lowB x).toNat : Int) := (lowB_nat x).symm
      have hlt : (lowB x).toNat < 128 := by have := hl; unfold lowI at this; split at this <;> omega
      rw [hl, if_pos (by omega)]
      have he : encodeRune ((lowB x).toNat : Int) = [lowB x] := by
        unfold encodeRune
        rw [encodeRuneZ_one (by omega) (by omega)]
        simp only [List.map_cons, List.map_nil]
        rw [toByte _ (lowB x) rfl]
      rw [he]
      simp only [List.drop_succ_cons, List.drop_zero, List.cons_append, List.nil_append]
      cases b with
      | nil => simp
      | cons y b =>
        have ih := mapD_low n l b (by simp at hn; omega) (fun z hz => hb z (by simp [hz]))
        simp only [List.cons.injEq, ih]
    · have hd := decodeL_great x l (by omega)
      have hlow : lowI ((decodeL (x :: l)).1 : Int) = ((decodeL (x :: l)).1 : Int) := by unfold lowI; rw [if_neg (by omega)]
      rw [hlow, if_pos (by omega)]
      obtain ⟨y, t, ey, hy⟩ := encodeRune_head ((decodeL (x :: l)).1 : Int) (by omega)
      rw [ey, lowB_great x (by omega)]
      constructor
      · intro h
        have := hb y (by rw [← h]; simp)
        omega
      · intro h
        have := hb x (by rw [← h]; simp)
        omega

def nmS (l : List UInt8) : ByteArray := ⟨l.toArray⟩
/-- The names of each tag, its own first. -/
def namesT : Nat → List (List UInt8)
  | 1 => [[100, 105, 118]] | 2 => [[112]] | 3 => [[104, 49]] | 4 => [[104, 50]] | 5 => [[104, 51]]
  | 6 => [[98, 108, 111, 99, 107, 113, 117, 111, 116, 101]] | 7 => [[117, 108]] | 8 => [[111, 108]] | 9 => [[108, 105]] | 10 => [[97]]
  | 11 => [[98], [115, 116, 114, 111, 110, 103]] | 12 => [[105], [101, 109]] | 13 => [[117], [105, 110, 115]]
  | 14 => [[115], [115, 116, 114, 105, 107, 101], [100, 101, 108]] | 15 => [[115, 112, 97, 110]] | 16 => [[98, 114]]
  | _ => []
/-- All names, each with its tag, in order. -/
def pairsT (n : Nat) : List (List UInt8 × Nat) := (List.range n).flatMap fun t => (namesT t).map fun s => (s, t)
/-- The tag of a name. -/
def findT (k : List UInt8) : Option Nat := ((pairsT 17).find? fun p => p.1 == k).map (·.2)
theorem pairs_ascii : ∀ p ∈ pairsT 17, ∀ y ∈ p.1, y.toNat < 128 := by decide
theorem find_congr {α : Type} {p q : α → Bool} : ∀ {l : List α}, (∀ x ∈ l, p x = q x) → l.find? p = l.find? q
  | [], _ => rfl
  | x :: l, h => by
    rw [List.find?_cons, List.find?_cons, h x (by simp), find_congr fun y hy => h y (by simp [hy])]
theorem findT_low (l : List UInt8) : findT (mapD lowI l) = findT (l.map lowB) := by
  unfold findT
  rw [find_congr fun p hp => ?_]
  have := mapD_low l.length l p.1 (Nat.le_refl _) (pairs_ascii p hp)
  rw [Bool.eq_iff_iff, beq_iff_eq, beq_iff_eq, eq_comm, this, eq_comm]

/-- The class of each tag. -/
def classN : Nat → Int
  | 0 => 1 | 1 => 2 | 2 => 3 | 3 => 3 | 4 => 3 | 5 => 3 | 6 => 2 | 7 => 2 | 8 => 2 | 9 => 3 | 16 => 5 | _ => 4
/-- A tag's names as a slice in block b + t. -/
def rowV (b t : Nat) : Value := if namesT t = [] then .slice none 0 0 else .slice (some ⟨b + t, 0, none⟩) (namesT t).length (namesT t).length
/-- The table's cells. -/
def tabC (b : Nat) : List Value := (List.range 17).flatMap fun t => [rowV b t, .int .i64 (classN t)]
/-- Its names lie in memory. -/
def NamesAt (w : World) (b : Nat) : Prop := ∀ t j s, (namesT t)[j]? = some s → w.cell? ⟨b + t, j, none⟩ = some (.string (nmS s))
end Go.Proofs.YtoagikkjomobgaaDoor
