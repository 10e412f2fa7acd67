/- Texts on cells and lines, put together: Low, AttPlain, AttName. -/
import Derived.Lib.MapLaws
import Derived.WalkKit
import Derived.Test.YtblbfoniimnkcaaGreatDoorLnBaseA
import Derived.Test.YtblbfoniimnkcaaGreatDoorLnBaseB
import Derived.Lib.ValidLaws
import Derived.Lib.IndexMore
import Derived.Test.YtblbfoniimnkcaaGreatDoorProg
import Derived.IntWalk
import Derived.Laws.RangeString
/- Plain: letters made small, by strings.Map and byte by byte; the names of tags, and what finds them. No program in sight. -/
namespace Go.Proofs.YtblbfoniimnkcaaGreatDoor
open Go.Lib

/-- What the mapping makes of a rune. -/
def lowI (c : Int) : Int := if 65 ≤ c ∧ c ≤ 90 then c + 32 else c
/-- What the reference makes of a byte. -/
def lowB (c : UInt8) : UInt8 := if 65 ≤ c.toNat ∧ c.toNat ≤ 90 then c + 32 else c
theorem lowI_bd (x : Nat) (h : x ≤ 1114111) : -2147483648 ≤ lowI x ∧ lowI x ≤ 2147483647 := by unfold lowI; split <;> omega
theorem lowB_nat (c : UInt8) : ((lowB c).toNat : Int) = lowI (c.toNat : Int) := by
  have h := c.toNat_lt
  unfold lowB lowI
  by_cases h1 : 65 ≤ c.toNat ∧ c.toNat ≤ 90
  · rw [if_pos h1, if_pos (by omega)]
    have : (c + 32).toNat = (c.toNat + 32) % 256 := by simp [UInt8.toNat_add]
    omega
  · rw [if_neg h1, if_neg (by omega)]
theorem lowB_great (c : UInt8) (h : 128 ≤ c.toNat) : lowB c = c := by unfold lowB; rw [if_neg (by omega)]

/-- What is encoded of a rune beyond ASCII begins with a byte beyond ASCII. -/
theorem encodeRune_head (r : Int) (h : 128 ≤ r) : ∃ x l, encodeRune r = x :: l ∧ 128 ≤ x.toNat := by
  have key : ∀ z : Int, 128 ≤ z → z ≤ 255 → 128 ≤ z.toNat.toUInt8.toNat := fun z h0 h1 => by
    rw [Nat.toUInt8, UInt8.toNat_ofNat']; omega
  unfold encodeRune encodeRuneZ
  rw [if_neg (by omega)]
  by_cases h1 : 128 ≤ r ∧ r ≤ 2047
  · rw [if_pos h1]; exact ⟨_, _, rfl, key _ (by omega) (by omega)⟩
  · rw [if_neg h1]
    by_cases h2 : (2048 ≤ r ∧ r < 55296) ∨ (57343 < r ∧ r ≤ 65535)
    · rw [if_pos h2]; exact ⟨_, _, rfl, key _ (by omega) (by omega)⟩
    · rw [if_neg h2]
      by_cases h3 : 65536 ≤ r ∧ r ≤ 1114111
      · rw [if_pos h3]; exact ⟨_, _, rfl, key _ (by omega) (by omega)⟩
      · rw [if_neg h3]; exact ⟨_, _, rfl, by decide⟩
theorem decodeL_ascii (x : UInt8) (l : List UInt8) (h : x.toNat < 128) : decodeL (x :: l) = (x.toNat, 1) := by
  rw [decodeL_N]; unfold decodeN; simp [h]
theorem decodeL_great (x : UInt8) (l : List UInt8) (h : 128 ≤ x.toNat) : 128 ≤ (decodeL (x :: l)).1 := by
  have hx := x.toNat_lt
  rw [decodeL_N]
  simp only [List.getD_cons_zero]
  rcases decodeN_shape (x :: l).length x.toNat ((x :: l).getD 1 0).toNat ((x :: l).getD 2 0).toNat ((x :: l).getD 3 0).toNat with ⟨c, e⟩ | ⟨c1, c2, c3, cv, e⟩ | ⟨c1, c2, c3, c4, cv, cs, e⟩ | ⟨c1, c2, c3, c4, c5, cv, cw, e⟩ | e
  · omega
  · rw [e]; exact cv
  · rw [e]; dsimp only; omega
  · rw [e]; dsimp only; omega
  · rw [e]; decide

/-- Against a text of ASCII the two are one. -/
theorem mapD_low : ∀ (n : Nat) (l b : List UInt8), l.length ≤ n → (∀ y ∈ b, y.toNat < 128) → (mapD lowI l = b ↔ l.map lowB = b)
  | _, [], b, _, _ => by simp [mapD_nil]
  | 0, x :: l, b, h, _ => by simp at h
  | n + 1, x :: l, b, hn, hb => by
    rw [mapD_step lowI (x :: l) (by simp), List.map_cons]
    by_cases hx : x.toNat < 128
    · rw [decodeL_ascii x l hx]
      dsimp only
      have hl : lowI (x.toNat : Int) = ((lowB x).toNat : Int) := (lowB_nat x).symm
      have hlt : (lowB x).toNat < 128 := by have := hl; unfold lowI at this; split at this <;> omega
      rw [hl, if_pos (by omega)]
      have he : encodeRune ((lowB x).toNat : Int) = [lowB x] := by
        unfold encodeRune
        rw [encodeRuneZ_one (by omega) (by omega)]
        simp only [List.map_cons, List.map_nil]
        rw [toByte _ (lowB x) rfl]
      rw [he]
      simp only [List.drop_succ_cons, List.drop_zero, List.cons_append, List.nil_append]
      cases b with
      | nil => simp
      | cons y b =>
        have ih := mapD_low n l b (by simp at hn; omega) (fun z hz => hb z (by simp [hz]))
        simp only [List.cons.injEq, ih]
    · have hd := decodeL_great x l (by omega)
      have hlow : lowI ((decodeL (x :: l)).1 : Int) = ((decodeL (x :: l)).1 : Int) := by unfold lowI; rw [if_neg (by omega)]
      rw [hlow, if_pos (by omega)]
      obtain ⟨y, t, ey, hy⟩ := encodeRune_head ((decodeL (x :: l)).1 : Int) (by omega)
      rw [ey, lowB_great x (by omega)]
      constructor
      · intro h
        have := hb y (by rw [← h]; simp)
        omega
      · intro h
        have := hb x (by rw [← h]; simp)
        omega

def nmS (l : List UInt8) : ByteArray := ⟨l.toArray⟩
/-- The names of each tag, its own first. -/
def namesT : Nat → List (List UInt8)
  | 1 => [[100, 105, 118]] | 2 => [[112]] | 3 => [[104, 49]] | 4 => [[104, 50]] | 5 => [[104, 51]]
  | 6 => [[98, 108, 111, 99, 107, 113, 117, 111, 116, 101]] | 7 => [[117, 108]] | 8 => [[111, 108]] | 9 => [[108, 105]] | 10 => [[97]]
  | 11 => [[98], [115, 116, 114, 111, 110, 103]] | 12 => [[105], [101, 109]] | 13 => [[117], [105, 110, 115]]
  | 14 => [[115], [115, 116, 114, 105, 107, 101], [100, 101, 108]] | 15 => [[115, 112, 97, 110]] | 16 => [[98, 114]]
  | _ => []
/-- All names, each with its tag, in order. -/
def pairsT (n : Nat) : List (List UInt8 × Nat) := (List.range n).flatMap fun t => (namesT t).map fun s => (s, t)
/-- The tag of a name. -/
def findT (k : List UInt8) : Option Nat := ((pairsT 17).find? fun p => p.1 == k).map (·.2)
theorem pairs_ascii : ∀ p ∈ pairsT 17, ∀ y ∈ p.1, y.toNat < 128 := by decide
theorem find_congr {α : Type} {p q : α → Bool} : ∀ {l : List α}, (∀ x ∈ l, p x = q x) → l.find? p = l.find? q
  | [], _ => rfl
  | x :: l, h => by
    rw [List.find?_cons, List.find?_cons, h x (by simp), find_congr fun y hy => h y (by simp [hy])]
theorem findT_low (l : List UInt8) : findT (mapD lowI l) = findT (l.map lowB) := by
  unfold findT
  rw [find_congr fun p hp => ?_]
  have := mapD_low l.length l p.1 (Nat.le_refl _) (pairs_ascii p hp)
  rw [Bool.eq_iff_iff, beq_iff_eq, beq_iff_eq, eq_comm, this, eq_comm]

/-- The class of each tag. -/
def classN : Nat → Int
  | 0 => 1 | 1 => 2 | 2 => 3 | 3 => 3 | 4 => 3 | 5 => 3 | 6 => 2 | 7 => 2 | 8 => 2 | 9 => 3 | 16 => 5 | _ => 4
/-- A tag's names as a slice in block b + t. -/
def rowV (b t : Nat) : Value := if namesT t = [] then .slice none 0 0 else .slice (some ⟨b + t, 0, none⟩) (namesT t).length (namesT t).length
/-- The table's cells. -/
def tabC (b : Nat) : List Value := (List.range 17).flatMap fun t => [rowV b t, .int .i64 (classN t)]
/-- Its names lie in memory. -/
def NamesAt (w : World) (b : Nat) : Prop := ∀ t j s, (namesT t)[j]? = some s → w.cell? ⟨b + t, j, none⟩ = some (.string (nmS s))
end Go.Proofs.YtblbfoniimnkcaaGreatDoor

/- Plain: a text is valid UTF-8 just if its runes, encoded, are it. Values and targets of links. -/
namespace Go.Proofs.YtblbfoniimnkcaaGreatDoor
open Go.RowKit Go.Lib

theorem decode_ok (s : ByteArray) (i : Nat) : Utf8.valid ((Utf8.decode s i).1 : Int) = true := by
  have h2 : ∀ c : Nat, c < 55296 → Utf8.valid (c : Int) = true := fun c h => by rw [validRune_eq]; exact decide_eq_true (by omega)
  have hr : Utf8.valid ((65533 : Nat) : Int) = true := by decide
  unfold Utf8.decode
  extract_lets at' cont b0
  repeat' split
  all_goals dsimp only [Utf8.runeError]
  all_goals first
    | exact h2 _ (by omega)
    | with_reducible exact hr
    | (rename_i h; exact (Bool.and_eq_true_iff.1 h).2)
set_option maxRecDepth 100000 in
theorem encode_list (r : Nat) (h : Utf8.valid (r : Int) = true) : (Utf8.encode (r : Int)).data.toList = encodeRune (r : Int) := by
  have hv := h
  rw [validRune_eq] at hv
  have hv := of_decide_eq_true hv
  have key : ∀ a : Nat, ((a : Int)).toNat.toUInt8 = UInt8.ofNat a := fun a => by simp
  unfold Utf8.encode encodeRune
  rw [if_pos h]
  simp only [Int.toNat_natCast]
  by_cases h1 : r < 128
  · rw [if_pos h1, encodeRuneZ_one (by omega) (by omega)]; simp
  · rw [if_neg h1]
    by_cases h2 : r < 2048
    · rw [if_pos h2, encodeRuneZ_two (by omega) (by omega)]
      have e1 : (192 + (r : Int) / 64) = ((192 + r / 64 : Nat) : Int) := by omega
      have e2 : (128 + (r : Int) % 64) = ((128 + r % 64 : Nat) : Int) := by omega
      rw [e1, e2]
      simp only [List.map_cons, List.map_nil, key]
    · rw [if_neg h2]
      by_cases h3 : r < 65536
      · rw [if_pos h3, encodeRuneZ_three (by omega)]
        have e1 : (224 + (r : Int) / 4096) = ((224 + r / 4096 : Nat) : Int) := by omega
        have e2 : (128 + (r : Int) / 64 % 64) = ((128 + r / 64 % 64 : Nat) : Int) := by omega
        have e3 : (128 + (r : Int) % 64) = ((128 + r % 64 : Nat) : Int) := by omega
        rw [e1, e2, e3]
        simp only [List.map_cons, List.map_nil, key]
      · rw [if_neg h3, encodeRuneZ_four (by omega) (by omega)]
        have e0 : (240 + (r : Int) / 262144) = ((240 + r / 262144 : Nat) : Int) := by omega
        have e1 : (128 + (r : Int) / 4096 % 64) = ((128 + r / 4096 % 64 : Nat) : Int) := by omega
        have e2 : (128 + (r : Int) / 64 % 64) = ((128 + r / 64 % 64 : Nat) : Int) := by omega
        have e3 : (128 + (r : Int) % 64) = ((128 + r % 64 : Nat) : Int) := by omega
        rw [e0, e1, e2, e3]
        simp only [List.map_cons, List.map_nil, key]
theorem foldl_bytes : ∀ (ns : List Int) (r : ByteArray), (ns.foldl (fun r n => r ++ Utf8.encode n) r).data.toList = r.data.toList ++ ns.flatMap fun n => (Utf8.encode n).data.toList
  | [], r => by simp
  | n :: ns, r => by
    rw [List.foldl_cons, foldl_bytes ns, List.flatMap_cons]
    simp
theorem bytes_runes (ns : List Int) : (runesBytes ns).data.toList = ns.flatMap fun n => (Utf8.encode n).data.toList := by
  unfold runesBytes
  rw [foldl_bytes]; rfl
/-- From byte p on: the runes, encoded, are what there is, or longer. -/
theorem enc_from (s : ByteArray) : ∀ (n p : Nat), s.size ≤ p + n → p ≤ s.size →
    (validD (s.data.toList.drop p) = true → (decFrom s p).flatMap (fun n => (Utf8.encode n).data.toList) = s.data.toList.drop p) ∧
    s.size - p ≤ ((decFrom s p).flatMap fun n => (Utf8.encode n).data.toList).length ∧
    (validD (s.data.toList.drop p) = false → s.size - p < ((decFrom s p).flatMap fun n => (Utf8.encode n).data.toList).length) := by
  intro n
  induction n with
  | zero =>
    intro p h0 h1
    have hp : s.data.toList.drop p = [] := List.drop_eq_nil_of_le (by rw [← Lib.size_eq]; omega)
    rw [decFrom_ge s p (by omega), hp]
    exact ⟨fun _ => rfl, by simp; omega, fun h => by rw [validD_nil] at h; cases h⟩
  | succ n ih =>
    intro p h0 h1
    rcases Nat.lt_or_ge p s.size with hp | hp
    · have hne : s.data.toList.drop p ≠ [] := by
        intro e
        have := congrArg List.length e
        rw [List.length_drop, ← Lib.size_eq] at this
        simp at this
        omega
      have hdl : (s.data.toList.drop p).length = s.size - p := by rw [List.length_drop, ← Lib.size_eq]
      have hw := decodeL_width (s.data.toList.drop p)
      have hle := decodeL_le _ hne
      have hv := decode_ok s p
      have hel := encode_list _ hv
      have hst := validD_step _ hne
      have hed := encode_decode _ hne
      rw [decodeL_drop] at hw hle hst hed
      rw [hdl] at hle
      rw [List.drop_drop] at hst
      obtain ⟨a, b, c⟩ := ih (p + (Utf8.decode s p).2) (by omega) (by omega)
      rw [decFrom_lt s p hp, List.flatMap_cons, List.length_append, hel]
      by_cases hbad : (Utf8.decode s p).1 = 65533 ∧ (Utf8.decode s p).2 = 1
      · rw [if_pos hbad] at hst
        rw [hst, hbad.1, hbad.2]
        rw [hbad.2] at b
        have e3 : (encodeRune ((65533 : Nat) : Int)).length = 3 := by decide
        rw [e3]
        exact ⟨(fun h => by cases h), by omega, fun _ => by omega⟩
      · rw [if_neg hbad] at hst
        have hed := hed hbad
        rw [hst, hed]
        have hl : ((s.data.toList.drop p).take (Utf8.decode s p).2).length = (Utf8.decode s p).2 := by rw [List.length_take, hdl]; omega
        rw [hl]
        refine ⟨fun h => ?_, by omega, fun h => by have := c h; omega⟩
        rw [a h, ← List.drop_drop, List.take_append_drop]
    · have hp2 : s.data.toList.drop p = [] := List.drop_eq_nil_of_le (by rw [← Lib.size_eq]; omega)
      rw [decFrom_ge s p hp, hp2]
      exact ⟨fun _ => rfl, by simp; omega, fun h => by rw [validD_nil] at h; cases h⟩
theorem valid_iff (s : ByteArray) : validD s.data.toList = true ↔ runesBytes (runes s) = s := by
  obtain ⟨a, b, c⟩ := enc_from s s.size 0 (by omega) (by omega)
  rw [List.drop_zero] at a c
  rw [runes_eq]
  constructor
  · intro h
    have : (runesBytes (decFrom s 0)).data.toList = s.data.toList := by rw [bytes_runes, a h]
    cases s; cases hq : runesBytes (decFrom _ 0)
    rw [hq] at this
    simp at this
    rw [this]
  · intro h
    cases hv : validD s.data.toList with
    | true => rfl
    | false =>
      have := c hv
      rw [← bytes_runes, h, ← Lib.size_eq] at this
      omega

/-- Is a text a value? -/
def valueB (s : ByteArray) : Bool := (runes s).all (fun c => decide (2 ≤ cls c)) && (decide (s.size ≤ 200) && validD s.data.toList)
def jsL : List UInt8 := [106, 97, 118, 97, 115, 99, 114, 105, 112, 116]
/-- What of a text is ahead of its first colon. -/
def headL (l : List UInt8) : List UInt8 := l.takeWhile (· != 58)
def jsB (l : List UInt8) : Bool := decide ((headL l).map lowB = jsL)
/-- Is a text a link's target? -/
def targetB (s : ByteArray) : Bool := valueB s && (if h : 0 < s.size then (s[0] != 32 && (s[s.size - 1] != 32 && !(jsB s.data.toList))) else false)
end Go.Proofs.YtblbfoniimnkcaaGreatDoor

/- The walks of attrs.Name and of the reference's Name. -/
namespace Go.Proofs.YtblbfoniimnkcaaGreatDoor
open Go.RowKit Go.Lib

def okName (c : UInt8) : Bool := decide ((97 ≤ c.toNat ∧ c.toNat ≤ 122) ∨ (48 ≤ c.toNat ∧ c.toNat ≤ 57) ∨ c.toNat = 45)
def headName (l : List UInt8) : Bool := match l with | [] => false | c :: _ => decide (97 ≤ c.toNat ∧ c.toNat ≤ 122)
/-- Is a text a name? -/
def nameB (l : List UInt8) : Bool := decide (l.length ≤ 16) && headName l && l.all okName
theorem ret_bo {a b : Bool} (h : a = b) : Ending.returned (.bool a) = .returned (.bool b) := by rw [h]
theorem nameB_len {l : List UInt8} (h : 16 < l.length) : nameB l = false := by unfold nameB; rw [decide_eq_false (by omega)]; rfl
theorem nameB_at {s : ByteArray} {k : Nat} (hk : k < s.size) (h : okName s[k] = false) : nameB s.data.toList = false := by
  have : s.data.toList.all okName = false := by
    rw [List.all_eq_false]
    exact ⟨s[k], by have : s.data.toList[k]'(by rw [← Lib.size_eq]; exact hk) = s[k] := rfl; rw [← this]; exact List.getElem_mem _, by rw [h]; decide⟩
  unfold nameB
  rw [this, Bool.and_false]
theorem headName_at {s : ByteArray} (h0 : 0 < s.size) : headName s.data.toList = decide (97 ≤ s[0].toNat ∧ s[0].toNat ≤ 122) := by
  have e : s.data.toList = s[0] :: s.data.toList.tail := by
    have hl : 0 < s.data.toList.length := by rw [← Lib.size_eq]; exact h0
    cases hq : s.data.toList with
    | nil => rw [hq] at hl; simp at hl
    | cons c r =>
      have : s.data.toList[0]'(by rw [hq]; simp) = s[0] := rfl
      simp only [hq, List.getElem_cons_zero] at this
      rw [this]; rfl
  rw [e]; rfl
theorem nameB_head {s : ByteArray} (h0 : 0 < s.size) (h : ¬ (97 ≤ s[0].toNat ∧ s[0].toNat ≤ 122)) : nameB s.data.toList = false := by
  unfold nameB
  rw [headName_at h0, decide_eq_false h, Bool.and_false, Bool.false_and]
theorem nameB_all {s : ByteArray} (h0 : 0 < s.size) (h1 : s.size ≤ 16) (hh : 97 ≤ s[0].toNat ∧ s[0].toNat ≤ 122) (h : ∀ k (hk : k < s.size), okName s[k] = true) : nameB s.data.toList = true := by
  unfold nameB
  rw [headName_at h0, decide_eq_true hh, decide_eq_true (by rw [← Lib.size_eq]; exact h1), Bool.true_and, Bool.true_and, List.all_eq_true]
  intro c hc
  obtain ⟨k, hk, rfl⟩ := List.getElem_of_mem hc
  exact h k (by rw [Lib.size_eq]; exact hk)
theorem okName_of {c : UInt8} (h : (97 ≤ (c.toNat : Int) ∧ (c.toNat : Int) ≤ 122) ∨ (48 ≤ (c.toNat : Int) ∧ (c.toNat : Int) ≤ 57) ∨ (c.toNat : Int) = 45) : okName c = true := decide_eq_true (by omega)
theorem okName_no {c : UInt8} (h : ¬ ((97 ≤ (c.toNat : Int) ∧ (c.toNat : Int) ≤ 122) ∨ (48 ≤ (c.toNat : Int) ∧ (c.toNat : Int) ≤ 57) ∨ (c.toNat : Int) = 45)) : okName c = false := decide_eq_false (by omega)

theorem decode_byte {s : ByteArray} {p : Nat} (hp : p < s.size) : (s[p].toNat < 128 → Utf8.decode s p = (s[p].toNat, 1)) ∧ (128 ≤ s[p].toNat → 128 ≤ (Utf8.decode s p).1) := by
  have hd : s.data.toList.drop p = s[p] :: s.data.toList.drop (p + 1) := by
    rw [List.drop_eq_getElem_cons (by rw [← Lib.size_eq]; exact hp)]; rfl
  rw [← Lib.decodeL_drop, hd]
  exact ⟨fun h => decodeL_ascii _ _ h, fun h => decodeL_great _ _ h⟩

def IsBool (b : Bool) (w : World) (e : Ending) (w' : World) : Prop := e = .returned (.bool b) ∧ Below w.heap.size w w'
end Go.Proofs.YtblbfoniimnkcaaGreatDoor
