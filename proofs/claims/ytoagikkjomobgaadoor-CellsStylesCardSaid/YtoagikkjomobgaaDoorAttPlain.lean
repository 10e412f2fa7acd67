/- Plain: a text is valid UTF-8 just if its runes, encoded, are it. Values and targets of links. -/
import Derived.Test.YtoagikkjomobgaaDoorRunes
import Derived.Test.YtoagikkjomobgaaDoorChars
import Derived.Test.YtoagikkjomobgaaDoorLow
import Derived.Lib.ValidLaws
import Derived.Lib.IndexMore
namespace Go.Proofs.YtoagikkjomobgaaDoor
open Go.RowKit Go.Lib

theorem decode_ok (s : ByteArray) (i : Nat) : Utf8.valid ((Utf8.decode s i).1 : Int) = true := by
  have h2 : ∀ c : Nat, c < 55296 → Utf8.valid (c : Int) = true := fun c h => by rw [validRune_eq]; exact decide_eq_true (by omega)
  have hr : Utf8.valid ((65533 : Nat) : Int) = true := by decide
  unfold Utf8.decode
  extract_lets at' cont b0
  repeat' split
  all_goals dsimp only [Utf8.runeError]
  all_goals first
    | exact h2 _ (by omega)
    | with_reducible exact hr
    | (rename_i h; exact (Bool.and_eq_true_iff.1 h).2)
set_option maxRecDepth 100000 in
theorem encode_list (r : Nat) (h : Utf8.valid (r : Int) = true) : (Utf8.encode (r : Int)).data.toList = encodeRune (r : Int) := by
  have hv := h
  rw [validRune_eq] at hv
  have hv := of_decide_eq_true hv
  have key : ∀ a : Nat, ((a : Int)).toNat.toUInt8 = UInt8.ofNat a := fun a => by simp
  unfold Utf8.encode encodeRune
  rw [if_pos h]
  simp only [Int.toNat_natCast]
  by_cases h1 : r < 128
  · rw [if_pos h1, encodeRuneZ_one (by omega) (by omega)]; simp
  · rw [if_neg h1]
    by_cases h2 : r < 2048
    · rw [if_pos h2, encodeRuneZ_two (by omega) (by omega)]
      have e1 : (192 + (r : Int) / 64) = ((192 + r / 64 : Nat) : Int) := by omega
      have e2 : (128 + (r : Int) % 64) = ((128 + r % 64 : Nat) : Int) := by omega
      rw [e1, e2]
      simp only [List.map_cons, List.map_nil, key]
    · rw [if_neg h2]
      by_cases h3 : r < 65536
      · rw [if_pos h3, encodeRuneZ_three (by omega)]
        have e1 : (224 + (r : Int) / 4096) = ((224 + r / 4096 : Nat) : Int) := by omega
        have e2 : (128 + (r : Int) / 64 % 64) = ((128 + r / 64 % 64 : Nat) : Int) := by omega
        have e3 : (128 + (r : Int) % 64) = ((128 + r % 64 : Nat) : Int) := by omega
        rw [e1, e2, e3]
        simp only [List.map_cons, List.map_nil, key]
      · rw [if_neg h3, encodeRuneZ_four (by omega) (by omega)]
        have e0 : (240 + (r : Int) / 262144) = ((240 + r / 262144 : Nat) : Int) := by omega
        have e1 : (128 + (r : Int) / 4096 % 64) = ((128 + r / 4096 % 64 : Nat) : Int) := by omega
        have e2 : (128 + (r : Int) / 64 % 64) = ((128 + r / 64 % 64 : Nat) : Int) := by omega
        have e3 : (128 + (r : Int) % 64) = ((128 + r % 64 : Nat) : Int) := by omega
        rw [e0, e1, e2, e3]
        simp only [List.map_cons, List.map_nil, key]
theorem foldl_bytes : ∀ (ns : List Int) (r : ByteArray), (ns.foldl (fun r n => r ++ Utf8.encode n) r).data.toList = r.data.toList ++ ns.flatMap fun n => (Utf8.encode n).data.toList
  | [], r => by simp
  | n :: ns, r => by
    rw [List.foldl_cons, foldl_bytes ns, List.flatMap_cons]
    simp
theorem bytes_runes (ns : List Int) : (runesBytes ns).data.toList = ns.flatMap fun n => (Utf8.encode n).data.toList := by
  unfold runesBytes
  rw [foldl_bytes]; rfl
/-- From byte p on: the runes, encoded, are what there is, or longer. -/
theorem enc_from (s : ByteArray) : ∀ (n p : Nat), s.size ≤ p + n → p ≤ s.size →
    (validD (s.data.toList.drop p) = true → (decFrom s p).flatMap (fun n => (Utf8.encode n).data.toList) = s.data.toList.drop p) ∧
    s.size - p ≤ ((decFrom s p).flatMap fun n => (Utf8.encode n).data.toList).length ∧
    (validD (s.data.toList.drop p) = false → s.size - p < ((decFrom s p).flatMap fun n => (Utf8.encode n).data.toList).length) := by
  intro n
  induction n with
  | zero =>
    intro p h0 h1
    have hp : s.data.toList.drop p = [] := List.drop_eq_nil_of_le (by rw [← Lib.size_eq]; omega)
    rw [decFrom_ge s p (by omega), hp]
    exact ⟨fun _ => rfl, by simp; omega, fun h => by rw [validD_nil] at h; cases h⟩
  | succ n ih =>
    intro p h0 h1
    rcases Nat.lt_or_ge p s.size with hp | hp
    · have hne : s.data.toList.drop p ≠ [] := by
        intro e
        have := congrArg List.length e
        rw [List.length_drop, ← Lib.size_eq] at this
        simp at this
        omega
      have hdl : (s.data.toList.drop p).length = s.size - p := by rw [List.length_drop, ← Lib.size_eq]
      have hw := decodeL_width (s.data.toList.drop p)
      have hle := decodeL_le _ hne
      have hv := decode_ok s p
      have hel := encode_list _ hv
      have hst := validD_step _ hne
      have hed := encode_decode _ hne
      rw [decodeL_drop] at hw hle hst hed
      rw [hdl] at hle
      rw [List.drop_drop] at hst
      obtain ⟨a, b, c⟩ := ih (p + (Utf8.decode s p).2) (by omega) (by omega)
      rw [decFrom_lt s p hp, List.flatMap_cons, List.length_append, hel]
      by_cases hbad : (Utf8.decode s p).1 = 65533 ∧ (Utf8.decode s p).2 = 1
      · rw [if_pos hbad] at hst
        rw [hst, hbad.1, hbad.2]
        rw [hbad.2] at b
        have e3 : (encodeRune ((65533 : Nat) : Int)).length = 3 := by decide
        rw [e3]
        exact ⟨(fun h => by cases h), by omega, fun _ => by omega⟩
      · rw [if_neg hbad] at hst
        have hed := hed hbad
        rw [hst, hed]
        have hl : ((s.data.toList.drop p).take (Utf8.decode s p).2).length = (Utf8.decode s p).2 := by rw [List.length_take, hdl]; omega
        rw [hl]
        refine ⟨fun h => ?_, by omega, fun h => by have := c h; omega⟩
        rw [a h, ← List.drop_drop, List.take_append_drop]
    · have hp2 : s.data.toList.drop p = [] := List.drop_eq_nil_of_le (by rw [← Lib.size_eq]; omega)
      rw [decFrom_ge s p hp, hp2]
      exact ⟨fun _ => rfl, by simp; omega, fun h => by rw [validD_nil] at h; cases h⟩
theorem valid_iff (s : ByteArray) : validD s.data.toList = true ↔ runesBytes (runes s) = s := by
  obtain ⟨a, b, c⟩ := enc_from s s.size 0 (by omega) (by omega)
  rw [List.drop_zero] at a c
  rw [runes_eq]
  constructor
  · intro h
    have : (runesBytes (decFrom s 0)).data.toList = s.data.toList := by rw [bytes_runes, a h]
    cases s; cases hq : runesBytes (decFrom _ 0)
    rw [hq] at this
    simp at this
    rw [this]
  · intro h
    cases hv : validD s.data.toList with
    | true => rfl
    | false =>
      have := c hv
      rw [← bytes_runes, h, ← Lib.size_eq] at this
      omega

/-- Is a text a value? -/
def valueB (s : ByteArray) : Bool := (runes s).all (fun c => decide (2 ≤ cls c)) && (decide (s.size ≤ 200) && validD s.data.toList)
def jsL : List UInt8 := [106, 97, 118, 97, 115, 99, 114, 105, 112, 116]
/-- What of a text is ahead of its first colon. -/
def headL (l : List UInt8) : List UInt8 := l.takeWhile (· != 58)
def jsB (l : List UInt8) : Bool := decide ((headL l).map lowB = jsL)
/-- Is a text a link's target? -/
def targetB (s : ByteArray) : Bool := valueB s && (if h : 0 < s.size then (s[0] != 32 && (s[s.size - 1] != 32 && !(jsB s.data.toList))) else false)
end Go.Proofs.YtoagikkjomobgaaDoor
