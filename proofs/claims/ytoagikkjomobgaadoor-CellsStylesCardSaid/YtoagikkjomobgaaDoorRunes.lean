/- The runes of a text, as the model decodes them. No program in sight. -/
import Derived.Test.YtoagikkjomobgaaDoorLib
namespace Go.Proofs.YtoagikkjomobgaaDoor
open Go.RowKit

/-- The characters of s from byte i on, at most b of them. -/
def dec (s : ByteArray) : Nat → Nat → List Int
  | 0, _ => []
  | b + 1, i => if i < s.size then ((Utf8.decode s i).1 : Int) :: dec s b (i + (Utf8.decode s i).2) else []
def runes (s : ByteArray) : List Int := dec s s.size 0

theorem decode_width (s : ByteArray) (i : Nat) : 1 ≤ (Utf8.decode s i).2 ∧ (Utf8.decode s i).2 ≤ 4 := by
  unfold Utf8.decode
  simp only
  repeat' split
  all_goals (dsimp only; omega)
theorem decode_range (s : ByteArray) (i : Nat) : (Utf8.decode s i).1 ≤ 1114111 := by
  have hv : ∀ c : Nat, Utf8.valid c = true → c ≤ 1114111 := fun c h => by
    rw [validRune_eq] at h
    have := of_decide_eq_true h
    omega
  unfold Utf8.decode
  extract_lets at' cont b0
  repeat' split
  all_goals dsimp only [Utf8.runeError]
  all_goals first
    | omega
    | (rename_i h; exact hv _ (Bool.and_eq_true_iff.1 h).2)

theorem dec_fuel (s : ByteArray) : ∀ b b' i, s.size ≤ i + b → s.size ≤ i + b' → dec s b i = dec s b' i := by
  intro b
  induction b with
  | zero =>
    intro b' i h h'
    cases b' with
    | zero => rfl
    | succ b' => simp only [dec]; rw [if_neg (by omega)]
  | succ b ih =>
    intro b' i h h'
    have hw := decode_width s i
    cases b' with
    | zero => simp only [dec]; rw [if_neg (by omega)]
    | succ b' =>
      simp only [dec]
      split
      · rw [ih b' _ (by omega) (by omega)]
      · rfl
/-- The characters from byte i on. -/
def decFrom (s : ByteArray) (i : Nat) : List Int := dec s s.size i
theorem decFrom_lt (s : ByteArray) (i : Nat) (h : i < s.size) : decFrom s i = ((Utf8.decode s i).1 : Int) :: decFrom s (i + (Utf8.decode s i).2) := by
  have hw := decode_width s i
  unfold decFrom
  obtain ⟨b, hb⟩ : ∃ b, s.size = b + 1 := ⟨s.size - 1, by omega⟩
  rw [hb, dec, if_pos h]
  rw [dec_fuel s b (b + 1) _ (by omega) (by omega)]
theorem decFrom_ge (s : ByteArray) (i : Nat) (h : s.size ≤ i) : decFrom s i = [] := by
  unfold decFrom
  cases hs : s.size with
  | zero => rfl
  | succ b => rw [dec, if_neg (by omega)]
theorem runes_eq (s : ByteArray) : runes s = decFrom s 0 := rfl
theorem length_dec (s : ByteArray) : ∀ b i, (dec s b i).length ≤ b := by
  intro b
  induction b with
  | zero => intro i; simp [dec]
  | succ b ih =>
    intro i
    simp only [dec]
    split
    · have := ih (i + (Utf8.decode s i).2); simp; omega
    · simp
theorem length_runes (s : ByteArray) : (runes s).length ≤ s.size := length_dec s _ _
theorem dec_range (s : ByteArray) : ∀ b i, ∀ r ∈ dec s b i, 0 ≤ r ∧ r ≤ 1114111 := by
  intro b
  induction b with
  | zero => intro i r h; simp [dec] at h
  | succ b ih =>
    intro i r h
    simp only [dec] at h
    split at h
    · rcases List.mem_cons.1 h with h | h
      · have := decode_range s i; omega
      · exact ih _ r h
    · cases h
theorem runes_range (s : ByteArray) : ∀ r ∈ runes s, 0 ≤ r ∧ r ≤ 1114111 := dec_range s _ _
theorem runesFrom_dec (s : ByteArray) : ∀ b i (acc : Array Value), Conv.runesFrom s b i acc = acc ++ ((dec s b i).map (Value.int .i32)).toArray := by
  intro b
  induction b with
  | zero => intro i acc; simp [Conv.runesFrom, dec]
  | succ b ih =>
    intro i acc
    unfold Conv.runesFrom
    simp only [dec]
    split
    · simp only [ih]
      simp
    · simp
theorem runesFrom_runes (s : ByteArray) : Conv.runesFrom s s.size 0 #[] = ((runes s).map (Value.int .i32)).toArray := by
  rw [runesFrom_dec]; simp [runes]
/-- One cell an element. -/
def encR (r : Int) : List Value := [.int .i32 r]
def encI (r : Int) : List Value := [.int .i64 r]
theorem encR_len (r : Int) : (encR r).length = 1 := rfl
theorem encI_len (r : Int) : (encI r).length = 1 := rfl
theorem flatR (xs : List Int) : xs.flatMap encR = xs.map (Value.int .i32) := by
  induction xs with
  | nil => rfl
  | cons x xs ih => simp [encR, ih]
theorem SlAt.atR {w : World} {B : Nat} {A : Option Addr} {xs : List Int} (h : SlAt encR 1 w B A xs) {k : Nat} (hk : k < xs.length) : ∃ ad x, A = some ad ∧ ad.block < B ∧ xs[k]? = some x ∧ w.cell? (ad.add k) = some (.int .i32 x) := by
  obtain ⟨ad, x, e, hb, hx, hc⟩ := h.at_ hk
  have := hc 0 _ rfl
  rw [add_zero', Nat.mul_one] at this
  exact ⟨ad, x, e, hb, hx, this⟩
theorem SlAt.atI {w : World} {B : Nat} {A : Option Addr} {xs : List Int} (h : SlAt encI 1 w B A xs) {k : Nat} (hk : k < xs.length) : ∃ ad x, A = some ad ∧ ad.block < B ∧ xs[k]? = some x ∧ w.cell? (ad.add k) = some (.int .i64 x) := by
  obtain ⟨ad, x, e, hb, hx, hc⟩ := h.at_ hk
  have := hc 0 _ rfl
  rw [add_zero', Nat.mul_one] at this
  exact ⟨ad, x, e, hb, hx, this⟩
theorem take_snoc' {α : Type} {xs : List α} {k : Nat} {x : α} (h : xs[k]? = some x) : xs.take (k + 1) = xs.take k ++ [x] := by
  rw [List.take_add_one, h]; rfl
/-- '[]rune(s)': a draw, a new row of the runes. -/
theorem run_runes (P : Program) (src dst e : TypeId) (s : ByteArray) (hs : P.underlying src = some .string) (hd : P.underlying dst = some (.slice e)) (he : P.underlying e = some (.int .i32)) (hsz : s.size ≤ 70368744177664) (w : World) :
    ∃ c o, (convert src dst (.string s)).run P w = .ok (.slice (some ⟨w.heap.size, 0, none⟩) (runes s).length c) (w.drew.alloc o) ∧ Own encR 1 e (w.drew.alloc o) w.heap.size (.slice (some ⟨w.heap.size, 0, none⟩) (runes s).length c) (runes s) := by
  have hlen := length_runes s
  have h := run_runes_of_string (P := P) w src dst e s hs hd he (by rw [runesFrom_runes]; simp; omega)
  have hn : (Conv.runesFrom s s.size 0 #[]).size = (runes s).length := by rw [runesFrom_runes]; simp
  rw [hn] at h
  refine ⟨_, _, h, ?_⟩
  have hge := grownCap_ge w (runes s).length 0 e
  have hcm := grownCap_le_maxLen w (runes s).length 0 e (by unfold maxLen; omega)
  refine ⟨by rw [flatR]; simp, .inr ⟨w.heap.size, _, _, rfl, Nat.le_refl _, heap_alloc_new w.drew _, hge, hcm, ?_, ?_⟩⟩
  · rw [runesFrom_runes]; simp; omega
  · rw [runesFrom_runes, flatR, Nat.mul_one]; simp
end Go.Proofs.YtoagikkjomobgaaDoor
