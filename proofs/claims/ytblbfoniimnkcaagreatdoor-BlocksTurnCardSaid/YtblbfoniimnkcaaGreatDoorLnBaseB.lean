/- Texts on cells and lines, put together: Chars, Chars2, Chars3, Chars4, Cells1, Cells2. -/
import Derived.Test.YtblbfoniimnkcaaGreatDoorProg
import Derived.Test.YtblbfoniimnkcaaGreatDoorLnBaseA
import Derived.Outline
import Derived.WalkSmall
import Derived.BigQuiet
import Derived.Deep.QuietTactic
/- The walks of the package chars, and of its reference: the class of a character. -/
namespace Go.Proofs.YtblbfoniimnkcaaGreatDoor
open Go.RowKit

def cls (c : Int) : Int :=
  if c < 0 ∨ 1114111 < c ∨ (55296 ≤ c ∧ c ≤ 57343) then 0 else if c < 32 ∨ c = 127 then 1 else if c = 32 ∨ c = 160 then 2
  else if (97 ≤ c ∧ c ≤ 122) ∨ (65 ≤ c ∧ c ≤ 90) ∨ (128 ≤ c ∧ c ≠ 65533) then 3 else if 48 ≤ c ∧ c ≤ 57 then 4 else 5
theorem ret_int {k : IntKind} {a b : Int} (h : a = b) : Ending.returned (.int k a) = .returned (.int k b) := by rw [h]
theorem ret_bool {a b : Bool} (h : a = b) : Ending.returned (.bool a) = .returned (.bool b) := by rw [h]
theorem cls_range (c : Int) : 0 ≤ cls c ∧ cls c ≤ 5 := by unfold cls; repeat' split <;> omega

set_option maxHeartbeats 1000000 in
theorem refClass_any (c : Int) (w : World) (h0 : -2147483648 ≤ c) (h1 : c ≤ 2147483647) :
    Calls Tryz.prog 89 #[.int .i32 c] w fun e w' => e = .returned (.int .i64 (cls c)) ∧ w = w' := by
  go_enter Tryz.func89, Tryz.ntmps89
  go_wp2
  all_goals
    go_ret
    refine ⟨ret_int ?_, rfl⟩
    try simp only [beq_iff_eq, beq_eq_false_iff_ne, bne_iff_ne, ne_eq, bne_eq_false_iff_eq] at *
    unfold cls
    repeat' split
    all_goals omega

set_option maxHeartbeats 1000000 in
theorem class_any (c : Int) (w : World) (h0 : -2147483648 ≤ c) (h1 : c ≤ 2147483647) :
    Calls Tryz.prog 87 #[.int .i32 c] w fun e w' => e = .returned (.int .i64 (cls c)) ∧ w = w' := by
  go_enter Tryz.func87, Tryz.ntmps87
  go_wp2
  all_goals
    go_ret
    refine ⟨ret_int ?_, rfl⟩
    try simp only [beq_iff_eq, beq_eq_false_iff_ne, ne_eq] at *
    unfold cls
    repeat' split
    all_goals omega
end Go.Proofs.YtblbfoniimnkcaaGreatDoor

/- The walks of the package chars, and of its reference: what of a text is kept. -/
namespace Go.Proofs.YtblbfoniimnkcaaGreatDoor
open Go.RowKit

theorem Tryz.okR : ElemOk Tryz.prog encR 1 21 := ElemOk.mk' (z := .int .i32 0) (bytes := 4) encR_len (fun _ _ h => by simp [encR] at h; subst h; rfl) (by omega) (by kernel_rfl) rfl (by omega)

/-- What stands for a character, if it is kept. -/
def cl1 (c : Int) : Option Int :=
  if c = 9 ∨ c = 12 ∨ c = 13 then some 32 else if c = 10 then some 10 else if 2 ≤ cls c then some c else none
def clean (s : ByteArray) : List Int := (runes s).filterMap cl1

theorem decode_valid (s : ByteArray) (i : Nat) : Utf8.valid ((Utf8.decode s i).1 : Int) = true := by
  have h2 : ∀ c : Nat, c < 55296 → Utf8.valid (c : Int) = true := fun c h => by rw [validRune_eq]; exact decide_eq_true (by omega)
  have hr : Utf8.valid ((65533 : Nat) : Int) = true := by decide
  unfold Utf8.decode
  extract_lets at' cont b0
  repeat' split
  all_goals dsimp only [Utf8.runeError]
  all_goals first
    | exact h2 _ (by omega)
    | with_reducible exact hr
    | (rename_i h; exact (Bool.and_eq_true_iff.1 h).2)
theorem cls_valid {c : Int} (h : Utf8.valid c = true) : 1 ≤ cls c := by
  rw [validRune_eq] at h
  have := of_decide_eq_true h
  unfold cls
  repeat' split
  all_goals omega

set_option maxHeartbeats 400000 in
theorem refMay_any (c : Int) (w : World) (h0 : -2147483648 ≤ c) (h1 : c ≤ 2147483647) :
    Calls Tryz.prog 84 #[.int .i32 c] w fun e w' => e = .returned (.bool (decide (2 ≤ cls c))) ∧ w = w' := by
  have hr := cls_range c
  go_enter Tryz.func84, Tryz.ntmps84
  go_wp2_with (go_at_call 89; refine (refClass_any _ _ h0 h1).mono ?_; rintro e w' ⟨rfl, rfl⟩)
  go_ret
  exact ⟨rfl, rfl⟩

end Go.Proofs.YtblbfoniimnkcaaGreatDoor

/- The walks of the package chars, and of its reference: Clean of a text is the list of its kept characters, in new memory. -/
namespace Go.Proofs.YtblbfoniimnkcaaGreatDoor
open Go.RowKit

theorem Own.iterAt {α : Type} {enc : α → List Value} {sz : Nat} {e : TypeId} {w : World} {base : Nat} {v : Value} {xs : List α} (h : Own enc sz e w base v xs) {k : Nat} (hk : k < base) (s : ByteArray) (p : Nat) : Own enc sz e (w.iterAt k s p) base v xs :=
  ownsRow_iterAt h hk s p

/-- What a call hands back: a row of its own that holds xs; what lay below base stays. -/
def RetOwn {α : Type} (enc : α → List Value) (sz : Nat) (t : TypeId) (w : World) (xs : List α) (e : Ending) (w' : World) : Prop :=
  ∃ v, e = .returned v ∧ Own enc sz t w' w.heap.size v xs ∧ Below w.heap.size w w'

end Go.Proofs.YtblbfoniimnkcaaGreatDoor

/- The walks of the reference of chars: Runes and Clean of a text. -/
namespace Go.Proofs.YtblbfoniimnkcaaGreatDoor
open Go.RowKit

set_option maxHeartbeats 400000 in
theorem refRunes_any (s : ByteArray) (w : World) (hs : s.size ≤ 1000000000) :
    Calls Tryz.prog 107 #[.string s] w (RetOwn encR 1 21 w (runes s)) := by
  obtain ⟨c, o, hr, ho⟩ := run_runes Tryz.prog 9 111 21 s Tryz.underlying9 Tryz.underlying111 Tryz.underlying21 (by omega) w
  go_enter Tryz.func107, Tryz.ntmps107
  go_wp2
  go_ret
  exact ⟨_, rfl, ho, (Below.refl _ _).drew.alloc (Nat.le_refl _) _⟩

theorem cl1_eq {c k : Int} (h : cl1 c = some k) : (c = 9 ∨ c = 12 ∨ c = 13) ∧ k = 32 ∨ (¬ (c = 9 ∨ c = 12 ∨ c = 13)) ∧ k = c ∧ (c = 10 ∨ 2 ≤ cls c) := by
  unfold cl1 at h
  split at h
  · injection h with h; omega
  · split at h
    · injection h with h; omega
    · split at h
      · injection h with h; omega
      · cases h
theorem cl1_none {c : Int} (h : cl1 c = none) : ¬ (c = 9 ∨ c = 12 ∨ c = 13) ∧ ¬ c = 10 ∧ ¬ 2 ≤ cls c := by
  unfold cl1 at h
  split at h
  · cases h
  · split at h
    · cases h
    · split at h
      · cases h
      · refine ⟨by assumption, by assumption, by assumption⟩

end Go.Proofs.YtblbfoniimnkcaaGreatDoor

/- The walks of the package cells and of its reference: the cells of a text, whether two rows are the same. -/
namespace Go.Proofs.YtblbfoniimnkcaaGreatDoor
open Go.RowKit

theorem Tryz.okC : ElemOk Tryz.prog encC 3 60 := ElemOk.mk' (z := .agg #[.int .i32 0, .int .i64 0, .string .empty]) (bytes := 32) encC_len encC_one (by omega) (by kernel_rfl) rfl (by omega)

/-- What a call hands back that only reads, and may draw. -/
def RetQuiet (v : Value) (w : World) (e : Ending) (w' : World) : Prop := e = .returned v ∧ ∃ q, w' = w.drewN q

set_option maxHeartbeats 1000000 in
/-- quillworkref05.Same: are the two rows one? -/
theorem refSame_any (A B : Option Addr) (xs ys : List Cl) (n m c d C D : Nat) (hn : n = xs.length) (hm : m = ys.length) (w : World) (hA : SlAt encC 3 w C A xs) (hB : SlAt encC 3 w D B ys) (hx : xs.length ≤ 1000000000) :
    Calls Tryz.prog 68 #[.slice A n c, .slice B m d] w (RetQuiet (.bool (decide (xs = ys))) w) := by
  subst hn hm
  by_cases hl : xs.length = ys.length
  · have hb0 : ((xs.length : Int) != (ys.length : Int)) = false := by rw [bne_eq_false_iff_eq]; omega
    go_enter Tryz.func68, Tryz.ntmps68
    go_wp2
    go_loopw [5] (fun i wr => ∃ k : Nat, k ≤ xs.length ∧ i = .int .i64 k ∧ Hid (xs.take k = ys.take k) ∧ ∃ q, wr = w.drewN q) (fun i _ => xs.length - (intOf i).toNat)
    case atStart => exact ⟨0, Nat.zero_le _, rfl, rfl, 0, rfl⟩
    case round =>
      obtain ⟨k, hk, rfl, ht, q, rfl⟩ := hrel
      by_cases hlt : k < xs.length
      · obtain ⟨ad, x, rfl, -, hx, x0, x1, x2⟩ := hA.atC hlt
        obtain ⟨bd, y, rfl, -, hy, y0, y1, y2⟩ := hB.atC (show k < ys.length by omega)
        have hi1 : (k : Int) < (xs.length : Int) := by omega
        have hi2 : (k : Int) < (ys.length : Int) := by omega
        have HX := hid hx
        have HY := hid hy
        clear hx hy
        by_cases hxy : x = y
        · subst hxy
          have HT : Hid (xs.take (k + 1) = ys.take (k + 1)) := by
            show _ = _
            rw [take_snoc' HX.out, take_snoc' HY.out, ht.out]
          go_wp2
          go_quiet (fail)
          go_wp2
          go_roundw
          case rel => exact ⟨k + 1, by omega, by go_num, HT, _, rfl⟩
          case measure => simp [intOf]; omega
        · have hne : decide (xs = ys) = false := decide_eq_false fun e => hxy (by
            have h1 := HX.out
            rw [e, HY.out] at h1
            injection h1 with h1
            exact h1.symm)
          have HN := hid hne
          clear hne
          rcases (show (¬ x.r = y.r) ∨ (x.r = y.r ∧ ¬ x.b = y.b) ∨ (x.r = y.r ∧ x.b = y.b ∧ ¬ x.h.toList = y.h.toList) from by
            by_cases h1 : x.r = y.r
            · by_cases h2 : x.b = y.b
              · exact .inr (.inr ⟨h1, h2, fun h3 => hxy (Cl.ext' h1 h2 (toList_inj h3))⟩)
              · exact .inr (.inl ⟨h1, h2⟩)
            · exact .inl h1) with h1 | ⟨h1, h2⟩ | ⟨h1, h2, h3⟩
          · have b1 : (x.r != y.r) = true := bne_iff_ne.2 h1
            clear h1
            go_wp2
            go_quiet (fail)
            go_wp2
            go_ret
            exact ⟨ret_bool HN.out.symm, _, by first | rfl | exact World.drewN_drewN _ _ _⟩
          · have b1 : (x.r != y.r) = false := bne_eq_false_iff_eq.2 h1
            have b2 : (x.b != y.b) = true := bne_iff_ne.2 h2
            clear h1 h2
            go_wp2
            go_quiet (fail)
            go_wp2
            go_ret
            exact ⟨ret_bool HN.out.symm, _, by first | rfl | exact World.drewN_drewN _ _ _⟩
          · have b1 : (x.r != y.r) = false := bne_eq_false_iff_eq.2 h1
            have b2 : (x.b != y.b) = false := bne_eq_false_iff_eq.2 h2
            have b3 : (x.h.toList == y.h.toList) = false := beq_eq_false_iff_ne.2 h3
            clear h1 h2 h3
            go_wp2
            go_quiet (fail)
            go_wp2
            go_ret
            exact ⟨ret_bool HN.out.symm, _, by first | rfl | exact World.drewN_drewN _ _ _⟩
      · have he : decide (xs = ys) = true := decide_eq_true (by
          have := ht.out
          rwa [List.take_of_length_le (by omega), List.take_of_length_le (by omega)] at this)
        have HE := hid he
        clear he
        go_wp2
        go_ret
        exact ⟨ret_bool HE.out.symm, _, rfl⟩
  · have hb0 : ((xs.length : Int) != (ys.length : Int)) = true := by rw [bne_iff_ne]; omega
    have hne : decide (xs = ys) = false := decide_eq_false fun e => hl (by rw [e])
    have HN := hid hne
    clear hne
    go_enter Tryz.func68, Tryz.ntmps68
    go_wp2
    go_ret
    exact ⟨ret_bool HN.out.symm, 0, rfl⟩
end Go.Proofs.YtblbfoniimnkcaaGreatDoor

/- The walks of the package cells and of its reference: the text of a row, how much it is, whether two places may be. -/
namespace Go.Proofs.YtblbfoniimnkcaaGreatDoor
open Go.RowKit

theorem runesBytes_nil : runesBytes [] = ByteArray.empty := rfl
theorem run_text (P : Program) (src dst e : TypeId) (A : Option Addr) (xs : List Int) (c B : Nat) (w : World) (hs : P.underlying src = some (.slice e)) (he : P.underlying e = some (.int .i32)) (hd : P.underlying dst = some .string) (h : SlAt encR 1 w B A xs) :
    (convert src dst (.slice A xs.length c)).run P w = .ok (.string (runesBytes xs)) w := by
  cases xs with
  | nil =>
    cases A with
    | none => exact run_convert_runes_nil w src dst e _ _ hs he hd
    | some ad => exact run_convert_runes w src dst e ad _ c [] (Nat.le_refl _) hs he hd (fun j hj => by simp at hj)
  | cons x xs =>
    obtain ⟨ad, rfl, _, hc⟩ := h (by simp)
    have := run_convert_runes (P := P) w src dst e ad (x :: xs).length c (x :: xs) (Nat.le_refl _) hs he hd (fun j hj => by
      have := hc j _ (List.getElem?_eq_getElem hj) 0 _ rfl
      rw [add_zero', Nat.mul_one] at this
      rw [this, List.getD, List.getElem?_eq_getElem hj]
      rfl)
    rw [List.take_of_length_le (Nat.le_refl _)] at this
    exact this

/-- What a call hands back that may make memory and leaves what there was. -/
def RetBelow (v : Value) (w : World) (e : Ending) (w' : World) : Prop := e = .returned v ∧ Below w.heap.size w w'

end Go.Proofs.YtblbfoniimnkcaaGreatDoor
