/- The walks of the package chars, and of its reference: what of a text is kept. -/
import Derived.Test.YtoagikkjomobgaaDoorChars
import Derived.Test.YtoagikkjomobgaaDoorApp
namespace Go.Proofs.YtoagikkjomobgaaDoor
open Go.RowKit

theorem Tryd.okR : ElemOk Tryd.prog encR 1 21 := ElemOk.mk' (z := .int .i32 0) (bytes := 4) encR_len (fun _ _ h => by simp [encR] at h; subst h; rfl) (by omega) (by kernel_rfl) rfl (by omega)

/-- What stands for a character, if it is kept. -/
def cl1 (c : Int) : Option Int :=
  if c = 9 ∨ c = 12 ∨ c = 13 then some 32 else if c = 10 then some 10 else if 2 ≤ cls c then some c else none
def clean (s : ByteArray) : List Int := (runes s).filterMap cl1

theorem decode_valid (s : ByteArray) (i : Nat) : Utf8.valid ((Utf8.decode s i).1 : Int) = true := by
  have h2 : ∀ c : Nat, c < 55296 → Utf8.valid (c : Int) = true := fun c h => by rw [validRune_eq]; exact decide_eq_true (by omega)
  have hr : Utf8.valid ((65533 : Nat) : Int) = true := by decide
  unfold Utf8.decode
  extract_lets at' cont b0
  repeat' split
  all_goals dsimp only [Utf8.runeError]
  all_goals first
    | exact h2 _ (by omega)
    | with_reducible exact hr
    | (rename_i h; exact (Bool.and_eq_true_iff.1 h).2)
theorem cls_valid {c : Int} (h : Utf8.valid c = true) : 1 ≤ cls c := by
  rw [validRune_eq] at h
  have := of_decide_eq_true h
  unfold cls
  repeat' split
  all_goals omega

set_option maxHeartbeats 400000 in
/-- plain, where the character is one that a text can have. -/
theorem plain_some (c k : Int) (w : World) (h0 : 0 ≤ c) (h1 : c ≤ 1114111) (hv : 1 ≤ cls c) (hk : cl1 c = some k) :
    Calls Tryd.prog 37 #[.int .i32 c] w fun e w' => e = .returned (.tuple #[.int .i32 k, .bool true]) ∧ w = w' := by
  have hr := cls_range c
  unfold cl1 at hk
  rcases (show c = 9 ∨ c = 12 ∨ c = 13 ∨ c = 10 ∨ (¬ c = 9 ∧ ¬ c = 12 ∧ ¬ c = 13 ∧ ¬ c = 10) from by omega) with rfl | rfl | rfl | rfl | ⟨n1, n2, n3, n4⟩
  case inr.inr.inr.inr =>
    rw [if_neg (by omega), if_neg (by omega)] at hk
    split at hk
    · rename_i h2
      injection hk with hk
      subst hk
      clear hv
      have t1 : (cls c != 1) = true := by rw [bne_iff_ne]; omega
      go_enter Tryd.func37, Tryd.ntmps37
      go_wp2_with (go_at_call 34; refine (class_any _ _ (by omega) (by omega)).mono ?_; rintro e w' ⟨rfl, rfl⟩)
      go_ret2
      exact ⟨rfl, rfl⟩
    · cases hk
  all_goals
    simp at hk
    subst hk
    clear hv hr
    go_enter Tryd.func37, Tryd.ntmps37
    go_wp2_with (fail)
    go_ret2
    exact ⟨rfl, rfl⟩

set_option maxHeartbeats 400000 in
theorem plain_none (c : Int) (w : World) (h0 : 0 ≤ c) (h1 : c ≤ 1114111) (hv : 1 ≤ cls c) (hk : cl1 c = none) :
    Calls Tryd.prog 37 #[.int .i32 c] w fun e w' => e = .returned (.tuple #[.int .i32 c, .bool false]) ∧ w = w' := by
  have hr := cls_range c
  have hn : ¬ c = 9 ∧ ¬ c = 12 ∧ ¬ c = 13 ∧ ¬ c = 10 ∧ cls c = 1 := by
    unfold cl1 at hk
    split at hk
    · cases hk
    · split at hk
      · cases hk
      · split at hk
        · cases hk
        · omega
  obtain ⟨n1, n2, n3, n4, n5⟩ := hn
  have t1 : (cls c != 1) = false := by rw [n5]; rfl
  clear hv n5 hk
  go_enter Tryd.func37, Tryd.ntmps37
  go_wp2_with (go_at_call 34; refine (class_any _ _ (by omega) (by omega)).mono ?_; rintro e w' ⟨rfl, rfl⟩)
  go_ret2
  exact ⟨rfl, rfl⟩
end Go.Proofs.YtoagikkjomobgaaDoor
