/- The walk of the cells laws' own examples: they all hold. -/
import Derived.Test.YtoagikkjomobgaaDoorCells3
import Derived.Test.YtoagikkjomobgaaDoorCells5
import Derived.Test.YtoagikkjomobgaaDoorRuns
namespace Go.Proofs.YtoagikkjomobgaaDoor
open Go.RowKit

theorem Own.shapeN {α : Type} {enc : α → List Value} {sz : Nat} {e : TypeId} {w : World} {base : Nat} {v : Value} {xs : List α} (h : Own enc sz e w base v xs) (he : ∀ x, (enc x).length = sz) (N : Nat) (hN : xs.length = N) (hp : 0 < N) :
    ∃ g c, v = .slice (some ⟨g, 0, none⟩) N c ∧ base ≤ g ∧ g < w.heap.size ∧ SlAt enc sz w w.heap.size (some ⟨g, 0, none⟩) xs := by
  subst hN
  obtain ⟨A, c, hv, _, _, hA, hS⟩ := h.form he
  cases A with
  | none =>
    have hne : xs ≠ [] := by rintro rfl; simp at hp
    obtain ⟨ad, e, _⟩ := hS hne
    cases e
  | some ad =>
    obtain ⟨g, rfl, h1, h2, _⟩ := hA ad rfl
    exact ⟨g, c, hv, h1, h2, hS⟩

def cs2 : List Cl := [⟨97, 1, ⟨#[]⟩⟩, ⟨241, 1, ⟨#[]⟩⟩]
def cs3 : List Cl := [⟨97, 1, ⟨#[]⟩⟩, ⟨241, 1, ⟨#[]⟩⟩, ⟨10, 0, ⟨#[]⟩⟩]
def csL : List Cl := [⟨97, 0, ⟨#[]⟩⟩, ⟨108, 0, ⟨#[120]⟩⟩, ⟨108, 0, ⟨#[120]⟩⟩]
theorem aw_of : (clean ⟨#[97, 195, 177]⟩).map (mkc 1 ⟨#[]⟩) = cs2 := by
  have h : clean ⟨#[97, 195, 177]⟩ = [97, 241] := by decide +kernel
  rw [h]; rfl
theorem aw_set : setAt (setC 2 1) 0 2 cs2 = [⟨97, 2, ⟨#[]⟩⟩, ⟨241, 2, ⟨#[]⟩⟩] := by decide +kernel
theorem aw_runs : runsL cs3 = [⟨0, 2, 1, ⟨#[]⟩, 0⟩, ⟨2, 3, 0, ⟨#[]⟩, 1⟩] := by rfl
theorem aw_within : withinL csL 2 = (1, 3) := by decide +kernel
theorem aw_text : textL cs2 = ⟨#[97, 195, 177]⟩ := by rfl

set_option maxHeartbeats 4000000 in
theorem awake5_any (w : World) : Calls Tryd.prog 5 #[] w (RetBelow (.bool true) w) := by
  have ht := aw_text
  have HTX := hid ht
  clear ht
  go_enter Tryd.func5, Tryd.ntmps5
  go_wp2_with (first
    | (go_at_call 11; refine (of_any _ _ _ _ (by decide)).mono ?_; rintro e W1 ⟨v1, rfl, ho1, hb1⟩; rw [aw_of] at ho1; obtain ⟨g1, c1, rfl, hg1, hg1', hS1⟩ := ho1.shapeN encC_len 2 rfl (by omega))
    | (go_at_call 6; refine (set_yes (some ⟨g1, 0, none⟩) cs2 _ c1 _ rfl 0 2 2 1 _ hS1 (by decide) (by decide)).mono ?_; rintro e W2 ⟨v2, rfl, ho2, hb2⟩; rw [show setAt (setC 2 1) (Int.toNat 0) (Int.toNat 2) cs2 = _ from aw_set] at ho2; obtain ⟨g2, c2, rfl, hg2, hg2', hS2⟩ := ho2.shapeN encC_len 2 rfl (by omega); have hS12 := (hS1.below hb2).alloc hb2.size (.cells #[] 29); have h0 : Own encC 3 29 (W2.alloc (.cells #[] 29)) W2.heap.size (.slice (some ⟨W2.heap.size, 0, none⟩) 0 0) ([] : List Cl) := World.ownsRow_lit W2 #[] 0 (Nat.le_refl _) (by simp) rfl)
    | (at_builtin; refine wpList_appS Tryd.okC rfl (.tmp 15) (.tmp 16) 22 rfl Tryd.underlying22 W2.heap.size _ ([] : List Cl) rfl h0 _ (some ⟨g1, 0, none⟩) cs2 c1 rfl hS12 (by decide) (by simp) ?_; intro v3 w3 hown3 hg3 _ _; have hb3 : Below W2.heap.size W2 w3 := ((Below.refl _ W2).alloc (Nat.le_refl _) _).grown hg3 (by simp) fun k hk => (h0.lt k hk).1)
    | (at_builtin; refine wpList_app1 Tryd.okC rfl (.tmp 17) (.tmp 19) 22 rfl Tryd.underlying22 W2.heap.size _ ([] ++ cs2) rfl hown3 ⟨10, 0, ⟨#[]⟩⟩ rfl rfl (by decide) hb3.size ?_; intro v4 w4 hown4 hb4 _; obtain ⟨g4, c4, rfl, hg4, hg4', hS4⟩ := Own.shapeN (xs := cs3) hown4 encC_len 3 rfl (by omega))
    | (go_at_call 12; refine (runs_any (some ⟨g4, 0, none⟩) cs3 _ c4 _ rfl _ hS4 (by decide)).mono ?_; rintro e W5 ⟨v5, rfl, ho5, hb5⟩; rw [aw_runs] at ho5; obtain ⟨g5, c5, rfl, hg5, hg5', hS5⟩ := ho5.shapeN encN_len 2 rfl (by omega))
    | (go_at_call 13; refine (cut_no _ _ _ _ _ _ (by decide)).mono ?_; rintro e w' ⟨rfl, rfl⟩)
    | (go_at_call 14; have hoL : Own encC 3 29 (W5.alloc (.cells #[.int .i32 97, .int .i64 0, .string ⟨#[]⟩, .int .i32 108, .int .i64 0, .string ⟨#[120]⟩, .int .i32 108, .int .i64 0, .string ⟨#[120]⟩] 29)) W5.heap.size (.slice (some ⟨W5.heap.size, 0, none⟩) 3 3) csL := World.ownsRow_lit W5 _ 3 (Nat.le_refl _) (by decide) rfl; obtain ⟨AL, _, hvL, _, _, _, hSL⟩ := hoL.form encC_len; obtain rfl : AL = some ⟨W5.heap.size, 0, none⟩ := (by injection hvL with h _ _; exact h.symm); clear hvL; refine (within_any _ csL 3 3 _ rfl 2 _ hSL (by decide)).mono ?_; rintro e w' ⟨he, rfl⟩; rw [aw_within] at he; subst he; have hb25 : Below W2.heap.size W2 W5 := (hb3.trans hb4).trans (hb5.mono (Nat.le_trans hb3.size hb4.size)); have hS16 := ((hS1.below hb2).belowM hb25 hb2.size).alloc (Nat.le_trans hb2.size hb25.size) (.cells #[.int .i32 97, .int .i64 0, .string ⟨#[]⟩, .int .i32 108, .int .i64 0, .string ⟨#[120]⟩, .int .i32 108, .int .i64 0, .string ⟨#[120]⟩] 29))
    | (go_at_call 15; refine (text_any _ cs2 2 c1 _ rfl _ hS16 (by decide)).mono ?_; rintro e W7 ⟨he, hb7⟩; rw [HTX.out] at he; subst he; have hm2 : W2.cell? ⟨g2, 4, none⟩ = some (.int .i64 2) := World.ownsRow.cellAt ho2 4 (by decide); have hm : W7.cell? ⟨g2, 4, none⟩ = some (.int .i64 2) := (hb7.cell (p := ⟨g2, 4, none⟩) (by have := hb25.size; simp; omega)).trans ((World.cell?_alloc_lt W5 _ _ (by have := hb25.size; simp; omega)).trans ((hb25.cell (p := ⟨g2, 4, none⟩) hg2').trans hm2)); have hr5 : W5.cell? ⟨g5, 9, none⟩ = some (.int .i64 1) := World.ownsRow.cellAt ho5 9 (by decide); have hr : W7.cell? ⟨g5, 9, none⟩ = some (.int .i64 1) := (hb7.cell (p := ⟨g5, 9, none⟩) (by simp; omega)).trans ((World.cell?_alloc_lt W5 _ _ hg5').trans hr5)))
  go_ret
  refine ⟨rfl, ?_⟩
  exact (hb1.trans (hb2.mono hb1.size)).trans ((hb25.mono (Nat.le_trans hb1.size hb2.size)).trans ((((Below.refl _ W5).alloc (Nat.le_trans hb1.size (Nat.le_trans hb2.size hb25.size)) _)).trans (hb7.mono (by have := hb1.size; have := hb2.size; have := hb25.size; simp; omega))))
end Go.Proofs.YtoagikkjomobgaaDoor
