/- The walks of the reference's Names, Name, same, Find. -/
import Derived.Test.YtapjlkiffgfbfaaDoorTagFind
import Derived.Deep.Cut
namespace Go.Proofs.YtapjlkiffgfbfaaDoor
open Go.RowKit

def rowR (b : Nat) : Nat → Value
  | 0 => .slice none 0 0
  | k + 1 => .slice (some ⟨b + k, 0, none⟩) (namesT (k + 1)).length (namesT (k + 1)).length
def rowsR (b : Nat) : Array Value := ((List.range 17).map (rowR b)).toArray
def objsR (b : Nat) : List Obj := restT ++ [.cells (rowsR b) 55]
def adR (b : Nat) : Nat → Option Addr
  | 0 => none
  | k + 1 => some ⟨b + k, 0, none⟩
theorem rowR_ad (b : Nat) : ∀ t, rowR b t = .slice (adR b t) (namesT t).length (namesT t).length
  | 0 => rfl
  | _ + 1 => rfl
theorem objsR_facts (w : World) (t : Nat) (ht : t ≤ 16) : (allocs w (objsR w.heap.size)).cell? ⟨w.heap.size + 16, t, none⟩ = some (rowR w.heap.size t) ∧
    SlAt nmE 1 (allocs w (objsR w.heap.size)) (allocs w (objsR w.heap.size)).heap.size (adR w.heap.size t) (namesT t) ∧ Below w.heap.size w (allocs w (objsR w.heap.size)) := by
  refine ⟨?_, ?_, allocs_below _ _ _ _ (Below.refl _ _) (Nat.le_refl _)⟩
  · refine allocs_new (objsR w.heap.size) w 16 (rowsR w.heap.size) 55 t _ rfl ?_
    unfold rowsR
    simp only [List.getElem?_toArray, List.getElem?_map]
    rw [List.getElem?_range (by omega)]
    rfl
  · cases t with
    | zero => exact SlAt.nil
    | succ k =>
      refine SlAt.live (B := w.heap.size + k + 1) (fun _ => ⟨_, rfl, by simp, fun j s hs i u hu => ?_⟩) (fun _ => by simp [nmE])
      cases i with
      | succ i => simp [nmE] at hu
      | zero =>
        simp [nmE] at hu
        subst hu
        rw [add_add', Nat.add_zero, Nat.mul_one, Addr.add_mid, Nat.zero_add]
        refine allocs_new (objsR w.heap.size) w k (((namesT (k + 1)).map fun s => Value.string (nmS s)).toArray) 9 j _ ?_ ?_
        · unfold objsR
          rw [List.getElem?_append_left (by simp [restT]; omega)]
          unfold restT
          rw [List.getElem?_map, List.getElem?_range (by omega)]
          rfl
        · simp [hs]

def RefNm (w : World) (t : Nat) (e : Ending) (w' : World) : Prop := ∃ A, e = .returned (.slice A (namesT t).length (namesT t).length) ∧ SlAt nmE 1 w' w'.heap.size A (namesT t) ∧ Below w.heap.size w w'
set_option maxRecDepth 100000 in
set_option maxHeartbeats 4000000 in
theorem refNames_in (t : Nat) (ht : t ≤ 16) (w : World) : Calls Tryd.prog 55 #[.int .i64 (t : Nat)] w (RefNm w t) := by
  have h0 : ¬ ((t : Int) < 0) := by omega
  have h1 : ¬ (16 < (t : Int)) := by omega
  go_enter Tryd.func55, Tryd.ntmps55
  go_upto_region 2 with (fail)
  generalize hW : World.alloc _ _ = W
  have hW' : allocs w (objsR w.heap.size) = W := hW
  clear hW
  obtain ⟨hc, hs, hb⟩ := objsR_facts w t ht
  rw [hW', rowR_ad] at hc
  rw [hW'] at hs hb
  clear hW'
  have hc' : W.cell? ⟨w.heap.size + 1 + 1 + 1 + 1 + 1 + 1 + 1 + 1 + 1 + 1 + 1 + 1 + 1 + 1 + 1 + 1, t, none⟩ = some (.slice (adR w.heap.size t) (namesT t).length (namesT t).length) := hc
  have S := hid hs
  have B := hid hb
  clear hs hb hc
  go_wp2
  go_ret
  exact ⟨_, rfl, S.out, B.out⟩
def nilS : Value := .slice none 0 0
set_option maxRecDepth 100000 in
set_option maxHeartbeats 4000000 in
theorem refNames_out (t : Int) (ht : t < 0 ∨ 16 < t) (w : World) : Calls Tryd.prog 55 #[.int .i64 t] w fun e w' => e = .returned (.slice none 0 0) ∧ Below w.heap.size w w' := by
  rcases ht with h | h
  · go_enter Tryd.func55, Tryd.ntmps55
    go_upto_region 2 with (fail)
    generalize hW : World.alloc _ _ = W
    have hW' : allocs w (objsR w.heap.size) = W := hW
    clear hW
    have B := hid (objsR_facts w 0 (by omega)).2.2
    rw [hW'] at B
    clear hW'
    go_wp2
    go_ret
    exact ⟨rfl, B.out⟩
  · have h' : ¬ t < 0 := by omega
    go_enter Tryd.func55, Tryd.ntmps55
    go_upto_region 2 with (fail)
    generalize hW : World.alloc _ _ = W
    have hW' : allocs w (objsR w.heap.size) = W := hW
    clear hW
    have B := hid (objsR_facts w 0 (by omega)).2.2
    rw [hW'] at B
    clear hW'
    go_wp2
    go_ret
    exact ⟨rfl, B.out⟩

set_option maxRecDepth 100000 in
set_option maxHeartbeats 1000000 in
theorem refName_any (tag : Int) (w : World) : Calls Tryd.prog 24 #[.int .i64 tag] w fun e w' => e = .returned (.string (nmS (nameL tag))) ∧ Below w.heap.size w w' := by
  by_cases h : tag < 0 ∨ 16 < tag
  · rw [nameL_out h]
    go_enter Tryd.func24, Tryd.ntmps24
    go_wp2_with (go_at_call 55; refine (refNames_out tag h _).mono ?_; rintro e w1 ⟨rfl, hb1⟩)
    go_ret
    exact ⟨rfl, by assumption⟩
  · obtain ⟨t, rfl⟩ : ∃ t : Nat, tag = t := ⟨tag.toNat, by omega⟩
    have ht : t ≤ 16 := by omega
    rw [nameL_nat ht]
    clear h
    obtain ⟨l, hl⟩ : ∃ l, namesT t = l := ⟨_, rfl⟩
    have L := hid hl
    rw [hl]
    clear hl
    cases l with
    | nil =>
      go_enter Tryd.func24, Tryd.ntmps24
      go_wp2_with (go_at_call 55; refine (refNames_in t ht _).mono ?_; rintro e w1 ⟨A, rfl, hs1, hb1⟩; (have B1 := hid hb1); (have S1 := hid hs1); clear hb1 hs1; rw [L.out])
      go_ret
      exact ⟨rfl, B1.out⟩
    | cons s r =>
      have hz : (((r.length + 1 : Nat) : Int) == 0) = false := by simp; omega
      have hz2 : (((r.length : Nat) : Int) + 1 == 0) = false := by simp; omega
      go_enter Tryd.func24, Tryd.ntmps24
      go_wp2_with (go_at_call 55; refine (refNames_in t ht _).mono ?_; rintro e w1 ⟨A, rfl, hs1, hb1⟩; (have B1 := hid hb1); rw [L.out] at hs1 ⊢; obtain ⟨ad, rfl, hlt, hc⟩ := hs1 (by simp); (have c0 : w1.cell? ad = some (.string (nmS s)) := by have := hc 0 s rfl 0 _ rfl; simpa [add_zero'] using this); clear hb1 hc)
      go_ret
      exact ⟨rfl, B1.out⟩
end Go.Proofs.YtapjlkiffgfbfaaDoor
