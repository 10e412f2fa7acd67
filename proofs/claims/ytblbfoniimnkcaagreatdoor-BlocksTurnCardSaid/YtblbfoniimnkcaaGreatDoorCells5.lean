/- The walks of the package cells: a row in memory of its own, bits set. -/
import Derived.Test.YtblbfoniimnkcaaGreatDoorLnBaseB
import Derived.RegionTactic
import Derived.BigRegion
import Derived.Deep.RegionWith
import Derived.Deep.OwnRows
namespace Go.Proofs.YtblbfoniimnkcaaGreatDoor
open Go.RowKit

/-- What css.Over makes of bits. -/
def ovr (b s c : Int) : Int := bits .or .i64 (bits .andNot .i64 b c) s
def low (s : Int) : Int := bits .and .i64 s 15

set_option maxHeartbeats 1000000 in
theorem refOwn_any (A : Option Addr) (cs : List Cl) (n c B : Nat) (hn : n = cs.length) (w : World) (hA : SlAt encC 3 w B A cs) (hl : cs.length ≤ 1000000000) :
    Calls Tryz.prog 64 #[.slice A n c] w (RetOwn encC 3 60 w cs) := by
  subst hn
  have hS := (hA.live (fun _ => by rw [encC_len]; omega)).alloc (Nat.le_refl _) (.cells #[] 60)
  have h0 : Own encC 3 60 (w.alloc (.cells #[] 60)) w.heap.size (.slice (some ⟨w.heap.size, 0, none⟩) 0 0) ([] : List Cl) := World.ownsRow_lit w #[] 0 (Nat.le_refl _) (by simp) rfl
  go_enter Tryz.func64, Tryz.ntmps64
  go_wp2_with (at_builtin; refine wpList_appS Tryz.okC rfl (.tmp 3) (.tmp 4) 44 rfl Tryz.underlying44 w.heap.size _ ([] : List Cl) rfl h0 _ A cs c rfl hS (by simp; omega) (by simp) ?_; intro v' w1 hown' hg' _ _)
  go_ret
  refine ⟨_, rfl, by simpa using hown', ((Below.refl _ w).alloc (Nat.le_refl _) _).grown hg' (by simp) fun k hk => (h0.lt k hk).1⟩

set_option maxHeartbeats 1000000 in
theorem clone_any (A : Option Addr) (cs : List Cl) (n c B : Nat) (hn : n = cs.length) (w : World) (hA : SlAt encC 3 w B A cs) (hl : cs.length ≤ 1000000000) :
    Calls Tryz.prog 77 #[.slice A n c] w (RetOwn encC 3 60 w cs) := by
  subst hn
  cases A with
  | none =>
    have hc : cs = [] := by
      cases cs with
      | nil => rfl
      | cons x xs => obtain ⟨ad, e, _⟩ := hA (by simp); cases e
    subst hc
    have heq : ∀ W : World, (binOp .eql 44 (.slice none 0 c) (.slice none 0 0)).run Tryz.prog W = .ok (.bool true) W := fun W => Lib.run_eql_slice_nil W 44 60 none 0 c 0 0 Tryz.underlying44
    go_enter Tryz.func77, Tryz.ntmps77
    go_wp2
    go_ret
    exact ⟨_, rfl, Own.nil, Below.refl _ _⟩
  | some ad =>
    have hS := (hA.live (fun _ => by rw [encC_len]; omega)).alloc (Nat.le_refl _) (.cells #[] 60)
    have h0 : Own encC 3 60 (w.alloc (.cells #[] 60)) w.heap.size (.slice (some ⟨w.heap.size, 0, none⟩) 0 0) ([] : List Cl) := World.ownsRow_lit w #[] 0 (Nat.le_refl _) (by simp) rfl
    have heq : ∀ W : World, (binOp .eql 44 (.slice (some ad) cs.length c) (.slice none 0 0)).run Tryz.prog W = .ok (.bool false) W := fun W => Lib.run_eql_slice_nil W 44 60 (some ad) cs.length c 0 0 Tryz.underlying44
    go_enter Tryz.func77, Tryz.ntmps77
    go_wp2_with (at_builtin; refine wpList_appS Tryz.okC rfl (.tmp 5) (.tmp 6) 44 rfl Tryz.underlying44 w.heap.size _ ([] : List Cl) rfl h0 _ (some ad) cs c rfl hS (by simp; omega) (by simp) ?_; intro v' w1 hown' hg' _ _)
    go_ret
    exact ⟨_, rfl, by simpa using hown', ((Below.refl _ w).alloc (Nat.le_refl _) _).grown hg' (by simp) fun k hk => (h0.lt k hk).1⟩

/-- The cells from f on, ahead of t, changed by g. -/
def setAt (g : Cl → Cl) (f t : Nat) (cs : List Cl) : List Cl := cs.mapIdx fun i c => if f ≤ i ∧ i < t then g c else c
theorem length_setAt (g : Cl → Cl) (f t : Nat) (cs : List Cl) : (setAt g f t cs).length = cs.length := by simp [setAt]
theorem getElem?_setAt (g : Cl → Cl) (f t : Nat) (cs : List Cl) (k : Nat) : (setAt g f t cs)[k]? = (cs[k]?).map fun c => if f ≤ k ∧ k < t then g c else c := by simp [setAt]
theorem setAt_nil (g : Cl → Cl) (f t : Nat) (h : t ≤ f) (cs : List Cl) : setAt g f t cs = cs := by
  apply List.ext_getElem?
  intro k
  rw [getElem?_setAt]
  cases cs[k]? with
  | none => rfl
  | some c => simp only [Option.map_some]; rw [if_neg (by omega)]
theorem setAt_succ (g : Cl → Cl) (f t : Nat) (h : f ≤ t) (cs : List Cl) (c : Cl) (hc : cs[t]? = some c) : setAt g f (t + 1) cs = (setAt g f t cs).set t (g c) := by
  have hl := (List.getElem?_eq_some_iff.1 hc).1
  apply List.ext_getElem?
  intro k
  rw [List.getElem?_set, getElem?_setAt, getElem?_setAt]
  by_cases hk : t = k
  · subst hk
    rw [if_pos rfl, length_setAt, if_pos hl, hc]
    simp only [Option.map_some]
    rw [if_pos (by omega)]
  · rw [if_neg hk]
    cases cs[k]? with
    | none => rfl
    | some d =>
      simp only [Option.map_some]
      by_cases h1 : f ≤ k ∧ k < t
      · rw [if_pos (by omega), if_pos h1]
      · rw [if_neg (by omega), if_neg h1]
def setC (s c : Int) (x : Cl) : Cl := ⟨x.r, ovr x.b (low s) (low c), x.h⟩
/-- One value of a laid row changed. -/
theorem flat_set (cs : List Cl) (k : Nat) (x : Cl) (b : Int) (hx : cs[k]? = some x) : (cs.flatMap encC).set (k * 3 + 1) (.int .i64 b) = (cs.set k ⟨x.r, b, x.h⟩).flatMap encC := by
  induction cs generalizing k with
  | nil => simp at hx
  | cons y ys ih =>
    cases k with
    | zero =>
      simp at hx
      subst hx
      rfl
    | succ k =>
      have := ih k (by simpa using hx)
      rw [List.set_cons_succ, List.flatMap_cons, List.flatMap_cons, ← this]
      show (_ :: _ :: _ :: ys.flatMap encC).set ((k + 1) * 3 + 1) _ = _ :: _ :: _ :: _
      rw [show (k + 1) * 3 + 1 = (k * 3 + 1) + 1 + 1 + 1 from by omega]
      rfl

end Go.Proofs.YtblbfoniimnkcaaGreatDoor
