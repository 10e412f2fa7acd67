/- The walks of the package cells: a row in memory of its own, bits set. -/
import Derived.Test.YtoagikkjomobgaaDoorCells2
import Derived.RegionTactic
import Derived.BigRegion
import Derived.Deep.RegionWith
import Derived.Deep.OwnRows
namespace Go.Proofs.YtoagikkjomobgaaDoor
open Go.RowKit

/-- What css.Over makes of bits. -/
def ovr (b s c : Int) : Int := bits .or .i64 (bits .andNot .i64 b c) s
def low (s : Int) : Int := bits .and .i64 s 15

set_option maxHeartbeats 400000 in
theorem over_any (b s c : Int) (w : World) : Calls Tryd.prog 18 #[.int .i64 b, .int .i64 s, .int .i64 c] w fun e w' => e = .returned (.int .i64 (ovr b s c)) ∧ w = w' := by
  unfold ovr
  go_enter Tryd.func18, Tryd.ntmps18
  go_wp2
  go_ret
  exact ⟨rfl, rfl⟩

set_option maxHeartbeats 1000000 in
theorem setOne_any (g o Bs Bc : Nat) (b s c : Int) (w : World) (h1 : w.cell? ⟨g, o + 1, none⟩ = some (.int .i64 b)) (hf : w.frozen? ⟨g, o + 1, none⟩ = false) (h2 : w.cell? ⟨Bs, 0, none⟩ = some (.int .i64 s)) (h3 : w.cell? ⟨Bc, 0, none⟩ = some (.int .i64 c)) :
    Calls Tryd.prog 17 #[.pointer (some ⟨g, o, none⟩), .pointer (some ⟨Bs, 0, none⟩), .pointer (some ⟨Bc, 0, none⟩)] w fun e w' => e = .returned (.tuple #[]) ∧ ∃ q, w' = (w.setCell ⟨g, o + 1, none⟩ (.int .i64 (ovr b (low s) (low c)))).drewN q := by
  go_enter Tryd.func17, Tryd.ntmps17
  go_region_with (go_at_call 18; refine (over_any _ _ _ _).mono ?_; rintro e w' ⟨rfl, rfl⟩)
  all_goals (go_end0; exact ⟨rfl, 1, rfl⟩)

set_option maxHeartbeats 1000000 in
theorem clone_any (A : Option Addr) (cs : List Cl) (n c B : Nat) (hn : n = cs.length) (w : World) (hA : SlAt encC 3 w B A cs) (hl : cs.length ≤ 1000000000) :
    Calls Tryd.prog 32 #[.slice A n c] w (RetOwn encC 3 29 w cs) := by
  subst hn
  cases A with
  | none =>
    have hc : cs = [] := by
      cases cs with
      | nil => rfl
      | cons x xs => obtain ⟨ad, e, _⟩ := hA (by simp); cases e
    subst hc
    have heq : ∀ W : World, (binOp .eql 22 (.slice none 0 c) (.slice none 0 0)).run Tryd.prog W = .ok (.bool true) W := fun W => Lib.run_eql_slice_nil W 22 29 none 0 c 0 0 Tryd.underlying22
    go_enter Tryd.func32, Tryd.ntmps32
    go_wp2
    go_ret
    exact ⟨_, rfl, Own.nil, Below.refl _ _⟩
  | some ad =>
    have hS := (hA.live (fun _ => by rw [encC_len]; omega)).alloc (Nat.le_refl _) (.cells #[] 29)
    have h0 : Own encC 3 29 (w.alloc (.cells #[] 29)) w.heap.size (.slice (some ⟨w.heap.size, 0, none⟩) 0 0) ([] : List Cl) := World.ownsRow_lit w #[] 0 (Nat.le_refl _) (by simp) rfl
    have heq : ∀ W : World, (binOp .eql 22 (.slice (some ad) cs.length c) (.slice none 0 0)).run Tryd.prog W = .ok (.bool false) W := fun W => Lib.run_eql_slice_nil W 22 29 (some ad) cs.length c 0 0 Tryd.underlying22
    go_enter Tryd.func32, Tryd.ntmps32
    go_wp2_with (at_builtin; refine wpList_appS Tryd.okC rfl (.tmp 5) (.tmp 6) 22 rfl Tryd.underlying22 w.heap.size _ ([] : List Cl) rfl h0 _ (some ad) cs c rfl hS (by simp; omega) (by simp) ?_; intro v' w1 hown' hg' _ _)
    go_ret
    exact ⟨_, rfl, by simpa using hown', ((Below.refl _ w).alloc (Nat.le_refl _) _).grown hg' (by simp) fun k hk => (h0.lt k hk).1⟩

/-- The cells from f on, ahead of t, changed by g. -/
def setAt (g : Cl → Cl) (f t : Nat) (cs : List Cl) : List Cl := cs.mapIdx fun i c => if f ≤ i ∧ i < t then g c else c
theorem length_setAt (g : Cl → Cl) (f t : Nat) (cs : List Cl) : (setAt g f t cs).length = cs.length := by simp [setAt]
theorem getElem?_setAt (g : Cl → Cl) (f t : Nat) (cs : List Cl) (k : Nat) : (setAt g f t cs)[k]? = (cs[k]?).map fun c => if f ≤ k ∧ k < t then g c else c := by simp [setAt]
theorem setAt_nil (g : Cl → Cl) (f t : Nat) (h : t ≤ f) (cs : List Cl) : setAt g f t cs = cs := by
  apply List.ext_getElem?
  intro k
  rw [getElem?_setAt]
  cases cs[k]? with
  | none => rfl
  | some c => simp only [Option.map_some]; rw [if_neg (by omega)]
theorem setAt_succ (g : Cl → Cl) (f t : Nat) (h : f ≤ t) (cs : List Cl) (c : Cl) (hc : cs[t]? = some c) : setAt g f (t + 1) cs = (setAt g f t cs).set t (g c) := by
  have hl := (List.getElem?_eq_some_iff.1 hc).1
  apply List.ext_getElem?
  intro k
  rw [List.getElem?_set, getElem?_setAt, getElem?_setAt]
  by_cases hk : t = k
  · subst hk
    rw [if_pos rfl, length_setAt, if_pos hl, hc]
    simp only [Option.map_some]
    rw [if_pos (by omega)]
  · rw [if_neg hk]
    cases cs[k]? with
    | none => rfl
    | some d =>
      simp only [Option.map_some]
      by_cases h1 : f ≤ k ∧ k < t
      · rw [if_pos (by omega), if_pos h1]
      · rw [if_neg (by omega), if_neg h1]
def setC (s c : Int) (x : Cl) : Cl := ⟨x.r, ovr x.b (low s) (low c), x.h⟩
/-- One value of a laid row changed. -/
theorem flat_set (cs : List Cl) (k : Nat) (x : Cl) (b : Int) (hx : cs[k]? = some x) : (cs.flatMap encC).set (k * 3 + 1) (.int .i64 b) = (cs.set k ⟨x.r, b, x.h⟩).flatMap encC := by
  induction cs generalizing k with
  | nil => simp at hx
  | cons y ys ih =>
    cases k with
    | zero =>
      simp at hx
      subst hx
      rfl
    | succ k =>
      have := ih k (by simpa using hx)
      rw [List.set_cons_succ, List.flatMap_cons, List.flatMap_cons, ← this]
      show (_ :: _ :: _ :: ys.flatMap encC).set ((k + 1) * 3 + 1) _ = _ :: _ :: _ :: _
      rw [show (k + 1) * 3 + 1 = (k * 3 + 1) + 1 + 1 + 1 from by omega]
      rfl

set_option maxHeartbeats 2000000 in
/-- cells.each with Set's closure, where from and to may be. -/
theorem eachSet_any (A : Option Addr) (cs : List Cl) (n c B : Nat) (hn : n = cs.length) (f t : Int) (Bs Bc : Nat) (s cl : Int) (w : World) (hA : SlAt encC 3 w B A cs) (hl : cs.length ≤ 1000000000) (h : spanOk cs.length f t)
    (h2 : w.cell? ⟨Bs, 0, none⟩ = some (.int .i64 s)) (h3 : w.cell? ⟨Bc, 0, none⟩ = some (.int .i64 cl)) :
    Calls Tryd.prog 16 #[.slice A n c, .int .i64 f, .int .i64 t, .func (.func 17) #[] #[.pointer (some ⟨Bs, 0, none⟩), .pointer (some ⟨Bc, 0, none⟩)]] w
      (fun e w' => ∃ v, e = .returned (.tuple #[v, .int .i64 0]) ∧ Own encC 3 29 w' w.heap.size v (setAt (setC s cl) f.toNat t.toNat cs) ∧ Below w.heap.size w w') := by
  subst hn
  obtain ⟨hf0, hft, htn⟩ := h
  obtain ⟨F, rfl⟩ := Int.eq_ofNat_of_zero_le hf0
  obtain ⟨T, rfl⟩ := Int.eq_ofNat_of_zero_le (Int.le_trans hf0 hft)
  have hFT : F ≤ T := by omega
  have hTn : T ≤ cs.length := by omega
  simp only [Int.toNat_natCast]
  have b1 := block_lt_of_cell h2
  have b2 := block_lt_of_cell h3
  clear htn
  go_enter Tryd.func16, Tryd.ntmps16
  go_wp2_with (first
    | (go_at_call 20; refine (span_yes _ _ _ _ _ _ ⟨by omega, by omega, by omega⟩).mono ?_; rintro e w' ⟨rfl, rfl⟩)
    | (go_at_call 32; refine (clone_any A cs _ c B rfl _ hA hl).mono ?_; rintro e W1 ⟨v, rfl, ho, hb1⟩; obtain ⟨A1, n1, c1, rfl, hn1⟩ := ho.shape))
  go_loopw [11] (fun i wr => ∃ k : Nat, F ≤ k ∧ k ≤ T ∧ i = .int .i64 k ∧ Own encC 3 29 wr w.heap.size (.slice A1 n1 c1) (setAt (setC s cl) F k cs) ∧ Below w.heap.size w wr) (fun i _ => T - (intOf i).toNat)
  case atStart => exact ⟨F, Nat.le_refl _, hFT, rfl, by rw [setAt_nil _ _ _ (Nat.le_refl _)]; exact ho, hb1⟩
  case round =>
    obtain ⟨k, hk1, hk2, rfl, hown, hbr⟩ := hrel
    by_cases hlt : k < T
    · obtain ⟨x, hx⟩ : ∃ x, cs[k]? = some x := ⟨_, List.getElem?_eq_getElem (show k < cs.length by omega)⟩
      have hx' : (setAt (setC s cl) F k cs)[k]? = some x := by rw [getElem?_setAt, hx]; simp
      have hsz := hown.1
      rw [length_flat encC_len, length_setAt] at hsz
      obtain ⟨g, hg1, hg2⟩ : ∃ g, A1 = some ⟨g, 0, none⟩ ∧ w.heap.size ≤ g := by
        rcases hown.2 with ⟨_, h0⟩ | ⟨g, cap, cur, hv, hbg, _⟩
        · rw [length_setAt] at h0; omega
        · injection hv with hv; exact ⟨g, hv, hbg⟩
      subst hg1
      have hn1' := hn1.out
      rw [show cs.length = (setAt (setC s cl) F k cs).length from (length_setAt _ _ _ _).symm] at hn1'
      have hown0 := hown
      unfold Own at hown0
      rw [← hn1'] at hown0
      have hfz := World.ownsRow.frozenAt hown0 (k * 3 + 1)
      have hc1 : wr.cell? ⟨g, k * 3 + 1, none⟩ = some (.int .i64 x.b) := by
        rw [World.ownsRow.cellAt hown0 (k * 3 + 1) (by rw [hn1', length_setAt]; omega)]
        exact getElem?_flat encC_len _ k x 1 _ hx' rfl
      have hb1' : wr.cell? ⟨Bs, 0, none⟩ = some (.int .i64 s) := (hbr.cell (p := ⟨Bs, 0, none⟩) b1).trans h2
      have hb2' : wr.cell? ⟨Bc, 0, none⟩ = some (.int .i64 cl) := (hbr.cell (p := ⟨Bc, 0, none⟩) b2).trans h3
      have hi1 : (k : Int) < (n1 : Int) := by rw [hn1', length_setAt]; omega
      have hst := (World.ownsRow.stored hown0 (k * 3 + 1) (.int .i64 (ovr x.b (low s) (low cl)))).1
      have HT : Hid (setAt (setC s cl) F (k + 1) cs = (setAt (setC s cl) F k cs).set k (setC s cl x)) := setAt_succ _ _ _ hk1 _ _ hx
      have HST : Own encC 3 29 (wr.setCell ⟨g, k * 3 + 1, none⟩ (.int .i64 (ovr x.b (low s) (low cl)))) w.heap.size (.slice (some ⟨g, 0, none⟩) n1 c1) (setAt (setC s cl) F (k + 1) cs) := by
        unfold Own
        rw [HT.out, List.length_set, ← hn1', show setC s cl x = ⟨x.r, ovr x.b (low s) (low cl), x.h⟩ from rfl, ← flat_set _ k x _ hx']
        exact hst
      clear hst hown0 hx hx' hsz hn1' hown
      go_wp2_with (go_at_call 17; refine (setOne_any g (k * 3) Bs Bc x.b s cl _ hc1 hfz hb1' hb2').mono ?_; rintro e w' ⟨rfl, q, rfl⟩)
      go_roundw
      case rel => exact ⟨k + 1, by omega, by omega, by go_num, HST.drewN q, below_drewN (hbr.setCell (p := ⟨g, k * 3 + 1, none⟩) hg2 _) q⟩
      case measure => simp [intOf]; omega
    · have he : k = T := by omega
      subst he
      go_wp2
      go_ret2
      exact ⟨_, rfl, hown, hbr⟩

set_option maxHeartbeats 1000000 in
theorem set_yes (A : Option Addr) (cs : List Cl) (n c B : Nat) (hn : n = cs.length) (f t s cl : Int) (w : World) (hA : SlAt encC 3 w B A cs) (hl : cs.length ≤ 1000000000) (h : spanOk cs.length f t) :
    Calls Tryd.prog 6 #[.slice A n c, .int .i64 f, .int .i64 t, .int .i64 s, .int .i64 cl] w
      (fun e w' => ∃ v, e = .returned (.tuple #[v, .int .i64 0]) ∧ Own encC 3 29 w' w.heap.size v (setAt (setC s cl) f.toNat t.toNat cs) ∧ Below w.heap.size w w') := by
  subst hn
  have hS := (hA.live (fun _ => by rw [encC_len]; omega))
  have hS2 := (hS.alloc (Nat.le_refl _) (.cells #[.int .i64 s] 3)).alloc (by simp) (.cells #[.int .i64 cl] 3)
  go_enter Tryd.func6, Tryd.ntmps6
  go_wp2_with (go_at_call 16; refine (eachSet_any A cs _ c _ rfl f t w.heap.size (w.heap.size + 1) s cl _ hS2 hl h (by simp [go_sem]) (by simp [go_sem])).mono ?_; rintro e w' ⟨v, rfl, ho, hb⟩; obtain ⟨A1, n1, c1, rfl, -⟩ := ho.shape)
  go_ret2
  exact ⟨_, rfl, ho.based (by simp; omega), (((Below.refl _ w).alloc (Nat.le_refl _) _).alloc (by simp) _).trans (hb.mono (by simp; omega))⟩

set_option maxHeartbeats 1000000 in
theorem cut_no (A : Option Addr) (n c : Nat) (f t : Int) (w : World) (h : ¬ spanOk n f t) :
    Calls Tryd.prog 13 #[.slice A n c, .int .i64 f, .int .i64 t] w (fun e w' => e = .returned (.tuple #[.slice none 0 0, .int .i64 1]) ∧ w = w') := by
  go_enter Tryd.func13, Tryd.ntmps13
  go_wp2_with (go_at_call 20; refine (span_no _ _ _ _ _ _ h).mono ?_; rintro e w' ⟨rfl, rfl⟩)
  go_ret2
  exact ⟨rfl, rfl⟩
end Go.Proofs.YtoagikkjomobgaaDoor
