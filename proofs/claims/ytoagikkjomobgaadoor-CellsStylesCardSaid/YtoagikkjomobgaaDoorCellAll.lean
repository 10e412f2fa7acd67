/- The walks of cells.All, Some, of their references. (Printed by wip/cellall.py.) -/
import Derived.Test.YtoagikkjomobgaaDoorCellLink
namespace Go.Proofs.YtoagikkjomobgaaDoor
open Go.RowKit Go.Lib

def predA (s : Int) (x : Cl) : Bool := bits .and .i64 x.b s != s
def predS (s : Int) (x : Cl) : Bool := bits .and .i64 x.b s != 0
def partC (cs : List Cl) (f t : Nat) : List Cl := (cs.drop f).take (t - f)
theorem part_snoc {cs : List Cl} {f k : Nat} {x : Cl} (h : f ≤ k) (hx : cs[k]? = some x) : partC cs f (k + 1) = partC cs f k ++ [x] := by
  unfold partC
  rw [show k + 1 - f = (k - f) + 1 by omega, List.take_add_one, List.getElem?_drop, show f + (k - f) = k by omega, hx]; rfl
theorem part_none {cs : List Cl} {f : Nat} : partC cs f f = [] := by unfold partC; simp
theorem part_len {cs : List Cl} {f t : Nat} (h : t ≤ cs.length) : (partC cs f t).length = t - f := by unfold partC; simp; omega
theorem part_mem {cs : List Cl} {f k t : Nat} {x : Cl} (h : f ≤ k) (hk : k < t) (hx : cs[k]? = some x) : x ∈ partC cs f t := by
  refine List.mem_of_getElem? (i := k - f) ?_
  unfold partC
  rw [List.getElem?_take, if_pos (by omega), List.getElem?_drop, show f + (k - f) = k by omega, hx]
theorem part_any_no {cs : List Cl} {p : Cl → Bool} {f k : Nat} {x : Cl} (h : f ≤ k) (hx : cs[k]? = some x) (hp : p x = false) (ha : (partC cs f k).any p = false) : (partC cs f (k + 1)).any p = false := by
  rw [part_snoc h hx, List.any_append, ha]; simp [hp]
theorem part_any_yes {cs : List Cl} {p : Cl → Bool} {f k t : Nat} {x : Cl} (h : f ≤ k) (hk : k < t) (hx : cs[k]? = some x) (hp : p x = true) : (partC cs f t).any p = true := List.any_eq_true.2 ⟨x, part_mem h hk hx, hp⟩


set_option maxHeartbeats 1000000 in
theorem oneAll_any (x : Cl) (Bs : Nat) (s : Int) (w : World) (hp : w.cell? ⟨Bs, 0, none⟩ = some (.int .i64 s)) :
    Calls Tryd.prog 22 #[.agg #[.int .i32 x.r, .int .i64 x.b, .string x.h], .pointer (some ⟨Bs, 0, none⟩)] w (IsBool (predA s x) w) := by
  have hlt := block_lt_of_cell hp
  have hp2 : (w.alloc (.cells #[.int .i32 x.r, .int .i64 x.b, .string x.h] 29)).cell? ⟨Bs, 0, none⟩ = some (.int .i64 s) := (World.cell?_alloc_lt w _ _ hlt).trans hp
  clear hp
  unfold predA
  go_enter Tryd.func22, Tryd.ntmps22
  go_wp2
  go_ret
  exact ⟨rfl, (Below.refl _ _).alloc (Nat.le_refl _) _⟩

set_option maxRecDepth 100000 in
set_option maxHeartbeats 4000000 in
theorem indexAll_any (A : Option Addr) (cs : List Cl) (n c B : Nat) (hn : n = cs.length) (Bs : Nat) (s : Int) (w : World) (hA : SlAt encC 3 w B A cs) (hl : cs.length ≤ 1000000000) (hp : w.cell? ⟨Bs, 0, none⟩ = some (.int .i64 s)) :
    Calls Tryd.prog 33 #[.slice A n c, .func (.func 22) #[] #[.pointer (some ⟨Bs, 0, none⟩)]] w (IsIntC (idxC (predA s) cs) w) := by
  subst hn
  have hS := hid (hA.live (fun _ => by rw [encC_len]; omega))
  have hlt0 : Bs < w.heap.size := block_lt_of_cell hp
  have HP0 := hid hp
  obtain ⟨x, hx⟩ : ∃ x, idxC (predA s) cs = x := ⟨_, rfl⟩
  have HX := hid hx
  rw [hx]
  clear hp hx hA
  go_enter Tryd.func33, Tryd.ntmps33
  go_wp2_with fail
  go_loopw [8] (fun i wr => ∃ k : Nat, k ≤ cs.length ∧ i = .int .i64 k ∧ Hid (NoneTo (predA s) cs k) ∧ Below w.heap.size w wr) (fun i _ => cs.length - (intOf i).toNat)
  case atStart => exact ⟨0, Nat.zero_le _, rfl, (fun j _ h => absurd h (by omega)), Below.refl _ _⟩
  case round =>
    obtain ⟨k, hk, rfl, hno, hbr⟩ := hrel
    have HB := hid hbr
    by_cases hlt : k < cs.length
    · obtain ⟨ad, x, rfl, -, hx, x0, x1, x2⟩ := (hS.out.below hbr).atC hlt
      have hi1 : (k : Int) < (cs.length : Int) := by omega
      have HPR := hid ((hbr.cell (p := ⟨Bs, 0, none⟩) hlt0).trans HP0.out)
      clear hbr
      cases hp : predA s x with
      | true =>
        have E := hid (idxC_at hx hp hno.out)
        have HP := hid hp
        clear hx hp
        go_wp2_with (go_at_call 22; refine (oneAll_any x Bs s _ HPR.out).mono ?_; rintro e w1 ⟨rfl, hb1⟩; rw [HP.out]; (have B1 := hid hb1); clear hb1)
        go_ret
        exact ⟨ret_inC (E.out.symm.trans HX.out), HB.out.trans (B1.out.mono HB.out.size)⟩
      | false =>
        have N1 := hid (hno.out.succ hx hp)
        have HP := hid hp
        clear hx hp
        go_wp2_with (go_at_call 22; refine (oneAll_any x Bs s _ HPR.out).mono ?_; rintro e w1 ⟨rfl, hb1⟩; rw [HP.out]; (have B1 := hid hb1); clear hb1)
        go_roundw
        case rel => exact ⟨k + 1, by omega, by go_num, N1.out, HB.out.trans (B1.out.mono HB.out.size)⟩
        case measure => simp [intOf]; omega
    · obtain rfl : k = cs.length := by omega
      have E := hid (idxC_none hno.out)
      clear hbr
      go_wp2_with fail
      go_ret
      exact ⟨ret_inC (E.out.symm.trans HX.out), HB.out⟩

set_option maxHeartbeats 1000000 in
theorem containsAll_any (A : Option Addr) (cs : List Cl) (n c B : Nat) (hn : n = cs.length) (Bs : Nat) (s : Int) (w : World) (hA : SlAt encC 3 w B A cs) (hl : cs.length ≤ 1000000000) (hp : w.cell? ⟨Bs, 0, none⟩ = some (.int .i64 s)) :
    Calls Tryd.prog 21 #[.slice A n c, .func (.func 22) #[] #[.pointer (some ⟨Bs, 0, none⟩)]] w (IsBool (cs.any (predA s)) w) := by
  subst hn
  have KEY := hid (indexAll_any A cs _ c B rfl Bs s w hA hl hp)
  rw [← idxC_any]
  obtain ⟨x, hx⟩ : ∃ x, idxC (predA s) cs = x := ⟨_, rfl⟩
  have HX := hid hx
  rw [hx]
  clear hx hA hp
  go_enter Tryd.func21, Tryd.ntmps21
  go_wp2_with (go_at_call 33; refine KEY.out.mono ?_; rintro e w1 ⟨rfl, hb1⟩; rw [HX.out]; (have B1 := hid hb1); clear hb1)
  go_ret
  exact ⟨rfl, B1.out⟩


set_option maxHeartbeats 1000000 in
theorem cellsAll_no (A : Option Addr) (n c : Nat) (f t s : Int) (w : World) (h : ¬ spanOk n f t) :
    Calls Tryd.prog 8 #[.slice A n c, .int .i64 f, .int .i64 t, .int .i64 s] w (IsBool false w) := by
  go_enter Tryd.func8, Tryd.ntmps8
  go_wp2_with (go_at_call 20; refine (span_no _ _ _ _ _ _ h).mono ?_; rintro e w' ⟨rfl, rfl⟩)
  go_ret
  exact ⟨rfl, (Below.refl _ _).alloc (Nat.le_refl _) _⟩

set_option maxHeartbeats 1000000 in
theorem oneSome_any (x : Cl) (Bs : Nat) (s : Int) (w : World) (hp : w.cell? ⟨Bs, 0, none⟩ = some (.int .i64 s)) :
    Calls Tryd.prog 23 #[.agg #[.int .i32 x.r, .int .i64 x.b, .string x.h], .pointer (some ⟨Bs, 0, none⟩)] w (IsBool (predS s x) w) := by
  have hlt := block_lt_of_cell hp
  have hp2 : (w.alloc (.cells #[.int .i32 x.r, .int .i64 x.b, .string x.h] 29)).cell? ⟨Bs, 0, none⟩ = some (.int .i64 s) := (World.cell?_alloc_lt w _ _ hlt).trans hp
  clear hp
  unfold predS
  go_enter Tryd.func23, Tryd.ntmps23
  go_wp2
  go_ret
  exact ⟨rfl, (Below.refl _ _).alloc (Nat.le_refl _) _⟩

set_option maxRecDepth 100000 in
set_option maxHeartbeats 4000000 in
theorem indexSome_any (A : Option Addr) (cs : List Cl) (n c B : Nat) (hn : n = cs.length) (Bs : Nat) (s : Int) (w : World) (hA : SlAt encC 3 w B A cs) (hl : cs.length ≤ 1000000000) (hp : w.cell? ⟨Bs, 0, none⟩ = some (.int .i64 s)) :
    Calls Tryd.prog 33 #[.slice A n c, .func (.func 23) #[] #[.pointer (some ⟨Bs, 0, none⟩)]] w (IsIntC (idxC (predS s) cs) w) := by
  subst hn
  have hS := hid (hA.live (fun _ => by rw [encC_len]; omega))
  have hlt0 : Bs < w.heap.size := block_lt_of_cell hp
  have HP0 := hid hp
  obtain ⟨x, hx⟩ : ∃ x, idxC (predS s) cs = x := ⟨_, rfl⟩
  have HX := hid hx
  rw [hx]
  clear hp hx hA
  go_enter Tryd.func33, Tryd.ntmps33
  go_wp2_with fail
  go_loopw [8] (fun i wr => ∃ k : Nat, k ≤ cs.length ∧ i = .int .i64 k ∧ Hid (NoneTo (predS s) cs k) ∧ Below w.heap.size w wr) (fun i _ => cs.length - (intOf i).toNat)
  case atStart => exact ⟨0, Nat.zero_le _, rfl, (fun j _ h => absurd h (by omega)), Below.refl _ _⟩
  case round =>
    obtain ⟨k, hk, rfl, hno, hbr⟩ := hrel
    have HB := hid hbr
    by_cases hlt : k < cs.length
    · obtain ⟨ad, x, rfl, -, hx, x0, x1, x2⟩ := (hS.out.below hbr).atC hlt
      have hi1 : (k : Int) < (cs.length : Int) := by omega
      have HPR := hid ((hbr.cell (p := ⟨Bs, 0, none⟩) hlt0).trans HP0.out)
      clear hbr
      cases hp : predS s x with
      | true =>
        have E := hid (idxC_at hx hp hno.out)
        have HP := hid hp
        clear hx hp
        go_wp2_with (go_at_call 23; refine (oneSome_any x Bs s _ HPR.out).mono ?_; rintro e w1 ⟨rfl, hb1⟩; rw [HP.out]; (have B1 := hid hb1); clear hb1)
        go_ret
        exact ⟨ret_inC (E.out.symm.trans HX.out), HB.out.trans (B1.out.mono HB.out.size)⟩
      | false =>
        have N1 := hid (hno.out.succ hx hp)
        have HP := hid hp
        clear hx hp
        go_wp2_with (go_at_call 23; refine (oneSome_any x Bs s _ HPR.out).mono ?_; rintro e w1 ⟨rfl, hb1⟩; rw [HP.out]; (have B1 := hid hb1); clear hb1)
        go_roundw
        case rel => exact ⟨k + 1, by omega, by go_num, N1.out, HB.out.trans (B1.out.mono HB.out.size)⟩
        case measure => simp [intOf]; omega
    · obtain rfl : k = cs.length := by omega
      have E := hid (idxC_none hno.out)
      clear hbr
      go_wp2_with fail
      go_ret
      exact ⟨ret_inC (E.out.symm.trans HX.out), HB.out⟩

set_option maxHeartbeats 1000000 in
theorem containsSome_any (A : Option Addr) (cs : List Cl) (n c B : Nat) (hn : n = cs.length) (Bs : Nat) (s : Int) (w : World) (hA : SlAt encC 3 w B A cs) (hl : cs.length ≤ 1000000000) (hp : w.cell? ⟨Bs, 0, none⟩ = some (.int .i64 s)) :
    Calls Tryd.prog 21 #[.slice A n c, .func (.func 23) #[] #[.pointer (some ⟨Bs, 0, none⟩)]] w (IsBool (cs.any (predS s)) w) := by
  subst hn
  have KEY := hid (indexSome_any A cs _ c B rfl Bs s w hA hl hp)
  rw [← idxC_any]
  obtain ⟨x, hx⟩ : ∃ x, idxC (predS s) cs = x := ⟨_, rfl⟩
  have HX := hid hx
  rw [hx]
  clear hx hA hp
  go_enter Tryd.func21, Tryd.ntmps21
  go_wp2_with (go_at_call 33; refine KEY.out.mono ?_; rintro e w1 ⟨rfl, hb1⟩; rw [HX.out]; (have B1 := hid hb1); clear hb1)
  go_ret
  exact ⟨rfl, B1.out⟩


set_option maxHeartbeats 1000000 in
theorem cellsSome_no (A : Option Addr) (n c : Nat) (f t s : Int) (w : World) (h : ¬ spanOk n f t) :
    Calls Tryd.prog 9 #[.slice A n c, .int .i64 f, .int .i64 t, .int .i64 s] w (IsBool false w) := by
  go_enter Tryd.func9, Tryd.ntmps9
  go_wp2_with (go_at_call 20; refine (span_no _ _ _ _ _ _ h).mono ?_; rintro e w' ⟨rfl, rfl⟩)
  go_ret
  exact ⟨rfl, (Below.refl _ _).alloc (Nat.le_refl _) _⟩

set_option maxHeartbeats 1000000 in
theorem cellsAll_eq (A : Option Addr) (n c F : Nat) (s : Int) (w : World) (h : F ≤ n) :
    Calls Tryd.prog 8 #[.slice A n c, .int .i64 (F : Nat), .int .i64 (F : Nat), .int .i64 s] w (IsBool false w) := by
  have q : ((F : Int) == (F : Int)) = true := by simp
  go_enter Tryd.func8, Tryd.ntmps8
  go_wp2_with (go_at_call 20; refine (span_yes _ _ _ _ _ _ ⟨by omega, by omega, by omega⟩).mono ?_; rintro e w' ⟨rfl, rfl⟩)
  go_ret
  exact ⟨rfl, (Below.refl _ _).alloc (Nat.le_refl _) _⟩

set_option maxRecDepth 100000 in
set_option maxHeartbeats 2000000 in
theorem cellsAll_lt (A : Option Addr) (cs : List Cl) (n c B : Nat) (hn : n = cs.length) (F T : Nat) (s : Int) (w : World) (hA : SlAt encC 3 w B A cs) (hl : cs.length ≤ 1000000000) (hc : cs.length ≤ c) (hFT : F < T) (hTn : T ≤ cs.length) :
    Calls Tryd.prog 8 #[.slice A n c, .int .i64 (F : Nat), .int .i64 (T : Nat), .int .i64 s] w (IsBool (!(partC cs F T).any (predA s)) w) := by
  subst hn
  have hS := (hA.live (fun _ => by rw [encC_len]; omega)).alloc (Nat.le_refl _) (.cells #[.int .i64 s] 3)
  have hX := (hS.cut (k := F) hc).take (T - F)
  have hcF : ¬ c = F := by omega
  rw [if_neg hcF] at hX
  have HX := hid hX
  have HC := hid (show (w.alloc (.cells #[.int .i64 s] 3)).cell? ⟨w.heap.size, 0, none⟩ = some (.int .i64 s) from cell_of_row _ _ 0 _ _ _ (heap_alloc_new w _))
  have HL := hid (show T - F = (partC cs F T).length from (part_len hTn).symm)
  have lp : (partC cs F T).length ≤ 1000000000 := by rw [part_len hTn]; omega
  obtain ⟨r, hr⟩ : ∃ r, (partC cs F T).any (predA s) = r := ⟨_, rfl⟩
  have HR := hid hr
  rw [hr]
  have k1 : (F : Int) ≤ (T : Int) := by omega
  have k2 : (T : Int) ≤ (c : Int) := by omega
  have k3 : (0 : Int) ≤ (F : Int) := by omega
  have k4 : F ≤ T := by omega
  have k5 : T ≤ c := by omega
  have q : ((F : Int) == (T : Int)) = false := by rw [beq_eq_false_iff_ne]; omega
  clear hr hA hS hX
  go_enter Tryd.func8, Tryd.ntmps8
  go_wp2_with (first
    | (go_at_call 20; refine (span_yes _ _ _ _ _ _ ⟨by omega, by omega, by omega⟩).mono ?_; rintro e w' ⟨rfl, rfl⟩)
    | (go_at_call 21; refine (containsAll_any _ (partC cs F T) _ _ _ HL.out w.heap.size s _ HX.out lp HC.out).mono ?_; rintro e w1 ⟨rfl, hb1⟩; rw [HR.out]; (have B1 := hid hb1); clear hb1))
  go_ret
  exact ⟨rfl, ((Below.refl _ w).alloc (Nat.le_refl _) _).trans (B1.out.mono (by simp))⟩

set_option maxRecDepth 100000 in
set_option maxHeartbeats 2000000 in
theorem cellsSome_in (A : Option Addr) (cs : List Cl) (n c B : Nat) (hn : n = cs.length) (F T : Nat) (s : Int) (w : World) (hA : SlAt encC 3 w B A cs) (hl : cs.length ≤ 1000000000) (hc : cs.length ≤ c) (hFT : F ≤ T) (hTn : T ≤ cs.length) (hcF : ¬ c = F) :
    Calls Tryd.prog 9 #[.slice A n c, .int .i64 (F : Nat), .int .i64 (T : Nat), .int .i64 s] w (IsBool ((partC cs F T).any (predS s)) w) := by
  subst hn
  have hS := (hA.live (fun _ => by rw [encC_len]; omega)).alloc (Nat.le_refl _) (.cells #[.int .i64 s] 3)
  have hX := (hS.cut (k := F) hc).take (T - F)
  rw [if_neg hcF] at hX
  have HX := hid hX
  have HC := hid (show (w.alloc (.cells #[.int .i64 s] 3)).cell? ⟨w.heap.size, 0, none⟩ = some (.int .i64 s) from cell_of_row _ _ 0 _ _ _ (heap_alloc_new w _))
  have HL := hid (show T - F = (partC cs F T).length from (part_len hTn).symm)
  have lp : (partC cs F T).length ≤ 1000000000 := by rw [part_len hTn]; omega
  obtain ⟨r, hr⟩ : ∃ r, (partC cs F T).any (predS s) = r := ⟨_, rfl⟩
  have HR := hid hr
  rw [hr]
  have k1 : (F : Int) ≤ (T : Int) := by omega
  have k2 : (T : Int) ≤ (c : Int) := by omega
  have k3 : (0 : Int) ≤ (F : Int) := by omega
  have k4 : F ≤ T := by omega
  have k5 : T ≤ c := by omega
  clear hr hA hS hX
  go_enter Tryd.func9, Tryd.ntmps9
  go_wp2_with (first
    | (go_at_call 20; refine (span_yes _ _ _ _ _ _ ⟨by omega, by omega, by omega⟩).mono ?_; rintro e w' ⟨rfl, rfl⟩)
    | (go_at_call 21; refine (containsSome_any _ (partC cs F T) _ _ _ HL.out w.heap.size s _ HX.out lp HC.out).mono ?_; rintro e w1 ⟨rfl, hb1⟩; rw [HR.out]; (have B1 := hid hb1); clear hb1))
  go_ret
  exact ⟨rfl, ((Below.refl _ w).alloc (Nat.le_refl _) _).trans (B1.out.mono (by simp))⟩

set_option maxRecDepth 100000 in
set_option maxHeartbeats 2000000 in
theorem cellsSome_end (A : Option Addr) (cs : List Cl) (n c B : Nat) (hn : n = cs.length) (F T : Nat) (s : Int) (w : World) (hA : SlAt encC 3 w B A cs) (hl : cs.length ≤ 1000000000) (hc : cs.length ≤ c) (hFT : F ≤ T) (hTn : T ≤ cs.length) (hcF : c = F) :
    Calls Tryd.prog 9 #[.slice A n c, .int .i64 (F : Nat), .int .i64 (T : Nat), .int .i64 s] w (IsBool ((partC cs F T).any (predS s)) w) := by
  subst hn
  have hS := (hA.live (fun _ => by rw [encC_len]; omega)).alloc (Nat.le_refl _) (.cells #[.int .i64 s] 3)
  have hX := (hS.cut (k := F) hc).take (T - F)
  rw [if_pos hcF] at hX
  have HX := hid hX
  have HC := hid (show (w.alloc (.cells #[.int .i64 s] 3)).cell? ⟨w.heap.size, 0, none⟩ = some (.int .i64 s) from cell_of_row _ _ 0 _ _ _ (heap_alloc_new w _))
  have HL := hid (show T - F = (partC cs F T).length from (part_len hTn).symm)
  have lp : (partC cs F T).length ≤ 1000000000 := by rw [part_len hTn]; omega
  obtain ⟨r, hr⟩ : ∃ r, (partC cs F T).any (predS s) = r := ⟨_, rfl⟩
  have HR := hid hr
  rw [hr]
  have k1 : (F : Int) ≤ (T : Int) := by omega
  have k2 : (T : Int) ≤ (c : Int) := by omega
  have k3 : (0 : Int) ≤ (F : Int) := by omega
  have k4 : F ≤ T := by omega
  have k5 : T ≤ c := by omega
  clear hr hA hS hX
  go_enter Tryd.func9, Tryd.ntmps9
  go_wp2_with (first
    | (go_at_call 20; refine (span_yes _ _ _ _ _ _ ⟨by omega, by omega, by omega⟩).mono ?_; rintro e w' ⟨rfl, rfl⟩)
    | (go_at_call 21; refine (containsSome_any _ (partC cs F T) _ _ _ HL.out w.heap.size s _ HX.out lp HC.out).mono ?_; rintro e w1 ⟨rfl, hb1⟩; rw [HR.out]; (have B1 := hid hb1); clear hb1))
  go_ret
  exact ⟨rfl, ((Below.refl _ w).alloc (Nat.le_refl _) _).trans (B1.out.mono (by simp))⟩
end Go.Proofs.YtoagikkjomobgaaDoor
