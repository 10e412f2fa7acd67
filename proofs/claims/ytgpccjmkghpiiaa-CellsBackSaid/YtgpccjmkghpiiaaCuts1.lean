/- The walks of cells.Insert, cells.Cut, cells.Part. -/
import Derived.Test.YtgpccjmkghpiiaaConcat
import Derived.RegionTactic
import Derived.BigRegion
import Derived.Deep.RegionWith
import Derived.Deep.RegionHeld3
namespace Go.Proofs.Ytgpccjmkghpiiaa
open Go.RowKit

theorem concat_new (w : World) (L : List (Option Addr × List Cl × Nat)) (t : TypeId) (vs : Array Value) (n c : Nat) (hvs : vs.toList = L.flatMap encS) (hn : n = L.length) (hS : ∀ x ∈ L, SlAt encC 3 w w.heap.size x.1 x.2.1) (xs : List Cl) (hx : joined L = xs) (hl : xs.length ≤ 1000000000) (hl2 : L.length ≤ 1000000000) :
    Calls Try.prog 36 #[.slice (some ⟨w.heap.size, 0, none⟩) n c] (w.alloc (.cells vs t)).drew (RetOwn encC 3 33 w xs) := by
  subst hn hx
  have hsz : vs.size = L.length * 1 := by rw [← Array.length_toList, hvs, length_flat encS_len]
  have ho := World.ownsRow_lit (e := t) (size := 1) (base := w.heap.size) w vs L.length (Nat.le_refl _) (by unfold maxLen; omega) hsz
  rw [hvs] at ho
  have ho' : Own encS 1 t (w.alloc (.cells vs t)) w.heap.size (.slice (some ⟨w.heap.size, 0, none⟩) L.length L.length) L := ho
  obtain ⟨AL, _, hvL, _, _, _, hSL⟩ := ho'.form encS_len
  obtain rfl : AL = some ⟨w.heap.size, 0, none⟩ := (by injection hvL with h _ _; exact h.symm)
  have hb0 : Below w.heap.size w (w.alloc (.cells vs t)).drew := ((Below.refl _ w).alloc (Nat.le_refl _) _).drew
  have hsz0 := hb0.size
  refine (concat_any _ L L.length c _ rfl _ hSL.drew (fun x hx => ((hS x hx).alloc (Nat.le_refl _) _).drew.more hsz0) hl hl2).mono ?_
  rintro e w' ⟨v, rfl, ho, hb⟩
  exact ⟨v, rfl, ho.based hsz0, hb0.trans (hb.mono hsz0)⟩

set_option maxHeartbeats 2000000 in
theorem cut_yes (A : Option Addr) (cs : List Cl) (n c B : Nat) (hn : n = cs.length) (f t : Int) (w : World) (hA : SlAt encC 3 w B A cs) (hl : cs.length ≤ 500000000) (hc : cs.length ≤ c) (h : spanOk cs.length f t) :
    Calls Try.prog 19 #[.slice A n c, .int .i64 f, .int .i64 t] w
      (fun e w' => ∃ v, e = .returned (.tuple #[v, .int .i64 0]) ∧ Own encC 3 33 w' w.heap.size v (cs.take f.toNat ++ cs.drop t.toNat) ∧ Below w.heap.size w w') := by
  subst hn
  obtain ⟨hf0, hft, htn⟩ := h
  obtain ⟨F, rfl⟩ := Int.eq_ofNat_of_zero_le hf0
  obtain ⟨T, rfl⟩ := Int.eq_ofNat_of_zero_le (Int.le_trans hf0 hft)
  have hFT : F ≤ T := by omega
  have hTn : T ≤ cs.length := by omega
  simp only [Int.toNat_natCast]
  have hFc : F ≤ c := by omega
  have hTc : T ≤ c := by omega
  have k1 : IntKind.i64.wrap (F : Int) = (F : Int) := IntWalk.i64_in _ (by omega)
  have k2 : IntKind.i64.wrap (T : Int) = (T : Int) := IntWalk.i64_in _ (by omega)
  have k3 : (0 : Int) ≤ (F : Int) := by omega
  have k4 : (0 : Int) ≤ (T : Int) := by omega
  have k5 : (F : Int) ≤ (c : Int) := by omega
  have k6 : (T : Int) ≤ (cs.length : Int) := by omega
  have hS := hA.live (fun _ => by rw [encC_len]; omega)
  have HC : ∀ X m k, m = cs.length - T → SlAt encC 3 w w.heap.size X (cs.drop T) → Hid (Calls Try.prog 36 #[.slice (some ⟨w.heap.size, 0, none⟩) 2 2] (w.alloc (.cells #[.slice A F c, .slice X m k] 24)).drew (RetOwn encC 3 33 w (cs.take F ++ cs.drop T))) := fun X m k hm hX =>
    concat_new w [(A, cs.take F, c), (X, cs.drop T, k)] 24 #[.slice A F c, .slice X m k] 2 2 (by simp [encS, hm, Nat.min_eq_left (Nat.le_trans hFT hTn)]) rfl
      (by intro x hx; simp at hx; rcases hx with rfl | rfl; exact hS.take F; exact hX) (cs.take F ++ cs.drop T) (by simp [joined]) (by simp; omega) (by simp)
  have hX := hS.cut (k := T) hc
  by_cases hcT : c = T
  · rw [if_pos hcT] at hX
    subst hcT
    go_enter Try.func19, Try.ntmps19
    go_wp2_with (first
      | (go_at_call 35; refine (span_yes _ _ _ _ _ _ ⟨by omega, by omega, by omega⟩).mono ?_; rintro e w' ⟨rfl, rfl⟩))
    go_region_held3 (fun _ => True) (first | trivial) (first | (go_at_call 36; refine (HC _ _ _ (by omega) hX).out.mono ?_; rintro e w' ⟨v, rfl, ho, hb⟩))
    all_goals
      go_wp2
      go_ret2
      exact ⟨_, rfl, ho, hb⟩
  · rw [if_neg hcT] at hX
    go_enter Try.func19, Try.ntmps19
    go_wp2_with (first
      | (go_at_call 35; refine (span_yes _ _ _ _ _ _ ⟨by omega, by omega, by omega⟩).mono ?_; rintro e w' ⟨rfl, rfl⟩))
    go_region_held3 (fun _ => True) (first | trivial) (first | (go_at_call 36; refine (HC _ _ _ (by omega) hX).out.mono ?_; rintro e w' ⟨v, rfl, ho, hb⟩))
    all_goals
      go_wp2
      go_ret2
      exact ⟨_, rfl, ho, hb⟩

set_option maxHeartbeats 2000000 in
theorem insert_yes (A M : Option Addr) (cs ms : List Cl) (n c B m cm D : Nat) (hn : n = cs.length) (hm : m = ms.length) (f : Int) (w : World) (hA : SlAt encC 3 w B A cs) (hM : SlAt encC 3 w D M ms) (hl : cs.length ≤ 300000000) (hl2 : ms.length ≤ 300000000) (hc : cs.length ≤ c) (h : spanOk cs.length f f) :
    Calls Try.prog 17 #[.slice A n c, .int .i64 f, .slice M m cm] w
      (fun e w' => ∃ v, e = .returned (.tuple #[v, .int .i64 0]) ∧ Own encC 3 33 w' w.heap.size v (cs.take f.toNat ++ (ms ++ cs.drop f.toNat)) ∧ Below w.heap.size w w') := by
  subst hn hm
  obtain ⟨hf0, hft, htn⟩ := h
  obtain ⟨F, rfl⟩ := Int.eq_ofNat_of_zero_le hf0
  have hFT : F ≤ cs.length := by omega
  simp only [Int.toNat_natCast]
  have hFc : F ≤ c := by omega
  have k1 : IntKind.i64.wrap (F : Int) = (F : Int) := IntWalk.i64_in _ (by omega)
  have k3 : (0 : Int) ≤ (F : Int) := by omega
  have k5 : (F : Int) ≤ (c : Int) := by omega
  have k6 : (F : Int) ≤ (cs.length : Int) := by omega
  have hS := hA.live (fun _ => by rw [encC_len]; omega)
  have hMS := hM.live (fun _ => by rw [encC_len]; omega)
  have HC : ∀ X k l, l = cs.length - F → SlAt encC 3 w w.heap.size X (cs.drop F) → Hid (Calls Try.prog 36 #[.slice (some ⟨w.heap.size, 0, none⟩) 3 3] (w.alloc (.cells #[.slice A F c, .slice M ms.length cm, .slice X l k] 24)).drew (RetOwn encC 3 33 w (cs.take F ++ (ms ++ cs.drop F)))) := fun X k l hl' hX =>
    concat_new w [(A, cs.take F, c), (M, ms, cm), (X, cs.drop F, k)] 24 #[.slice A F c, .slice M ms.length cm, .slice X l k] 3 3 (by simp [encS, hl', Nat.min_eq_left hFT]) rfl
      (by intro x hx; simp at hx; rcases hx with rfl | rfl | rfl; exact hS.take F; exact hMS; exact hX) (cs.take F ++ (ms ++ cs.drop F)) (by simp [joined]) (by simp; omega) (by simp)
  have hX := hS.cut (k := F) hc
  clear hA hM
  by_cases hcT : c = F
  · rw [if_pos hcT] at hX
    subst hcT
    go_enter Try.func17, Try.ntmps17
    go_wp2_with (first
      | (go_at_call 35; refine (span_yes _ _ _ _ _ _ ⟨by omega, by omega, by omega⟩).mono ?_; rintro e w' ⟨rfl, rfl⟩))
    go_region_held3 (fun _ => True) (first | trivial) (first | (go_at_call 36; refine (HC _ _ _ (by omega) hX).out.mono ?_; rintro e w' ⟨v, rfl, ho, hb⟩))
    all_goals
      go_wp2
      go_ret2
      exact ⟨_, rfl, ho, hb⟩
  · rw [if_neg hcT] at hX
    go_enter Try.func17, Try.ntmps17
    go_wp2_with (first
      | (go_at_call 35; refine (span_yes _ _ _ _ _ _ ⟨by omega, by omega, by omega⟩).mono ?_; rintro e w' ⟨rfl, rfl⟩))
    go_region_held3 (fun _ => True) (first | trivial) (first | (go_at_call 36; refine (HC _ _ _ (by omega) hX).out.mono ?_; rintro e w' ⟨v, rfl, ho, hb⟩))
    all_goals
      go_wp2
      go_ret2
      exact ⟨_, rfl, ho, hb⟩

set_option maxHeartbeats 400000 in
theorem insert_no (A : Option Addr) (n c : Nat) (f : Int) (w : World) (M : Option Addr) (m cm : Nat) (h : ¬ spanOk n f f) :
    Calls Try.prog 17 #[.slice A n c, .int .i64 f, .slice M m cm] w (fun e w' => e = .returned (.tuple #[.slice none 0 0, .int .i64 1]) ∧ w = w') := by
  go_enter Try.func17, Try.ntmps17
  go_wp2_with (go_at_call 35; refine (span_no _ _ _ _ _ _ h).mono ?_; rintro e w' ⟨rfl, rfl⟩)
  go_ret2
  exact ⟨rfl, rfl⟩

set_option maxHeartbeats 400000 in
theorem part_no (A : Option Addr) (n c : Nat) (f t : Int) (w : World) (h : ¬ spanOk n f t) :
    Calls Try.prog 21 #[.slice A n c, .int .i64 f, .int .i64 t] w (fun e w' => e = .returned (.tuple #[.slice none 0 0, .int .i64 1]) ∧ w = w') := by
  go_enter Try.func21, Try.ntmps21
  go_wp2_with (go_at_call 35; refine (span_no _ _ _ _ _ _ h).mono ?_; rintro e w' ⟨rfl, rfl⟩)
  go_ret2
  exact ⟨rfl, rfl⟩

set_option maxHeartbeats 400000 in
theorem refInsert_no (A : Option Addr) (n c : Nat) (f : Int) (w : World) (M : Option Addr) (m cm : Nat) (h : ¬ spanOk n f f) :
    Calls Try.prog 18 #[.slice A n c, .int .i64 f, .slice M m cm] w (fun e w' => e = .returned (.tuple #[.slice none 0 0, .int .i64 1]) ∧ w = w') := by
  go_enter Try.func18, Try.ntmps18
  go_wp2_with (go_at_call 37; refine (refSpan_no _ _ _ _ _ _ h).mono ?_; rintro e w' ⟨rfl, rfl⟩)
  go_ret2
  exact ⟨rfl, rfl⟩

set_option maxHeartbeats 400000 in
theorem refPart_no (A : Option Addr) (n c : Nat) (f t : Int) (w : World) (h : ¬ spanOk n f t) :
    Calls Try.prog 22 #[.slice A n c, .int .i64 f, .int .i64 t] w (fun e w' => e = .returned (.tuple #[.slice none 0 0, .int .i64 1]) ∧ w = w') := by
  go_enter Try.func22, Try.ntmps22
  go_wp2_with (go_at_call 37; refine (refSpan_no _ _ _ _ _ _ h).mono ?_; rintro e w' ⟨rfl, rfl⟩)
  go_ret2
  exact ⟨rfl, rfl⟩

set_option maxHeartbeats 400000 in
theorem refCut_no (A : Option Addr) (n c : Nat) (f t : Int) (w : World) (h : ¬ spanOk n f t) :
    Calls Try.prog 20 #[.slice A n c, .int .i64 f, .int .i64 t] w (fun e w' => e = .returned (.tuple #[.slice none 0 0, .int .i64 1]) ∧ w = w') := by
  go_enter Try.func20, Try.ntmps20
  go_wp2_with (go_at_call 37; refine (refSpan_no _ _ _ _ _ _ h).mono ?_; rintro e w' ⟨rfl, rfl⟩)
  go_ret2
  exact ⟨rfl, rfl⟩

set_option maxHeartbeats 2000000 in
theorem part_yes (A : Option Addr) (cs : List Cl) (n c B : Nat) (hn : n = cs.length) (f t : Int) (w : World) (hA : SlAt encC 3 w B A cs) (hl : cs.length ≤ 500000000) (hc : cs.length ≤ c) (h : spanOk cs.length f t) :
    Calls Try.prog 21 #[.slice A n c, .int .i64 f, .int .i64 t] w
      (fun e w' => ∃ v, e = .returned (.tuple #[v, .int .i64 0]) ∧ Own encC 3 33 w' w.heap.size v ((cs.drop f.toNat).take (t.toNat - f.toNat)) ∧ Below w.heap.size w w') := by
  subst hn
  obtain ⟨hf0, hft, htn⟩ := h
  obtain ⟨F, rfl⟩ := Int.eq_ofNat_of_zero_le hf0
  obtain ⟨T, rfl⟩ := Int.eq_ofNat_of_zero_le (Int.le_trans hf0 hft)
  have hFT : F ≤ T := by omega
  have hTn : T ≤ cs.length := by omega
  simp only [Int.toNat_natCast]
  have hFc : F ≤ c := by omega
  have hTc : T ≤ c := by omega
  have hX := (hA.cut (k := F) hc).take (T - F)
  have hlen : ((cs.drop F).take (T - F)).length = T - F := by simp; omega
  by_cases hcF : c = F
  · rw [if_pos hcF] at hX
    subst hcF
    go_enter Try.func21, Try.ntmps21
    go_wp2_with (first
      | (go_at_call 35; refine (span_yes _ _ _ _ _ _ ⟨by omega, by omega, by omega⟩).mono ?_; rintro e w' ⟨rfl, rfl⟩)
      | (go_at_call 38; refine (clone_any _ _ _ _ _ (by omega) _ hX (by omega)).mono ?_; rintro e w' ⟨v, rfl, ho, hb⟩))
    go_ret2
    exact ⟨_, rfl, ho, hb⟩
  · rw [if_neg hcF] at hX
    go_enter Try.func21, Try.ntmps21
    go_wp2_with (first
      | (go_at_call 35; refine (span_yes _ _ _ _ _ _ ⟨by omega, by omega, by omega⟩).mono ?_; rintro e w' ⟨rfl, rfl⟩)
      | (go_at_call 38; refine (clone_any _ _ _ _ _ (by omega) _ hX (by omega)).mono ?_; rintro e w' ⟨v, rfl, ho, hb⟩))
    go_ret2
    exact ⟨_, rfl, ho, hb⟩

set_option maxHeartbeats 2000000 in
theorem refPart_yes (A : Option Addr) (cs : List Cl) (n c B : Nat) (hn : n = cs.length) (f t : Int) (w : World) (hA : SlAt encC 3 w B A cs) (hl : cs.length ≤ 500000000) (hc : cs.length ≤ c) (h : spanOk cs.length f t) :
    Calls Try.prog 22 #[.slice A n c, .int .i64 f, .int .i64 t] w
      (fun e w' => ∃ v, e = .returned (.tuple #[v, .int .i64 0]) ∧ Own encC 3 33 w' w.heap.size v ((cs.drop f.toNat).take (t.toNat - f.toNat)) ∧ Below w.heap.size w w') := by
  subst hn
  obtain ⟨hf0, hft, htn⟩ := h
  obtain ⟨F, rfl⟩ := Int.eq_ofNat_of_zero_le hf0
  obtain ⟨T, rfl⟩ := Int.eq_ofNat_of_zero_le (Int.le_trans hf0 hft)
  have hFT : F ≤ T := by omega
  have hTn : T ≤ cs.length := by omega
  simp only [Int.toNat_natCast]
  have hFc : F ≤ c := by omega
  have hTc : T ≤ c := by omega
  have hX := (hA.cut (k := F) hc).take (T - F)
  have hlen : ((cs.drop F).take (T - F)).length = T - F := by simp; omega
  by_cases hcF : c = F
  · rw [if_pos hcF] at hX
    subst hcF
    go_enter Try.func22, Try.ntmps22
    go_wp2_with (first
      | (go_at_call 37; refine (refSpan_yes _ _ _ _ _ _ ⟨by omega, by omega, by omega⟩).mono ?_; rintro e w' ⟨rfl, rfl⟩)
      | (go_at_call 16; refine (refOwn_any _ _ _ _ _ (by omega) _ hX (by omega)).mono ?_; rintro e w' ⟨v, rfl, ho, hb⟩))
    go_ret2
    exact ⟨_, rfl, ho, hb⟩
  · rw [if_neg hcF] at hX
    go_enter Try.func22, Try.ntmps22
    go_wp2_with (first
      | (go_at_call 37; refine (refSpan_yes _ _ _ _ _ _ ⟨by omega, by omega, by omega⟩).mono ?_; rintro e w' ⟨rfl, rfl⟩)
      | (go_at_call 16; refine (refOwn_any _ _ _ _ _ (by omega) _ hX (by omega)).mono ?_; rintro e w' ⟨v, rfl, ho, hb⟩))
    go_ret2
    exact ⟨_, rfl, ho, hb⟩
end Go.Proofs.Ytgpccjmkghpiiaa
