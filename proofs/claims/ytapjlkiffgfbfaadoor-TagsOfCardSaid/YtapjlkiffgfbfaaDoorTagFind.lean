/- The walks of tags.low and tags.Find. -/
import Derived.Test.YtapjlkiffgfbfaaDoorTagNames
import Derived.Test.YtapjlkiffgfbfaaDoorShelf
namespace Go.Proofs.YtapjlkiffgfbfaaDoor
open Go.RowKit Go.WideMaps Go.Maps Go.Lib Go.Shelf

/-! ### the map's answers -/
theorem mapT_rev : ∀ r : List (List UInt8 × Nat), IsMap (mapT r.reverse)
  | [] => isMap_empty
  | p :: r => by rw [List.reverse_cons, mapT_snoc]; exact (mapT_rev r).put _ _
theorem mapT_at' (k : List UInt8) : ∀ r : List (List UInt8 × Nat), has (mapT r.reverse) (.string k) = (r.find? fun p => p.1 == k).isSome ∧
    (mapT r.reverse).atKey (.string k) (.lit (.int .i64 0)) = .lit (.int .i64 (((r.find? fun p => p.1 == k).map (·.2)).getD 0 : Nat))
  | [] => ⟨rfl, rfl⟩
  | p :: r => by
    rw [List.reverse_cons, mapT_snoc, List.find?_cons]
    by_cases h : p.1 = k
    · subst h
      rw [has_put_same (mapT_rev r) (by trivial), atKey_put_same (mapT_rev r) (by trivial)]
      simp
    · have hb : (p.1 == k) = false := by simpa using h
      have hne : (Lit.string k) ≠ (Lit.string p.1) := fun e => h (by injection e with e; exact e.symm)
      rw [has_put_other hne, atKey_put_other hne, hb]
      exact mapT_at' k r
theorem mapT_at (k : List UInt8) (l : List (List UInt8 × Nat)) : has (mapT l) (.string k) = (l.reverse.find? fun p => p.1 == k).isSome ∧
    (mapT l).atKey (.string k) (.lit (.int .i64 0)) = .lit (.int .i64 (((l.reverse.find? fun p => p.1 == k).map (·.2)).getD 0 : Nat)) := by
  have := mapT_at' k l.reverse
  rw [List.reverse_reverse] at this
  exact this
theorem find_rev (k : List UInt8) : (pairsT 17).reverse.find? (fun p => p.1 == k) = (pairsT 17).find? fun p => p.1 == k := by
  by_cases h : ∃ p ∈ pairsT 17, p.1 = k
  · obtain ⟨p, hp, rfl⟩ := h
    have : ∀ p ∈ pairsT 17, (pairsT 17).reverse.find? (fun q => q.1 == p.1) = (pairsT 17).find? fun q => q.1 == p.1 := by decide
    exact this p hp
  · have h1 : ∀ p ∈ pairsT 17, ¬ (p.1 == k) = true := fun p hp e => h ⟨p, hp, by simpa using e⟩
    rw [List.find?_eq_none.2 h1, List.find?_eq_none.2 fun p hp => h1 p (List.mem_reverse.1 hp)]
def findI (k : List UInt8) : Int := ((findT k).getD 0 : Nat)
def findB (k : List UInt8) : Bool := (findT k).isSome
theorem map_has (k : List UInt8) : has (mapT (pairsT 17)) (.string k) = findB k := by
  rw [(mapT_at k _).1, find_rev]; unfold findB findT; simp
theorem map_at (k : List UInt8) {c : Int} (h : (mapT (pairsT 17)).atKey (.string k) (.lit (.int .i64 0)) = .lit (.int .i64 c)) : c = findI k := by
  rw [(mapT_at k _).2, find_rev] at h
  injection h with h
  injection h with _ h
  exact h.symm

theorem encodeRune_len (r : Int) : (encodeRune r).length ≤ 4 := by
  unfold encodeRune encodeRuneZ
  repeat' split
  all_goals simp
theorem mapD_len (f : Int → Int) : ∀ (n : Nat) (l : List UInt8), l.length ≤ n → (mapD f l).length ≤ 4 * l.length
  | _, [], _ => by simp [mapD_nil]
  | 0, x :: l, h => by simp at h
  | n + 1, x :: l, h => by
    rw [mapD_step f (x :: l) (by simp), List.length_append]
    have hw := decodeL_width (x :: l)
    have h1 : ((if 0 ≤ f (decodeL (x :: l)).1 then encodeRune (f (decodeL (x :: l)).1) else [])).length ≤ 4 := by
      split
      · exact encodeRune_len _
      · simp
    have h2 := mapD_len f n ((x :: l).drop (decodeL (x :: l)).2) (by rw [List.length_drop]; simp at h ⊢; omega)
    rw [List.length_drop] at h2
    simp at h h2 ⊢
    omega
/-! ### low -/
set_option maxHeartbeats 1000000 in
theorem low1_any (c : Int) (h0 : 0 ≤ c) (h1 : c ≤ 1114111) (w : World) : Calls Tryd.prog 72 #[.int .i32 c] w fun e w' => e = .returned (.int .i32 (lowI c)) ∧ w = w' := by
  by_cases h : 65 ≤ c
  · by_cases h2 : c ≤ 90
    · have e : lowI c = c + 32 := by unfold lowI; rw [if_pos ⟨h, h2⟩]
      rw [e]
      clear e
      have e1 : IntKind.i32.wrap (c + 97) = c + 97 := IntWalk.i32_in _ (by omega)
      have e2 : IntKind.i32.wrap (c + 97 - 65) = c + 32 := by rw [IntWalk.i32_in _ (by omega)]; omega
      go_enter Tryd.func72, Tryd.ntmps72
      go_wp2
      go_ret
      exact ⟨by first | rfl | (congr 2; omega), rfl⟩
    · have e : lowI c = c := by unfold lowI; rw [if_neg (by omega)]
      rw [e]
      clear e
      go_enter Tryd.func72, Tryd.ntmps72
      go_wp2
      go_ret
      exact ⟨rfl, rfl⟩
  · have e : lowI c = c := by unfold lowI; rw [if_neg (by omega)]
    rw [e]
    clear e
    go_enter Tryd.func72, Tryd.ntmps72
    go_wp2
    go_ret
    exact ⟨rfl, rfl⟩
theorem lowGrows (w : World) : MapGrows Tryd.prog 72 #[] lowI w := fun W x hx _ =>
  (low1_any x (by omega) (by omega) W).mono fun _ _ ⟨he, hw⟩ => ⟨he, hw ▸ Below.refl _ _⟩
set_option maxHeartbeats 1000000 in
theorem low_any (s : ByteArray) (w : World) (hs : s.size < 35184372088832) (hT : Lib.Utf8Tabs 0 1 w) : Calls Tryd.prog 54 #[.string s] w fun e w' => e = .returned (.string (nmS (mapD lowI s.data.toList))) ∧ Below w.heap.size w w' := by
  have c1 := fun W => Tryd.strings_Map_grows 72 #[] (enters_of Tryd.func72 (by kernel_rfl) rfl) lowI s W hs (lowGrows W) lowI_bd
  have C1 := hid c1
  have T1 := hid hT
  clear c1 hT
  go_enter Tryd.func54, Tryd.ntmps54
  go_wp2_with (go_at_call 65; refine (C1.out _ T1.out).mono ?_; rintro e w1 ⟨rfl, hb1⟩)
  go_ret
  exact ⟨rfl, by assumption⟩

/-! ### Find -/
theorem zeroI (w : World) : (zeroValue 3).run Tryd.prog w = .ok (.int .i64 0) w := by kernel_rfl
set_option maxRecDepth 100000 in
set_option maxHeartbeats 1000000 in
theorem find_any (s : ByteArray) (w : World) (hs : s.size ≤ 100000) (hT : Lib.Utf8Tabs 0 1 w) : Calls Tryd.prog 15 #[.string s] w fun e w' => e = .returned (.tuple #[.int .i64 (findI (s.data.toList.map lowB)), .bool (findB (s.data.toList.map lowB))]) ∧ Below w.heap.size w w' := by
  obtain ⟨k, hk⟩ : ∃ k, mapD lowI s.data.toList = k := ⟨_, rfl⟩
  have e1 : findI (s.data.toList.map lowB) = findI k := by unfold findI; rw [← findT_low, hk]
  have e2 : findB (s.data.toList.map lowB) = findB k := by unfold findB; rw [← findT_low, hk]
  rw [e1, e2]
  clear e1 e2
  have T1 := hid hT
  have K1 := hid hk
  have KEY := hid (keyOf_string_mk (s := nmS k) Tryd.underlying9 (by
    have h1 := mapD_len lowI s.data.toList.length s.data.toList (Nat.le_refl _)
    rw [hk] at h1
    have h2 : (nmS k).size = k.length := by show k.toArray.size = _; simp
    have h3 : s.data.toList.length = s.size := (Lib.size_eq s).symm
    unfold maxLen
    omega))
  have K2 := hid (nmS_list k)
  clear hT hk
  go_enter Tryd.func15, Tryd.ntmps15
  go_wp2_with (first
    | (go_at_call 53; refine (names_any _).mono ?_; rintro e w1 ⟨rfl, ho1, hb1⟩; (have O1 := hid ho1); (have B1 := hid hb1); clear ho1 hb1)
    | (go_at_call 54; refine (low_any _ _ (by omega) (Utf8Tabs_below T1.out B1.out)).mono ?_; rintro e w2 ⟨rfl, hb2⟩; rw [K1.out]; (have B2 := hid hb2); clear hb2)
    | (at_lookup; refine wpList_lookup_own_ok_int _ rfl _ _ 58 rfl 9 3 .i64 lawS Tryd.underlying58 Tryd.underlying3 (zeroI _) w.heap.size _ (mapT (pairsT 17)) rfl (O1.out.choose_spec.below B2.out O1.out.choose_spec.lt) _ _ rfl KEY.out ?_; intro c hat hwc; rw [K2.out, map_has]; (have HC := hid (map_at k hat)); clear hat hwc))
  go_ret2
  exact ⟨by rw [HC.out]; rfl, B1.out.trans (B2.out.mono B1.out.size)⟩
end Go.Proofs.YtapjlkiffgfbfaaDoor
