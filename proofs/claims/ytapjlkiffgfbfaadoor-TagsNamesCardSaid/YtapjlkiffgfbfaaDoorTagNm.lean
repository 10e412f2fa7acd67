/- The walk of the law TagsNames. -/
import Derived.Test.YtapjlkiffgfbfaaDoorTagGreat
namespace Go.Proofs.YtapjlkiffgfbfaaDoor
open Go.RowKit Go.Lib

theorem name_class : ∀ t : Nat, t ≤ 16 → (nameL t = [] ↔ (classT t = 0 ∨ classT t = 1)) ∧ (nameL t ≠ [] → findI (nameL t) = t ∧ findB (nameL t) = true) := by decide
theorem findI_none {k : List UInt8} (h : findB k = false) : findI k = 0 := by
  unfold findB at h
  unfold findI
  cases hk : findT k with
  | none => rfl
  | some t => rw [hk] at h; cases h
theorem findI_class {k : List UInt8} (h : findB k = true) : 2 ≤ classT (findI k) := by
  unfold findB at h
  unfold findI
  obtain ⟨t, ht⟩ := Option.isSome_iff_exists.1 h
  rw [ht]
  unfold findT at ht
  rw [Option.map_eq_some_iff] at ht
  obtain ⟨p, hp, rfl⟩ := ht
  have : ∀ p ∈ pairsT 17, 2 ≤ classT (p.2 : Nat) := by decide
  exact this p (List.mem_of_find?_eq_some hp)
theorem nameL_low (t : Int) : (nameL t).map lowB = nameL t := by
  by_cases h : t < 0 ∨ 16 < t
  · rw [nameL_out h]; rfl
  · obtain ⟨n, rfl⟩ : ∃ n : Nat, t = n := ⟨t.toNat, by omega⟩
    have : ∀ t : Nat, t ≤ 16 → (nameL t).map lowB = nameL t := by decide
    exact this n (by omega)
theorem nameL_len (t : Int) : (nameL t).length ≤ 20 := by
  by_cases h : t < 0 ∨ 16 < t
  · rw [nameL_out h]; decide
  · obtain ⟨n, rfl⟩ : ∃ n : Nat, t = n := ⟨t.toNat, by omega⟩
    have : ∀ t : Nat, t ≤ 16 → (nameL t).length ≤ 20 := by decide
    exact this n (by omega)

theorem toList_data (b : ByteArray) : b.toList = b.data.toList := ByteArray.toList_eq b
/-- What is known of the tag's name and class. -/
theorem tag_two (t : Int) : (nameL t = [] ∧ (classT t = 0 ∨ classT t = 1)) ∨ (nameL t ≠ [] ∧ (classT t == 0) = false ∧ (classT t == 1) = false ∧ findI (nameL t) = t ∧ findB (nameL t) = true) := by
  by_cases h : t < 0 ∨ 16 < t
  · exact .inl ⟨nameL_out h, .inl (classT_out h)⟩
  · obtain ⟨m, rfl⟩ : ∃ n : Nat, t = n := ⟨t.toNat, by omega⟩
    obtain ⟨h1, h2⟩ := name_class m (by omega)
    by_cases hne : nameL m = []
    · exact .inl ⟨hne, h1.1 hne⟩
    · have h3 := mt h1.2 hne
      obtain ⟨h4, h5⟩ := h2 hne
      exact .inr ⟨hne, beq_eq_false_iff_ne.2 (by omega), beq_eq_false_iff_ne.2 (by omega), h4, h5⟩

set_option maxRecDepth 100000 in
set_option maxHeartbeats 8000000 in
theorem tagsNames_walk (w : World) (t : Int) (_ : (Lit.int .i64 t).wf = true) (b : Int) (wb : (Lit.int .u32 b).wf = true) (s : ByteArray) (_ : s.size ≤ maxLen) (hT : Lib.Utf8Tabs 0 1 w) : Calls Tryd.prog 5 #[.int .i64 t, .int .u32 b, .string s] w fun e w' => e = .returned (.bool true) ∧ Below w.heap.size w w' := by
  have T := hid hT
  have hb : 0 ≤ b := by simp [Lit.wf, IntKind.min, IntKind.signed] at wb; omega
  have h2 := tag_two t
  obtain ⟨n, hn⟩ : ∃ n, nmS (nameL t) = n := ⟨_, rfl⟩
  obtain ⟨c, hc⟩ : ∃ c, classT t = c := ⟨_, rfl⟩
  obtain ⟨K, hK⟩ : ∃ K, s.data.toList.map lowB = K := ⟨_, rfl⟩
  obtain ⟨f, hf⟩ : ∃ f, findI K = f := ⟨_, rfl⟩
  obtain ⟨fb, hfb⟩ : ∃ fb, findB K = fb := ⟨_, rfl⟩
  have HK := hid hK
  have HF := hid hf
  have HFB := hid hfb
  have HNL := hid (show n.data.toList.map lowB = nameL t by rw [← hn, nmS_list, nameL_low])
  have hnz : n.size ≤ 20 := by rw [← hn]; exact Nat.le_trans (Nat.le_of_eq (by show (nameL t).toArray.size = _; simp)) (nameL_len t)
  have HNZ2 := hid hnz
  have HNZ : Hid (n.size ≤ 1000000) := hid (by omega)
  have Bx := hid (Below.refl w.heap.size w)
  have hq : (f == f) = true := by simp
  have ht : (t != t) = false := by simp
  have hx2 : fb = true → 2 ≤ classT f := fun h => by rw [← hf]; exact findI_class (hfb.trans h)
  have hx0 : fb = false → f = 0 := fun h => by rw [← hf]; exact findI_none (hfb.trans h)
  obtain ⟨x, hx⟩ : ∃ x, classT f = x := ⟨_, rfl⟩
  have HX := hid hx
  rw [hx] at hx2
  have three : (1000 < (s.size : Int)) ∨ (¬ 1000 < (s.size : Int) ∧ fb = false) ∨ (¬ 1000 < (s.size : Int) ∧ fb = true) := by
    cases fb <;> simp <;> omega
  rw [hc] at h2
  have HC := hid hc
  rcases h2 with ⟨hne, hcs⟩ | ⟨hne, c0, c1, hg, hgb⟩
  · obtain rfl : n = ByteArray.mk #[] := by rw [← hn, hne]; rfl
    have HN := hid hn
    rcases three with big | ⟨big, rfl⟩ | ⟨big, rfl⟩
    · clear hT hn hc hK hf hfb hx hnz hne wb hx2 hx0
      rcases hcs with rfl | rfl
      all_goals
        go_enter Tryd.func5, Tryd.ntmps5
        go_wp2_with (first
    | (go_at_call 19; refine (name_any _ _).mono ?_; rintro e w1 ⟨rfl, hb1⟩; rw [HN.out]; (have By := hid (Bx.out.trans (hb1.mono Bx.out.size))); clear hb1 Bx; (have Bx := By); clear By)
    | (go_at_call 20; refine (class_any _ _).mono ?_; rintro e w1 ⟨rfl, hb1⟩; (first | rw [HC.out] | rw [HX.out]); (have By := hid (Bx.out.trans (hb1.mono Bx.out.size))); clear hb1 Bx; (have Bx := By); clear By)
    | (go_at_call 21; (with_reducible refine (great_any n b _ HNZ.out hb).mono ?_); rintro e w1 ⟨s1, rfl, hz1, hl1, hb1⟩; (have Z1 := hid hz1); (have L1 := hid (hl1.trans HNL.out)); (have By := hid (Bx.out.trans (hb1.mono Bx.out.size))); clear hz1 hl1 hb1 Bx; (have Bx := By); clear By)
    | (go_at_call 21; (with_reducible refine (great_any s b _ HSZ.out hb).mono ?_); rintro e w1 ⟨s2, rfl, hz1, hl1, hb1⟩; (have Z2 := hid hz1); (have L2 := hid (hl1.trans HK.out)); (have By := hid (Bx.out.trans (hb1.mono Bx.out.size))); clear hz1 hl1 hb1 Bx; (have Bx := By); clear By)
    | (go_at_call 15; (with_reducible refine (find_any s _ HS0.out (Utf8Tabs_below T.out Bx.out)).mono ?_); rintro e w1 ⟨rfl, hb1⟩; rw [HK.out]; rw [HF.out, HFB.out]; (have By := hid (Bx.out.trans (hb1.mono Bx.out.size))); clear hb1 Bx; (have Bx := By); clear By)
    | (go_at_call 15; refine (find_any _ _ (by first | (have := Z1.out; have := HNZ2.out; omega) | (have := Z2.out; have := HS0.out; omega)) (Utf8Tabs_below T.out Bx.out)).mono ?_; rintro e w1 ⟨rfl, hb1⟩; (first | rw [L2.out, HF.out, HFB.out] | rw [L1.out, HG.out, HGB.out]); (have By := hid (Bx.out.trans (hb1.mono Bx.out.size))); clear hb1 Bx; (have Bx := By); clear By)
    | (go_at_call 14; refine (awake2_any _ (Utf8Tabs_below T.out Bx.out)).mono ?_; rintro e w1 ⟨rfl, hb1⟩; (have By := hid (Bx.out.trans (hb1.mono Bx.out.size))); clear hb1 Bx; (have Bx := By); clear By))
        go_ret
        exact ⟨rfl, Bx.out⟩
    · obtain rfl := hx0 rfl
      have HS0 : Hid (s.size ≤ 100000) := hid (by omega)
      have HSZ : Hid (s.size ≤ 1000000) := hid (by omega)
      clear hT hn hc hK hf hfb hx hnz hne wb hx2 hx0
      rcases hcs with rfl | rfl
      all_goals
        go_enter Tryd.func5, Tryd.ntmps5
        go_wp2_with (first
    | (go_at_call 19; refine (name_any _ _).mono ?_; rintro e w1 ⟨rfl, hb1⟩; rw [HN.out]; (have By := hid (Bx.out.trans (hb1.mono Bx.out.size))); clear hb1 Bx; (have Bx := By); clear By)
    | (go_at_call 20; refine (class_any _ _).mono ?_; rintro e w1 ⟨rfl, hb1⟩; (first | rw [HC.out] | rw [HX.out]); (have By := hid (Bx.out.trans (hb1.mono Bx.out.size))); clear hb1 Bx; (have Bx := By); clear By)
    | (go_at_call 21; (with_reducible refine (great_any n b _ HNZ.out hb).mono ?_); rintro e w1 ⟨s1, rfl, hz1, hl1, hb1⟩; (have Z1 := hid hz1); (have L1 := hid (hl1.trans HNL.out)); (have By := hid (Bx.out.trans (hb1.mono Bx.out.size))); clear hz1 hl1 hb1 Bx; (have Bx := By); clear By)
    | (go_at_call 21; (with_reducible refine (great_any s b _ HSZ.out hb).mono ?_); rintro e w1 ⟨s2, rfl, hz1, hl1, hb1⟩; (have Z2 := hid hz1); (have L2 := hid (hl1.trans HK.out)); (have By := hid (Bx.out.trans (hb1.mono Bx.out.size))); clear hz1 hl1 hb1 Bx; (have Bx := By); clear By)
    | (go_at_call 15; (with_reducible refine (find_any s _ HS0.out (Utf8Tabs_below T.out Bx.out)).mono ?_); rintro e w1 ⟨rfl, hb1⟩; rw [HK.out]; rw [HF.out, HFB.out]; (have By := hid (Bx.out.trans (hb1.mono Bx.out.size))); clear hb1 Bx; (have Bx := By); clear By)
    | (go_at_call 15; refine (find_any _ _ (by first | (have := Z1.out; have := HNZ2.out; omega) | (have := Z2.out; have := HS0.out; omega)) (Utf8Tabs_below T.out Bx.out)).mono ?_; rintro e w1 ⟨rfl, hb1⟩; (first | rw [L2.out, HF.out, HFB.out] | rw [L1.out, HG.out, HGB.out]); (have By := hid (Bx.out.trans (hb1.mono Bx.out.size))); clear hb1 Bx; (have Bx := By); clear By)
    | (go_at_call 14; refine (awake2_any _ (Utf8Tabs_below T.out Bx.out)).mono ?_; rintro e w1 ⟨rfl, hb1⟩; (have By := hid (Bx.out.trans (hb1.mono Bx.out.size))); clear hb1 Bx; (have Bx := By); clear By))
        go_ret
        exact ⟨rfl, Bx.out⟩
    · have hx3 := hx2 rfl
      have HS0 : Hid (s.size ≤ 100000) := hid (by omega)
      have HSZ : Hid (s.size ≤ 1000000) := hid (by omega)
      clear hT hn hc hK hf hfb hx hnz hne wb hx2 hx0
      rcases hcs with rfl | rfl
      all_goals
        go_enter Tryd.func5, Tryd.ntmps5
        go_wp2_with (first
    | (go_at_call 19; refine (name_any _ _).mono ?_; rintro e w1 ⟨rfl, hb1⟩; rw [HN.out]; (have By := hid (Bx.out.trans (hb1.mono Bx.out.size))); clear hb1 Bx; (have Bx := By); clear By)
    | (go_at_call 20; refine (class_any _ _).mono ?_; rintro e w1 ⟨rfl, hb1⟩; (first | rw [HC.out] | rw [HX.out]); (have By := hid (Bx.out.trans (hb1.mono Bx.out.size))); clear hb1 Bx; (have Bx := By); clear By)
    | (go_at_call 21; (with_reducible refine (great_any n b _ HNZ.out hb).mono ?_); rintro e w1 ⟨s1, rfl, hz1, hl1, hb1⟩; (have Z1 := hid hz1); (have L1 := hid (hl1.trans HNL.out)); (have By := hid (Bx.out.trans (hb1.mono Bx.out.size))); clear hz1 hl1 hb1 Bx; (have Bx := By); clear By)
    | (go_at_call 21; (with_reducible refine (great_any s b _ HSZ.out hb).mono ?_); rintro e w1 ⟨s2, rfl, hz1, hl1, hb1⟩; (have Z2 := hid hz1); (have L2 := hid (hl1.trans HK.out)); (have By := hid (Bx.out.trans (hb1.mono Bx.out.size))); clear hz1 hl1 hb1 Bx; (have Bx := By); clear By)
    | (go_at_call 15; (with_reducible refine (find_any s _ HS0.out (Utf8Tabs_below T.out Bx.out)).mono ?_); rintro e w1 ⟨rfl, hb1⟩; rw [HK.out]; rw [HF.out, HFB.out]; (have By := hid (Bx.out.trans (hb1.mono Bx.out.size))); clear hb1 Bx; (have Bx := By); clear By)
    | (go_at_call 15; refine (find_any _ _ (by first | (have := Z1.out; have := HNZ2.out; omega) | (have := Z2.out; have := HS0.out; omega)) (Utf8Tabs_below T.out Bx.out)).mono ?_; rintro e w1 ⟨rfl, hb1⟩; (first | rw [L2.out, HF.out, HFB.out] | rw [L1.out, HG.out, HGB.out]); (have By := hid (Bx.out.trans (hb1.mono Bx.out.size))); clear hb1 Bx; (have Bx := By); clear By)
    | (go_at_call 14; refine (awake2_any _ (Utf8Tabs_below T.out Bx.out)).mono ?_; rintro e w1 ⟨rfl, hb1⟩; (have By := hid (Bx.out.trans (hb1.mono Bx.out.size))); clear hb1 Bx; (have Bx := By); clear By))
        go_ret
        exact ⟨rfl, Bx.out⟩
  · have he1 : (n.toList == [] : Bool) = false := by
      rw [toList_data, ← hn, nmS_list]
      exact beq_eq_false_iff_ne.2 hne
    have HN := hid hn
    have HG := hid hg
    have HGB := hid hgb
    rcases three with big | ⟨big, rfl⟩ | ⟨big, rfl⟩
    · clear hT hn hc hK hf hfb hx hg hgb hnz hne wb hx2 hx0
      go_enter Tryd.func5, Tryd.ntmps5
      go_wp2_with (first
    | (go_at_call 19; refine (name_any _ _).mono ?_; rintro e w1 ⟨rfl, hb1⟩; rw [HN.out]; (have By := hid (Bx.out.trans (hb1.mono Bx.out.size))); clear hb1 Bx; (have Bx := By); clear By)
    | (go_at_call 20; refine (class_any _ _).mono ?_; rintro e w1 ⟨rfl, hb1⟩; (first | rw [HC.out] | rw [HX.out]); (have By := hid (Bx.out.trans (hb1.mono Bx.out.size))); clear hb1 Bx; (have Bx := By); clear By)
    | (go_at_call 21; (with_reducible refine (great_any n b _ HNZ.out hb).mono ?_); rintro e w1 ⟨s1, rfl, hz1, hl1, hb1⟩; (have Z1 := hid hz1); (have L1 := hid (hl1.trans HNL.out)); (have By := hid (Bx.out.trans (hb1.mono Bx.out.size))); clear hz1 hl1 hb1 Bx; (have Bx := By); clear By)
    | (go_at_call 21; (with_reducible refine (great_any s b _ HSZ.out hb).mono ?_); rintro e w1 ⟨s2, rfl, hz1, hl1, hb1⟩; (have Z2 := hid hz1); (have L2 := hid (hl1.trans HK.out)); (have By := hid (Bx.out.trans (hb1.mono Bx.out.size))); clear hz1 hl1 hb1 Bx; (have Bx := By); clear By)
    | (go_at_call 15; (with_reducible refine (find_any s _ HS0.out (Utf8Tabs_below T.out Bx.out)).mono ?_); rintro e w1 ⟨rfl, hb1⟩; rw [HK.out]; rw [HF.out, HFB.out]; (have By := hid (Bx.out.trans (hb1.mono Bx.out.size))); clear hb1 Bx; (have Bx := By); clear By)
    | (go_at_call 15; refine (find_any _ _ (by first | (have := Z1.out; have := HNZ2.out; omega) | (have := Z2.out; have := HS0.out; omega)) (Utf8Tabs_below T.out Bx.out)).mono ?_; rintro e w1 ⟨rfl, hb1⟩; (first | rw [L2.out, HF.out, HFB.out] | rw [L1.out, HG.out, HGB.out]); (have By := hid (Bx.out.trans (hb1.mono Bx.out.size))); clear hb1 Bx; (have Bx := By); clear By)
    | (go_at_call 14; refine (awake2_any _ (Utf8Tabs_below T.out Bx.out)).mono ?_; rintro e w1 ⟨rfl, hb1⟩; (have By := hid (Bx.out.trans (hb1.mono Bx.out.size))); clear hb1 Bx; (have Bx := By); clear By))
      go_ret
      exact ⟨rfl, Bx.out⟩
    · obtain rfl := hx0 rfl
      have HS0 : Hid (s.size ≤ 100000) := hid (by omega)
      have HSZ : Hid (s.size ≤ 1000000) := hid (by omega)
      clear hT hn hc hK hf hfb hx hg hgb hnz hne wb hx2 hx0
      go_enter Tryd.func5, Tryd.ntmps5
      go_wp2_with (first
    | (go_at_call 19; refine (name_any _ _).mono ?_; rintro e w1 ⟨rfl, hb1⟩; rw [HN.out]; (have By := hid (Bx.out.trans (hb1.mono Bx.out.size))); clear hb1 Bx; (have Bx := By); clear By)
    | (go_at_call 20; refine (class_any _ _).mono ?_; rintro e w1 ⟨rfl, hb1⟩; (first | rw [HC.out] | rw [HX.out]); (have By := hid (Bx.out.trans (hb1.mono Bx.out.size))); clear hb1 Bx; (have Bx := By); clear By)
    | (go_at_call 21; (with_reducible refine (great_any n b _ HNZ.out hb).mono ?_); rintro e w1 ⟨s1, rfl, hz1, hl1, hb1⟩; (have Z1 := hid hz1); (have L1 := hid (hl1.trans HNL.out)); (have By := hid (Bx.out.trans (hb1.mono Bx.out.size))); clear hz1 hl1 hb1 Bx; (have Bx := By); clear By)
    | (go_at_call 21; (with_reducible refine (great_any s b _ HSZ.out hb).mono ?_); rintro e w1 ⟨s2, rfl, hz1, hl1, hb1⟩; (have Z2 := hid hz1); (have L2 := hid (hl1.trans HK.out)); (have By := hid (Bx.out.trans (hb1.mono Bx.out.size))); clear hz1 hl1 hb1 Bx; (have Bx := By); clear By)
    | (go_at_call 15; (with_reducible refine (find_any s _ HS0.out (Utf8Tabs_below T.out Bx.out)).mono ?_); rintro e w1 ⟨rfl, hb1⟩; rw [HK.out]; rw [HF.out, HFB.out]; (have By := hid (Bx.out.trans (hb1.mono Bx.out.size))); clear hb1 Bx; (have Bx := By); clear By)
    | (go_at_call 15; refine (find_any _ _ (by first | (have := Z1.out; have := HNZ2.out; omega) | (have := Z2.out; have := HS0.out; omega)) (Utf8Tabs_below T.out Bx.out)).mono ?_; rintro e w1 ⟨rfl, hb1⟩; (first | rw [L2.out, HF.out, HFB.out] | rw [L1.out, HG.out, HGB.out]); (have By := hid (Bx.out.trans (hb1.mono Bx.out.size))); clear hb1 Bx; (have Bx := By); clear By)
    | (go_at_call 14; refine (awake2_any _ (Utf8Tabs_below T.out Bx.out)).mono ?_; rintro e w1 ⟨rfl, hb1⟩; (have By := hid (Bx.out.trans (hb1.mono Bx.out.size))); clear hb1 Bx; (have Bx := By); clear By))
      go_ret
      exact ⟨rfl, Bx.out⟩
    · have hx3 := hx2 rfl
      have HS0 : Hid (s.size ≤ 100000) := hid (by omega)
      have HSZ : Hid (s.size ≤ 1000000) := hid (by omega)
      clear hT hn hc hK hf hfb hx hg hgb hnz hne wb hx2 hx0
      go_enter Tryd.func5, Tryd.ntmps5
      go_wp2_with (first
    | (go_at_call 19; refine (name_any _ _).mono ?_; rintro e w1 ⟨rfl, hb1⟩; rw [HN.out]; (have By := hid (Bx.out.trans (hb1.mono Bx.out.size))); clear hb1 Bx; (have Bx := By); clear By)
    | (go_at_call 20; refine (class_any _ _).mono ?_; rintro e w1 ⟨rfl, hb1⟩; (first | rw [HC.out] | rw [HX.out]); (have By := hid (Bx.out.trans (hb1.mono Bx.out.size))); clear hb1 Bx; (have Bx := By); clear By)
    | (go_at_call 21; (with_reducible refine (great_any n b _ HNZ.out hb).mono ?_); rintro e w1 ⟨s1, rfl, hz1, hl1, hb1⟩; (have Z1 := hid hz1); (have L1 := hid (hl1.trans HNL.out)); (have By := hid (Bx.out.trans (hb1.mono Bx.out.size))); clear hz1 hl1 hb1 Bx; (have Bx := By); clear By)
    | (go_at_call 21; (with_reducible refine (great_any s b _ HSZ.out hb).mono ?_); rintro e w1 ⟨s2, rfl, hz1, hl1, hb1⟩; (have Z2 := hid hz1); (have L2 := hid (hl1.trans HK.out)); (have By := hid (Bx.out.trans (hb1.mono Bx.out.size))); clear hz1 hl1 hb1 Bx; (have Bx := By); clear By)
    | (go_at_call 15; (with_reducible refine (find_any s _ HS0.out (Utf8Tabs_below T.out Bx.out)).mono ?_); rintro e w1 ⟨rfl, hb1⟩; rw [HK.out]; rw [HF.out, HFB.out]; (have By := hid (Bx.out.trans (hb1.mono Bx.out.size))); clear hb1 Bx; (have Bx := By); clear By)
    | (go_at_call 15; refine (find_any _ _ (by first | (have := Z1.out; have := HNZ2.out; omega) | (have := Z2.out; have := HS0.out; omega)) (Utf8Tabs_below T.out Bx.out)).mono ?_; rintro e w1 ⟨rfl, hb1⟩; (first | rw [L2.out, HF.out, HFB.out] | rw [L1.out, HG.out, HGB.out]); (have By := hid (Bx.out.trans (hb1.mono Bx.out.size))); clear hb1 Bx; (have Bx := By); clear By)
    | (go_at_call 14; refine (awake2_any _ (Utf8Tabs_below T.out Bx.out)).mono ?_; rintro e w1 ⟨rfl, hb1⟩; (have By := hid (Bx.out.trans (hb1.mono Bx.out.size))); clear hb1 Bx; (have Bx := By); clear By))
      go_ret
      exact ⟨rfl, Bx.out⟩
end Go.Proofs.YtapjlkiffgfbfaaDoor
