/- The walks of the laws TagsFind, TagsMay, TagsTell: each answers true. -/
import Derived.Test.YtapjlkiffgfbfaaDoorTagAwake
import Derived.Test.YtapjlkiffgfbfaaDoorTagRefF
namespace Go.Proofs.YtapjlkiffgfbfaaDoor
open Go.RowKit Go.Lib

set_option maxRecDepth 100000 in
set_option maxHeartbeats 4000000 in
theorem tagsMay_walk (w : World) (p : Int) (_ : (Lit.int .i64 p).wf = true) (k : Int) (_ : (Lit.int .i64 k).wf = true) (hT : Lib.Utf8Tabs 0 1 w) : Calls Tryd.prog 4 #[.int .i64 p, .int .i64 k] w fun e w' => e = .returned (.bool true) ∧ Below w.heap.size w w' := by
  have T := hid hT
  have HE := hid (may_eq_ref p k)
  obtain ⟨r, hr⟩ : ∃ r, mayR p k (classT p) (classT k) = r := ⟨_, rfl⟩
  have HR := hid hr
  have hb : (r == r) = true := by simp
  clear hT hr
  go_enter Tryd.func4, Tryd.ntmps4
  go_wp2_with (first
    | (go_at_call 17; refine (may_any _ _ _).mono ?_; rintro e w1 ⟨rfl, hb1⟩; rw [HE.out, HR.out]; (have B1 := hid hb1); clear hb1)
    | (go_at_call 18; refine (refMay_any _ _ _).mono ?_; rintro e w2 ⟨rfl, rfl⟩; rw [HR.out])
    | (go_at_call 14; refine (awake2_any _ (Utf8Tabs_below T.out B1.out)).mono ?_; rintro e w3 ⟨rfl, hb3⟩; (have B3 := hid hb3); clear hb3))
  go_ret
  exact ⟨rfl, B1.out.trans (B3.out.mono B1.out.size)⟩

set_option maxRecDepth 100000 in
set_option maxHeartbeats 4000000 in
theorem tagsFind_walk (w : World) (s : ByteArray) (_ : s.size ≤ maxLen) (hT : Lib.Utf8Tabs 0 1 w) : Calls Tryd.prog 3 #[.string s] w fun e w' => e = .returned (.bool true) ∧ Below w.heap.size w w' := by
  have T := hid hT
  clear hT
  by_cases h : 1000 < s.size
  · have h' : 1000 < (s.size : Int) := by omega
    go_enter Tryd.func3, Tryd.ntmps3
    go_wp2_with (go_at_call 14; refine (awake2_any _ T.out).mono ?_; rintro e w3 ⟨rfl, hb3⟩)
    go_ret
    exact ⟨rfl, by assumption⟩
  · have h' : ¬ 1000 < (s.size : Int) := by omega
    obtain ⟨K, hK⟩ : ∃ K, s.data.toList.map lowB = K := ⟨_, rfl⟩
    have HK := hid hK
    have hi : (findI K == findI K) = true := by simp
    have hb : (findB K == findB K) = true := by simp
    clear hK
    go_enter Tryd.func3, Tryd.ntmps3
    go_wp2_with (first
      | (go_at_call 15; refine (find_any _ _ (by omega) T.out).mono ?_; rintro e w1 ⟨rfl, hb1⟩; rw [HK.out]; (have B1 := hid hb1); clear hb1)
      | (go_at_call 16; refine (refFind_any _ _ (by omega)).mono ?_; rintro e w2 ⟨rfl, hb2⟩; rw [HK.out]; (have B2 := hid (B1.out.trans (hb2.mono B1.out.size))); clear hb2)
      | (go_at_call 14; refine (awake2_any _ (Utf8Tabs_below T.out B2.out)).mono ?_; rintro e w3 ⟨rfl, hb3⟩; (have B3 := hid hb3); clear hb3))
    go_ret
    exact ⟨rfl, B2.out.trans (B3.out.mono B2.out.size)⟩

set_option maxRecDepth 100000 in
set_option maxHeartbeats 4000000 in
theorem tagsTell_walk (w : World) (t : Int) (_ : (Lit.int .i64 t).wf = true) (k : Int) (_ : (Lit.int .i64 k).wf = true) (hT : Lib.Utf8Tabs 0 1 w) : Calls Tryd.prog 7 #[.int .i64 t, .int .i64 k] w fun e w' => e = .returned (.bool true) ∧ Below w.heap.size w w' := by
  have T := hid hT
  obtain ⟨c, hc⟩ : ∃ c, classT t = c := ⟨_, rfl⟩
  obtain ⟨h, hh⟩ : ∃ h, headT t = h := ⟨_, rfl⟩
  obtain ⟨l, hl⟩ : ∃ l, lineT k = l := ⟨_, rfl⟩
  obtain ⟨b, hb⟩ : ∃ b, isLineT k = b := ⟨_, rfl⟩
  obtain ⟨s, hs⟩ : ∃ s, nmS (nameL t) = s := ⟨_, rfl⟩
  have HC := hid hc
  have HH := hid hh
  have HL := hid hl
  have HB := hid hb
  have HS := hid hs
  have q1 : (c == c) = true := by simp
  have q2 : (h == h) = true := by simp
  have q3 : (l == l) = true := by simp
  have q4 : (b == b) = true := by simp
  have q5 : (s.toList == s.toList) = true := by simp
  have Bx := hid (Below.refl w.heap.size w)
  clear hT hc hh hl hb hs
  go_enter Tryd.func7, Tryd.ntmps7
  go_wp2_with (first
    | (go_at_call 22; refine (line_any _ _).mono ?_; rintro e w1 ⟨rfl, rfl⟩; rw [HL.out, HB.out])
    | (go_at_call 23; refine (refLine_any _ _).mono ?_; rintro e w1 ⟨rfl, rfl⟩; rw [HL.out, HB.out])
    | (go_at_call 19; refine (name_any _ _).mono ?_; rintro e w1 ⟨rfl, hb1⟩; rw [HS.out]; (have By := hid (Bx.out.trans (hb1.mono Bx.out.size))); clear hb1 Bx; (have Bx := By); clear By)
    | (go_at_call 24; refine (refName_any _ _).mono ?_; rintro e w1 ⟨rfl, hb1⟩; rw [HS.out]; (have By := hid (Bx.out.trans (hb1.mono Bx.out.size))); clear hb1 Bx; (have Bx := By); clear By)
    | (go_at_call 20; refine (class_any _ _).mono ?_; rintro e w1 ⟨rfl, hb1⟩; rw [HC.out]; (have By := hid (Bx.out.trans (hb1.mono Bx.out.size))); clear hb1 Bx; (have Bx := By); clear By)
    | (go_at_call 25; refine (refClass_any _ _).mono ?_; rintro e w1 ⟨rfl, rfl⟩; rw [HC.out])
    | (go_at_call 26; refine (heading_any _ _).mono ?_; rintro e w1 ⟨rfl, rfl⟩; rw [HH.out])
    | (go_at_call 27; refine (refHeading_any _ _).mono ?_; rintro e w1 ⟨rfl, rfl⟩; rw [HH.out])
    | (go_at_call 14; refine (awake2_any _ (Utf8Tabs_below T.out Bx.out)).mono ?_; rintro e w1 ⟨rfl, hb1⟩; (have By := hid (Bx.out.trans (hb1.mono Bx.out.size))); clear hb1 Bx; (have Bx := By); clear By))
  go_ret
  exact ⟨rfl, Bx.out⟩
end Go.Proofs.YtapjlkiffgfbfaaDoor
