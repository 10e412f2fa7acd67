/- The walk of the law TagsOf. -/
import Derived.Test.YtapjlkiffgfbfaaDoorTagTags
import Derived.Test.YtapjlkiffgfbfaaDoorTagAwake
import Derived.Test.YtapjlkiffgfbfaaDoorOpenI
namespace Go.Proofs.YtapjlkiffgfbfaaDoor
open Go.RowKit Go.Lib

theorem sameInts_eq (A B : Option Addr) (xs : List Int) (n m c d C D : Nat) (hn : n = xs.length) (hm : m = xs.length) (w : World) (hA : SlAt encI 1 w C A xs) (hB : SlAt encI 1 w D B xs) (hx : xs.length ≤ 1000000000) :
    Calls Tryd.prog 29 #[.slice A n c, .slice B m d] w (IntsQuiet true w) :=
  (sameInts_any A B xs xs n m c d C D hn hm w hA hB hx).mono fun _ _ ⟨he, hw⟩ => ⟨by rw [he, decide_eq_true rfl], hw⟩
set_option maxRecDepth 100000 in
set_option maxHeartbeats 4000000 in
theorem tagsOf_walk (w : World) {A : Option Addr} {n c : Nat} {xs : List Int} (hin : IntsIn w A n xs) (hT : Lib.Utf8Tabs 0 1 w) : Calls Tryd.prog 8 #[.slice A n c] w fun e w' => e = .returned (.bool true) ∧ Below w.heap.size w w' := by
  have T := hid hT
  obtain ⟨rfl, -, hS⟩ := hin
  clear hT
  by_cases hbig : 100 < xs.length
  · have big : 100 < (xs.length : Int) := by omega
    go_enter Tryd.func8, Tryd.ntmps8
    go_wp2_with (go_at_call 14; refine (awake2_any _ T.out).mono ?_; rintro e w3 ⟨rfl, hb3⟩; (have B3 := hid hb3); clear hb3)
    go_ret
    exact ⟨rfl, B3.out⟩
  · have big : ¬ 100 < (xs.length : Int) := by omega
    have hS0 := hS.alloc (Nat.le_refl _) (.cells #[] 3)
    have h0 : Own encI 1 3 (w.alloc (.cells #[] 3)) w.heap.size (.slice (some ⟨w.heap.size, 0, none⟩) 0 0) ([] : List Int) := World.ownsRow_lit w #[] 0 (Nat.le_refl _) (by simp) rfl
    have HS := hid hS
    have HS0 := hid hS0
    have H0 := hid h0
    have lx : xs.length ≤ 1000000000 := by omega
    have l0 : ([] : List Int).length + xs.length ≤ 1000000000000 := by simp; omega
    have lt17 := hid (tagsL_len xs 17)
    clear hS hS0 h0 hbig
    go_enter Tryd.func8, Tryd.ntmps8
    go_wp2_with (first
      | (at_builtin; refine wpList_appS Tryd.okI rfl (.tmp 9) (.tmp 10) 33 rfl Tryd.underlying33 w.heap.size _ ([] : List Int) rfl H0.out _ A xs c rfl HS0.out l0 (by simp) ?_; intro v' w1 hown' hg' _ _; rw [List.nil_append] at hown'; obtain ⟨A1, c1, rfl, -, -, -, hS1⟩ := hown'.form encI_len; (have O1 := hid hown'); (have S1 := hid hS1); (have B1 := hid ((((Below.refl _ w).alloc (Nat.le_refl _) _).grown hg' (by simp) fun k hk => (H0.out.lt k hk).1))); clear hown' hg' hS1)
      | (go_at_call 28; refine (tags_any A1 xs _ c1 _ rfl _ S1.out lx).mono ?_; rintro e w2 ⟨v2, rfl, hown2, hb2⟩; obtain ⟨A2, c2, rfl, -, -, -, hS2⟩ := hown2.form encI_len; (have S2 := hid hS2); (have C2 := hid hb2); (have B2 := hid (B1.out.trans (hb2.mono B1.out.size))); clear hown2 hS2 hb2)
      | (go_at_call 30; refine (refTags_any A xs _ c _ rfl _ (HS.out.below B2.out) lx).mono ?_; rintro e w3 ⟨v3, rfl, hown3, hb3⟩; obtain ⟨A3, c3, rfl, -, -, -, hS3⟩ := hown3.form encI_len; (have S3 := hid hS3); (have C3 := hid hb3); (have B3 := hid (B2.out.trans (hb3.mono B2.out.size))); clear hown3 hS3 hb3)
      | (go_at_call 29; (with_reducible refine (sameInts_eq A2 A3 (tagsL xs 17) _ _ c2 c3 _ _ rfl rfl _ (S2.out.below C3.out) S3.out (by have := lt17.out; omega)).mono ?_); rintro e w4 ⟨rfl, q, rfl⟩)
      | (go_at_call 29; (with_reducible refine (sameInts_eq A1 A xs _ _ c1 c _ _ rfl rfl _ (((S1.out.below C2.out).belowM C3.out (C2.out.size)).drewN q) (((HS.out.below B3.out)).drewN q) lx).mono ?_); rintro e w5 ⟨rfl, q5, rfl⟩)
      | (go_at_call 14; refine (awake2_any _ (Utf8Tabs_below T.out (below_drewN B3.out (q + q5)))).mono ?_; rintro e w6 ⟨rfl, hb6⟩; (have B6 := hid ((below_drewN B3.out (q + q5)).trans (hb6.mono B3.out.size))); clear hb6))
    go_ret
    exact ⟨rfl, B6.out⟩
end Go.Proofs.YtapjlkiffgfbfaaDoor
