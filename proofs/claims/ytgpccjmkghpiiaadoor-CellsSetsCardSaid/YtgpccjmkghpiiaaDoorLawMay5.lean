/- The walk of the law CellsMay: it answers true. -/
import Derived.Test.YtgpccjmkghpiiaaDoorCellMay
import Derived.Test.YtgpccjmkghpiiaaDoorSame5
import Derived.Test.YtgpccjmkghpiiaaDoorAwake5
import Derived.Test.YtgpccjmkghpiiaaDoorOpen
namespace Go.Proofs.YtgpccjmkghpiiaaDoor
open Go.RowKit Go.Lib

theorem quiet_below5 {B : Nat} {a w w' : World} (h : Below B a w) (k : ∃ q, w' = w.drewN q) : Below B a w' := by
  obtain ⟨q, rfl⟩ := k
  exact below_drewN h q
theorem heft_mem {cs : List Cl} {x : Cl} (h : x ∈ cs) : x.h.size / 8 ≤ heft cs := by
  have : x.h.size / 8 ≤ (cs.map fun c => c.h.size / 8).sum := by
    induction cs with
    | nil => cases h
    | cons y ys ih =>
      rcases List.mem_cons.1 h with rfl | h
      · simp
      · have := ih h; simp; omega
  unfold heft; omega
theorem heft_len {cs : List Cl} : cs.length ≤ heft cs := by unfold heft; omega
theorem fineC_of {cs : List Cl} (hw : ∀ x ∈ cs, WfC x) (h : ¬ 20000 < heft cs) : FineC cs := fun x hx => by
  have h1 := heft_mem hx
  obtain ⟨a, b, _, _⟩ := hw x hx
  exact ⟨a, b, by omega⟩

set_option maxRecDepth 100000 in
set_option maxHeartbeats 4000000 in
theorem cellsMay_walk (w : World) {A : Option Addr} {n c : Nat} {xs : List Cl} (hA : CellsIn w A n xs) {C : Option Addr} {m d : Nat} {ys : List Cl} (hC : CellsIn w C m ys) (hT : Lib.Utf8Tabs 0 1 w) :
    Calls Tryd.prog 4 #[.slice A n c, .slice C m d] w fun e w' => e = .returned (.bool true) ∧ Below w.heap.size w w' := by
  have T := hid hT
  obtain ⟨rfl, hle, hat, hwf, hsz⟩ := hA
  obtain ⟨rfl, hle2, hat2, hwf2, hsz2⟩ := hC
  have HA := hid hat
  have HC := hid hat2
  have Z1 := hid hsz
  have Z2 := hid hsz2
  have Bx := hid (Below.refl w.heap.size w)
  clear hT hat hat2 hsz hsz2 hwf2
  cases hb : decide (20000 < heft xs) with
  | true =>
    have HL := hid hb
    clear hb hwf
    go_enter Tryd.func4, Tryd.ntmps4
    go_wp2_with (first
      | (go_at_call 6; refine (long_any A xs _ c _ rfl _ HA.out hle Z1.out).mono ?_; rintro e w1 ⟨rfl, rfl⟩; rw [HL.out])
      | (go_at_call 7; refine (awake5_any _).mono ?_; rintro e w3 ⟨rfl, hb3⟩; (have By := hid (Bx.out.trans (hb3.mono Bx.out.size))); clear hb3 Bx; (have Bx := By); clear By))
    go_ret
    exact ⟨rfl, Bx.out⟩
  | false =>
    have HL := hid hb
    have hn1 := of_decide_eq_false hb
    have l9 : xs.length ≤ 1000000000 := by have := @heft_len xs; omega
    have FI := hid (fineC_of hwf hn1)
    clear hb hn1 hwf
    cases hb2 : decide (20000 < heft ys) with
    | true =>
      have HL2 := hid hb2
      clear hb2
      go_enter Tryd.func4, Tryd.ntmps4
      go_wp2_with (first
        | (go_at_call 6; (with_reducible refine (long_any A xs _ c _ rfl _ HA.out hle Z1.out).mono ?_); rintro e w1 ⟨rfl, rfl⟩; rw [HL.out])
        | (go_at_call 6; (with_reducible refine (long_any C ys _ d _ rfl _ HC.out hle2 Z2.out).mono ?_); rintro e w1 ⟨rfl, rfl⟩; rw [HL2.out])
        | (go_at_call 7; refine (awake5_any _).mono ?_; rintro e w3 ⟨rfl, hb3⟩; (have By := hid (Bx.out.trans (hb3.mono Bx.out.size))); clear hb3 Bx; (have Bx := By); clear By))
      go_ret
      exact ⟨rfl, Bx.out⟩
    | false =>
      have HL2 := hid hb2
      obtain ⟨r, hr⟩ : ∃ r, decide (xs = ys) = r := ⟨_, rfl⟩
      have HR := hid hr
      obtain ⟨mb, hmb⟩ : ∃ r, mayCs xs = r := ⟨_, rfl⟩
      have MB := hid hmb
      obtain ⟨tx, htx⟩ : ∃ r, textL xs = r := ⟨_, rfl⟩
      have TX := hid htx
      have q1 : (r == r) = true := by simp
      have q2 : (mb == mb) = true := by simp
      have q3 : (tx.toList == tx.toList) = true := by simp
      clear hb2 hr hmb htx
      go_enter Tryd.func4, Tryd.ntmps4
      go_wp2_with (first
        | (go_at_call 6; (with_reducible refine (long_any A xs _ c _ rfl _ HA.out hle Z1.out).mono ?_); rintro e w1 ⟨rfl, rfl⟩; rw [HL.out])
        | (go_at_call 6; (with_reducible refine (long_any C ys _ d _ rfl _ HC.out hle2 Z2.out).mono ?_); rintro e w1 ⟨rfl, rfl⟩; rw [HL2.out])
        | (go_at_call 19; refine (mayCells_any A xs _ c _ rfl _ (HA.out.below Bx.out) l9 FI.out (Utf8Tabs_below T.out Bx.out)).mono ?_; rintro e w1 ⟨rfl, hb1⟩; rw [MB.out]; (have By := hid (Bx.out.trans (hb1.mono Bx.out.size))); clear hb1 Bx; (have Bx := By); clear By)
        | (go_at_call 20; refine (refMayCells_any A xs _ c _ rfl _ (HA.out.below Bx.out) l9 FI.out).mono ?_; rintro e w1 ⟨rfl, hb1⟩; rw [MB.out]; (have By := hid (Bx.out.trans (hb1.mono Bx.out.size))); clear hb1 Bx; (have Bx := By); clear By)
        | (go_at_call 21; refine (text_any A xs _ c _ rfl _ (HA.out.below Bx.out) l9).mono ?_; rintro e w1 ⟨rfl, hb1⟩; rw [TX.out]; (have By := hid (Bx.out.trans (hb1.mono Bx.out.size))); clear hb1 Bx; (have Bx := By); clear By)
        | (go_at_call 22; refine (refText_any A xs _ c _ rfl _ (HA.out.below Bx.out) l9).mono ?_; rintro e w1 ⟨rfl, hb1⟩; rw [TX.out]; (have By := hid (Bx.out.trans (hb1.mono Bx.out.size))); clear hb1 Bx; (have Bx := By); clear By)
        | (go_at_call 23; (with_reducible refine (same_any A C xs ys _ _ c d _ _ rfl rfl _ (HA.out.below Bx.out) (HC.out.below Bx.out) l9).mono ?_); rintro e w1 ⟨rfl, hq⟩; rw [HR.out]; (have By := hid (quiet_below5 Bx.out hq)); clear hq Bx; (have Bx := By); clear By)
        | (go_at_call 13; (with_reducible refine (refSame_any A C xs ys _ _ c d _ _ rfl rfl _ (HA.out.below Bx.out) (HC.out.below Bx.out) l9).mono ?_); rintro e w1 ⟨rfl, hq⟩; rw [HR.out]; (have By := hid (quiet_below5 Bx.out hq)); clear hq Bx; (have Bx := By); clear By)
        | (go_at_call 23; (with_reducible refine (same_any A A xs xs _ _ c c _ _ rfl rfl _ (HA.out.below Bx.out) (HA.out.below Bx.out) l9).mono ?_); rintro e w1 ⟨rfl, hq⟩; rw [decide_eq_true (rfl : xs = xs)]; (have By := hid (quiet_below5 Bx.out hq)); clear hq Bx; (have Bx := By); clear By)
        | (go_at_call 7; refine (awake5_any _).mono ?_; rintro e w3 ⟨rfl, hb3⟩; (have By := hid (Bx.out.trans (hb3.mono Bx.out.size))); clear hb3 Bx; (have Bx := By); clear By))
      go_ret
      exact ⟨rfl, Bx.out⟩
end Go.Proofs.YtgpccjmkghpiiaaDoor
