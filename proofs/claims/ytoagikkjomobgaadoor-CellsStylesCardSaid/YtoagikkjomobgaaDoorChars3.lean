/- The walks of the package chars, and of its reference: Clean of a text is the list of its kept characters, in new memory. -/
import Derived.Test.YtoagikkjomobgaaDoorChars2
import Derived.WalkSmall
namespace Go.Proofs.YtoagikkjomobgaaDoor
open Go.RowKit

theorem Own.iterAt {α : Type} {enc : α → List Value} {sz : Nat} {e : TypeId} {w : World} {base : Nat} {v : Value} {xs : List α} (h : Own enc sz e w base v xs) {k : Nat} (hk : k < base) (s : ByteArray) (p : Nat) : Own enc sz e (w.iterAt k s p) base v xs :=
  ownsRow_iterAt h hk s p

/-- What a call hands back: a row of its own that holds xs; what lay below base stays. -/
def RetOwn {α : Type} (enc : α → List Value) (sz : Nat) (t : TypeId) (w : World) (xs : List α) (e : Ending) (w' : World) : Prop :=
  ∃ v, e = .returned v ∧ Own enc sz t w' w.heap.size v xs ∧ Below w.heap.size w w'

set_option maxHeartbeats 400000 in
theorem each_plain (s : ByteArray) (w : World) (hs : s.size ≤ 1000000000) :
    Calls Tryd.prog 36 #[.string s, .func (.func 37) #[] #[]] w (RetOwn encR 1 21 w (clean s)) := by
  have hrl := length_runes s
  go_enter Tryd.func36, Tryd.ntmps36
  go_wp2
  go_loopw [5] (fun l wr => ∃ p pre, Own encR 1 21 wr (w.heap.size + 1) l (pre.filterMap cl1) ∧ Hid (runes s = pre ++ decFrom s p) ∧ wr.heap[w.heap.size]? = some (.stringIter s p) ∧ Below w.heap.size w wr)
    (fun _ wr => s.size - wr.iterPos w.heap.size)
  case atStart => exact ⟨0, [], Own.nil, rfl, World.iter_heap w s 0, (Below.refl _ _).alloc (Nat.le_refl _) _⟩
  case round =>
    obtain ⟨p, pre, hown, hpre, hit, hbw⟩ := hrel
    have hsz : w.heap.size < wr.heap.size := (Array.getElem?_eq_some_iff.1 hit).1
    by_cases hp : p < s.size
    · have hnx : ∀ ty, (Instr.next (.pointer (some ⟨w.heap.size, 0, none⟩)) true ty).run Tryd.prog wr = _ := fun ty => Lib.run_next_any_at wr w.heap.size s p ty hit hp
      have hwd := decode_width s p
      have hd1 := decode_range s p
      have hcv := cls_valid (decode_valid s p)
      have hit2 := Lib.iterAt_heap wr w.heap.size s p (p + (Utf8.decode s p).2) hit
      have hbw2 := Lib.below_iterAt hbw (k := w.heap.size) (by omega) s (p + (Utf8.decode s p).2)
      have hsz2 : w.heap.size < (wr.iterAt w.heap.size s (p + (Utf8.decode s p).2)).heap.size := by rw [Lib.iterAt_size]; omega
      have hown2 := hown.iterAt (k := w.heap.size) (by omega) s (p + (Utf8.decode s p).2)
      have hnext : Hid (runes s = (pre ++ [((Utf8.decode s p).1 : Int)]) ++ decFrom s (p + (Utf8.decode s p).2)) := by
        have := hpre.out
        rw [decFrom_lt s p hp] at this
        rw [List.append_assoc]
        exact this
      have hpl : pre.length + 1 ≤ 1000000000 := by
        have := congrArg List.length hpre.out
        rw [decFrom_lt s p hp, List.length_append, List.length_cons] at this
        omega
      have hfl := List.length_filterMap_le cl1 pre
      cases hk : cl1 ((Utf8.decode s p).1 : Int) with
      | some k =>
        have HK := hid hk
        clear hk
        go_wp2_with (first
          | (go_at_call 37; refine (plain_some _ k _ (by omega) (by omega) hcv HK.out).mono ?_; rintro e w' ⟨rfl, rfl⟩)
          | (at_builtin; refine wpList_app1 Tryd.okR rfl (.tmp 22) (.tmp 24) 52 rfl Tryd.underlying52 (w.heap.size + 1) _ (pre.filterMap cl1) rfl hown2 k rfl rfl (by omega) (by omega) ?_; intro v' w1 hown' hb' _))
        go_wp2
        go_roundw
        case rel => exact ⟨_, _, by rw [List.filterMap_append]; simpa [HK.out] using hown', hnext, (hb'.block _ (by omega)).trans hit2, hbw2.trans (hb'.mono (by omega))⟩
        case measure =>
          simp only [World.iterPos, (hb'.block w.heap.size (by omega)).trans hit2, hit]
          omega
      | none =>
        have HK := hid hk
        clear hk
        go_wp2_with (go_at_call 37; refine (plain_none _ _ (by omega) (by omega) hcv HK.out).mono ?_; rintro e w' ⟨rfl, rfl⟩)
        go_roundw
        case rel => exact ⟨_, _, by rw [List.filterMap_append]; simpa [HK.out] using hown2, hnext, hit2, hbw2⟩
        case measure =>
          simp only [World.iterPos, hit2, hit]
          omega
    · have hnx : ∀ ty, (Instr.next (.pointer (some ⟨w.heap.size, 0, none⟩)) true ty).run Tryd.prog wr = _ := fun ty => Lib.run_next_end_at wr w.heap.size s p ty hit hp
      have hend : pre = runes s := by
        have := hpre.out
        rw [decFrom_ge s p (by omega), List.append_nil] at this
        exact this.symm
      have HE := hid hend
      clear hend
      go_wp2
      go_ret
      refine ⟨_, rfl, ?_, hbw⟩
      rw [clean, ← HE.out]
      exact hown.based (by omega)

set_option maxHeartbeats 400000 in
theorem clean_any (s : ByteArray) (w : World) (hs : s.size ≤ 1000000000) :
    Calls Tryd.prog 27 #[.string s] w (RetOwn encR 1 21 w (clean s)) := by
  go_enter Tryd.func27, Tryd.ntmps27
  go_wp2_with (go_at_call 36; refine (each_plain s _ hs).mono ?_; rintro e w' ⟨v, rfl, h1, h2⟩)
  go_ret
  exact ⟨_, rfl, h1, h2⟩
end Go.Proofs.YtoagikkjomobgaaDoor
