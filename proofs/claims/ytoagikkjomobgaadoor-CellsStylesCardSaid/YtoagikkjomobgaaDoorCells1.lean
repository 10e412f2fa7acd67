/- The walks of the package cells and of its reference: the cells of a text, whether two rows are the same. -/
import Derived.Test.YtoagikkjomobgaaDoorChars4
import Derived.Test.YtoagikkjomobgaaDoorCell
import Derived.BigQuiet
import Derived.Deep.QuietTactic
namespace Go.Proofs.YtoagikkjomobgaaDoor
open Go.RowKit

theorem Tryd.okC : ElemOk Tryd.prog encC 3 29 := ElemOk.mk' (z := .agg #[.int .i32 0, .int .i64 0, .string .empty]) (bytes := 32) encC_len encC_one (by omega) (by kernel_rfl) rfl (by omega)

set_option maxHeartbeats 400000 in
theorem of_any (s : ByteArray) (b : Int) (h : ByteArray) (w : World) (hs : s.size ≤ 1000000000) :
    Calls Tryd.prog 11 #[.string s, .int .i64 b, .string h] w (RetOwn encC 3 29 w ((clean s).map (mkc b h))) := by
  have hcl : (clean s).length ≤ 1000000000 := Nat.le_trans (List.length_filterMap_le _ _) (Nat.le_trans (length_runes s) hs)
  go_enter Tryd.func11, Tryd.ntmps11
  go_wp2_with (go_at_call 27; refine (clean_any s _ hs).mono ?_; rintro e W1 ⟨v, rfl, ho, hb1⟩; obtain ⟨A, cp, rfl, -, -, -, hS⟩ := ho.form encR_len)
  go_loopw [7, 13] (fun l i wr => ∃ k : Nat, k ≤ (clean s).length ∧ i = .int .i64 k ∧ Own encC 3 29 wr W1.heap.size l (((clean s).take k).map (mkc b h)) ∧ Below W1.heap.size W1 wr) (fun _ i _ => (clean s).length - (intOf i).toNat)
  case atStart => exact ⟨0, Nat.zero_le _, rfl, Own.nil, Below.refl _ _⟩
  case round =>
    obtain ⟨k, hk, rfl, hown, hbr⟩ := hrel
    have hsz := hbr.size
    by_cases hlt : k < (clean s).length
    · obtain ⟨ad, c, rfl, -, hx, hc⟩ := (hS.below hbr).atR hlt
      have hi1 : (k : Int) < ((clean s).length : Int) := by omega
      have htk : (((clean s).take k).map (mkc b h)).length ≤ k := by rw [List.length_map]; exact List.length_take_le _ _
      have HT : Hid (((clean s).take (k + 1)).map (mkc b h) = ((clean s).take k).map (mkc b h) ++ [mkc b h c]) := by
        show _ = _
        rw [take_snoc' hx, List.map_append]; rfl
      clear hx
      go_wp2_with (at_builtin; refine wpList_app1 Tryd.okC rfl (.tmp 17) (.tmp 22) 22 rfl Tryd.underlying22 W1.heap.size _ (((clean s).take k).map (mkc b h)) rfl hown (mkc b h c) rfl rfl (by omega) (by omega) ?_; intro v' w1 hown' hb' _)
      go_wp2
      go_roundw
      case rel => exact ⟨k + 1, by omega, by go_num, by rw [HT.out]; exact hown', hbr.trans hb'⟩
      case measure => simp [intOf]; omega
    · go_wp2
      go_ret
      refine ⟨_, rfl, ?_, hb1.trans (hbr.mono hb1.size)⟩
      rw [List.take_of_length_le (by omega)] at hown
      exact hown.based hb1.size

/-- What a call hands back that only reads, and may draw. -/
def RetQuiet (v : Value) (w : World) (e : Ending) (w' : World) : Prop := e = .returned v ∧ ∃ q, w' = w.drewN q

end Go.Proofs.YtoagikkjomobgaaDoor
