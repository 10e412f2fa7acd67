/- The walks of slices.Grow on the nil slice and of slices.Concat: a new row. -/
import Derived.Test.YtgpccjmkghpiiaaAwake5
import Derived.Lib.AppendZerosOnto
import Derived.Lib.AppendZeros
namespace Go.Proofs.Ytgpccjmkghpiiaa
open Go.RowKit

theorem run_app_zeros {P : Program} {α : Type} {enc : α → List Value} {sz : Nat} {e : TypeId} (ok : ElemOk P enc sz e) (t tn ty : TypeId) (ht : P.underlying t = some (.slice e)) (htn : P.underlying tn = some (.int .i64)) (w : World) (k : Nat) (h0 : 0 < k) (hk : k ≤ 1000000000) :
    ∃ c w', (Builtin.append_ #[t, tn] ty #[.slice none 0 0, .int .i64 k]).run P w = .ok (.slice (some ⟨w.heap.size, 0, none⟩) k c) w' ∧ k ≤ c ∧ c ≤ maxLen ∧ Own enc sz e w' w.heap.size (.slice (some ⟨w.heap.size, 0, none⟩) 0 c) ([] : List α) ∧ Below w.heap.size w w' := by
  obtain ⟨i, z, bytes, hi, hz, hsize, hby, hzs, hb128⟩ := ok.info
  have hp := ok.pos
  have hbytes : (0 + k) * i.bytes ≤ 140737488355328 := by rw [hby]; exact Nat.le_trans (Nat.mul_le_mul (by omega : 0 + k ≤ 1000000000) hb128) (by omega)
  have hb48 : k * i.bytes ≤ 281474976710656 := by rw [Nat.zero_add] at hbytes; omega
  have h := Lib.run_append_grow_zeros w t tn ty e i z .i64 .i64 ht htn hi hz none 0 0 [] (run_firstCells_none w.drew i.size 0 0 0) k h0 (by omega) (by omega) (by omega) hb48 (growslice_fits (by omega) hbytes)
  rw [Nat.zero_add] at h
  have hge : k ≤ grownCap w k 0 e := grownCap_ge w _ _ _
  have hle : grownCap w k 0 e ≤ maxLen := grownCap_le_maxLen w k 0 e (by unfold maxLen; omega)
  refine ⟨_, _, h, hge, hle, World.ownsRow_made w.drew _ _ (Nat.le_refl _) hle ?_, ((Below.refl _ w).drew).alloc (Nat.le_refl _) _⟩
  simp only [Array.size_append, size_zeroCells, hzs, List.size_toArray, List.length_nil, Nat.zero_add]
  rw [← Nat.add_mul, Nat.add_sub_cancel' hge]

set_option maxHeartbeats 1000000 in
theorem grow_any (k : Nat) (w : World) (hk : k ≤ 1000000000) :
    Calls Try.prog 51 #[.slice none 0 0, .int .i64 k] w (RetOwn encC 3 33 w ([] : List Cl)) := by
  rcases Nat.eq_zero_or_pos k with rfl | h0
  · go_enter Try.func51, Try.ntmps51
    go_wp2
    go_ret
    exact ⟨_, rfl, Own.nil, Below.refl _ _⟩
  · obtain ⟨c, w1, hr, hc, hcm, ho, hb⟩ := run_app_zeros Try.okC 24 3 24 Try.underlying24 Try.underlying3 w k h0 hk
    have h1 : (0 : Int) < (k : Int) := by omega
    have h63 : (k : Int) ≤ 9223372036854775807 := by omega
    have hc63 : c ≤ 9223372036854775807 := hcm
    go_enter Try.func51, Try.ntmps51
    go_wp2_with (at_builtin; refine Lib.wpList_append_run _ rfl _ _ _ _ rfl _ _ rfl rfl _ _ hr ?_)
    go_ret
    exact ⟨_, rfl, ho, hb⟩

/-- A slice as one value: where it lies, what it holds, its capacity. -/
def encS (s : Option Addr × List Cl × Nat) : List Value := [.slice s.1 s.2.1.length s.2.2]
theorem encS_len (s : Option Addr × List Cl × Nat) : (encS s).length = 1 := rfl
def joined (L : List (Option Addr × List Cl × Nat)) : List Cl := L.flatMap (·.2.1)
theorem joined_take {L : List (Option Addr × List Cl × Nat)} {k : Nat} {x} (h : L[k]? = some x) : joined (L.take (k + 1)) = joined (L.take k) ++ x.2.1 := by
  unfold joined
  rw [take_snoc' h, List.flatMap_append]; simp
theorem joined_take_le (L : List (Option Addr × List Cl × Nat)) (k : Nat) : (joined (L.take k)).length ≤ (joined L).length := by
  conv => rhs; rw [← List.take_append_drop k L]
  unfold joined
  rw [List.flatMap_append, List.length_append]; omega
theorem SlAt.atS {w : World} {B : Nat} {A : Option Addr} {xs : List (Option Addr × List Cl × Nat)} (h : SlAt encS 1 w B A xs) {k : Nat} (hk : k < xs.length) :
    ∃ ad x, A = some ad ∧ ad.block < B ∧ xs[k]? = some x ∧ w.cell? (ad.add k) = some (.slice x.1 x.2.1.length x.2.2) := by
  obtain ⟨ad, x, e, hb, hx, hc⟩ := h.at_ hk
  have := hc 0 _ rfl
  rw [add_zero', Nat.mul_one] at this
  exact ⟨ad, x, e, hb, hx, this⟩

set_option maxRecDepth 100000 in
set_option maxHeartbeats 4000000 in
theorem concat_any (A : Option Addr) (L : List (Option Addr × List Cl × Nat)) (n c B : Nat) (hn : n = L.length) (w : World) (hA : SlAt encS 1 w B A L) (hS : ∀ x ∈ L, SlAt encC 3 w w.heap.size x.1 x.2.1) (hl : (joined L).length ≤ 1000000000) (hl2 : L.length ≤ 1000000000) :
    Calls Try.prog 36 #[.slice A n c] w (RetOwn encC 3 33 w (joined L)) := by
  subst hn
  have hAl := hA.live (fun _ => by rw [encS_len]; omega)
  have HS := hid hS
  clear hS
  obtain ⟨T, hT⟩ : ∃ T, T = (joined L).length := ⟨_, rfl⟩
  rw [← hT] at hl
  have HT := hid hT
  clear hT hA
  go_enter Try.func36, Try.ntmps36
  go_wp2
  go_loopw [3, 11] (fun s i wr => ∃ k m : Nat, k ≤ L.length ∧ i = .int .i64 k ∧ s = .int .i64 m ∧ Hid (m = (joined (L.take k)).length) ∧ m ≤ T ∧ w = wr) (fun _ i _ => L.length - (intOf i).toNat)
  case atStart => exact ⟨0, 0, Nat.zero_le _, rfl, rfl, rfl, Nat.zero_le _, rfl⟩
  case round =>
    obtain ⟨k, m, hk, rfl, rfl, hm, hmT, rfl⟩ := hrel
    by_cases hlt : k < L.length
    · obtain ⟨ad, x, rfl, -, hx, x0⟩ := hAl.atS hlt
      have hi1 : (k : Int) < (L.length : Int) := by omega
      have hM : m + x.2.1.length = (joined (L.take (k + 1))).length := by rw [joined_take hx, List.length_append, ← hm.out]
      have hMT : m + x.2.1.length ≤ T := by rw [hM, HT.out]; exact joined_take_le _ _
      have HM := hid hM
      obtain ⟨N, hN⟩ : ∃ N, N = x.2.1.length := ⟨_, rfl⟩
      rw [← hN] at x0 HM hMT
      clear hM hx hN
      go_wp2
      go_round
      case rel => exact ⟨k + 1, m + N, by omega, by go_num, by go_num, HM, hMT, by first | rfl | trivial⟩
      case measure => simp [intOf]; omega
    · have hi1 : ¬ ((k : Int) < (L.length : Int)) := by omega
      go_wp2_with (go_at_call 51; refine (grow_any m w (by omega)).mono ?_; rintro e W1 ⟨v1, rfl, ho1, hb1⟩)
      go_loopw [6, 27] (fun s i wr => ∃ k : Nat, k ≤ L.length ∧ i = .int .i64 k ∧ Own encC 3 33 wr w.heap.size s (joined (L.take k)) ∧ Below w.heap.size w wr) (fun _ i _ => L.length - (intOf i).toNat)
      case atStart => exact ⟨0, Nat.zero_le _, rfl, ho1, hb1⟩
      case round =>
        obtain ⟨k, hk, rfl, hown, hbr⟩ := hrel
        have hsz := hbr.size
        by_cases hlt : k < L.length
        · obtain ⟨ad, x, rfl, -, hx, x0⟩ := (hAl.below hbr).atS hlt
          have hi1 : (k : Int) < (L.length : Int) := by omega
          have hsx := (HS.out x (List.mem_of_getElem? hx)).below hbr
          have hj := joined_take hx
          have hjl := joined_take_le L (k + 1)
          rw [hj, ← HT.out, List.length_append] at hjl
          have HJ := hid hj
          obtain ⟨X, ys, cx⟩ := x
          simp only at *
          clear hx hj
          go_wp2_with (at_builtin; refine wpList_appS Try.okC rfl (.tmp 31) (.tmp 32) 24 rfl Try.underlying24 w.heap.size _ (joined (L.take k)) rfl hown _ X ys cx rfl hsx (by omega) hsz ?_; intro v' w1 hown' hg' _ _)
          go_roundw
          case rel => exact ⟨k + 1, by omega, by go_num, by rw [HJ.out]; exact hown', hbr.grown hg' hsz fun g hg => (hown.lt g hg).1⟩
          case measure => simp [intOf]; omega
        · have hi2 : ¬ ((k : Int) < (L.length : Int)) := by omega
          rw [List.take_of_length_le (by omega)] at hown
          go_wp2
          go_ret
          exact ⟨_, rfl, hown, hbr⟩
end Go.Proofs.Ytgpccjmkghpiiaa
