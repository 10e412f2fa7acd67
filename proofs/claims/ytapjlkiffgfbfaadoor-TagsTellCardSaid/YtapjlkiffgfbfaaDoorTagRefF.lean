/- The walks of the reference's same and Find. -/
import Derived.Test.YtapjlkiffgfbfaaDoorTagRefN
import Derived.IntWalk
namespace Go.Proofs.YtapjlkiffgfbfaaDoor
open Go.RowKit

def sameT (l m : List UInt8) : Bool := decide (l.map lowB = m)
theorem sameT_len {a b : ByteArray} (h : a.size ≠ b.size) : sameT a.data.toList b.data.toList = false := by
  refine decide_eq_false fun e => h ?_
  have := congrArg List.length e
  rw [List.length_map, ← Lib.size_eq, ← Lib.size_eq] at this
  exact this
theorem sameT_at {a b : ByteArray} (k : Nat) (h1 : k < a.size) (h2 : k < b.size) (h : lowB a[k] ≠ b[k]) : sameT a.data.toList b.data.toList = false := by
  refine decide_eq_false fun e => h ?_
  have := congrArg (fun l => l[k]?) e
  simp only [List.getElem?_map] at this
  rw [List.getElem?_eq_getElem (by rw [← Lib.size_eq]; exact h1), List.getElem?_eq_getElem (by rw [← Lib.size_eq]; exact h2)] at this
  have h3 : lowB a.data[k] = b.data[k] := by simpa using this
  exact h3
theorem sameT_all {a b : ByteArray} (hs : a.size = b.size) (h : ∀ k (h1 : k < a.size) (h2 : k < b.size), lowB a[k] = b[k]) : sameT a.data.toList b.data.toList = true := by
  refine decide_eq_true (List.ext_getElem (by rw [List.length_map, ← Lib.size_eq, ← Lib.size_eq]; exact hs) fun k h1 h2 => ?_)
  rw [List.getElem_map]
  rw [List.length_map, ← Lib.size_eq] at h1
  rw [← Lib.size_eq] at h2
  exact h k h1 h2
theorem ret_bool {a b : Bool} (h : a = b) : Ending.returned (.bool a) = .returned (.bool b) := by rw [h]

set_option maxHeartbeats 4000000 in
theorem refSame2_any (a b : ByteArray) (w : World) (ha : a.size ≤ 1000000) : Calls Tryd.prog 56 #[.string a, .string b] w fun e w' => e = .returned (.bool (sameT a.data.toList b.data.toList)) ∧ w = w' := by
  by_cases hs : a.size = b.size
  · obtain ⟨r, hr⟩ : ∃ r, sameT a.data.toList b.data.toList = r := ⟨_, rfl⟩
    have R := hid hr
    have hn : ((a.size : Int) != (b.size : Int)) = false := by simp; omega
    have HS := hid hs
    rw [hr]
    clear hr hs
    go_enter Tryd.func56, Tryd.ntmps56
    go_wp2
    go_loop [5] (fun i => ∃ k : Nat, k ≤ a.size ∧ i = .int .i64 k ∧ ∀ j (h1 : j < a.size) (h2 : j < b.size), j < k → lowB a[j] = b[j]) (fun i => a.size - (intOf i).toNat)
    case atStart => exact ⟨0, Nat.zero_le _, rfl, fun j _ _ h => absurd h (by omega)⟩
    case round =>
      obtain ⟨k, hk, rfl, hall⟩ := hrel
      have HA := hid hall
      clear hall
      by_cases hlt : k < a.size
      · have hlb : k < b.size := by rw [← HS.out]; exact hlt
        have x0 := a[k].toNat_lt
        have y0 := b[k].toNat_lt
        have lx := lowB_nat a[k]
        unfold lowI at lx
        have hno : lowB a[k] ≠ b[k] → r = false := fun h => by rw [← R.out]; exact sameT_at k hlt hlb h
        have hyes : lowB a[k] = b[k] → ∀ j (h1 : j < a.size) (h2 : j < b.size), j < k + 1 → lowB a[j] = b[j] := fun h j h1 h2 hj => by
          rcases Nat.lt_or_ge j k with h3 | h3
          · exact HA.out j h1 h2 h3
          · obtain rfl : j = k := by omega
            exact h
        have HN := hid hno
        have HY := hid hyes
        clear hno hyes
        by_cases hu : 65 ≤ (a[k].toNat : Int) ∧ (a[k].toNat : Int) ≤ 90
        · rw [if_pos hu] at lx
          obtain ⟨u1, u2⟩ := hu
          by_cases he : (a[k].toNat : Int) + 32 = (b[k].toNat : Int)
          · have e1 : lowB a[k] = b[k] := UInt8.toNat_inj.1 (by omega)
            have E1 := hid (HY.out e1)
            have hw : IntKind.u8.wrap ((a[k].toNat : Int) + 32) = (a[k].toNat : Int) + 32 := IntWalk.u8_in _ (by omega)
            have ht : ((a[k].toNat : Int) + 32 != (b[k].toNat : Int)) = false := by simp; omega
            clear he e1 lx
            go_wp2
            go_round
            case rel => exact ⟨k + 1, by omega, by go_num, E1.out⟩
            case measure => simp [intOf]; omega
          · have e1 : lowB a[k] ≠ b[k] := fun e => by rw [e] at lx; omega
            have E1 := hid (HN.out e1)
            have hw : IntKind.u8.wrap ((a[k].toNat : Int) + 32) = (a[k].toNat : Int) + 32 := IntWalk.u8_in _ (by omega)
            have ht : ((a[k].toNat : Int) + 32 != (b[k].toNat : Int)) = true := by simp; omega
            clear he e1 lx
            go_wp2
            go_ret
            exact ⟨ret_bool E1.out.symm, rfl⟩
        · rw [if_neg hu] at lx
          by_cases he : (a[k].toNat : Int) = (b[k].toNat : Int)
          · have e1 : lowB a[k] = b[k] := UInt8.toNat_inj.1 (by omega)
            have E1 := hid (HY.out e1)
            have ht : ((a[k].toNat : Int) != (b[k].toNat : Int)) = false := by simp; omega
            clear he e1 lx
            by_cases u1 : 65 ≤ (a[k].toNat : Int)
            · have u2 : ¬ (a[k].toNat : Int) ≤ 90 := fun h => hu ⟨u1, h⟩
              clear hu
              go_wp2
              go_round
              case rel => exact ⟨k + 1, by omega, by go_num, E1.out⟩
              case measure => simp [intOf]; omega
            · clear hu
              go_wp2
              go_round
              case rel => exact ⟨k + 1, by omega, by go_num, E1.out⟩
              case measure => simp [intOf]; omega
          · have e1 : lowB a[k] ≠ b[k] := fun e => by rw [e] at lx; omega
            have E1 := hid (HN.out e1)
            have ht : ((a[k].toNat : Int) != (b[k].toNat : Int)) = true := by simp; omega
            clear he e1 lx
            by_cases u1 : 65 ≤ (a[k].toNat : Int)
            · have u2 : ¬ (a[k].toNat : Int) ≤ 90 := fun h => hu ⟨u1, h⟩
              clear hu
              go_wp2
              go_ret
              exact ⟨ret_bool E1.out.symm, rfl⟩
            · clear hu
              go_wp2
              go_ret
              exact ⟨ret_bool E1.out.symm, rfl⟩
      · have e : r = true := by rw [← R.out]; exact sameT_all HS.out fun j h1 h2 => HA.out j h1 h2 (by omega)
        have E := hid e
        clear e
        go_wp2
        go_ret
        exact ⟨ret_bool E.out.symm, rfl⟩
  · rw [sameT_len hs]
    have hn : ((a.size : Int) != (b.size : Int)) = true := by simp; omega
    have HS := hid hs
    clear hs
    go_enter Tryd.func56, Tryd.ntmps56
    go_wp2
    go_ret
    exact ⟨rfl, rfl⟩

/-! ### Find -/
theorem findT_mem : ∀ p ∈ pairsT 17, findT p.1 = some p.2 := by decide
theorem findT_none {k : List UInt8} (h : ∀ p ∈ pairsT 17, p.1 ≠ k) : findT k = none := by
  unfold findT
  rw [List.find?_eq_none.2 fun p hp => by simpa using h p hp]
  rfl
theorem mem_pairs {t j : Nat} {x : List UInt8} (h : (namesT t)[j]? = some x) : (x, t) ∈ pairsT 17 := by
  unfold pairsT
  rw [List.mem_flatMap]
  exact ⟨t, List.mem_range.2 (by have := (names_lt h).2; omega), List.mem_map.2 ⟨x, List.mem_of_getElem? h, rfl⟩⟩
def NoneOf (l : List (List UInt8 × Nat)) (k : List UInt8) : Prop := ∀ p ∈ l, p.1 ≠ k
theorem noneOf_step {t j : Nat} {x k : List UInt8} (h : (namesT t)[j]? = some x) (hn : NoneOf (pre t j) k) (hx : x ≠ k) : NoneOf (pre t (j + 1)) k := by
  have : pre t (j + 1) = pre t j ++ [(x, t)] := by
    unfold pre
    rw [List.take_add_one, h, List.map_append, List.append_assoc]
    rfl
  rw [this]
  intro p hp
  rcases List.mem_append.1 hp with h1 | h1
  · exact hn p h1
  · rw [List.mem_singleton.1 h1]; exact hx
theorem ret_ib {a b : Int} {c d : Bool} (h : a = b) (k : c = d) : Ending.returned (.tuple #[.int .i64 a, .bool c]) = .returned (.tuple #[.int .i64 b, .bool d]) := by rw [h, k]
def FindPost (k : List UInt8) (w : World) (e : Ending) (w' : World) : Prop := e = .returned (.tuple #[.int .i64 (findI k), .bool (findB k)]) ∧ Below w.heap.size w w'

set_option maxRecDepth 100000 in
set_option maxHeartbeats 4000000 in
theorem refFind_any (s : ByteArray) (w : World) (hs : s.size ≤ 1000000) : Calls Tryd.prog 16 #[.string s] w (FindPost (s.data.toList.map lowB) w) := by
  obtain ⟨K, hK⟩ : ∃ K, s.data.toList.map lowB = K := ⟨_, rfl⟩
  rw [hK]
  have HK := hid hK
  clear hK
  go_enter Tryd.func16, Tryd.ntmps16
  go_wp2
  go_loopw [4] (fun i wr => ∃ t : Nat, 1 ≤ t ∧ t ≤ 17 ∧ i = .int .i64 t ∧ NoneOf (pairsT t) K ∧ Below w.heap.size w wr) (fun i _ => 17 - (intOf i).toNat)
  case atStart => exact ⟨1, by omega, by omega, rfl, (fun p hp => by cases hp), Below.refl _ _⟩
  case round =>
    obtain ⟨t, ht1, ht, rfl, hn, hbw⟩ := hrel
    have Hn := hid hn
    have Hb := hid hbw
    clear hn hbw
    by_cases hlt : t ≤ 16
    · have hd : decide ((t : Int) ≤ 16) = true := decide_eq_true (by omega)
      obtain ⟨L, hL⟩ : ∃ L, (namesT t).length = L := ⟨_, rfl⟩
      have hsl : L ≤ 3 := by
        have : ∀ t, t ≤ 16 → (namesT t).length ≤ 3 := by decide
        rw [← hL]
        exact this t (by omega)
      have HL := hid hL
      clear hL
      go_wp2_with (go_at_call 55; refine (refNames_in t hlt _).mono ?_; rintro e w1 ⟨A, rfl, hs1, hb1⟩; rw [HL.out]; (have B1 := hid (Hb.out.trans (hb1.mono Hb.out.size))); (have S1 := hid hs1); clear hb1 hs1)
      go_loop [6] (fun i => ∃ j : Nat, j ≤ L ∧ i = .int .i64 j ∧ NoneOf (pre t j) K) (fun i => L - (intOf i).toNat)
      case atStart => exact ⟨0, by omega, rfl, (pre_zero t).symm ▸ Hn.out⟩
      case round =>
        obtain ⟨j, hj, rfl, hn⟩ := hrel
        have Hn2 := hid hn
        clear hn Hn
        by_cases hjl : j < L
        · obtain ⟨x, hx⟩ : ∃ x, (namesT t)[j]? = some x := ⟨_, List.getElem?_eq_getElem (by rw [HL.out]; exact hjl)⟩
          obtain ⟨ad, hA, _, hc⟩ := S1.out (by intro h0; rw [h0] at hx; simp at hx)
          have hc0 : w1.cell? (ad.add j) = some (.string (nmS x)) := by have := hc j x hx 0 _ rfl; simpa [add_zero'] using this
          clear hc
          by_cases he : x = K
          · have e0 : sameT s.data.toList (nmS x).data.toList = true := by unfold sameT; rw [HK.out, nmS_list, he]; exact decide_eq_true rfl
            have e1 : findI K = t := by unfold findI; rw [← he, findT_mem _ (mem_pairs hx)]; rfl
            have e2 : findB K = true := by unfold findB; rw [← he, findT_mem _ (mem_pairs hx)]; rfl
            have E0 := hid e0
            have E1 := hid e1
            have E2 := hid e2
            clear e0 e1 e2 he hx
            rw [hA]
            clear hA S1
            go_wp2_with (go_at_call 56; refine (refSame2_any _ _ _ hs).mono ?_; rintro e w2 ⟨rfl, rfl⟩; rw [E0.out])
            go_ret2
            exact ⟨ret_ib E1.out.symm E2.out.symm, B1.out⟩
          · have e0 : sameT s.data.toList (nmS x).data.toList = false := by unfold sameT; rw [HK.out, nmS_list]; exact decide_eq_false fun h => he h.symm
            have E0 := hid e0
            have N2 := hid (noneOf_step hx Hn2.out he)
            clear e0 he hx
            rw [hA]
            clear hA
            go_wp2_with (go_at_call 56; refine (refSame2_any _ _ _ hs).mono ?_; rintro e w2 ⟨rfl, rfl⟩; rw [E0.out])
            go_round
            case rel => exact ⟨j + 1, by omega, by go_num, N2.out⟩
            case measure => simp [intOf]; omega
        · obtain rfl : j = L := by omega
          go_wp2
          go_roundw
          case rel => exact ⟨t + 1, by omega, by omega, by go_num, (pre_end (Nat.le_of_eq HL.out)) ▸ Hn2.out, B1.out⟩
          case measure => simp [intOf]; omega
    · obtain rfl : t = 17 := by omega
      have e1 : findI K = 0 := by unfold findI; rw [findT_none Hn.out]; rfl
      have e2 : findB K = false := by unfold findB; rw [findT_none Hn.out]; rfl
      have E1 := hid e1
      have E2 := hid e2
      clear e1 e2
      go_wp2
      go_ret2
      exact ⟨ret_ib E1.out.symm E2.out.symm, Hb.out⟩
end Go.Proofs.YtapjlkiffgfbfaaDoor
