/- The walks of attrs.Get, May, Put and of the reference's May, Put. -/
import Derived.Test.YtapjlkiffgfbfaaDoorAttRow
import Derived.Test.YtapjlkiffgfbfaaDoorAttTarget
namespace Go.Proofs.YtapjlkiffgfbfaaDoor
open Go.RowKit Go.Lib

theorem findN_spec : ∀ {xs : List At} {m : ByteArray} {i : Nat}, findN xs m = some i → ∃ x, xs[i]? = some x ∧ x.n = m ∧ NotIn xs m i
  | [], _, _, h => by simp [findN] at h
  | y :: ys, m, i, h => by
    unfold findN at h
    rw [List.findIdx?_cons] at h
    by_cases hy : y.n = m
    · rw [decide_eq_true hy] at h
      simp at h
      subst h
      exact ⟨y, rfl, hy, fun j _ hj => absurd hj (by omega)⟩
    · rw [decide_eq_false hy] at h
      simp only [Bool.false_eq_true, if_false, Option.map_eq_some_iff] at h
      obtain ⟨j, hj, rfl⟩ := h
      obtain ⟨x, hx, e, hn⟩ := findN_spec (xs := ys) (m := m) (i := j) hj
      refine ⟨x, by simpa using hx, e, fun q z hq hz => ?_⟩
      cases q with
      | zero => simp at hz; subst hz; exact hy
      | succ q => exact hn q z (by omega) (by simpa using hz)
theorem findK_some {xs : List At} {m : ByteArray} {i : Nat} (h : findN xs m = some i) : findK xs m = (i : Int) := by unfold findK; rw [h]
theorem findK_no {xs : List At} {m : ByteArray} (h : findN xs m = none) : findK xs m = -1 := by unfold findK; rw [h]
theorem findN_lt {xs : List At} {m : ByteArray} {i : Nat} (h : findN xs m = some i) : i < xs.length := by
  obtain ⟨x, hx, _⟩ := findN_spec h
  exact (List.getElem?_eq_some_iff.1 hx).1
/-- What a name has; whether it has. -/
def getV (xs : List At) (m : ByteArray) : ByteArray := match findN xs m with | some i => (match xs[i]? with | some x => x.v | none => ⟨#[]⟩) | none => ⟨#[]⟩
def getB (xs : List At) (m : ByteArray) : Bool := (findN xs m).isSome
theorem ret_sb {a b : ByteArray} {c d : Bool} (h : a = b) (k : c = d) : Ending.returned (.tuple #[.string a, .bool c]) = .returned (.tuple #[.string b, .bool d]) := by rw [h, k]
def GetPost (xs : List At) (m : ByteArray) (w : World) (e : Ending) (w' : World) : Prop := e = .returned (.tuple #[.string (getV xs m), .bool (getB xs m)]) ∧ Below w.heap.size w w'
set_option maxHeartbeats 1000000 in
theorem get_any (A : Option Addr) (xs : List At) (n c B : Nat) (hn : n = xs.length) (m : ByteArray) (w : World) (hA : SlAt encA 2 w B A xs) (hl : xs.length ≤ 1000000000) :
    Calls Tryd.prog 42 #[.slice A n c, .string m] w (GetPost xs m w) := by
  subst hn
  have HS := hid (hA.live (fun _ => by rw [encA_len]; omega))
  cases hf : findN xs m with
  | none =>
    have HK := hid (findK_no hf)
    have E1 := hid (show getV xs m = ⟨#[]⟩ by unfold getV; rw [hf])
    have E2 := hid (show getB xs m = false by unfold getB; rw [hf]; rfl)
    clear hf hA
    go_enter Tryd.func42, Tryd.ntmps42
    go_wp2_with (go_at_call 69; refine (at_any A xs _ c _ rfl m _ HS.out hl).mono ?_; rintro e w1 ⟨rfl, hb1⟩; rw [HK.out]; (have B1 := hid hb1); clear hb1)
    go_ret2
    exact ⟨ret_sb E1.out.symm E2.out.symm, B1.out⟩
  | some i =>
    obtain ⟨x, hx, -, -⟩ := findN_spec hf
    have HK := hid (findK_some hf)
    have E1 := hid (show getV xs m = x.v by unfold getV; rw [hf]; simp only [hx])
    have E2 := hid (show getB xs m = true by unfold getB; rw [hf]; rfl)
    have hlt := findN_lt hf
    have hi1 : (i : Int) < (xs.length : Int) := by omega
    have HX := hid hx
    clear hf hA hx
    go_enter Tryd.func42, Tryd.ntmps42
    go_wp2_with (go_at_call 69; refine (at_any A xs _ c _ rfl m _ HS.out hl).mono ?_; rintro e w1 ⟨rfl, hb1⟩; rw [HK.out]; obtain ⟨ad, x', rfl, -, hx', x0, x1⟩ := (HS.out.below hb1).atA hlt; obtain rfl : x = x' := (by (have := HX.out.symm.trans hx'); injection this); (have B1 := hid hb1); clear hb1 hx')
    go_ret2
    exact ⟨ret_sb E1.out.symm E2.out.symm, B1.out⟩

/-! ### May -/
def mayAt (xs : List At) (k : Nat) (x : At) : Bool := nameB x.n.data.toList && (valueB x.v && decide (findK xs x.n = (k : Int)))
def mayL (xs : List At) : Bool := (List.range xs.length).all fun k => match xs[k]? with | some x => mayAt xs k x | none => true
theorem mayL_no {xs : List At} {k : Nat} {x : At} (hx : xs[k]? = some x) (h : mayAt xs k x = false) : mayL xs = false := by
  unfold mayL
  rw [List.all_eq_false]
  exact ⟨k, List.mem_range.2 (List.getElem?_eq_some_iff.1 hx).1, by simp only [hx, h]; decide⟩
theorem mayL_yes {xs : List At} (h : ∀ j x, j < xs.length → xs[j]? = some x → mayAt xs j x = true) : mayL xs = true := by
  unfold mayL
  rw [List.all_eq_true]
  intro j hj
  have hj := List.mem_range.1 hj
  simp only [List.getElem?_eq_getElem hj]
  exact h j _ hj (List.getElem?_eq_getElem hj)
def Small (xs : List At) : Prop := ∀ x ∈ xs, x.n.size ≤ 1000000000 ∧ x.v.size ≤ 1000000000
def MayTo (xs : List At) (k : Nat) : Prop := ∀ j x, j < k → xs[j]? = some x → mayAt xs j x = true
theorem MayTo.succ {xs : List At} {k : Nat} {x : At} (h : MayTo xs k) (hx : xs[k]? = some x) (hm : mayAt xs k x = true) : MayTo xs (k + 1) := fun j y hj hy => by
  rcases Nat.lt_or_ge j k with h3 | h3
  · exact h j y h3 hy
  · obtain rfl : j = k := by omega
    rw [hx] at hy
    injection hy with hy
    rw [← hy]; exact hm
theorem find_own {xs : List At} {k : Nat} {x : At} (hx : xs[k]? = some x) : 0 ≤ findK xs x.n ∧ findK xs x.n ≤ (k : Int) := by
  cases hf : findN xs x.n with
  | none =>
    exfalso
    unfold findN at hf
    rw [List.findIdx?_eq_none_iff] at hf
    have := hf x (List.mem_of_getElem? hx)
    simp at this
  | some i =>
    obtain ⟨y, hy, e, hn⟩ := findN_spec hf
    rw [findK_some hf]
    refine ⟨by omega, ?_⟩
    rcases Nat.lt_or_ge k i with h | h
    · exact absurd rfl (hn k x h hx)
    · omega
theorem box3 {w w1 : World} {u v : Value} {T : TypeId} (hb : Below (w.alloc (.cells #[u, v] T)).heap.size (w.alloc (.cells #[u, v] T)) w1) :
    w1.cell? ⟨w.heap.size, 0, none⟩ = some u ∧ w1.cell? ⟨w.heap.size, 1, none⟩ = some v ∧ Below w.heap.size w w1 ∧ w.heap.size < w1.heap.size := by
  have hg := heap_alloc_new w (.cells #[u, v] T)
  refine ⟨(hb.cell (p := ⟨w.heap.size, 0, none⟩) (by simp)).trans ?_, (hb.cell (p := ⟨w.heap.size, 1, none⟩) (by simp)).trans ?_, ((Below.refl _ w).alloc (Nat.le_refl _) _).trans (hb.mono (by simp)), ?_⟩
  · exact cell_of_row _ _ 0 _ _ _ hg
  · exact cell_of_row _ _ 1 _ _ _ hg
  · have := hb.size; simp at this; omega
theorem box3b {w1 w2 : World} {b : Nat} {u v : Value} (h0 : w1.cell? ⟨b, 0, none⟩ = some u) (h1 : w1.cell? ⟨b, 1, none⟩ = some v) (hlt : b < w1.heap.size) (hb : Below w1.heap.size w1 w2) : w2.cell? ⟨b, 0, none⟩ = some u ∧ w2.cell? ⟨b, 1, none⟩ = some v ∧ b < w2.heap.size :=
  ⟨(hb.cell (p := ⟨b, 0, none⟩) hlt).trans h0, (hb.cell (p := ⟨b, 1, none⟩) hlt).trans h1, by have := hb.size; omega⟩

set_option maxRecDepth 100000 in
set_option maxHeartbeats 4000000 in
theorem mayA_any (A : Option Addr) (xs : List At) (n c B : Nat) (hn : n = xs.length) (w : World) (hA : SlAt encA 2 w B A xs) (hl : xs.length ≤ 1000000000) (hz : Small xs) (hT : Tb w) :
    Calls Tryd.prog 43 #[.slice A n c] w (IsBool (mayL xs) w) := by
  subst hn
  have HS := hid (hA.live (fun _ => by rw [encA_len]; omega))
  have T := hid hT
  obtain ⟨r, hr⟩ : ∃ r, mayL xs = r := ⟨_, rfl⟩
  have HR := hid hr
  have HZ := hid hz
  rw [hr]
  clear hr hT hz hA
  go_enter Tryd.func43, Tryd.ntmps43
  go_wp2
  go_loopw [7] (fun i wr => ∃ k : Nat, k ≤ xs.length ∧ i = .int .i64 k ∧ Hid (MayTo xs k) ∧ Below w.heap.size w wr) (fun i _ => xs.length - (intOf i).toNat)
  case atStart => exact ⟨0, Nat.zero_le _, rfl, (fun j _ h => absurd h (by omega)), Below.refl _ _⟩
  case round =>
    obtain ⟨k, hk, rfl, hto, hbr⟩ := hrel
    have HB := hid hbr
    by_cases hlt : k < xs.length
    · obtain ⟨ad, x, rfl, -, hx, x0, x1⟩ := (HS.out.below hbr).atA hlt
      have hi1 : (k : Int) < (xs.length : Int) := by omega
      have hzz := HZ.out x (List.mem_of_getElem? hx)
      have Z1 := hid hzz.1
      have Z2 := hid hzz.2
      obtain ⟨nb, hnb⟩ : ∃ nb, nameB x.n.data.toList = nb := ⟨_, rfl⟩
      obtain ⟨vb, hvb⟩ : ∃ vb, valueB x.v = vb := ⟨_, rfl⟩
      obtain ⟨fk, hfk⟩ : ∃ fk, findK xs x.n = fk := ⟨_, rfl⟩
      have hm : mayAt xs k x = (nb && (vb && decide (fk = (k : Int)))) := by unfold mayAt; rw [hnb, hvb, hfk]
      have HN := hid hnb
      have HV := hid hvb
      have HF := hid hfk
      have HX := hid hx
      have HM := hid hm
      clear hnb hvb hfk hx hm hzz hbr
      cases nb with
      | false =>
        have E := hid (HR.out.symm.trans (mayL_no HX.out (by rw [HM.out]; rfl)))
        go_wp2_with (go_at_call 33; refine (attName_any _ _ Z1.out).mono ?_; rintro e w1 ⟨rfl, hb1⟩; rw [HN.out]; obtain ⟨c0, c1, hb2, hlw⟩ := box3 hb1; (have B1 := hid (HB.out.trans (hb2.mono HB.out.size))); clear hb1 hb2)
        go_ret
        exact ⟨ret_bo E.out.symm, B1.out⟩
      | true =>
        cases vb with
        | false =>
          have E := hid (HR.out.symm.trans (mayL_no HX.out (by rw [HM.out]; rfl)))
          go_wp2_with (first
            | (go_at_call 33; refine (attName_any _ _ Z1.out).mono ?_; rintro e w1 ⟨rfl, hb1⟩; rw [HN.out]; obtain ⟨c0, c1, hb2, hlw⟩ := box3 hb1; (have B1 := hid (HB.out.trans (hb2.mono HB.out.size))); clear hb1 hb2)
            | (go_at_call 35; refine (value_any _ _ Z2.out (Utf8Tabs_below T.out B1.out)).mono ?_; rintro e w2 ⟨rfl, hb3⟩; rw [HV.out]; obtain ⟨d0, d1, hlw2⟩ := box3b c0 c1 hlw hb3; (have B2 := hid (B1.out.trans (hb3.mono B1.out.size))); clear hb3 c0 c1))
          go_ret
          exact ⟨ret_bo E.out.symm, B2.out⟩
        | true =>
          by_cases hf : fk = (k : Int)
          · have M1 := hid (hto.out.succ HX.out (by rw [HM.out, decide_eq_true hf]; rfl))
            have bq : (fk != (k : Int)) = false := by rw [bne_eq_false_iff_eq]; exact hf
            clear hf
            go_wp2_with (first
              | (go_at_call 33; refine (attName_any _ _ Z1.out).mono ?_; rintro e w1 ⟨rfl, hb1⟩; rw [HN.out]; obtain ⟨c0, c1, hb2, hlw⟩ := box3 hb1; (have B1 := hid (HB.out.trans (hb2.mono HB.out.size))); clear hb1 hb2)
              | (go_at_call 35; refine (value_any _ _ Z2.out (Utf8Tabs_below T.out B1.out)).mono ?_; rintro e w2 ⟨rfl, hb3⟩; rw [HV.out]; obtain ⟨d0, d1, hlw2⟩ := box3b c0 c1 hlw hb3; (have B2 := hid (B1.out.trans (hb3.mono B1.out.size))); clear hb3 c0 c1)
              | (go_at_call 69; refine (at_any _ xs _ c _ rfl x.n _ (HS.out.below B2.out) hl).mono ?_; rintro e w3 ⟨rfl, hb4⟩; rw [HF.out]; (have B3 := hid (B2.out.trans (hb4.mono B2.out.size))); clear hb4))
            go_roundw
            case rel => exact ⟨k + 1, by omega, by go_num, M1.out, B3.out⟩
            case measure => simp [intOf]; omega
          · have E := hid (HR.out.symm.trans (mayL_no HX.out (by rw [HM.out, decide_eq_false hf]; rfl)))
            have bq : (fk != (k : Int)) = true := by rw [bne_iff_ne]; exact hf
            clear hf
            go_wp2_with (first
              | (go_at_call 33; refine (attName_any _ _ Z1.out).mono ?_; rintro e w1 ⟨rfl, hb1⟩; rw [HN.out]; obtain ⟨c0, c1, hb2, hlw⟩ := box3 hb1; (have B1 := hid (HB.out.trans (hb2.mono HB.out.size))); clear hb1 hb2)
              | (go_at_call 35; refine (value_any _ _ Z2.out (Utf8Tabs_below T.out B1.out)).mono ?_; rintro e w2 ⟨rfl, hb3⟩; rw [HV.out]; obtain ⟨d0, d1, hlw2⟩ := box3b c0 c1 hlw hb3; (have B2 := hid (B1.out.trans (hb3.mono B1.out.size))); clear hb3 c0 c1)
              | (go_at_call 69; refine (at_any _ xs _ c _ rfl x.n _ (HS.out.below B2.out) hl).mono ?_; rintro e w3 ⟨rfl, hb4⟩; rw [HF.out]; (have B3 := hid (B2.out.trans (hb4.mono B2.out.size))); clear hb4))
            go_ret
            exact ⟨ret_bo E.out.symm, B3.out⟩
    · obtain rfl : k = xs.length := by omega
      have E := hid (HR.out.symm.trans (mayL_yes hto.out))
      clear hbr
      go_wp2
      go_ret
      exact ⟨ret_bo E.out.symm, HB.out⟩
end Go.Proofs.YtapjlkiffgfbfaaDoor
