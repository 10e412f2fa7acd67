/- Texts on cells and lines, put together: AttTarget, AttRefT. -/
import Derived.Test.YtblbfoniimnkcaaGreatDoorAttValue
import Derived.Deep.QuietTactic
import Derived.BigQuiet
import Derived.WalkSpells
/- The walks of attrs.Target and of the reference's Target. -/
namespace Go.Proofs.YtblbfoniimnkcaaGreatDoor
open Go.RowKit Go.Lib Go.Shelf

theorem head_hit : ∀ (l : List UInt8) (i : Nat), indexByte l 58 = (i : Int) → headL l = l.take i ∧ i < l.length
  | [], i, h => by simp [indexByte] at h
  | b :: l, i, h => by
    unfold indexByte at h
    by_cases hb : b = 58
    · subst hb
      rw [if_pos (by decide)] at h
      obtain rfl : i = 0 := by omega
      exact ⟨by simp [headL], by simp⟩
    · rw [if_neg (by simpa using hb)] at h
      have hge := indexByte_ge l 58
      by_cases h1 : indexByte l 58 = -1
      · rw [if_pos (by simpa using h1)] at h; omega
      · rw [if_neg (by simpa using h1)] at h
        obtain ⟨j, hj⟩ : ∃ j : Nat, indexByte l 58 = j := ⟨(indexByte l 58).toNat, by omega⟩
        obtain rfl : i = j + 1 := by omega
        obtain ⟨a, c⟩ := head_hit l j hj
        refine ⟨?_, by simp; omega⟩
        unfold headL at a ⊢
        rw [List.takeWhile_cons, if_pos (by simpa using hb), a, List.take_succ_cons]
theorem head_miss : ∀ (l : List UInt8), indexByte l 58 = -1 → headL l = l
  | [], _ => rfl
  | b :: l, h => by
    unfold indexByte at h
    by_cases hb : b = 58
    · subst hb
      rw [if_pos (by decide)] at h
      omega
    · rw [if_neg (by simpa using hb)] at h
      have hge := indexByte_ge l 58
      by_cases h1 : indexByte l 58 = -1
      · unfold headL
        rw [List.takeWhile_cons, if_pos (by simpa using hb)]
        have := head_miss l h1
        unfold headL at this
        rw [this]
      · rw [if_neg (by simpa using h1)] at h; omega
theorem ext_eq {s : ByteArray} {l : List UInt8} (h : s.data.toList = l) : s = nmS l := by
  cases s; subst h; simp [nmS]
theorem ret_cut {a b c d : ByteArray} {e : Bool} (h : a = b) (k : c = d) : Ending.returned (.tuple #[.string a, .string c, .bool e]) = .returned (.tuple #[.string b, .string d, .bool e]) := by rw [h, k]
def CutPost (s : ByteArray) (w : World) (e : Ending) (w' : World) : Prop := ∃ (t : ByteArray) (b : Bool), e = .returned (.tuple #[.string (nmS (headL s.data.toList)), .string t, .bool b]) ∧ ∃ q, w' = w.drewN q
set_option maxHeartbeats 4000000 in
theorem cut1_any (s : ByteArray) (w : World) (hs : s.size ≤ 1000000000) : Calls Tryz.prog 97 #[.string s, .string ⟨#[58]⟩] w (CutPost s w) := by
  obtain ⟨x, hx⟩ : ∃ x, Lib.indexByte s.data.toList 58 = x := ⟨_, rfl⟩
  have c1 := fun W => Tryz.stringslite_Index_one s 58 W
  rw [hx] at c1
  have C1 := hid c1
  have hge := indexByte_ge s.data.toList 58
  rw [hx] at hge
  clear c1
  by_cases h : 0 ≤ x
  · obtain ⟨i, rfl⟩ : ∃ i : Nat, x = i := ⟨x.toNat, by omega⟩
    obtain ⟨hh, hi⟩ := head_hit _ _ hx
    rw [← Lib.size_eq] at hi
    have HX := hid (show s.extract 0 i = nmS (headL s.data.toList) from ext_eq (by rw [hh]; simp))
    clear hx hh
    go_enter Tryz.func97, Tryz.ntmps97
    go_wp2_with (go_at_call 108; refine (C1.out _).mono ?_; rintro e w' ⟨rfl, rfl⟩)
    go_quiet (fail)
    go_wp2
    go_ret3
    exact ⟨_, _, ret_cut HX.out rfl, _, rfl⟩
  · obtain rfl : x = -1 := by omega
    have HX := hid (show s = nmS (headL s.data.toList) from ext_eq (head_miss _ hx).symm)
    clear hx
    go_enter Tryz.func97, Tryz.ntmps97
    go_wp2_with (go_at_call 108; refine (C1.out _).mono ?_; rintro e w' ⟨rfl, rfl⟩)
    go_ret3
    exact ⟨_, _, ret_cut HX.out rfl, 0, rfl⟩
set_option maxHeartbeats 4000000 in
theorem cut_any (s : ByteArray) (w : World) (hs : s.size ≤ 1000000000) : Calls Tryz.prog 92 #[.string s, .string ⟨#[58]⟩] w (CutPost s w) := by
  go_enter Tryz.func92, Tryz.ntmps92
  go_wp2_with (go_at_call 97; refine (cut1_any s _ hs).mono ?_; rintro e w' ⟨t, b, rfl, q, rfl⟩)
  go_ret3
  exact ⟨_, _, rfl, _, rfl⟩

set_option maxHeartbeats 1000000 in
theorem script1_any (c : Int) (h0 : 0 ≤ c) (h1 : c ≤ 1114111) (w : World) : Calls Tryz.prog 94 #[.int .i32 c] w fun e w' => e = .returned (.int .i32 (lowI c)) ∧ w = w' := by
  by_cases h : 65 ≤ c
  · by_cases h2 : c ≤ 90
    · have e : lowI c = c + 32 := by unfold lowI; rw [if_pos ⟨h, h2⟩]
      rw [e]
      clear e
      have e1 : IntKind.i32.wrap (c + 32) = c + 32 := IntWalk.i32_in _ (by omega)
      go_enter Tryz.func94, Tryz.ntmps94
      go_wp2
      go_ret
      exact ⟨rfl, rfl⟩
    · have e : lowI c = c := by unfold lowI; rw [if_neg (by omega)]
      rw [e]
      clear e
      go_enter Tryz.func94, Tryz.ntmps94
      go_wp2
      go_ret
      exact ⟨rfl, rfl⟩
  · have e : lowI c = c := by unfold lowI; rw [if_neg (by omega)]
    rw [e]
    clear e
    go_enter Tryz.func94, Tryz.ntmps94
    go_wp2
    go_ret
    exact ⟨rfl, rfl⟩
theorem scriptGrows (w : World) : MapGrows Tryz.prog 94 #[] lowI w := fun W x hx _ =>
  (script1_any x (by omega) (by omega) W).mono fun _ _ ⟨he, hw⟩ => ⟨he, hw ▸ Below.refl _ _⟩
theorem head_len (l : List UInt8) : (headL l).length ≤ l.length := by
  unfold headL; exact (List.takeWhile_prefix _).length_le

theorem jsB_map (l : List UInt8) : ((nmS (mapD lowI (headL l))).toList == jsL) = jsB l := by
  rw [ByteArray.toList_eq, show (nmS (mapD lowI (headL l))).data.toList = mapD lowI (headL l) from by simp [nmS]]
  have := mapD_low (headL l).length (headL l) jsL (Nat.le_refl _) (by decide)
  unfold jsB
  rw [Bool.eq_iff_iff, beq_iff_eq, decide_eq_true_eq]
  exact this
theorem targetB_pos {s : ByteArray} (h : 0 < s.size) : targetB s = (valueB s && (s[0] != 32 && (s[s.size - 1] != 32 && !(jsB s.data.toList)))) := by
  unfold targetB; rw [dif_pos h]
theorem targetB_nil {s : ByteArray} (h : s.size = 0) : targetB s = false := by
  unfold targetB; rw [dif_neg (by omega), Bool.and_false]
theorem nmS_data (l : List UInt8) : (nmS l).data.toList = l := by simp [nmS]
theorem nmS_size (l : List UInt8) : (nmS l).size = l.length := by show l.toArray.size = _; simp

set_option maxRecDepth 100000 in
set_option maxHeartbeats 8000000 in
theorem target_any (s : ByteArray) (w : World) (hs : s.size ≤ 1000000000) (hT : Tb w) : Calls Tryz.prog 88 #[.string s] w (IsBool (targetB s) w) := by
  obtain ⟨r, hr⟩ : ∃ r, targetB s = r := ⟨_, rfl⟩
  obtain ⟨v, hv⟩ : ∃ v, valueB s = v := ⟨_, rfl⟩
  obtain ⟨m, hm⟩ : ∃ m, nmS (mapD lowI (headL s.data.toList)) = m := ⟨_, rfl⟩
  obtain ⟨jb, hj⟩ : ∃ jb, jsB s.data.toList = jb := ⟨_, rfl⟩
  have hjs : (m.toList == [106, 97, 118, 97, 115, 99, 114, 105, 112, 116]) = jb := by rw [← hm, ← hj]; exact jsB_map _
  have T := hid hT
  have HV := hid hv
  have HM := hid (show (⟨(mapD lowI (nmS (headL s.data.toList)).data.toList).toArray⟩ : ByteArray) = m by rw [nmS_data]; exact hm)
  have HL := hid (show (nmS (headL s.data.toList)).size < 35184372088832 by rw [nmS_size]; have := head_len s.data.toList; rw [← Lib.size_eq] at this; omega)
  rw [hr]
  clear hT hm
  cases v with
  | false =>
    have E := hid (show r = false by rw [← hr]; unfold targetB; rw [hv]; rfl)
    clear hr hv hj
    go_enter Tryz.func88, Tryz.ntmps88
    go_wp2_with (first
      | (go_at_call 92; refine (cut_any s _ hs).mono ?_; rintro e w1 ⟨t1, b1, rfl, q1, rfl⟩)
      | (go_at_call 93; refine (Tryz.strings_Map_grows 94 #[] (enters_of Tryz.func94 (by kernel_rfl) rfl) lowI (nmS (headL s.data.toList)) _ HL.out (scriptGrows _) lowI_bd (Utf8Tabs_below T.out (below_drewN (Below.refl _ _) q1))).mono ?_; rintro e w2 ⟨rfl, hb2⟩; rw [HM.out]; (have B2 := hid ((below_drewN (Below.refl w.heap.size w) q1).trans hb2)); clear hb2)
      | (go_at_call 95; refine (value_any s _ hs (Utf8Tabs_below T.out B2.out)).mono ?_; rintro e w3 ⟨rfl, hb3⟩; rw [HV.out]; (have B3 := hid (B2.out.trans (hb3.mono B2.out.size))); clear hb3))
    go_ret
    exact ⟨ret_bo E.out.symm, B3.out⟩
  | true =>
    by_cases h0 : s.size = 0
    · have E := hid (show r = false by rw [← hr]; exact targetB_nil h0)
      have hem : (s.toList == [] : Bool) = true := by
        rw [ByteArray.toList_eq, beq_iff_eq]
        exact List.eq_nil_of_length_eq_zero (by rw [← Lib.size_eq]; exact h0)
      clear hr hv hj h0
      go_enter Tryz.func88, Tryz.ntmps88
      go_wp2_with (first
      | (go_at_call 92; refine (cut_any s _ hs).mono ?_; rintro e w1 ⟨t1, b1, rfl, q1, rfl⟩)
      | (go_at_call 93; refine (Tryz.strings_Map_grows 94 #[] (enters_of Tryz.func94 (by kernel_rfl) rfl) lowI (nmS (headL s.data.toList)) _ HL.out (scriptGrows _) lowI_bd (Utf8Tabs_below T.out (below_drewN (Below.refl _ _) q1))).mono ?_; rintro e w2 ⟨rfl, hb2⟩; rw [HM.out]; (have B2 := hid ((below_drewN (Below.refl w.heap.size w) q1).trans hb2)); clear hb2)
      | (go_at_call 95; refine (value_any s _ hs (Utf8Tabs_below T.out B2.out)).mono ?_; rintro e w3 ⟨rfl, hb3⟩; rw [HV.out]; (have B3 := hid (B2.out.trans (hb3.mono B2.out.size))); clear hb3))
      go_ret
      exact ⟨ret_bo E.out.symm, B3.out⟩
    · have hpos : 0 < s.size := by omega
      have hrr := targetB_pos hpos
      rw [hr, hv, hj, Bool.true_and] at hrr
      have hem : (s.toList == [] : Bool) = false := by
        rw [ByteArray.toList_eq, beq_eq_false_iff_ne]
        intro e
        have h := congrArg List.length e
        rw [← Lib.size_eq, List.length_nil] at h
        omega
      have i0 : (0 : Int) < (s.size : Int) := by omega
      have i1 : ((s.size : Int) - 1).toNat = s.size - 1 := by omega
      obtain ⟨x, hx⟩ : ∃ x, s[0] = x := ⟨_, rfl⟩
      obtain ⟨y, hy⟩ : ∃ y, s[s.size - 1] = y := ⟨_, rfl⟩
      rw [hx, hy] at hrr
      have bridge : ∀ z : UInt8, ((z.toNat : Int) != 32) = (z != 32) := fun z => by
        rw [Bool.eq_iff_iff, bne_iff_ne, bne_iff_ne]
        constructor
        · intro h e; subst e; exact h rfl
        · intro h e; exact h (UInt8.toNat_inj.1 (by show z.toNat = 32; omega))
      have gx : ∀ W, (Instr.index 9 (.string s) (.int .i64 0)).run Tryz.prog W = .ok (.int .u8 (x.toNat : Int)) W := fun W => by
        rw [run_index_string W 9 s .i64 0 Tryz.underlying9, dif_pos ⟨by omega, i0⟩, ← hx]; rfl
      have gy : ∀ W, (Instr.index 9 (.string s) (.int .i64 ((s.size : Int) - 1))).run Tryz.prog W = .ok (.int .u8 (y.toNat : Int)) W := fun W => by
        rw [run_index_string W 9 s .i64 _ Tryz.underlying9, dif_pos ⟨by omega, by omega⟩, ← hy]; simp only [i1]
      have bx := bridge x
      have bxy := bridge y
      clear bridge hr hv hj h0 hx hy i1
      cases hcx : (x != 32) with
      | false =>
        rw [hcx] at bx hrr
        have E := hid (show r = false from hrr)
        clear hrr bxy gy hcx
        go_enter Tryz.func88, Tryz.ntmps88
        go_wp2_with (first
      | (go_at_call 92; refine (cut_any s _ hs).mono ?_; rintro e w1 ⟨t1, b1, rfl, q1, rfl⟩)
      | (go_at_call 93; refine (Tryz.strings_Map_grows 94 #[] (enters_of Tryz.func94 (by kernel_rfl) rfl) lowI (nmS (headL s.data.toList)) _ HL.out (scriptGrows _) lowI_bd (Utf8Tabs_below T.out (below_drewN (Below.refl _ _) q1))).mono ?_; rintro e w2 ⟨rfl, hb2⟩; rw [HM.out]; (have B2 := hid ((below_drewN (Below.refl w.heap.size w) q1).trans hb2)); clear hb2)
      | (go_at_call 95; refine (value_any s _ hs (Utf8Tabs_below T.out B2.out)).mono ?_; rintro e w3 ⟨rfl, hb3⟩; rw [HV.out]; (have B3 := hid (B2.out.trans (hb3.mono B2.out.size))); clear hb3))
        go_ret
        exact ⟨ret_bo E.out.symm, B3.out⟩
      | true =>
        rw [hcx] at bx hrr
        rw [Bool.true_and] at hrr
        cases hcy : (y != 32) with
        | false =>
          rw [hcy] at bxy hrr
          have E := hid (show r = false from hrr)
          clear hrr hcx hcy
          go_enter Tryz.func88, Tryz.ntmps88
          go_wp2_with (first
      | (go_at_call 92; refine (cut_any s _ hs).mono ?_; rintro e w1 ⟨t1, b1, rfl, q1, rfl⟩)
      | (go_at_call 93; refine (Tryz.strings_Map_grows 94 #[] (enters_of Tryz.func94 (by kernel_rfl) rfl) lowI (nmS (headL s.data.toList)) _ HL.out (scriptGrows _) lowI_bd (Utf8Tabs_below T.out (below_drewN (Below.refl _ _) q1))).mono ?_; rintro e w2 ⟨rfl, hb2⟩; rw [HM.out]; (have B2 := hid ((below_drewN (Below.refl w.heap.size w) q1).trans hb2)); clear hb2)
      | (go_at_call 95; refine (value_any s _ hs (Utf8Tabs_below T.out B2.out)).mono ?_; rintro e w3 ⟨rfl, hb3⟩; rw [HV.out]; (have B3 := hid (B2.out.trans (hb3.mono B2.out.size))); clear hb3))
          go_ret
          exact ⟨ret_bo E.out.symm, B3.out⟩
        | true =>
          rw [hcy] at bxy hrr
          rw [Bool.true_and] at hrr
          have E := hid hrr
          clear hrr hcx hcy
          cases jb with
          | true =>
            go_enter Tryz.func88, Tryz.ntmps88
            go_wp2_with (first
      | (go_at_call 92; refine (cut_any s _ hs).mono ?_; rintro e w1 ⟨t1, b1, rfl, q1, rfl⟩)
      | (go_at_call 93; refine (Tryz.strings_Map_grows 94 #[] (enters_of Tryz.func94 (by kernel_rfl) rfl) lowI (nmS (headL s.data.toList)) _ HL.out (scriptGrows _) lowI_bd (Utf8Tabs_below T.out (below_drewN (Below.refl _ _) q1))).mono ?_; rintro e w2 ⟨rfl, hb2⟩; rw [HM.out]; (have B2 := hid ((below_drewN (Below.refl w.heap.size w) q1).trans hb2)); clear hb2)
      | (go_at_call 95; refine (value_any s _ hs (Utf8Tabs_below T.out B2.out)).mono ?_; rintro e w3 ⟨rfl, hb3⟩; rw [HV.out]; (have B3 := hid (B2.out.trans (hb3.mono B2.out.size))); clear hb3))
            go_ret
            exact ⟨ret_bo E.out.symm, B3.out⟩
          | false =>
            go_enter Tryz.func88, Tryz.ntmps88
            go_wp2_with (first
      | (go_at_call 92; refine (cut_any s _ hs).mono ?_; rintro e w1 ⟨t1, b1, rfl, q1, rfl⟩)
      | (go_at_call 93; refine (Tryz.strings_Map_grows 94 #[] (enters_of Tryz.func94 (by kernel_rfl) rfl) lowI (nmS (headL s.data.toList)) _ HL.out (scriptGrows _) lowI_bd (Utf8Tabs_below T.out (below_drewN (Below.refl _ _) q1))).mono ?_; rintro e w2 ⟨rfl, hb2⟩; rw [HM.out]; (have B2 := hid ((below_drewN (Below.refl w.heap.size w) q1).trans hb2)); clear hb2)
      | (go_at_call 95; refine (value_any s _ hs (Utf8Tabs_below T.out B2.out)).mono ?_; rintro e w3 ⟨rfl, hb3⟩; rw [HV.out]; (have B3 := hid (B2.out.trans (hb3.mono B2.out.size))); clear hb3))
            go_ret
            exact ⟨ret_bo E.out.symm, B3.out⟩
end Go.Proofs.YtblbfoniimnkcaaGreatDoor

/- The walk of the reference's Target. -/
namespace Go.Proofs.YtblbfoniimnkcaaGreatDoor
open Go.RowKit Go.Lib Go.Shelf

theorem head_take : ∀ (l : List UInt8) (k : Nat), (∀ j x, j < k → l[j]? = some x → x ≠ 58) → (l.length ≤ k ∨ l[k]? = some 58) → headL l = l.take k
  | [], k, _, _ => by simp [headL]
  | b :: l, 0, _, h => by
    rcases h with h | h
    · simp at h
    · simp at h; subst h; simp [headL]
  | b :: l, k + 1, h, he => by
    have hb : b ≠ 58 := h 0 b (by omega) rfl
    have ih := head_take l k (fun j x hj hx => h (j + 1) x (by omega) (by simpa using hx)) (by simpa using he)
    unfold headL at ih ⊢
    rw [List.takeWhile_cons, if_pos (by simpa using hb), ih, List.take_succ_cons]
theorem getElem_list {s : ByteArray} {j : Nat} (hj : j < s.size) : s.data.toList[j]? = some s[j] := by
  rw [List.getElem?_eq_getElem (by rw [← Lib.size_eq]; exact hj)]; rfl
/-- How long is the head? -/
theorem head_stop {s : ByteArray} {k : Nat} (h : ∀ j (hj : j < s.size), j < k → s[j] ≠ 58) (he : s.size ≤ k ∨ ∃ hk : k < s.size, s[k] = 58) : headL s.data.toList = s.data.toList.take k := by
  refine head_take _ _ (fun j x hj hx => ?_) ?_
  · have hl : j < s.size := by rw [Lib.size_eq]; exact (List.getElem?_eq_some_iff.1 hx).1
    rw [getElem_list hl] at hx
    injection hx with hx
    rw [← hx]
    exact h j hl hj
  · rcases he with he | ⟨hk, he⟩
    · exact .inl (by rw [← Lib.size_eq]; exact he)
    · exact .inr (by rw [getElem_list hk, he])
theorem js_len {s : ByteArray} {k : Nat} (hh : headL s.data.toList = s.data.toList.take k) (hk : k ≤ s.size) (h : k ≠ 10) : jsB s.data.toList = false := by
  refine decide_eq_false fun e => h ?_
  have := congrArg List.length e
  rw [hh, List.length_map, List.length_take, ← Lib.size_eq] at this
  have h10 : jsL.length = 10 := rfl
  omega
theorem js_at {s : ByteArray} {j : Nat} (hh : headL s.data.toList = s.data.toList.take 10) (hs : 10 ≤ s.size) (hj : j < 10) (h : jsL[j]? ≠ some (lowB (s[j]'(by omega)))) : jsB s.data.toList = false := by
  refine decide_eq_false fun e => h ?_
  rw [← e, hh, List.getElem?_map, List.getElem?_take, if_pos hj, getElem_list (by omega)]
  rfl
theorem js_all {s : ByteArray} (hh : headL s.data.toList = s.data.toList.take 10) (hs : 10 ≤ s.size) (h : ∀ j (hj : j < s.size), j < 10 → jsL[j]? = some (lowB s[j])) : jsB s.data.toList = true := by
  refine decide_eq_true (List.ext_getElem? fun j => ?_)
  rw [hh, List.getElem?_map, List.getElem?_take]
  split
  · next hj => rw [getElem_list (by omega), h j (by omega) hj]; rfl
  · next hj => rw [List.getElem?_eq_none (by show 10 ≤ j; omega)]; rfl
theorem run_word0 (W : World) : ∀ j, j < 10 → (Instr.index 9 (.string ⟨#[106, 97, 118, 97, 115, 99, 114, 105, 112, 116]⟩) (.int .i64 (j : Nat))).run Tryz.prog W = .ok (.int .u8 ((jsL.getD j 0).toNat : Int)) W
  | 0, _ => by kernel_rfl | 1, _ => by kernel_rfl | 2, _ => by kernel_rfl | 3, _ => by kernel_rfl | 4, _ => by kernel_rfl
  | 5, _ => by kernel_rfl | 6, _ => by kernel_rfl | 7, _ => by kernel_rfl | 8, _ => by kernel_rfl | 9, _ => by kernel_rfl
  | j + 10, h => absurd h (by omega)
theorem run_word (W : World) (j : Nat) (y : UInt8) (hy : jsL[j]? = some y) : (Instr.index 9 (.string ⟨#[106, 97, 118, 97, 115, 99, 114, 105, 112, 116]⟩) (.int .i64 (j : Nat))).run Tryz.prog W = .ok (.int .u8 (y.toNat : Int)) W := by
  have hj : j < 10 := (List.getElem?_eq_some_iff.1 hy).1
  rw [run_word0 W j hj, List.getD, hy]
  rfl
set_option maxRecDepth 100000 in
set_option maxHeartbeats 8000000 in
theorem refTarget_any (s : ByteArray) (w : World) (hs : s.size ≤ 1000000000) : Calls Tryz.prog 90 #[.string s] w (IsBool (targetB s) w) := by
  obtain ⟨r, hr⟩ : ∃ r, targetB s = r := ⟨_, rfl⟩
  obtain ⟨v, hv⟩ : ∃ v, valueB s = v := ⟨_, rfl⟩
  obtain ⟨jb, hj⟩ : ∃ jb, jsB s.data.toList = jb := ⟨_, rfl⟩
  have HV := hid hv
  have HJ := hid hj
  rw [hr]
  cases v with
  | false =>
    have E := hid (show r = false by rw [← hr]; unfold targetB; rw [hv]; rfl)
    clear hr hv hj
    go_enter Tryz.func90, Tryz.ntmps90
    go_wp2_with (go_at_call 96; refine (refValue_any s _ hs).mono ?_; rintro e w3 ⟨rfl, hb3⟩; rw [HV.out]; (have B3 := hid hb3); clear hb3)
    go_ret
    exact ⟨ret_bo E.out.symm, B3.out⟩
  | true =>
    by_cases h0 : s.size = 0
    · have E := hid (show r = false by rw [← hr]; exact targetB_nil h0)
      have hem : (s.toList == [] : Bool) = true := by
        rw [ByteArray.toList_eq, beq_iff_eq]
        exact List.eq_nil_of_length_eq_zero (by rw [← Lib.size_eq]; exact h0)
      clear hr hv hj h0
      go_enter Tryz.func90, Tryz.ntmps90
      go_wp2_with (go_at_call 96; refine (refValue_any s _ hs).mono ?_; rintro e w3 ⟨rfl, hb3⟩; rw [HV.out]; (have B3 := hid hb3); clear hb3)
      go_ret
      exact ⟨ret_bo E.out.symm, B3.out⟩
    · have hpos : 0 < s.size := by omega
      have hrr := targetB_pos hpos
      rw [hr, hv, hj, Bool.true_and] at hrr
      have hem : (s.toList == [] : Bool) = false := by
        rw [ByteArray.toList_eq, beq_eq_false_iff_ne]
        intro e
        have h := congrArg List.length e
        rw [← Lib.size_eq, List.length_nil] at h
        omega
      have i0 : (0 : Int) < (s.size : Int) := by omega
      have i1 : ((s.size : Int) - 1).toNat = s.size - 1 := by omega
      obtain ⟨x, hx⟩ : ∃ x, s[0] = x := ⟨_, rfl⟩
      obtain ⟨y, hy⟩ : ∃ y, s[s.size - 1] = y := ⟨_, rfl⟩
      rw [hx, hy] at hrr
      have bridge : ∀ z : UInt8, ((z.toNat : Int) == 32) = !(z != 32) := fun z => by
        rw [Bool.eq_iff_iff, beq_iff_eq, Bool.not_eq_true', bne_eq_false_iff_eq]
        constructor
        · intro h; exact UInt8.toNat_inj.1 (by show z.toNat = 32; omega)
        · intro h; subst h; rfl
      have gx : ∀ W, (Instr.index 9 (.string s) (.int .i64 0)).run Tryz.prog W = .ok (.int .u8 (x.toNat : Int)) W := fun W => by
        rw [run_index_string W 9 s .i64 0 Tryz.underlying9, dif_pos ⟨by omega, i0⟩, ← hx]; rfl
      have gy : ∀ W, (Instr.index 9 (.string s) (.int .i64 ((s.size : Int) - 1))).run Tryz.prog W = .ok (.int .u8 (y.toNat : Int)) W := fun W => by
        rw [run_index_string W 9 s .i64 _ Tryz.underlying9, dif_pos ⟨by omega, by omega⟩, ← hy]; simp only [i1]
      have bx := bridge x
      have bxy := bridge y
      clear bridge hr hv hj h0 hx hy i1
      cases hcx : (x != 32) with
      | false =>
        rw [hcx] at bx hrr
        have E := hid (show r = false from hrr)
        clear hrr bxy gy hcx
        go_enter Tryz.func90, Tryz.ntmps90
        go_wp2_with (go_at_call 96; refine (refValue_any s _ hs).mono ?_; rintro e w3 ⟨rfl, hb3⟩; rw [HV.out]; (have B3 := hid hb3); clear hb3)
        go_ret
        exact ⟨ret_bo E.out.symm, B3.out⟩
      | true =>
        rw [hcx] at bx hrr
        rw [Bool.true_and] at hrr
        cases hcy : (y != 32) with
        | false =>
          rw [hcy] at bxy hrr
          have E := hid (show r = false from hrr)
          clear hrr hcx hcy
          go_enter Tryz.func90, Tryz.ntmps90
          go_wp2_with (go_at_call 96; refine (refValue_any s _ hs).mono ?_; rintro e w3 ⟨rfl, hb3⟩; rw [HV.out]; (have B3 := hid hb3); clear hb3)
          go_ret
          exact ⟨ret_bo E.out.symm, B3.out⟩
        | true =>
          rw [hcy] at bxy hrr
          rw [Bool.true_and] at hrr
          have E := hid hrr
          clear hrr hcx hcy
          go_enter Tryz.func90, Tryz.ntmps90
          go_wp2_with (go_at_call 96; refine (refValue_any s _ hs).mono ?_; rintro e w3 ⟨rfl, hb3⟩; rw [HV.out]; (have B3 := hid hb3); clear hb3)
          clear bx bxy gx gy hem
          go_loop [4] (fun i => ∃ k : Nat, k ≤ s.size ∧ i = .int .i64 k ∧ ∀ j (hj : j < s.size), j < k → s[j] ≠ 58) (fun i => s.size - (intOf i).toNat)
          case atStart => exact ⟨0, Nat.zero_le _, rfl, fun j _ h => absurd h (by omega)⟩
          case round =>
            obtain ⟨k, hk, rfl, hall⟩ := hrel
            have HA := hid hall
            clear hall
            by_cases hgo : ∃ hlt : k < s.size, s[k] ≠ 58
            · obtain ⟨hlt, hne⟩ := hgo
              have bt : ((s[k].toNat : Int) != 58) = true := by
                rw [bne_iff_ne]; intro h; exact hne (UInt8.toNat_inj.1 (by show _ = 58; omega))
              have E1 := hid (show ∀ j (hj : j < s.size), j < k + 1 → s[j] ≠ 58 from fun j hj h => by
                rcases Nat.lt_or_ge j k with h3 | h3
                · exact HA.out j hj h3
                · obtain rfl : j = k := by omega
                  exact hne)
              clear hne
              go_wp2
              go_round
              case rel => exact ⟨k + 1, by omega, by go_num, E1.out⟩
              case measure => simp [intOf]; omega
            · have hstop : s.size ≤ k ∨ ∃ hk : k < s.size, s[k] = 58 := by
                rcases Nat.lt_or_ge k s.size with h | h
                · exact .inr ⟨h, Classical.byContradiction fun h2 => hgo ⟨h, h2⟩⟩
                · exact .inl h
              have HH := hid (head_stop HA.out hstop)
              have tests : (¬ (k : Int) < (s.size : Int)) ∨ (∃ hlt : k < s.size, ((s[k].toNat : Int) != 58) = false) := by
                rcases hstop with h | ⟨h, e⟩
                · exact .inl (by omega)
                · exact .inr ⟨h, by rw [bne_eq_false_iff_eq, e]; rfl⟩
              clear hgo hstop
              by_cases h10 : k = 10
              · subst h10
                rcases tests with t1 | ⟨hlt, t1⟩
                all_goals
                  go_wp2
                  go_loop [5] (fun i => ∃ j : Nat, j ≤ 10 ∧ i = .int .i64 j ∧ ∀ q (hq : q < s.size), q < j → jsL[q]? = some (lowB s[q])) (fun i => 10 - (intOf i).toNat)
                  case atStart => exact ⟨0, Nat.zero_le _, rfl, fun q _ h => absurd h (by omega)⟩
                  case round =>
                    obtain ⟨j, hj, rfl, hall2⟩ := hrel
                    have HA2 := hid hall2
                    clear hall2
                    by_cases hlt : j < 10
                    · obtain ⟨y, hy⟩ : ∃ y, jsL[j]? = some y := ⟨_, List.getElem?_eq_getElem hlt⟩
                      have gw := fun W => run_word W j y hy
                      have hjs : j < s.size := by omega
                      have x0 := s[j].toNat_lt
                      have y0 := y.toNat_lt
                      have lx := lowB_nat s[j]
                      unfold lowI at lx
                      have hno := hid (show y ≠ lowB s[j] → r = true from fun h => by rw [E.out, ← HJ.out, js_at HH.out hk hlt (by rw [hy]; exact fun e => h (by injection e))]; rfl)
                      have hyes := hid (show y = lowB s[j] → ∀ q (hq : q < s.size), q < j + 1 → jsL[q]? = some (lowB s[q]) from fun h q hq hqj => by
                        rcases Nat.lt_or_ge q j with h3 | h3
                        · exact HA2.out q hq h3
                        · obtain rfl : q = j := by omega
                          rw [hy, h])
                      clear hy
                      by_cases hu : 65 ≤ (s[j].toNat : Int) ∧ (s[j].toNat : Int) ≤ 90
                      · rw [if_pos hu] at lx
                        obtain ⟨a1, a2⟩ := hu
                        have hw : IntKind.u8.wrap ((s[j].toNat : Int) + 32) = (s[j].toNat : Int) + 32 := IntWalk.u8_in _ (by omega)
                        by_cases he : (s[j].toNat : Int) + 32 = (y.toNat : Int)
                        · have E1 := hid (hyes.out (UInt8.toNat_inj.1 (by omega)))
                          have ht : ((s[j].toNat : Int) + 32 != (y.toNat : Int)) = false := by rw [bne_eq_false_iff_eq]; exact he
                          clear he lx
                          go_wp2
                          go_round
                          case rel => exact ⟨j + 1, by omega, by go_num, E1.out⟩
                          case measure => simp [intOf]; omega
                        · have E1 := hid (hno.out fun e => he (by rw [e]; omega))
                          have ht : ((s[j].toNat : Int) + 32 != (y.toNat : Int)) = true := by rw [bne_iff_ne]; exact he
                          clear he lx
                          go_wp2
                          go_ret
                          exact ⟨ret_bo E1.out.symm, B3.out⟩
                      · rw [if_neg hu] at lx
                        by_cases he : (s[j].toNat : Int) = (y.toNat : Int)
                        · have E1 := hid (hyes.out (UInt8.toNat_inj.1 (by omega)))
                          have ht : ((s[j].toNat : Int) != (y.toNat : Int)) = false := by rw [bne_eq_false_iff_eq]; exact he
                          clear he lx
                          by_cases a1 : 65 ≤ (s[j].toNat : Int)
                          · have a2 : ¬ (s[j].toNat : Int) ≤ 90 := fun h => hu ⟨a1, h⟩
                            clear hu
                            go_wp2
                            go_round
                            case rel => exact ⟨j + 1, by omega, by go_num, E1.out⟩
                            case measure => simp [intOf]; omega
                          · clear hu
                            go_wp2
                            go_round
                            case rel => exact ⟨j + 1, by omega, by go_num, E1.out⟩
                            case measure => simp [intOf]; omega
                        · have E1 := hid (hno.out fun e => he (by rw [e]; omega))
                          have ht : ((s[j].toNat : Int) != (y.toNat : Int)) = true := by rw [bne_iff_ne]; exact he
                          clear he lx
                          by_cases a1 : 65 ≤ (s[j].toNat : Int)
                          · have a2 : ¬ (s[j].toNat : Int) ≤ 90 := fun h => hu ⟨a1, h⟩
                            clear hu
                            go_wp2
                            go_ret
                            exact ⟨ret_bo E1.out.symm, B3.out⟩
                          · clear hu
                            go_wp2
                            go_ret
                            exact ⟨ret_bo E1.out.symm, B3.out⟩
                    · obtain rfl : j = 10 := by omega
                      have E1 := hid (show r = false by rw [E.out, ← HJ.out, js_all HH.out hk HA2.out]; rfl)
                      go_wp2
                      go_ret
                      exact ⟨ret_bo E1.out.symm, B3.out⟩
              · have b10 : ((k : Int) != 10) = true := by rw [bne_iff_ne]; omega
                have E1 := hid (show r = true by rw [E.out, ← HJ.out, js_len HH.out hk h10]; rfl)
                clear h10
                rcases tests with t1 | ⟨hlt, t1⟩
                all_goals
                  go_wp2
                  go_ret
                  exact ⟨ret_bo E1.out.symm, B3.out⟩
end Go.Proofs.YtblbfoniimnkcaaGreatDoor
