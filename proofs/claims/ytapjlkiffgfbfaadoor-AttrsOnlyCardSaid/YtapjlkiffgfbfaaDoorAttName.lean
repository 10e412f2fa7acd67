/- The walks of attrs.Name and of the reference's Name. -/
import Derived.Test.YtapjlkiffgfbfaaDoorLow
import Derived.Test.YtapjlkiffgfbfaaDoorRunes
import Derived.Test.YtapjlkiffgfbfaaDoorProg
import Derived.Lib.ValidLaws
import Derived.IntWalk
import Derived.Laws.RangeString
namespace Go.Proofs.YtapjlkiffgfbfaaDoor
open Go.RowKit Go.Lib

def okName (c : UInt8) : Bool := decide ((97 ≤ c.toNat ∧ c.toNat ≤ 122) ∨ (48 ≤ c.toNat ∧ c.toNat ≤ 57) ∨ c.toNat = 45)
def headName (l : List UInt8) : Bool := match l with | [] => false | c :: _ => decide (97 ≤ c.toNat ∧ c.toNat ≤ 122)
/-- Is a text a name? -/
def nameB (l : List UInt8) : Bool := decide (l.length ≤ 16) && headName l && l.all okName
theorem ret_bo {a b : Bool} (h : a = b) : Ending.returned (.bool a) = .returned (.bool b) := by rw [h]
theorem nameB_len {l : List UInt8} (h : 16 < l.length) : nameB l = false := by unfold nameB; rw [decide_eq_false (by omega)]; rfl
theorem nameB_at {s : ByteArray} {k : Nat} (hk : k < s.size) (h : okName s[k] = false) : nameB s.data.toList = false := by
  have : s.data.toList.all okName = false := by
    rw [List.all_eq_false]
    exact ⟨s[k], by have : s.data.toList[k]'(by rw [← Lib.size_eq]; exact hk) = s[k] := rfl; rw [← this]; exact List.getElem_mem _, by rw [h]; decide⟩
  unfold nameB
  rw [this, Bool.and_false]
theorem headName_at {s : ByteArray} (h0 : 0 < s.size) : headName s.data.toList = decide (97 ≤ s[0].toNat ∧ s[0].toNat ≤ 122) := by
  have e : s.data.toList = s[0] :: s.data.toList.tail := by
    have hl : 0 < s.data.toList.length := by rw [← Lib.size_eq]; exact h0
    cases hq : s.data.toList with
    | nil => rw [hq] at hl; simp at hl
    | cons c r =>
      have : s.data.toList[0]'(by rw [hq]; simp) = s[0] := rfl
      simp only [hq, List.getElem_cons_zero] at this
      rw [this]; rfl
  rw [e]; rfl
theorem nameB_head {s : ByteArray} (h0 : 0 < s.size) (h : ¬ (97 ≤ s[0].toNat ∧ s[0].toNat ≤ 122)) : nameB s.data.toList = false := by
  unfold nameB
  rw [headName_at h0, decide_eq_false h, Bool.and_false, Bool.false_and]
theorem nameB_all {s : ByteArray} (h0 : 0 < s.size) (h1 : s.size ≤ 16) (hh : 97 ≤ s[0].toNat ∧ s[0].toNat ≤ 122) (h : ∀ k (hk : k < s.size), okName s[k] = true) : nameB s.data.toList = true := by
  unfold nameB
  rw [headName_at h0, decide_eq_true hh, decide_eq_true (by rw [← Lib.size_eq]; exact h1), Bool.true_and, Bool.true_and, List.all_eq_true]
  intro c hc
  obtain ⟨k, hk, rfl⟩ := List.getElem_of_mem hc
  exact h k (by rw [Lib.size_eq]; exact hk)
theorem okName_of {c : UInt8} (h : (97 ≤ (c.toNat : Int) ∧ (c.toNat : Int) ≤ 122) ∨ (48 ≤ (c.toNat : Int) ∧ (c.toNat : Int) ≤ 57) ∨ (c.toNat : Int) = 45) : okName c = true := decide_eq_true (by omega)
theorem okName_no {c : UInt8} (h : ¬ ((97 ≤ (c.toNat : Int) ∧ (c.toNat : Int) ≤ 122) ∨ (48 ≤ (c.toNat : Int) ∧ (c.toNat : Int) ≤ 57) ∨ (c.toNat : Int) = 45)) : okName c = false := decide_eq_false (by omega)

set_option maxHeartbeats 4000000 in
theorem refName3_any (s : ByteArray) (w : World) (hs : s.size ≤ 1000000000) : Calls Tryd.prog 34 #[.string s] w fun e w' => e = .returned (.bool (nameB s.data.toList)) ∧ w = w' := by
  obtain ⟨r, hr⟩ : ∃ r, nameB s.data.toList = r := ⟨_, rfl⟩
  have R := hid hr
  rw [hr]
  by_cases h0 : s.size = 0
  · obtain rfl : s = ByteArray.mk #[] := by
      have : s.data = #[] := by apply Array.eq_empty_of_size_eq_zero; exact h0
      cases s; simp_all
    have E := hid (show r = false from hr.symm.trans rfl)
    clear hr h0
    go_enter Tryd.func34, Tryd.ntmps34
    go_wp2
    go_ret
    exact ⟨ret_bo E.out.symm, rfl⟩
  · have hpos : 0 < s.size := by omega
    have b0 : ((s.size : Int) == 0) = false := beq_eq_false_iff_ne.2 (by omega)
    by_cases h1 : 16 < s.size
    · have E := hid (show r = false from hr.symm.trans (nameB_len (by rw [← Lib.size_eq]; exact h1)))
      have h1' : 16 < (s.size : Int) := by omega
      clear hr h0
      go_enter Tryd.func34, Tryd.ntmps34
      go_wp2
      go_ret
      exact ⟨ret_bo E.out.symm, rfl⟩
    · have h1' : ¬ 16 < (s.size : Int) := by omega
      have i0 : (0 : Int) < (s.size : Int) := by omega
      by_cases hh : 97 ≤ (s[0].toNat : Int) ∧ (s[0].toNat : Int) ≤ 122
      · obtain ⟨v1, v2⟩ := hh
        have v1' : ¬ (s[0].toNat : Int) < 97 := by omega
        have v2' : ¬ 122 < (s[0].toNat : Int) := by omega
        have HH := hid (show 97 ≤ s[0].toNat ∧ s[0].toNat ≤ 122 by omega)
        clear hr h0
        go_enter Tryd.func34, Tryd.ntmps34
        go_wp2
        go_loop [3] (fun i => ∃ k : Nat, k ≤ s.size ∧ i = .int .i64 k ∧ ∀ j (hj : j < s.size), j < k → okName s[j] = true) (fun i => s.size - (intOf i).toNat)
        case atStart => exact ⟨0, Nat.zero_le _, rfl, fun j _ h => absurd h (by omega)⟩
        case round =>
          obtain ⟨k, hk, rfl, hall⟩ := hrel
          have HA := hid hall
          clear hall
          by_cases hlt : k < s.size
          · have x0 := s[k].toNat_lt
            have hno : okName s[k] = false → r = false := fun h => by rw [← R.out]; exact nameB_at hlt h
            have hyes : okName s[k] = true → ∀ j (hj : j < s.size), j < k + 1 → okName s[j] = true := fun h j hj hjk => by
              rcases Nat.lt_or_ge j k with h3 | h3
              · exact HA.out j hj h3
              · obtain rfl : j = k := by omega
                exact h
            have HN := hid hno
            have HY := hid hyes
            clear hno hyes
            rcases (show (97 ≤ (s[k].toNat : Int) ∧ (s[k].toNat : Int) ≤ 122) ∨ (48 ≤ (s[k].toNat : Int) ∧ (s[k].toNat : Int) ≤ 57) ∨ ((s[k].toNat : Int) == 45) = true ∨ (((s[k].toNat : Int) == 45) = false ∧ (s[k].toNat : Int) < 48) ∨ (57 < (s[k].toNat : Int) ∧ (s[k].toNat : Int) < 97) ∨ 122 < (s[k].toNat : Int) from by
                by_cases h : (s[k].toNat : Int) = 45
                · exact .inr (.inr (.inl (by simpa using h)))
                · have : ((s[k].toNat : Int) == 45) = false := beq_eq_false_iff_ne.2 h
                  rw [this]; simp; omega) with ⟨a, b⟩ | ⟨a, b⟩ | a | ⟨a, b⟩ | ⟨a, b⟩ | a
            · have E := hid (HY.out (okName_of (by omega)))
              go_wp2
              go_round
              case rel => exact ⟨k + 1, by omega, by go_num, E.out⟩
              case measure => simp [intOf]; omega
            · have E := hid (HY.out (okName_of (by omega)))
              have c1 : ¬ 97 ≤ (s[k].toNat : Int) := by omega
              go_wp2
              go_round
              case rel => exact ⟨k + 1, by omega, by go_num, E.out⟩
              case measure => simp [intOf]; omega
            · have e45 : (s[k].toNat : Int) = 45 := by simpa using a
              have E := hid (HY.out (okName_of (by omega)))
              have c1 : ¬ 97 ≤ (s[k].toNat : Int) := by omega
              have c2 : ¬ 48 ≤ (s[k].toNat : Int) := by omega
              clear e45
              go_wp2
              go_round
              case rel => exact ⟨k + 1, by omega, by go_num, E.out⟩
              case measure => simp [intOf]; omega
            · have ne45 : ¬ (s[k].toNat : Int) = 45 := by simpa using a
              have E := hid (HN.out (okName_no (by omega)))
              have c1 : ¬ 97 ≤ (s[k].toNat : Int) := by omega
              have c2 : ¬ 48 ≤ (s[k].toNat : Int) := by omega
              clear ne45
              go_wp2
              go_ret
              exact ⟨ret_bo E.out.symm, rfl⟩
            · have E := hid (HN.out (okName_no (by omega)))
              have a45 : ((s[k].toNat : Int) == 45) = false := beq_eq_false_iff_ne.2 (by omega)
              have c1 : ¬ 97 ≤ (s[k].toNat : Int) := by omega
              have c2 : ¬ (s[k].toNat : Int) ≤ 57 := by omega
              have c3 : 48 ≤ (s[k].toNat : Int) := by omega
              go_wp2
              go_ret
              exact ⟨ret_bo E.out.symm, rfl⟩
            · have E := hid (HN.out (okName_no (by omega)))
              have a45 : ((s[k].toNat : Int) == 45) = false := beq_eq_false_iff_ne.2 (by omega)
              have c1 : 97 ≤ (s[k].toNat : Int) := by omega
              have c2 : ¬ (s[k].toNat : Int) ≤ 122 := by omega
              have c3 : 48 ≤ (s[k].toNat : Int) := by omega
              have c4 : ¬ (s[k].toNat : Int) ≤ 57 := by omega
              go_wp2
              go_ret
              exact ⟨ret_bo E.out.symm, rfl⟩
          · have E := hid (show r = true from R.out.symm.trans (nameB_all hpos (by omega) HH.out fun j hj => HA.out j hj (by omega)))
            go_wp2
            go_ret
            exact ⟨ret_bo E.out.symm, rfl⟩
      · have E := hid (show r = false from hr.symm.trans (nameB_head hpos (by omega)))
        clear hr h0
        by_cases u1 : (s[0].toNat : Int) < 97
        · clear hh
          go_enter Tryd.func34, Tryd.ntmps34
          go_wp2
          go_ret
          exact ⟨ret_bo E.out.symm, rfl⟩
        · have u2 : 122 < (s[0].toNat : Int) := by omega
          clear hh
          go_enter Tryd.func34, Tryd.ntmps34
          go_wp2
          go_ret
          exact ⟨ret_bo E.out.symm, rfl⟩

theorem decode_byte {s : ByteArray} {p : Nat} (hp : p < s.size) : (s[p].toNat < 128 → Utf8.decode s p = (s[p].toNat, 1)) ∧ (128 ≤ s[p].toNat → 128 ≤ (Utf8.decode s p).1) := by
  have hd : s.data.toList.drop p = s[p] :: s.data.toList.drop (p + 1) := by
    rw [List.drop_eq_getElem_cons (by rw [← Lib.size_eq]; exact hp)]; rfl
  rw [← Lib.decodeL_drop, hd]
  exact ⟨fun h => decodeL_ascii _ _ h, fun h => decodeL_great _ _ h⟩

def IsBool (b : Bool) (w : World) (e : Ending) (w' : World) : Prop := e = .returned (.bool b) ∧ Below w.heap.size w w'
set_option maxHeartbeats 4000000 in
theorem attName_any (s : ByteArray) (w : World) (hs : s.size ≤ 1000000000) : Calls Tryd.prog 33 #[.string s] w (IsBool (nameB s.data.toList) w) := by
  obtain ⟨r, hr⟩ : ∃ r, nameB s.data.toList = r := ⟨_, rfl⟩
  have R := hid hr
  rw [hr]
  by_cases h0 : s.size = 0
  · obtain rfl : s = ByteArray.mk #[] := by
      have : s.data = #[] := by apply Array.eq_empty_of_size_eq_zero; exact h0
      cases s; simp_all
    have E := hid (show r = false from hr.symm.trans rfl)
    clear hr h0
    go_enter Tryd.func33, Tryd.ntmps33
    go_wp2
    go_ret
    exact ⟨ret_bo E.out.symm, Below.refl _ _⟩
  · have hpos : 0 < s.size := by omega
    have p0 : ¬ (s.size : Int) < 1 := by omega
    by_cases h1 : 16 < s.size
    · have E := hid (show r = false from hr.symm.trans (nameB_len (by rw [← Lib.size_eq]; exact h1)))
      have h1' : 16 < (s.size : Int) := by omega
      clear hr h0
      go_enter Tryd.func33, Tryd.ntmps33
      go_wp2
      go_ret
      exact ⟨ret_bo E.out.symm, Below.refl _ _⟩
    · have h1' : ¬ 16 < (s.size : Int) := by omega
      clear hr h0
      go_enter Tryd.func33, Tryd.ntmps33
      go_wp2
      go_loopw [5] (fun _ wr => ∃ p, p ≤ s.size ∧ (0 < p → 97 ≤ s[0].toNat ∧ s[0].toNat ≤ 122) ∧ (∀ j (hj : j < s.size), j < p → okName s[j] = true) ∧ wr.heap[w.heap.size]? = some (.stringIter s p) ∧ Below w.heap.size w wr) (fun _ wr => s.size - wr.iterPos w.heap.size)
      case atStart => exact ⟨0, by omega, fun h => absurd h (by omega), fun j _ h => absurd h (by omega), World.iter_heap w s 0, (Below.refl _ _).alloc (Nat.le_refl _) _⟩
      case round =>
        obtain ⟨p, hps, hhead, hall, hit, hbw⟩ := hrel
        have HH := hid hhead
        have HA := hid hall
        have HB := hid hbw
        clear hhead hall
        by_cases hp : p < s.size
        · have hnx : ∀ ty, (Instr.next (.pointer (some ⟨w.heap.size, 0, none⟩)) true ty).run Tryd.prog wr = _ := fun ty => Lib.run_next_any_at wr w.heap.size s p ty hit hp
          have hwd := decode_width s p
          have hd1 := decode_range s p
          have hit2 := hid (Lib.iterAt_heap wr w.heap.size s p (p + (Utf8.decode s p).2) hit)
          have hbw2 := hid (Lib.below_iterAt hbw (k := w.heap.size) (by omega) s (p + (Utf8.decode s p).2))
          obtain ⟨hsm, hgr⟩ := decode_byte hp
          have x0 := s[p].toNat_lt
          have hno : okName s[p] = false → r = false := fun h => by rw [← R.out]; exact nameB_at hp h
          have hyes : okName s[p] = true → ∀ j (hj : j < s.size), j < p + 1 → okName s[j] = true := fun h j hj hjk => by
            rcases Nat.lt_or_ge j p with h3 | h3
            · exact HA.out j hj h3
            · obtain rfl : j = p := by omega
              exact h
          have hno0 : p = 0 → ¬ (97 ≤ s[p].toNat ∧ s[p].toNat ≤ 122) → r = false := fun e h => by subst e; rw [← R.out]; exact nameB_head hpos h
          have hyes0 : (0 < p ∨ (97 ≤ s[p].toNat ∧ s[p].toNat ≤ 122)) → (0 < p + 1 → 97 ≤ s[0].toNat ∧ s[0].toNat ≤ 122) := fun h _ => by
            rcases Nat.eq_zero_or_pos p with e | e
            · subst e
              rcases h with h | h
              · omega
              · exact h
            · exact HH.out e
          have HN := hid hno
          have HY := hid hyes
          have HN0 := hid hno0
          have HY0 := hid hyes0
          have HIT := hid hit
          clear hno hyes hno0 hyes0 hbw
          by_cases hbig : 128 ≤ s[p].toNat
          · have g := hgr hbig
            have E := hid (HN.out (okName_no (by omega)))
            obtain ⟨R', hR'⟩ : ∃ R, (Utf8.decode s p).1 = R := ⟨_, rfl⟩
            obtain ⟨K', hK'⟩ : ∃ K, (Utf8.decode s p).2 = K := ⟨_, rfl⟩
            rw [hR', hK'] at hnx
            rw [hK'] at hbw2
            rw [hR'] at g hd1
            clear hgr hsm hit hR' hK' hwd hit2
            have c1 : 97 ≤ (R' : Int) := by omega
            have c2 : ¬ (R' : Int) ≤ 122 := by omega
            have c3 : ¬ (R' : Int) < 48 := by omega
            have c4 : 57 < (R' : Int) := by omega
            have c5 : ((R' : Int) != 45) = true := by rw [bne_iff_ne]; omega
            rcases Nat.eq_zero_or_pos p with e | e
            · subst e
              go_wp2
              go_ret
              exact ⟨ret_bo E.out.symm, by simpa using hbw2.out⟩
            · have p1 : ((p : Int) == 0) = false := beq_eq_false_iff_ne.2 (by omega)
              go_wp2
              go_ret
              exact ⟨ret_bo E.out.symm, hbw2.out⟩
          · have hd := hsm (by omega)
            rw [hd] at hnx hit2 hbw2
            clear hgr hsm hit hd hwd hd1
            have fin : ∀ W : World, W = wr.iterAt w.heap.size s (p + 1) → s.size - W.iterPos w.heap.size < s.size - wr.iterPos w.heap.size := fun W hW => by
              subst hW
              simp only [World.iterPos, hit2.out, HIT.out]
              omega
            have FIN := hid fin
            clear fin
            rcases (show (97 ≤ (s[p].toNat : Int) ∧ (s[p].toNat : Int) ≤ 122) ∨ (¬ (97 ≤ s[p].toNat ∧ s[p].toNat ≤ 122) ∧ p = 0) ∨ (0 < p ∧ ((48 ≤ (s[p].toNat : Int) ∧ (s[p].toNat : Int) ≤ 57) ∨ (s[p].toNat : Int) = 45)) ∨ (0 < p ∧ ¬ (s[p].toNat : Int) = 45 ∧ ((s[p].toNat : Int) < 48 ∨ (57 < (s[p].toNat : Int) ∧ (s[p].toNat : Int) < 97) ∨ 122 < (s[p].toNat : Int))) from by omega) with ⟨a, b⟩ | ⟨a, e⟩ | ⟨e, a⟩ | ⟨e, a, b⟩
            · have E := hid (HY.out (okName_of (by omega)))
              have E0 := hid (HY0.out (.inr (by omega)))
              go_wp2
              go_roundw
              case rel => exact ⟨p + 1, by omega, E0.out, E.out, hit2.out, hbw2.out⟩
              case measure => exact FIN.out _ rfl
            · subst e
              have E := hid (HN0.out rfl a)
              by_cases c1 : 97 ≤ (s[0].toNat : Int)
              · have c2 : ¬ (s[0].toNat : Int) ≤ 122 := by omega
                clear a
                go_wp2
                go_ret
                exact ⟨ret_bo E.out.symm, hbw2.out⟩
              · clear a
                go_wp2
                go_ret
                exact ⟨ret_bo E.out.symm, hbw2.out⟩
            · have E := hid (HY.out (okName_of (by omega)))
              have E0 := hid (HY0.out (.inl e))
              have p1 : ((p : Int) == 0) = false := beq_eq_false_iff_ne.2 (by omega)
              have c1 : ¬ 97 ≤ (s[p].toNat : Int) := by omega
              by_cases c2 : (s[p].toNat : Int) < 48
              · have c3 : ((s[p].toNat : Int) != 45) = false := by rw [bne_eq_false_iff_eq]; omega
                clear a
                go_wp2
                go_roundw
                case rel => exact ⟨p + 1, by omega, E0.out, E.out, hit2.out, hbw2.out⟩
                case measure => exact FIN.out _ rfl
              · have c3 : ¬ 57 < (s[p].toNat : Int) := by omega
                clear a
                go_wp2
                go_roundw
                case rel => exact ⟨p + 1, by omega, E0.out, E.out, hit2.out, hbw2.out⟩
                case measure => exact FIN.out _ rfl
            · have E := hid (HN.out (okName_no (by omega)))
              have p1 : ((p : Int) == 0) = false := beq_eq_false_iff_ne.2 (by omega)
              have c5 : ((s[p].toNat : Int) != 45) = true := by rw [bne_iff_ne]; exact a
              clear a
              rcases b with c1 | ⟨c1, c2⟩ | c1
              · have c2 : ¬ 97 ≤ (s[p].toNat : Int) := by omega
                go_wp2
                go_ret
                exact ⟨ret_bo E.out.symm, hbw2.out⟩
              · have c3 : ¬ 97 ≤ (s[p].toNat : Int) := by omega
                have c4 : ¬ (s[p].toNat : Int) < 48 := by omega
                go_wp2
                go_ret
                exact ⟨ret_bo E.out.symm, hbw2.out⟩
              · have c3 : 97 ≤ (s[p].toNat : Int) := by omega
                have c2 : ¬ (s[p].toNat : Int) ≤ 122 := by omega
                have c4 : ¬ (s[p].toNat : Int) < 48 := by omega
                have c6 : 57 < (s[p].toNat : Int) := by omega
                go_wp2
                go_ret
                exact ⟨ret_bo E.out.symm, hbw2.out⟩
        · have hnx : ∀ ty, (Instr.next (.pointer (some ⟨w.heap.size, 0, none⟩)) true ty).run Tryd.prog wr = _ := fun ty => Lib.run_next_end_at wr w.heap.size s p ty hit hp
          have E := hid (show r = true from R.out.symm.trans (nameB_all hpos (by omega) (HH.out (by omega)) fun j hj => HA.out j hj (by omega)))
          clear hit hbw
          go_wp2
          go_ret
          exact ⟨ret_bo E.out.symm, HB.out⟩
end Go.Proofs.YtapjlkiffgfbfaaDoor
