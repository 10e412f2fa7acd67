/- The walk of law02's great: letters made great here and there; the letters made small are the same. -/
import Derived.Test.YtapjlkiffgfbfaaDoorApp
import Derived.Test.YtapjlkiffgfbfaaDoorTagAwake
import Derived.Laws.BytesString
import Derived.OwnWalk
namespace Go.Proofs.YtapjlkiffgfbfaaDoor
open Go.RowKit Go.Lib

def encB (c : UInt8) : List Value := [.int .u8 (c.toNat : Int)]
theorem encB_len (c : UInt8) : (encB c).length = 1 := rfl
theorem Tryd.okB : ElemOk Tryd.prog encB 1 5 := ElemOk.mk' (z := .int .u8 0) (bytes := 1) encB_len (fun x u hu => by simp [encB] at hu; subst hu; rfl) (by omega) (by kernel_rfl) rfl (by omega)
theorem foldl_push : ∀ (xs : List UInt8) (r : ByteArray), (xs.map fun c => (c.toNat : Int)).foldl (fun r n => r.push (UInt8.ofNat n.toNat)) r = ⟨r.data ++ xs.toArray⟩
  | [], r => by simp
  | x :: xs, r => by
    rw [List.map_cons, List.foldl_cons, foldl_push xs]
    simp [ByteArray.push]
theorem run_bytes (P : Program) (src dst e : TypeId) (A : Option Addr) (xs : List UInt8) (c B : Nat) (w : World) (hs : P.underlying src = some (.slice e)) (he : P.underlying e = some (.int .u8)) (hd : P.underlying dst = some .string) (h : SlAt encB 1 w B A xs) :
    (convert src dst (.slice A xs.length c)).run P w = .ok (.string (nmS xs)) w := by
  rw [run_convert_bytes_string w src dst e _ _ _ hs he hd]
  have key : ∀ ad, A = some ad → (loadCells ad xs.length).run P w = .ok ((xs.map fun c => (c.toNat : Int)).map (Value.int .u8)).toArray w := fun ad ha => by
    have := run_loadCells_list (P := P) w ad ((xs.map fun c => (c.toNat : Int)).map (Value.int .u8)) (fun j v hv => by
      simp only [List.map_map, List.getElem?_map, Option.map_eq_some_iff] at hv
      obtain ⟨x, hx, rfl⟩ := hv
      obtain ⟨ad', ha', _, hc⟩ := h (by rintro rfl; simp at hx)
      rw [ha] at ha'
      injection ha' with ha'
      subst ha'
      have := hc j x hx 0 _ rfl
      rw [add_zero', Nat.mul_one] at this
      exact this)
    simpa using this
  cases A with
  | some ad =>
    rw [run_bytesToString w ad xs.length c (xs.map fun c => (c.toNat : Int)) (key ad rfl), foldl_push]
    simp [nmS]
  | none =>
    cases xs with
    | nil => rfl
    | cons x xs =>
      obtain ⟨ad', ha', _⟩ := h (by simp)
      cases ha'
theorem lowB_up {c : UInt8} (h1 : 97 ≤ c.toNat) (h2 : c.toNat ≤ 122) : lowB (c - 32) = lowB c ∧ (c - 32).toNat = c.toNat - 32 := by
  have e : (c - 32).toNat = c.toNat - 32 := by rw [UInt8.toNat_sub_of_le _ _ (by rw [UInt8.le_iff_toNat_le]; simp; omega)]; rfl
  refine ⟨UInt8.toNat_inj.1 ?_, e⟩
  have a := lowB_nat (c - 32)
  have b := lowB_nat c
  unfold lowI at a b
  rw [e] at a
  rw [if_pos (by omega)] at a
  rw [if_neg (by omega)] at b
  omega

def GreatPost (s : ByteArray) (w : World) (e : Ending) (w' : World) : Prop := ∃ s' : ByteArray, e = .returned (.string s') ∧ s'.size = s.size ∧ s'.data.toList.map lowB = s.data.toList.map lowB ∧ Below w.heap.size w w'
set_option maxRecDepth 100000 in
set_option maxHeartbeats 4000000 in
theorem great_any (s : ByteArray) (b : Int) (w : World) (hs : s.size ≤ 1000000) (_hb : 0 ≤ b) : Calls Tryd.prog 21 #[.string s, .int .u32 b] w (GreatPost s w) := by
  go_enter Tryd.func21, Tryd.ntmps21
  go_wp2
  go_loopw [5, 6] (fun v i wr => ∃ (k : Nat) (l : List UInt8), k ≤ s.size ∧ i = .int .i64 k ∧ l.length = k ∧ Own encB 1 5 wr w.heap.size v l ∧ l.map lowB = (s.data.toList.take k).map lowB ∧ Below w.heap.size w wr) (fun _ i _ => s.size - (intOf i).toNat)
  case atStart => exact ⟨0, [], Nat.zero_le _, rfl, rfl, Own.nil, rfl, Below.refl _ _⟩
  case round =>
    obtain ⟨k, l, hk, rfl, hl, hown, hlow, hbw⟩ := hrel
    have HL := hid hlow
    have HB := hid hbw
    have hsz := hbw.size
    clear hlow hbw
    have HLen := hid hl
    clear hl
    by_cases hlt : k < s.size
    · have hx : s.data.toList[k]? = some s[k] := by
        rw [List.getElem?_eq_getElem (by rw [← Lib.size_eq]; exact hlt)]; rfl
      have step : ∀ y : UInt8, lowB y = lowB s[k] → (l ++ [y]).map lowB = (s.data.toList.take (k + 1)).map lowB := fun y hy => by
        rw [List.take_add_one, hx, List.map_append, List.map_append, HL.out]
        simp [hy]
      have ST := hid step
      have x0 := s[k].toNat_lt
      have lenk : l.length + 1 ≤ 1000000000000 := by rw [HLen.out]; omega
      clear step hx
      by_cases h1 : 97 ≤ (s[k].toNat : Int) ∧ (s[k].toNat : Int) ≤ 122
      · obtain ⟨u1, u2⟩ := h1
        have up := hid (lowB_up (c := s[k]) (by omega) (by omega))
        have hw : IntKind.u8.wrap ((s[k].toNat : Int) - 32) = (s[k].toNat : Int) - 32 := IntWalk.u8_in _ (by omega)
        have E1 := hid (show [Value.int .u8 ((s[k].toNat : Int) - 32)] = encB (s[k] - 32) by unfold encB; rw [up.out.2]; congr 2; omega)
        go_wp2_with (at_builtin; first
          | (refine wpList_app1g Tryd.okB rfl (.tmp 33) (.tmp 35) 66 rfl Tryd.underlying66 w.heap.size _ l rfl hown s[k] rfl wr.heap.size rfl (by simp) lenk (by omega) ?_; intro v' w1 hown' hb' _)
          | (refine wpList_app1g Tryd.okB rfl (.tmp 33) (.tmp 35) 66 rfl Tryd.underlying66 w.heap.size _ l rfl hown (s[k] - 32) E1.out wr.heap.size rfl (by simp) lenk (by omega) ?_; intro v' w1 hown' hb' _))
        all_goals
          go_roundw
          case rel => first
            | exact ⟨k + 1, _, by omega, by go_num, by rw [List.length_append, HLen.out]; rfl, hown', ST.out _ up.out.1, HB.out.trans hb'⟩
            | exact ⟨k + 1, _, by omega, by go_num, by rw [List.length_append, HLen.out]; rfl, hown', ST.out _ rfl, HB.out.trans hb'⟩
          case measure => simp [intOf]; omega
      · by_cases u1 : 97 ≤ (s[k].toNat : Int)
        · have u2 : ¬ (s[k].toNat : Int) ≤ 122 := fun h => h1 ⟨u1, h⟩
          clear h1
          go_wp2_with (at_builtin; refine wpList_app1g Tryd.okB rfl (.tmp 33) (.tmp 35) 66 rfl Tryd.underlying66 w.heap.size _ l rfl hown s[k] rfl wr.heap.size rfl (by simp) lenk (by omega) ?_; intro v' w1 hown' hb' _)
          go_roundw
          case rel => exact ⟨k + 1, _, by omega, by go_num, by rw [List.length_append, HLen.out]; rfl, hown', ST.out _ rfl, HB.out.trans hb'⟩
          case measure => simp [intOf]; omega
        · clear h1
          go_wp2_with (at_builtin; refine wpList_app1g Tryd.okB rfl (.tmp 33) (.tmp 35) 66 rfl Tryd.underlying66 w.heap.size _ l rfl hown s[k] rfl wr.heap.size rfl (by simp) lenk (by omega) ?_; intro v' w1 hown' hb' _)
          go_roundw
          case rel => exact ⟨k + 1, _, by omega, by go_num, by rw [List.length_append, HLen.out]; rfl, hown', ST.out _ rfl, HB.out.trans hb'⟩
          case measure => simp [intOf]; omega
    · obtain rfl : k = s.size := by omega
      obtain ⟨A', c', rfl, -, -, -, hS'⟩ := hown.form encB_len
      have hr2 := run_bytes Tryd.prog 66 9 5 A' l c' _ wr Tryd.underlying66 Tryd.underlying5 Tryd.underlying9 hS'
      have SP := hid (show (nmS l).size = s.size from by rw [← HLen.out]; show l.toArray.size = _; simp)
      have SQ := hid (show (nmS l).data.toList.map lowB = s.data.toList.map lowB from by
        rw [nmS_list, HL.out, List.take_of_length_le (by rw [← Lib.size_eq]; exact Nat.le_refl _)])
      go_wp2
      go_ret
      exact ⟨_, rfl, SP.out, SQ.out, HB.out⟩
end Go.Proofs.YtapjlkiffgfbfaaDoor
