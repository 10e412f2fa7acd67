/- The walks of cells.Link whatever the span and the href, of the reference's Links. -/
import Derived.Test.YtgpccjmkghpiiaaDoorCellSet
namespace Go.Proofs.YtgpccjmkghpiiaaDoor
open Go.RowKit Go.Lib

def setH (h : ByteArray) (x : Cl) : Cl := ⟨x.r, x.b, h⟩
set_option maxHeartbeats 1000000 in
theorem linkOne_any (g o Bh : Nat) (b h : ByteArray) (w : World) (h1 : w.cell? ⟨g, o + 2, none⟩ = some (.string b)) (hf : w.frozen? ⟨g, o + 2, none⟩ = false) (h2 : w.cell? ⟨Bh, 0, none⟩ = some (.string h)) :
    Calls Tryd.prog 33 #[.pointer (some ⟨g, o, none⟩), .pointer (some ⟨Bh, 0, none⟩)] w fun e w' => e = .returned (.tuple #[]) ∧ w' = w.setCell ⟨g, o + 2, none⟩ (.string h) := by
  go_enter Tryd.func33, Tryd.ntmps33
  go_wp2
  go_end0
  exact ⟨rfl, rfl⟩

set_option maxRecDepth 100000 in
set_option maxHeartbeats 4000000 in
theorem eachLink_any (A : Option Addr) (cs : List Cl) (n c B : Nat) (hn : n = cs.length) (f t : Int) (Bh : Nat) (h : ByteArray) (w : World) (hA : SlAt encC 3 w B A cs) (hl : cs.length ≤ 1000000000) (hs : spanOk cs.length f t) (h2 : w.cell? ⟨Bh, 0, none⟩ = some (.string h)) :
    Calls Tryd.prog 28 #[.slice A n c, .int .i64 f, .int .i64 t, .func (.func 33) #[] #[.pointer (some ⟨Bh, 0, none⟩)]] w (AnsC w (setAt (setH h) f.toNat t.toNat cs) 0) := by
  subst hn
  obtain ⟨hf0, hft, htn⟩ := hs
  obtain ⟨F, rfl⟩ := Int.eq_ofNat_of_zero_le hf0
  obtain ⟨T, rfl⟩ := Int.eq_ofNat_of_zero_le (Int.le_trans hf0 hft)
  have hFT : F ≤ T := by omega
  have hTn : T ≤ cs.length := by omega
  simp only [Int.toNat_natCast]
  have b1 := block_lt_of_cell h2
  have H2 := hid h2
  clear htn h2
  go_enter Tryd.func28, Tryd.ntmps28
  go_wp2_with (first
    | (go_at_call 35; refine (span_yes _ _ _ _ _ _ ⟨by omega, by omega, by omega⟩).mono ?_; rintro e w' ⟨rfl, rfl⟩)
    | (go_at_call 48; refine (clone_any A cs _ c B rfl _ hA hl).mono ?_; rintro e W1 ⟨v, rfl, ho, hb1⟩; obtain ⟨A1, n1, c1, rfl, hn1⟩ := ho.shape))
  go_loopw [11] (fun i wr => ∃ k : Nat, F ≤ k ∧ k ≤ T ∧ i = .int .i64 k ∧ Own encC 3 37 wr w.heap.size (.slice A1 n1 c1) (setAt (setH h) F k cs) ∧ Below w.heap.size w wr) (fun i _ => T - (intOf i).toNat)
  case atStart => exact ⟨F, Nat.le_refl _, hFT, rfl, by rw [setAt_nil _ _ _ (Nat.le_refl _)]; exact ho, hb1⟩
  case round =>
    obtain ⟨k, hk1, hk2, rfl, hown, hbr⟩ := hrel
    by_cases hlt : k < T
    · obtain ⟨x, hx⟩ : ∃ x, cs[k]? = some x := ⟨_, List.getElem?_eq_getElem (show k < cs.length by omega)⟩
      have hn1' : n1 = (setAt (setH h) F k cs).length := by rw [length_setAt]; exact hn1.out
      obtain ⟨g, rfl, hbg, hcell, hfz, hst⟩ := own_href hown hn1' (setAt_get hx) h
      have hi1 : (k : Int) < (n1 : Int) := by have := hn1.out; omega
      have hb1' := (hbr.cell (p := ⟨Bh, 0, none⟩) b1).trans H2.out
      have HST : Hid (Own encC 3 37 (wr.setCell ⟨g, k * 3 + 2, none⟩ (.string h)) w.heap.size (.slice (some ⟨g, 0, none⟩) n1 c1) (setAt (setH h) F (k + 1) cs)) := hid (by rw [setAt_succ _ _ _ hk1 _ _ hx]; exact hst)
      have HB := hid (hbr.setCell (p := ⟨g, k * 3 + 2, none⟩) hbg (.string h))
      clear hst hown hx hn1' hbr
      go_wp2_with (go_at_call 33; refine (linkOne_any g (k * 3) Bh x.h h _ hcell hfz hb1').mono ?_; rintro e w' ⟨rfl, rfl⟩)
      go_roundw
      case rel => exact ⟨k + 1, by omega, by omega, by go_num, HST.out, HB.out⟩
      case measure => simp [intOf]; omega
    · have he : k = T := by omega
      subst he
      have HO := hid hown
      clear hown
      go_wp2_with fail
      go_ret2
      exact ⟨_, rfl, HO.out, hbr⟩

set_option maxRecDepth 100000 in
set_option maxHeartbeats 2000000 in
theorem link_yes (A : Option Addr) (cs : List Cl) (n c B : Nat) (hn : n = cs.length) (f t : Int) (h : ByteArray) (w : World) (hA : SlAt encC 3 w B A cs) (hl : cs.length ≤ 1000000000) (hs : spanOk cs.length f t) (hh : h.size ≤ 1000000000) (hlk : linkB h = true) (hT : Tb w) :
    Calls Tryd.prog 11 #[.slice A n c, .int .i64 f, .int .i64 t, .string h] w (AnsC w (setAt (setH h) f.toNat t.toNat cs) 0) := by
  subst hn
  have HS := hid ((hA.live (fun _ => by rw [encC_len]; omega)).alloc (Nat.le_refl _) (.cells #[.string h] 9))
  have HC := hid (show (w.alloc (.cells #[.string h] 9)).cell? ⟨w.heap.size, 0, none⟩ = some (.string h) from cell_of_row _ _ 0 _ _ _ (heap_alloc_new w _))
  have B0 := hid ((Below.refl w.heap.size w).alloc (Nat.le_refl _) (.cells #[.string h] 9))
  have Z0 := hid (show (w.alloc (.cells #[.string h] 9)).heap.size = w.heap.size + 1 from by simp)
  have T := hid hT
  have LK := hid hlk
  clear hT hlk hA
  go_enter Tryd.func11, Tryd.ntmps11
  go_wp2_with (first
    | (go_at_call 32; refine (link_any _ _ hh (Utf8Tabs_below T.out B0.out)).mono ?_; rintro e w1 ⟨rfl, hb1⟩; rw [LK.out]; (have S1 := hid (HS.out.belowM hb1 (by have := Z0.out; omega))); (have C1 := hid ((hb1.cell (p := ⟨w.heap.size, 0, none⟩) (by rw [Z0.out]; exact Nat.lt_succ_self _)).trans HC.out)); (have B1 := hid (B0.out.trans (hb1.mono B0.out.size))); clear hb1)
    | (go_at_call 28; refine (eachLink_any A cs _ c _ rfl f t w.heap.size h _ S1.out hl hs C1.out).mono ?_; rintro e w2 ⟨v, rfl, ho, hb⟩; obtain ⟨A1, n1, c1, rfl, -⟩ := ho.shape; (have O1 := hid (ho.based B1.out.size)); (have B2 := hid (B1.out.trans (hb.mono B1.out.size))); clear ho hb))
  go_ret2
  exact ⟨_, rfl, O1.out, B2.out⟩
set_option maxHeartbeats 2000000 in
theorem link_bad (A : Option Addr) (n c : Nat) (f t : Int) (h : ByteArray) (w : World) (hh : h.size ≤ 1000000000) (hlk : linkB h = false) (hT : Tb w) :
    Calls Tryd.prog 11 #[.slice A n c, .int .i64 f, .int .i64 t, .string h] w (AnsC w [] 1) := by
  have B0 := hid ((Below.refl w.heap.size w).alloc (Nat.le_refl _) (.cells #[.string h] 9))
  have T := hid hT
  have LK := hid hlk
  clear hT hlk
  go_enter Tryd.func11, Tryd.ntmps11
  go_wp2_with (go_at_call 32; refine (link_any _ _ hh (Utf8Tabs_below T.out B0.out)).mono ?_; rintro e w1 ⟨rfl, hb1⟩; rw [LK.out]; (have B1 := hid (B0.out.trans (hb1.mono B0.out.size))); clear hb1)
  go_ret2
  exact ⟨_, rfl, Own.nil, B1.out⟩
set_option maxHeartbeats 2000000 in
theorem link_no (A : Option Addr) (n c : Nat) (f t : Int) (h : ByteArray) (w : World) (hs : ¬ spanOk n f t) (hh : h.size ≤ 1000000000) (hlk : linkB h = true) (hT : Tb w) :
    Calls Tryd.prog 11 #[.slice A n c, .int .i64 f, .int .i64 t, .string h] w (AnsC w [] 1) := by
  have B0 := hid ((Below.refl w.heap.size w).alloc (Nat.le_refl _) (.cells #[.string h] 9))
  have T := hid hT
  have LK := hid hlk
  clear hT hlk
  go_enter Tryd.func11, Tryd.ntmps11
  go_wp2_with (first
    | (go_at_call 32; refine (link_any _ _ hh (Utf8Tabs_below T.out B0.out)).mono ?_; rintro e w1 ⟨rfl, hb1⟩; rw [LK.out]; (have B1 := hid (B0.out.trans (hb1.mono B0.out.size))); clear hb1)
    | (go_at_call 28; refine (each_no _ _ _ _ _ _ _ hs).mono ?_; rintro e w' ⟨rfl, rfl⟩))
  go_ret2
  exact ⟨_, rfl, Own.nil, B1.out⟩

/-! ### the reference's Links -/
set_option maxRecDepth 100000 in
set_option maxHeartbeats 4000000 in
theorem refLinks_yes (A : Option Addr) (cs : List Cl) (n c B : Nat) (hn : n = cs.length) (f t : Int) (h : ByteArray) (w : World) (hA : SlAt encC 3 w B A cs) (hl : cs.length ≤ 1000000000) (hs : spanOk cs.length f t) (hh : h.size ≤ 1000000000) (hlk : linkB h = true) :
    Calls Tryd.prog 12 #[.slice A n c, .int .i64 f, .int .i64 t, .string h] w (AnsC w (setAt (setH h) f.toNat t.toNat cs) 0) := by
  subst hn
  have HS := hid (hA.live (fun _ => by rw [encC_len]; omega))
  have LK := hid hlk
  clear hA hlk
  obtain ⟨hf0, hft, htn⟩ := hs
  obtain ⟨F, rfl⟩ := Int.eq_ofNat_of_zero_le hf0
  obtain ⟨T, rfl⟩ := Int.eq_ofNat_of_zero_le (Int.le_trans hf0 hft)
  have hFT : F ≤ T := by omega
  have hTn : T ≤ cs.length := by omega
  simp only [Int.toNat_natCast]
  clear htn
  go_enter Tryd.func12, Tryd.ntmps12
  go_wp2_with (first
    | (go_at_call 31; refine (refSpan_yes _ _ _ _ _ _ ⟨by omega, by omega, by omega⟩).mono ?_; rintro e w' ⟨rfl, rfl⟩)
    | (go_at_call 34; refine (refLink_any _ _ hh).mono ?_; rintro e w1 ⟨rfl, hb0⟩; rw [LK.out]; (have B0 := hid hb0); clear hb0)
    | (go_at_call 8; refine (refOwn_any A cs _ c _ rfl _ (HS.out.below B0.out) hl).mono ?_; rintro e W1 ⟨v, rfl, ho, hb1⟩; obtain ⟨A1, n1, c1, rfl, hn1⟩ := ho.shape; (have O1 := hid (ho.based B0.out.size)); (have B1 := hid (B0.out.trans (hb1.mono B0.out.size))); clear ho hb1))
  go_loopw [11] (fun i wr => ∃ k : Nat, F ≤ k ∧ k ≤ T ∧ i = .int .i64 k ∧ Own encC 3 37 wr w.heap.size (.slice A1 n1 c1) (setAt (setH h) F k cs) ∧ Below w.heap.size w wr) (fun i _ => T - (intOf i).toNat)
  case atStart => exact ⟨F, Nat.le_refl _, hFT, rfl, by rw [setAt_nil _ _ _ (Nat.le_refl _)]; exact O1.out, B1.out⟩
  case round =>
    obtain ⟨k, hk1, hk2, rfl, hown, hbr⟩ := hrel
    by_cases hlt : k < T
    · obtain ⟨x, hx⟩ : ∃ x, cs[k]? = some x := ⟨_, List.getElem?_eq_getElem (show k < cs.length by omega)⟩
      have hn1' : n1 = (setAt (setH h) F k cs).length := by rw [length_setAt]; exact hn1.out
      obtain ⟨g, rfl, hbg, hcell, hfz, hst⟩ := own_href hown hn1' (setAt_get hx) h
      have hi1 : (k : Int) < (n1 : Int) := by have := hn1.out; omega
      have HST : Hid (Own encC 3 37 (wr.setCell ⟨g, k * 3 + 2, none⟩ (.string h)) w.heap.size (.slice (some ⟨g, 0, none⟩) n1 c1) (setAt (setH h) F (k + 1) cs)) := hid (by rw [setAt_succ _ _ _ hk1 _ _ hx]; exact hst)
      have HB := hid (hbr.setCell (p := ⟨g, k * 3 + 2, none⟩) hbg (.string h))
      clear hst hown hx hn1' hbr
      go_wp2_with fail
      go_roundw
      case rel => exact ⟨k + 1, by omega, by omega, by go_num, HST.out, HB.out⟩
      case measure => simp [intOf]; omega
    · have he : k = T := by omega
      subst he
      have HO := hid hown
      clear hown
      go_wp2_with fail
      go_ret2
      exact ⟨_, rfl, HO.out, hbr⟩
set_option maxHeartbeats 2000000 in
theorem refLinks_bad (A : Option Addr) (n c : Nat) (f t : Int) (h : ByteArray) (w : World) (hs : spanOk n f t) (hh : h.size ≤ 1000000000) (hlk : linkB h = false) :
    Calls Tryd.prog 12 #[.slice A n c, .int .i64 f, .int .i64 t, .string h] w (AnsC w [] 1) := by
  have LK := hid hlk
  clear hlk
  go_enter Tryd.func12, Tryd.ntmps12
  go_wp2_with (first
    | (go_at_call 31; refine (refSpan_yes _ _ _ _ _ _ hs).mono ?_; rintro e w' ⟨rfl, rfl⟩)
    | (go_at_call 34; refine (refLink_any _ _ hh).mono ?_; rintro e w1 ⟨rfl, hb0⟩; rw [LK.out]; (have B0 := hid hb0); clear hb0))
  go_ret2
  exact ⟨_, rfl, Own.nil, B0.out⟩
set_option maxHeartbeats 2000000 in
theorem refLinks_no (A : Option Addr) (n c : Nat) (f t : Int) (h : ByteArray) (w : World) (hs : ¬ spanOk n f t) :
    Calls Tryd.prog 12 #[.slice A n c, .int .i64 f, .int .i64 t, .string h] w (AnsC w [] 1) := by
  go_enter Tryd.func12, Tryd.ntmps12
  go_wp2_with (go_at_call 31; refine (refSpan_no _ _ _ _ _ _ hs).mono ?_; rintro e w' ⟨rfl, rfl⟩)
  go_ret2
  exact ⟨_, rfl, Own.nil, Below.refl _ _⟩
end Go.Proofs.YtgpccjmkghpiiaaDoor
