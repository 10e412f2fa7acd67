/- Rows of attributes: how they lie in memory; where a name is; whether two rows are one; copies. -/
import Derived.Test.YtapjlkiffgfbfaaDoorApp
import Derived.Test.YtapjlkiffgfbfaaDoorAttName
import Derived.OwnWalk
import Derived.Deep.QuietTactic
import Derived.BigQuiet
import Derived.WalkLawsBesides
namespace Go.Proofs.YtapjlkiffgfbfaaDoor
open Go.RowKit Go.Lib

structure At where
  n : ByteArray
  v : ByteArray
theorem bytes_inj3 {s t : ByteArray} (h : s.toList = t.toList) : s = t := by
  have h' : s.data.toList = t.data.toList := by rwa [ByteArray.toList_eq, ByteArray.toList_eq] at h
  cases s; cases t
  congr 1
  exact Array.ext' h'
theorem At.ext' {x y : At} (h1 : x.n = y.n) (h2 : x.v = y.v) : x = y := by cases x; cases y; cases h1; cases h2; rfl
instance : DecidableEq At := fun x y => if h : x.n = y.n ∧ x.v = y.v then .isTrue (At.ext' h.1 h.2) else .isFalse fun e => h (by subst e; exact ⟨rfl, rfl⟩)
def encA (a : At) : List Value := [.string a.n, .string a.v]
theorem encA_len (a : At) : (encA a).length = 2 := rfl
theorem encA_one : ∀ a, ∀ u ∈ encA a, u.oneCell' = true := by
  intro a u h
  simp [encA] at h
  rcases h with rfl | rfl <;> rfl
theorem Tryd.okA : ElemOk Tryd.prog encA 2 52 := ElemOk.mk' (z := .agg #[.string .empty, .string .empty]) (bytes := 32) encA_len encA_one (by omega) (by kernel_rfl) rfl (by omega)
theorem SlAt.atA {w : World} {B : Nat} {A : Option Addr} {xs : List At} (h : SlAt encA 2 w B A xs) {k : Nat} (hk : k < xs.length) :
    ∃ ad x, A = some ad ∧ ad.block < B ∧ xs[k]? = some x ∧ w.cell? (ad.add (k * 2)) = some (.string x.n) ∧ w.cell? ⟨(ad.add (k * 2)).block, (ad.add (k * 2)).off + 1, none⟩ = some (.string x.v) := by
  obtain ⟨ad, x, e, hb, hx, hc⟩ := h.at_ hk
  refine ⟨ad, x, e, hb, hx, ?_, hc 1 _ rfl⟩
  have := hc 0 _ rfl
  rwa [add_zero'] at this
theorem take_snoc3 {α : Type} {xs : List α} {k : Nat} {x : α} (h : xs[k]? = some x) : xs.take (k + 1) = xs.take k ++ [x] := by rw [List.take_add_one, h]; rfl

/-! ### where a name is -/
def findN (xs : List At) (m : ByteArray) : Option Nat := xs.findIdx? fun a => decide (a.n = m)
def findK (xs : List At) (m : ByteArray) : Int := match findN xs m with | some i => (i : Int) | none => -1
def NotIn (xs : List At) (m : ByteArray) (k : Nat) : Prop := ∀ j x, j < k → xs[j]? = some x → x.n ≠ m
theorem findN_at : ∀ {xs : List At} {m : ByteArray} {k : Nat} {x : At}, xs[k]? = some x → x.n = m → NotIn xs m k → findN xs m = some k
  | [], _, _, _, h, _, _ => by simp at h
  | y :: ys, m, 0, x, h, e, _ => by
    simp at h
    subst h
    unfold findN
    rw [List.findIdx?_cons, decide_eq_true e]; rfl
  | y :: ys, m, k + 1, x, h, e, hn => by
    have h0 : y.n ≠ m := hn 0 y (by omega) rfl
    have ih := findN_at (xs := ys) (m := m) (k := k) (x := x) (by simpa using h) e fun j z hj hz => hn (j + 1) z (by omega) (by simpa using hz)
    unfold findN at ih ⊢
    rw [List.findIdx?_cons, decide_eq_false h0, ih]; rfl
theorem findN_none : ∀ {xs : List At} {m : ByteArray}, NotIn xs m xs.length → findN xs m = none
  | [], _, _ => rfl
  | y :: ys, m, hn => by
    have h0 : y.n ≠ m := hn 0 y (by simp) rfl
    have ih := findN_none (xs := ys) (m := m) fun j z hj hz => hn (j + 1) z (by simpa using hj) (by simpa using hz)
    unfold findN at ih ⊢
    rw [List.findIdx?_cons, decide_eq_false h0, ih]; rfl
theorem findK_at {xs : List At} {m : ByteArray} {k : Nat} {x : At} (h : xs[k]? = some x) (e : x.n = m) (hn : NotIn xs m k) : findK xs m = (k : Int) := by unfold findK; rw [findN_at h e hn]
theorem findK_none {xs : List At} {m : ByteArray} (hn : NotIn xs m xs.length) : findK xs m = -1 := by unfold findK; rw [findN_none hn]
theorem NotIn.succ {xs : List At} {m : ByteArray} {k : Nat} {x : At} (h : NotIn xs m k) (hx : xs[k]? = some x) (hne : x.n ≠ m) : NotIn xs m (k + 1) := fun j y hj hy => by
  rcases Nat.lt_or_ge j k with h3 | h3
  · exact h j y h3 hy
  · obtain rfl : j = k := by omega
    rw [hx] at hy
    injection hy with hy
    rw [← hy]; exact hne
theorem str_eq {a b : ByteArray} (h : a = b) : (a.toList == b.toList) = true := by rw [h]; simp
theorem str_ne {a b : ByteArray} (h : a ≠ b) : (a.toList == b.toList) = false := beq_eq_false_iff_ne.2 fun e => h (bytes_inj3 e)
theorem ret_in {k : IntKind} {a b : Int} (h : a = b) : Ending.returned (.int k a) = .returned (.int k b) := by rw [h]

def IsInt (x : Int) (w : World) (e : Ending) (w' : World) : Prop := e = .returned (.int .i64 x) ∧ Below w.heap.size w w'
set_option maxHeartbeats 1000000 in
theorem at1_any (a : At) (p : Nat) (m : ByteArray) (w : World) (hp : w.cell? ⟨p, 0, none⟩ = some (.string m)) :
    Calls Tryd.prog 87 #[.agg #[.string a.n, .string a.v], .pointer (some ⟨p, 0, none⟩)] w (IsBool (decide (a.n = m)) w) := by
  have hlt := block_lt_of_cell hp
  have hp2 : (w.alloc (.cells #[.string a.n, .string a.v] 52)).cell? ⟨p, 0, none⟩ = some (.string m) := (World.cell?_alloc_lt w _ _ hlt).trans hp
  by_cases h : a.n = m
  · have hb := str_eq h
    rw [decide_eq_true h]
    clear h hp
    go_enter Tryd.func87, Tryd.ntmps87
    go_wp2
    go_ret
    exact ⟨rfl, (Below.refl _ _).alloc (Nat.le_refl _) _⟩
  · have hb := str_ne h
    rw [decide_eq_false h]
    clear h hp
    go_enter Tryd.func87, Tryd.ntmps87
    go_wp2
    go_ret
    exact ⟨rfl, (Below.refl _ _).alloc (Nat.le_refl _) _⟩

set_option maxRecDepth 100000 in
set_option maxHeartbeats 4000000 in
theorem indexFunc_any (A : Option Addr) (xs : List At) (n c B : Nat) (hn : n = xs.length) (p : Nat) (m : ByteArray) (w : World) (hA : SlAt encA 2 w B A xs) (hl : xs.length ≤ 1000000000) (hp : w.cell? ⟨p, 0, none⟩ = some (.string m)) :
    Calls Tryd.prog 86 #[.slice A n c, .func (.func 87) #[] #[.pointer (some ⟨p, 0, none⟩)]] w (IsInt (findK xs m) w) := by
  subst hn
  have hS := hid (hA.live (fun _ => by rw [encA_len]; omega))
  have hlt := block_lt_of_cell hp
  have hlt' : p < w.heap.size := hlt
  have HP := hid hp
  obtain ⟨x, hx⟩ : ∃ x, findK xs m = x := ⟨_, rfl⟩
  have HX := hid hx
  rw [hx]
  clear hp hlt hx
  go_enter Tryd.func86, Tryd.ntmps86
  go_wp2_with fail
  go_loopw [8] (fun i wr => ∃ k : Nat, k ≤ xs.length ∧ i = .int .i64 k ∧ Hid (NotIn xs m k) ∧ Below w.heap.size w wr) (fun i _ => xs.length - (intOf i).toNat)
  case atStart => exact ⟨0, Nat.zero_le _, rfl, (fun j _ h => absurd h (by omega)), Below.refl _ _⟩
  case round =>
    obtain ⟨k, hk, rfl, hno, hbr⟩ := hrel
    have HB := hid hbr
    by_cases hlt : k < xs.length
    · obtain ⟨ad, x, rfl, -, hx, x0, x1⟩ := (hS.out.below hbr).atA hlt
      have hi1 : (k : Int) < (xs.length : Int) := by omega
      have hpr := (hbr.cell (p := ⟨p, 0, none⟩) hlt').trans HP.out
      have HPR := hid hpr
      clear hbr hpr
      by_cases he : x.n = m
      · have E := hid (findK_at hx he hno.out)
        have hd := hid (decide_eq_true he)
        clear hx he
        go_wp2_with (go_at_call 87; refine (at1_any x p m _ HPR.out).mono ?_; rintro e w1 ⟨rfl, hb1⟩; rw [hd.out]; (have B1 := hid hb1); clear hb1)
        go_ret
        exact ⟨ret_in (E.out.symm.trans HX.out), HB.out.trans (B1.out.mono HB.out.size)⟩
      · have N1 := hid (hno.out.succ hx he)
        have hd := hid (decide_eq_false he)
        clear hx he
        go_wp2_with (go_at_call 87; refine (at1_any x p m _ HPR.out).mono ?_; rintro e w1 ⟨rfl, hb1⟩; rw [hd.out]; (have B1 := hid hb1); clear hb1)
        go_roundw
        case rel => exact ⟨k + 1, by omega, by go_num, N1.out, HB.out.trans (B1.out.mono HB.out.size)⟩
        case measure => simp [intOf]; omega
    · obtain rfl : k = xs.length := by omega
      have E := hid (findK_none hno.out)
      clear hbr
      go_wp2_with fail
      go_ret
      exact ⟨ret_in (E.out.symm.trans HX.out), HB.out⟩

set_option maxHeartbeats 1000000 in
theorem at_any (A : Option Addr) (xs : List At) (n c B : Nat) (hn : n = xs.length) (m : ByteArray) (w : World) (hA : SlAt encA 2 w B A xs) (hl : xs.length ≤ 1000000000) :
    Calls Tryd.prog 69 #[.slice A n c, .string m] w (IsInt (findK xs m) w) := by
  subst hn
  have HS := hid ((hA.live (fun _ => by rw [encA_len]; omega)).alloc (Nat.le_refl _) (.cells #[.string m] 9))
  have HC := hid (show (w.alloc (.cells #[.string m] 9)).cell? ⟨w.heap.size, 0, none⟩ = some (.string m) from cell_of_row _ _ 0 _ _ _ (heap_alloc_new w _))
  go_enter Tryd.func69, Tryd.ntmps69
  go_wp2_with (go_at_call 86; refine (indexFunc_any A xs _ c _ rfl w.heap.size m _ HS.out hl HC.out).mono ?_; rintro e w1 ⟨rfl, hb1⟩; (have B1 := hid hb1); clear hb1)
  go_ret
  exact ⟨rfl, ((Below.refl _ w).alloc (Nat.le_refl _) _).trans (B1.out.mono (by simp))⟩

set_option maxHeartbeats 2000000 in
theorem refFindA_any (A : Option Addr) (xs : List At) (n c B : Nat) (hn : n = xs.length) (m : ByteArray) (w : World) (hA : SlAt encA 2 w B A xs) (hl : xs.length ≤ 1000000000) :
    Calls Tryd.prog 46 #[.slice A n c, .string m] w fun e w' => e = .returned (.int .i64 (findK xs m)) ∧ w = w' := by
  subst hn
  obtain ⟨x, hx⟩ : ∃ x, findK xs m = x := ⟨_, rfl⟩
  have HX := hid hx
  have HS := hid hA
  rw [hx]
  clear hx hA
  go_enter Tryd.func46, Tryd.ntmps46
  go_wp2
  go_loop [5] (fun i => ∃ k : Nat, k ≤ xs.length ∧ i = .int .i64 k ∧ Hid (NotIn xs m k)) (fun i => xs.length - (intOf i).toNat)
  case atStart => exact ⟨0, Nat.zero_le _, rfl, fun j _ h => absurd h (by omega)⟩
  case round =>
    obtain ⟨k, hk, rfl, hno⟩ := hrel
    by_cases hlt : k < xs.length
    · obtain ⟨ad, x, rfl, -, hx, x0, x1⟩ := HS.out.atA hlt
      have hi1 : (k : Int) < (xs.length : Int) := by omega
      by_cases he : x.n = m
      · have E := hid (findK_at hx he hno.out)
        have hb := str_eq he
        clear hx he x1
        go_wp2
        go_ret
        exact ⟨ret_in (E.out.symm.trans HX.out), rfl⟩
      · have N1 := hid (hno.out.succ hx he)
        have hb := str_ne he
        clear hx he x1
        go_wp2
        go_round
        case rel => exact ⟨k + 1, by omega, by go_num, N1.out⟩
        case measure => simp [intOf]; omega
    · obtain rfl : k = xs.length := by omega
      have E := hid (findK_none hno.out)
      go_wp2
      go_ret
      exact ⟨ret_in (E.out.symm.trans HX.out), rfl⟩

/-! ### whether two rows are one -/
def QuietB (b : Bool) (w : World) (e : Ending) (w' : World) : Prop := e = .returned (.bool b) ∧ ∃ q, w' = w.drewN q
theorem sameA_no {xs ys : List At} {k : Nat} {x y : At} (hx : xs[k]? = some x) (hy : ys[k]? = some y) (h : x ≠ y) : decide (xs = ys) = false := decide_eq_false fun e => h (by
  rw [e, hy] at hx; injection hx with hx; exact hx.symm)

set_option maxHeartbeats 2000000 in
theorem equalA_any (A B : Option Addr) (xs ys : List At) (n m c d C D : Nat) (hn : n = xs.length) (hm : m = ys.length) (w : World) (hA : SlAt encA 2 w C A xs) (hB : SlAt encA 2 w D B ys) (hx : xs.length ≤ 1000000000) :
    Calls Tryd.prog 67 #[.slice A n c, .slice B m d] w (QuietB (decide (xs = ys)) w) := by
  subst hn hm
  by_cases hl : xs.length = ys.length
  · have hb0 : ((xs.length : Int) != (ys.length : Int)) = false := by rw [bne_eq_false_iff_eq]; omega
    obtain ⟨r, hr⟩ : ∃ r, decide (xs = ys) = r := ⟨_, rfl⟩
    have HR := hid hr
    have HL := hid hl
    rw [hr]
    clear hr hl
    go_enter Tryd.func67, Tryd.ntmps67
    go_wp2
    go_loopw [13] (fun i wr => ∃ k : Nat, k ≤ xs.length ∧ i = .int .i64 k ∧ Hid (xs.take k = ys.take k) ∧ ∃ q, wr = w.drewN q) (fun i _ => xs.length - (intOf i).toNat)
    case atStart => exact ⟨0, Nat.zero_le _, rfl, rfl, 0, rfl⟩
    case round =>
      obtain ⟨k, hk, rfl, ht, q, rfl⟩ := hrel
      by_cases hlt : k < xs.length
      · obtain ⟨ad, x, rfl, -, hx, x0, x1⟩ := hA.atA hlt
        obtain ⟨bd, y, rfl, -, hy, y0, y1⟩ := hB.atA (show k < ys.length by rw [← HL.out]; exact hlt)
        have hi1 : (k : Int) < (xs.length : Int) := by omega
        have hi2 : (k : Int) < (ys.length : Int) := by rw [← HL.out]; omega
        have HX := hid hx
        have HY := hid hy
        clear hx hy
        by_cases hxy : x = y
        · subst hxy
          have HT : Hid (xs.take (k + 1) = ys.take (k + 1)) := by
            show _ = _
            rw [take_snoc3 HX.out, take_snoc3 HY.out, ht.out]
          have q1 : (x.n.toList == x.n.toList) = true := by simp
          have q2 : (x.v.toList == x.v.toList) = true := by simp
          go_wp2
          go_quiet (fail)
          go_wp2
          go_roundw
          case rel => exact ⟨k + 1, by omega, by go_num, HT, _, by first | rfl | exact World.drewN_drewN _ _ _⟩
          case measure => simp [intOf]; omega
        · have HN := hid (HR.out.symm.trans (sameA_no HX.out HY.out hxy))
          by_cases h1 : x.n = y.n
          · have b1 := str_eq h1
            have b2 := str_ne (fun h2 => hxy (At.ext' h1 h2))
            clear hxy h1
            go_wp2
            go_quiet (fail)
            go_wp2
            go_ret
            exact ⟨ret_bo HN.out.symm, _, by first | rfl | exact World.drewN_drewN _ _ _⟩
          · have b1 := str_ne h1
            clear hxy h1
            go_wp2
            go_quiet (fail)
            go_wp2
            go_ret
            exact ⟨ret_bo HN.out.symm, _, by first | rfl | exact World.drewN_drewN _ _ _⟩
      · have HN := hid (HR.out.symm.trans (decide_eq_true (by
          have h1 := ht.out
          rwa [List.take_of_length_le (by omega), List.take_of_length_le (by rw [← HL.out]; omega)] at h1)))
        have hi1 : ¬ ((k : Int) < (xs.length : Int)) := by omega
        go_wp2
        go_ret
        exact ⟨ret_bo HN.out.symm, q, rfl⟩
  · have hb0 : ((xs.length : Int) != (ys.length : Int)) = true := by rw [bne_iff_ne]; omega
    rw [show decide (xs = ys) = false from decide_eq_false fun e => hl (by rw [e])]
    clear hl
    go_enter Tryd.func67, Tryd.ntmps67
    go_wp2
    go_ret
    exact ⟨rfl, 0, rfl⟩

set_option maxHeartbeats 2000000 in
theorem refSameA_any (A B : Option Addr) (xs ys : List At) (n m c d C D : Nat) (hn : n = xs.length) (hm : m = ys.length) (w : World) (hA : SlAt encA 2 w C A xs) (hB : SlAt encA 2 w D B ys) (hx : xs.length ≤ 1000000000) :
    Calls Tryd.prog 40 #[.slice A n c, .slice B m d] w (QuietB (decide (xs = ys)) w) := by
  subst hn hm
  by_cases hl : xs.length = ys.length
  · have hb0 : ((xs.length : Int) != (ys.length : Int)) = false := by rw [bne_eq_false_iff_eq]; omega
    obtain ⟨r, hr⟩ : ∃ r, decide (xs = ys) = r := ⟨_, rfl⟩
    have HR := hid hr
    have HL := hid hl
    rw [hr]
    clear hr hl
    go_enter Tryd.func40, Tryd.ntmps40
    go_wp2
    go_loopw [5] (fun i wr => ∃ k : Nat, k ≤ xs.length ∧ i = .int .i64 k ∧ Hid (xs.take k = ys.take k) ∧ ∃ q, wr = w.drewN q) (fun i _ => xs.length - (intOf i).toNat)
    case atStart => exact ⟨0, Nat.zero_le _, rfl, rfl, 0, rfl⟩
    case round =>
      obtain ⟨k, hk, rfl, ht, q, rfl⟩ := hrel
      by_cases hlt : k < xs.length
      · obtain ⟨ad, x, rfl, -, hx, x0, x1⟩ := hA.atA hlt
        obtain ⟨bd, y, rfl, -, hy, y0, y1⟩ := hB.atA (show k < ys.length by rw [← HL.out]; exact hlt)
        have hi1 : (k : Int) < (xs.length : Int) := by omega
        have hi2 : (k : Int) < (ys.length : Int) := by rw [← HL.out]; omega
        have HX := hid hx
        have HY := hid hy
        clear hx hy
        by_cases hxy : x = y
        · subst hxy
          have HT : Hid (xs.take (k + 1) = ys.take (k + 1)) := by
            show _ = _
            rw [take_snoc3 HX.out, take_snoc3 HY.out, ht.out]
          have q1 : (x.n.toList == x.n.toList) = true := by simp
          have q2 : (x.v.toList == x.v.toList) = true := by simp
          go_wp2
          go_quiet (fail)
          go_wp2
          go_roundw
          case rel => exact ⟨k + 1, by omega, by go_num, HT, _, by first | rfl | exact World.drewN_drewN _ _ _⟩
          case measure => simp [intOf]; omega
        · have HN := hid (HR.out.symm.trans (sameA_no HX.out HY.out hxy))
          by_cases h1 : x.n = y.n
          · have b1 := str_eq h1
            have b2 := str_ne (fun h2 => hxy (At.ext' h1 h2))
            clear hxy h1
            go_wp2
            go_quiet (fail)
            go_wp2
            go_ret
            exact ⟨ret_bo HN.out.symm, _, by first | rfl | exact World.drewN_drewN _ _ _⟩
          · have b1 := str_ne h1
            clear hxy h1
            go_wp2
            go_quiet (fail)
            go_wp2
            go_ret
            exact ⟨ret_bo HN.out.symm, _, by first | rfl | exact World.drewN_drewN _ _ _⟩
      · have HN := hid (HR.out.symm.trans (decide_eq_true (by
          have h1 := ht.out
          rwa [List.take_of_length_le (by omega), List.take_of_length_le (by rw [← HL.out]; omega)] at h1)))
        have hi1 : ¬ ((k : Int) < (xs.length : Int)) := by omega
        go_wp2
        go_ret
        exact ⟨ret_bo HN.out.symm, q, rfl⟩
  · have hb0 : ((xs.length : Int) != (ys.length : Int)) = true := by rw [bne_iff_ne]; omega
    rw [show decide (xs = ys) = false from decide_eq_false fun e => hl (by rw [e])]
    clear hl
    go_enter Tryd.func40, Tryd.ntmps40
    go_wp2
    go_ret
    exact ⟨rfl, 0, rfl⟩

set_option maxHeartbeats 400000 in
theorem sameA_any (A B : Option Addr) (xs ys : List At) (n m c d C D : Nat) (hn : n = xs.length) (hm : m = ys.length) (w : World) (hA : SlAt encA 2 w C A xs) (hB : SlAt encA 2 w D B ys) (hx : xs.length ≤ 1000000000) :
    Calls Tryd.prog 39 #[.slice A n c, .slice B m d] w (QuietB (decide (xs = ys)) w) := by
  subst hn hm
  go_enter Tryd.func39, Tryd.ntmps39
  go_wp2_with (go_at_call 67; refine (equalA_any A B xs ys _ _ c d C D rfl rfl _ hA hB hx).mono ?_; rintro e w1 ⟨rfl, q, rfl⟩)
  go_ret
  exact ⟨rfl, _, rfl⟩

/-! ### copies -/
def RowA (w : World) (xs : List At) (e : Ending) (w' : World) : Prop := ∃ v, e = .returned v ∧ Own encA 2 52 w' w.heap.size v xs ∧ Below w.heap.size w w'
set_option maxHeartbeats 1000000 in
theorem refOwnA_any (A : Option Addr) (cs : List At) (n c B : Nat) (hn : n = cs.length) (w : World) (hA : SlAt encA 2 w B A cs) (hl : cs.length ≤ 1000000000) :
    Calls Tryd.prog 45 #[.slice A n c] w (RowA w cs) := by
  subst hn
  have hS := (hA.live (fun _ => by rw [encA_len]; omega)).alloc (Nat.le_refl _) (.cells #[] 52)
  have h0 : Own encA 2 52 (w.alloc (.cells #[] 52)) w.heap.size (.slice (some ⟨w.heap.size, 0, none⟩) 0 0) ([] : List At) := World.ownsRow_lit w #[] 0 (Nat.le_refl _) (by simp) rfl
  go_enter Tryd.func45, Tryd.ntmps45
  go_wp2_with (at_builtin; refine wpList_appS Tryd.okA rfl (.tmp 3) (.tmp 4) 39 rfl Tryd.underlying39 w.heap.size _ ([] : List At) rfl h0 _ A cs c rfl hS (by simp; omega) (by simp) ?_; intro v' w1 hown' hg' _ _)
  go_ret
  refine ⟨_, rfl, by simpa using hown', ((Below.refl _ w).alloc (Nat.le_refl _) _).grown hg' (by simp) fun k hk => (h0.lt k hk).1⟩
set_option maxHeartbeats 1000000 in
theorem cloneA_any (A : Option Addr) (cs : List At) (n c B : Nat) (hn : n = cs.length) (w : World) (hA : SlAt encA 2 w B A cs) (hl : cs.length ≤ 1000000000) :
    Calls Tryd.prog 68 #[.slice A n c] w (RowA w cs) := by
  subst hn
  cases A with
  | none =>
    have hc : cs = [] := by
      cases cs with
      | nil => rfl
      | cons x xs => obtain ⟨ad, e, _⟩ := hA (by simp); cases e
    subst hc
    have heq : ∀ W : World, (binOp .eql 39 (.slice none 0 c) (.slice none 0 0)).run Tryd.prog W = .ok (.bool true) W := fun W => Lib.run_eql_slice_nil W 39 52 none 0 c 0 0 Tryd.underlying39
    go_enter Tryd.func68, Tryd.ntmps68
    go_wp2
    go_ret
    exact ⟨_, rfl, Own.nil, Below.refl _ _⟩
  | some ad =>
    have hS := (hA.live (fun _ => by rw [encA_len]; omega)).alloc (Nat.le_refl _) (.cells #[] 52)
    have h0 : Own encA 2 52 (w.alloc (.cells #[] 52)) w.heap.size (.slice (some ⟨w.heap.size, 0, none⟩) 0 0) ([] : List At) := World.ownsRow_lit w #[] 0 (Nat.le_refl _) (by simp) rfl
    have heq : ∀ W : World, (binOp .eql 39 (.slice (some ad) cs.length c) (.slice none 0 0)).run Tryd.prog W = .ok (.bool false) W := fun W => Lib.run_eql_slice_nil W 39 52 (some ad) cs.length c 0 0 Tryd.underlying39
    go_enter Tryd.func68, Tryd.ntmps68
    go_wp2_with (at_builtin; refine wpList_appS Tryd.okA rfl (.tmp 5) (.tmp 6) 39 rfl Tryd.underlying39 w.heap.size _ ([] : List At) rfl h0 _ (some ad) cs c rfl hS (by simp; omega) (by simp) ?_; intro v' w1 hown' hg' _ _)
    go_ret
    exact ⟨_, rfl, by simpa using hown', ((Below.refl _ w).alloc (Nat.le_refl _) _).grown hg' (by simp) fun k hk => (h0.lt k hk).1⟩
end Go.Proofs.YtapjlkiffgfbfaaDoor
