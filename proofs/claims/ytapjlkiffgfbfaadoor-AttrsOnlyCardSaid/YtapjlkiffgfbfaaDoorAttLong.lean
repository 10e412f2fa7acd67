/- The walks of law03's long, spoil, awake. -/
import Derived.Test.YtapjlkiffgfbfaaDoorAttOnly
import Derived.Lib.LaidU8
namespace Go.Proofs.YtapjlkiffgfbfaaDoor
open Go.RowKit Go.Lib

theorem Own.sl {α : Type} {enc : α → List Value} {sz : Nat} {e : TypeId} {w : World} {base : Nat} {A : Option Addr} {n c : Nat} {xs : List α} (h : Own enc sz e w base (.slice A n c) xs) (he : ∀ x, (enc x).length = sz) : SlAt enc sz w w.heap.size A xs := by
  obtain ⟨A', c', e, _, _, _, hs⟩ := h.form he
  injection e with e1 e2 e3
  rw [e1]; exact hs
theorem litS1 (w : World) (a : ByteArray) (t : TypeId) : SlAt encS 1 (w.alloc (.cells #[.string a] t)) (w.heap.size + 1) (some ⟨w.heap.size, 0, none⟩) [a] := by
  have h : Own encS 1 t (w.alloc (.cells #[.string a] t)) w.heap.size (.slice (some ⟨w.heap.size, 0, none⟩) 1 1) [a] := World.ownsRow_lit w #[.string a] 1 (Nat.le_refl _) (by unfold maxLen; omega) rfl
  have := h.sl encS_len
  exact this.more (by simp)
theorem litS2 (w : World) (a b : ByteArray) (t : TypeId) : SlAt encS 1 (w.alloc (.cells #[.string a, .string b] t)) (w.heap.size + 1) (some ⟨w.heap.size, 0, none⟩) [a, b] := by
  have h : Own encS 1 t (w.alloc (.cells #[.string a, .string b] t)) w.heap.size (.slice (some ⟨w.heap.size, 0, none⟩) 2 2) [a, b] := World.ownsRow_lit w #[.string a, .string b] 2 (Nat.le_refl _) (by unfold maxLen; omega) rfl
  have := h.sl encS_len
  exact this.more (by simp)
theorem litS3 (w : World) (a b c : ByteArray) (t : TypeId) : SlAt encS 1 (w.alloc (.cells #[.string a, .string b, .string c] t)) (w.heap.size + 1) (some ⟨w.heap.size, 0, none⟩) [a, b, c] := by
  have h : Own encS 1 t (w.alloc (.cells #[.string a, .string b, .string c] t)) w.heap.size (.slice (some ⟨w.heap.size, 0, none⟩) 3 3) [a, b, c] := World.ownsRow_lit w #[.string a, .string b, .string c] 3 (Nat.le_refl _) (by unfold maxLen; omega) rfl
  have := h.sl encS_len
  exact this.more (by simp)

def sizesS (ts : List ByteArray) : Nat := (ts.map (·.size)).sum
def sizesA (xs : List At) : Nat := (xs.map fun a => a.n.size + a.v.size).sum
def longB (xs : List At) (ts : List ByteArray) : Bool := decide (200 < xs.length) || decide (20000 < sizesS ts + sizesA xs)
theorem sizesS_take {ts : List ByteArray} {k : Nat} {x : ByteArray} (h : ts[k]? = some x) : sizesS (ts.take (k + 1)) = sizesS (ts.take k) + x.size := by
  unfold sizesS; rw [take_snoc3 h]; simp
theorem sizesS_le (ts : List ByteArray) (k : Nat) : sizesS (ts.take k) ≤ sizesS ts := by
  have : sizesS ts = sizesS (ts.take k) + sizesS (ts.drop k) := by
    unfold sizesS
    rw [← List.sum_append, ← List.map_append, List.take_append_drop]
  omega
theorem sizesA_take {xs : List At} {k : Nat} {x : At} (h : xs[k]? = some x) : sizesA (xs.take (k + 1)) = sizesA (xs.take k) + (x.n.size + x.v.size) := by
  unfold sizesA; rw [take_snoc3 h]; simp
theorem sizesA_le (xs : List At) (k : Nat) : sizesA (xs.take k) ≤ sizesA xs := by
  have : sizesA xs = sizesA (xs.take k) + sizesA (xs.drop k) := by
    unfold sizesA
    rw [← List.sum_append, ← List.map_append, List.take_append_drop]
  omega
theorem sizesA_mem {xs : List At} {x : At} (h : x ∈ xs) : x.n.size + x.v.size ≤ sizesA xs := by
  induction xs with
  | nil => cases h
  | cons y ys ih =>
    unfold sizesA at *
    rcases List.mem_cons.1 h with rfl | h
    · simp
    · have := ih h; simp; omega
theorem longB_no {xs : List At} {ts : List ByteArray} (h : longB xs ts = false) : xs.length ≤ 200 ∧ Small xs ∧ sizesS ts ≤ 20000 := by
  unfold longB at h
  simp only [Bool.or_eq_false_iff, decide_eq_false_iff_not] at h
  refine ⟨by omega, fun x hx => ?_, by omega⟩
  have := sizesA_mem hx
  omega

set_option maxRecDepth 100000 in
set_option maxHeartbeats 4000000 in
theorem longA_any (A : Option Addr) (xs : List At) (n c B : Nat) (hn : n = xs.length) (N : Option Addr) (ts : List ByteArray) (m cm D : Nat) (hm : m = ts.length) (w : World) (hA : SlAt encA 2 w B A xs) (hN : SlAt encS 1 w D N ts) (hl : xs.length ≤ 1000000000000000) (hz : ∀ x ∈ xs, x.n.size ≤ 1000000000000000 ∧ x.v.size ≤ 1000000000000000) (hl2 : ts.length ≤ 1000000000) (hz2 : sizesS ts ≤ 4000000000000000000) :
    Calls Tryd.prog 31 #[.slice A n c, .slice N m cm] w (QuietB (longB xs ts) w) := by
  subst hn hm
  have HZ := hid hz
  obtain ⟨r, hr⟩ : ∃ r, longB xs ts = r := ⟨_, rfl⟩
  have HR := hid hr
  rw [hr]
  clear hz hr
  go_enter Tryd.func31, Tryd.ntmps31
  go_wp2
  go_loop [5, 6] (fun s i => ∃ (k p : Nat), k ≤ ts.length ∧ i = .int .i64 k ∧ s = .int .i64 (p : Nat) ∧ Hid (p = sizesS (ts.take k))) (fun _ i => ts.length - (intOf i).toNat)
  case atStart => exact ⟨0, 0, Nat.zero_le _, rfl, rfl, rfl⟩
  case round =>
    obtain ⟨k, p, hk, rfl, rfl, hp⟩ := hrel
    by_cases hlt : k < ts.length
    · obtain ⟨nd, y, rfl, -, hy, y0⟩ := hN.atS hlt
      have hj1 : (k : Int) < (ts.length : Int) := by omega
      have HT : Hid (p + y.size = sizesS (ts.take (k + 1))) := hid (by rw [sizesS_take hy, ← hp.out])
      have hle : p + y.size ≤ 4000000000000000000 := by have := HT.out; have := sizesS_le ts (k + 1); omega
      clear hy
      go_wp2
      go_round
      case rel => exact ⟨k + 1, p + y.size, by omega, by go_num, by go_num, HT⟩
      case measure => simp [intOf]; omega
    · have hj1 : ¬ ((k : Int) < (ts.length : Int)) := by omega
      have hp2 : p = sizesS ts := by rw [hp.out, List.take_of_length_le (by omega)]
      have HP := hid hp2
      have hple : p ≤ 4000000000000000000 := by omega
      clear hp2 hp
      by_cases h200 : 200 < xs.length
      · have h200' : (200 : Int) < (xs.length : Int) := by omega
        have E := hid (HR.out.symm.trans (show longB xs ts = true by unfold longB; rw [decide_eq_true h200]; rfl))
        go_wp2
        go_ret
        exact ⟨ret_bo E.out.symm, 0, rfl⟩
      · have h200' : ¬ ((200 : Int) < (xs.length : Int)) := by omega
        go_wp2
        go_loopw [5, 7] (fun s i wr => ∃ (k s' : Nat), k ≤ xs.length ∧ i = .int .i64 k ∧ s = .int .i64 (s' : Nat) ∧ Hid (s' = sizesS ts + sizesA (xs.take k)) ∧ s' ≤ 9000000000000000000 ∧ ∃ q, wr = w.drewN q) (fun _ i _ => xs.length - (intOf i).toNat)
        case atStart => exact ⟨0, p, Nat.zero_le _, rfl, rfl, hid (by rw [HP.out]; rfl), by omega, 0, rfl⟩
        case round =>
          obtain ⟨j, s', hj, rfl, rfl, hs, hsb, q, rfl⟩ := hrel
          by_cases hjl : j < xs.length
          · have hi1 : (j : Int) < (xs.length : Int) := by omega
            by_cases h20 : s' ≤ 20000
            · obtain ⟨ad, x, rfl, -, hx, x0, x1⟩ := hA.atA hjl
              have h20' : (s' : Int) ≤ 20000 := by omega
              have hzz := HZ.out x (List.mem_of_getElem? hx)
              have HT : Hid (s' + (x.n.size + x.v.size) = sizesS ts + sizesA (xs.take (j + 1))) := hid (by rw [sizesA_take hx, hs.out]; omega)
              have w1 : IntKind.i64.wrap ((x.n.size : Int) + (x.v.size : Int)) = (x.n.size : Int) + (x.v.size : Int) := IntWalk.i64_in _ (by omega)
              have w2 : IntKind.i64.wrap ((s' : Int) + ((x.n.size : Int) + (x.v.size : Int))) = (s' : Int) + ((x.n.size : Int) + (x.v.size : Int)) := IntWalk.i64_in _ (by omega)
              have hb2 : s' + (x.n.size + x.v.size) ≤ 9000000000000000000 := by omega
              clear hx hzz
              go_wp2
              go_quiet (fail)
              go_wp2
              go_roundw
              case rel => exact ⟨j + 1, s' + (x.n.size + x.v.size), by omega, by go_num, by go_num, HT, by omega, _, by first | rfl | exact World.drewN_drewN _ _ _⟩
              case measure => simp [intOf]; omega
            · have h20' : ¬ ((s' : Int) ≤ 20000) := by omega
              have h21' : (20000 : Int) < (s' : Int) := by omega
              have E := hid (HR.out.symm.trans (show longB xs ts = true by
                unfold longB
                have := hs.out
                have := sizesA_le xs j
                rw [decide_eq_true (show 20000 < sizesS ts + sizesA xs by omega)]; simp))
              go_wp2
              go_ret
              exact ⟨ret_bo E.out.symm, q, rfl⟩
          · have hi1 : ¬ ((j : Int) < (xs.length : Int)) := by omega
            have hs2 : s' = sizesS ts + sizesA xs := by rw [hs.out, List.take_of_length_le (by omega)]
            have E := hid (HR.out.symm.trans (show longB xs ts = decide (20000 < s') by unfold longB; rw [decide_eq_false h200, hs2]; rfl))
            clear hs2
            by_cases h20 : 20000 < s'
            · have h21' : (20000 : Int) < (s' : Int) := by omega
              go_wp2
              go_ret
              exact ⟨ret_bo (by rw [E.out]; simp [h20]), q, rfl⟩
            · have h21' : ¬ ((20000 : Int) < (s' : Int)) := by omega
              go_wp2
              go_ret
              exact ⟨ret_bo (by rw [E.out]; simp [h20]), q, rfl⟩

theorem grown_trans3 {a b c : World} {row : Option Nat} (h : a.grownBy b row) (k : b.grownBy c row) : a.grownBy c row :=
  ⟨k.os.trans h.os, k.tape.trans h.tape, k.output.trans h.output, Nat.le_trans h.size k.size, fun i hi hne => (k.block i (Nat.lt_of_lt_of_le hi h.size) hne).trans (h.block i hi hne)⟩
set_option maxHeartbeats 2000000 in
/-- The law's spoil writes over a row of the caller's own alone. -/
theorem spoilA_any (A : Option Addr) (n c base : Nat) (xs : List At) (w : World) (ho : Own encA 2 52 w base (.slice A n c) xs) (hn : n = xs.length) (hl : xs.length ≤ 1000000000) :
    Calls Tryd.prog 52 #[.slice A n c] w (fun e w' => e = .returned (.tuple #[]) ∧ w.grownBy w' (Value.slice A n c).ownBlock) := by
  have hi0 : n ≤ 1000000000 := by omega
  unfold Own at ho
  rw [← hn] at ho
  clear hl hn
  go_enter Tryd.func52, Tryd.ntmps52
  go_wp2
  go_loopw [2] (fun i wr => ∃ (k : Nat) (vs : List Value), k ≤ n ∧ i = .int .i64 k ∧ wr.ownsRow base 52 2 (.slice A n c) n vs ∧ w.grownBy wr (Value.slice A n c).ownBlock) (fun i _ => n - (intOf i).toNat)
  case atStart => exact ⟨0, _, Nat.zero_le _, rfl, ho, World.grownBy.refl _ _⟩
  case round =>
    obtain ⟨k, vs, hk, rfl, hown, hbr⟩ := hrel
    by_cases hlt : k < n
    · have hi1 : (k : Int) < (n : Int) := by omega
      have hlen := hown.1
      obtain ⟨g, rfl, hg⟩ : ∃ g, A = some ⟨g, 0, none⟩ ∧ base ≤ g := by
        rcases hown.2 with ⟨h, h'⟩ | ⟨g, cap, cur, h, hg, _⟩
        · omega
        · injection h with h _ _
          exact ⟨g, h, hg⟩
      have x0 : wr.cell? ⟨g, k * 2, none⟩ = some (vs[k * 2]'(by omega)) := (World.ownsRow.cellAt hown _ (by omega)).trans (List.getElem?_eq_getElem _)
      have f0 := World.ownsRow.frozenAt hown (k * 2)
      have h1 := World.ownsRow.stored hown (k * 2) (.string ⟨#[122, 122]⟩)
      have x1 : (wr.setCell ⟨g, k * 2, none⟩ (.string ⟨#[122, 122]⟩)).cell? ⟨g, k * 2 + 1, none⟩ = some (vs[k * 2 + 1]'(by omega)) := (World.ownsRow.cellAt h1.1 _ (by omega)).trans (by simp)
      have f1 := World.ownsRow.frozenAt h1.1 (k * 2 + 1)
      have h2 := World.ownsRow.stored h1.1 (k * 2 + 1) (.string ⟨#[]⟩)
      have hb3 := hid (grown_trans3 (grown_trans3 hbr h1.2) h2.2)
      have H3 := hid h2.1
      clear h1 h2 hown
      go_wp2
      go_roundw
      case rel => exact ⟨k + 1, _, by omega, by go_num, H3, hb3⟩
      case measure => simp [intOf]; omega
    · have hi1 : ¬ ((k : Int) < (n : Int)) := by omega
      go_wp2
      go_end0
      exact ⟨rfl, hbr⟩
end Go.Proofs.YtapjlkiffgfbfaaDoor
