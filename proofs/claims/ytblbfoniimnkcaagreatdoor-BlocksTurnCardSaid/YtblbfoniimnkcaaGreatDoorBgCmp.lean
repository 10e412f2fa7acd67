/- Texts on cells and lines, put together: DocCmp, DocCmp2, DocIs. -/
import Derived.Test.YtblbfoniimnkcaaGreatDoorBgKg
import Derived.Test.YtblbfoniimnkcaaGreatDoorLnIW
import Derived.BigQuiet
import Derived.Deep.QuietTactic
import Derived.StillTailTactics
import Derived.Test.YtblbfoniimnkcaaGreatDoorDocMay
/- The walks of cmp.Compare, cmp.Or, doc.Cmp. (Printed by wip/bldoc.py.) -/
namespace Go.Proofs.YtblbfoniimnkcaaGreatDoor
open Go.RowKit Go.Lib

def cmpI (x y : Int) : Int := if x < y then -1 else if y < x then 1 else 0
def orI : List Int → Int
  | [] => 0
  | x :: xs => if x = 0 then orI xs else x
def cmpP (p q : Ps) : Int := orI [cmpI p.l q.l, cmpI p.a q.a]
theorem cmpP_gt (p q : Ps) : decide (0 < cmpP p q) = ltP q p := by
  unfold cmpP ltP
  refine decide_eq_decide.2 ?_
  have e : orI [cmpI p.l q.l, cmpI p.a q.a] = if cmpI p.l q.l = 0 then (if cmpI p.a q.a = 0 then 0 else cmpI p.a q.a) else cmpI p.l q.l := rfl
  rw [e]
  have c : ∀ x y : Int, (x < y ∧ cmpI x y = -1) ∨ (x = y ∧ cmpI x y = 0) ∨ (y < x ∧ cmpI x y = 1) := fun x y => by
    unfold cmpI
    rcases Int.lt_trichotomy x y with h | h | h
    · exact .inl ⟨h, if_pos h⟩
    · exact .inr (.inl ⟨h, by rw [if_neg (by omega), if_neg (by omega)]⟩)
    · exact .inr (.inr ⟨h, by rw [if_neg (by omega), if_pos h]⟩)
  rcases c p.l q.l with ⟨h1, e1⟩ | ⟨h1, e1⟩ | ⟨h1, e1⟩ <;> rcases c p.a q.a with ⟨h2, e2⟩ | ⟨h2, e2⟩ | ⟨h2, e2⟩ <;> rw [e1, e2] <;> simp <;> omega
theorem orI_drop {xs : List Int} {k : Nat} {x : Int} (h : xs[k]? = some x) : orI (xs.drop k) = if x = 0 then orI (xs.drop (k + 1)) else x := by
  have hk := (List.getElem?_eq_some_iff.1 h)
  obtain ⟨h1, h2⟩ := hk
  rw [List.drop_eq_getElem_cons h1, h2]
  rfl
set_option maxHeartbeats 1000000 in
theorem isNaN_any (x : Int) (w : World) : Calls Tryz.prog 83 #[.int .i64 x] w (fun e w' => e = .returned (.bool false) ∧ w' = w) := by
  go_enter Tryz.func83, Tryz.ntmps83
  go_wp2_with fail
  go_ret
  exact ⟨ret_bo (by simp), rfl⟩
set_option maxHeartbeats 2000000 in
theorem compare_any (x y : Int) (w : World) : Calls Tryz.prog 74 #[.int .i64 x, .int .i64 y] w (fun e w' => e = .returned (.int .i64 (cmpI x y)) ∧ w' = w) := by
  rcases Int.lt_trichotomy x y with h | h | h
  · have M := hid (show cmpI x y = -1 by unfold cmpI; rw [if_pos h])
    rw [M.out]
    clear M
    go_enter Tryz.func74, Tryz.ntmps74
    go_wp2_with (first
      | (go_at_call 83; (with_reducible refine (isNaN_any _ _).mono ?_); rintro e w1 ⟨rfl, rfl⟩))
    go_ret
    exact ⟨rfl, rfl⟩
  · have M := hid (show cmpI x y = 0 by unfold cmpI; rw [if_neg (by omega), if_neg (by omega)])
    have h2 : ¬ x < y := by omega
    have h3 : ¬ y < x := by omega
    clear h
    rw [M.out]
    clear M
    go_enter Tryz.func74, Tryz.ntmps74
    go_wp2_with (first
      | (go_at_call 83; (with_reducible refine (isNaN_any _ _).mono ?_); rintro e w1 ⟨rfl, rfl⟩))
    go_ret
    exact ⟨rfl, rfl⟩
  · have M := hid (show cmpI x y = 1 by unfold cmpI; rw [if_neg (by omega), if_pos h])
    have h2 : ¬ x < y := by omega
    rw [M.out]
    clear M
    go_enter Tryz.func74, Tryz.ntmps74
    go_wp2_with (first
      | (go_at_call 83; (with_reducible refine (isNaN_any _ _).mono ?_); rintro e w1 ⟨rfl, rfl⟩))
    go_ret
    exact ⟨rfl, rfl⟩
set_option maxHeartbeats 2000000 in
theorem or_any (xs : List Int) (A : Option Addr) (n c C : Nat) (hn : n = xs.length) (w : World) (hA : SlAt encI 1 w C A xs) (hl : xs.length ≤ 1000000) : Calls Tryz.prog 73 #[.slice A n c] w (fun e w' => e = .returned (.int .i64 (orI xs)) ∧ w' = w) := by
  subst hn
  obtain ⟨z, hz⟩ : ∃ z, orI xs = z := ⟨_, rfl⟩
  have HZ := hid hz
  have HA := hid hA
  rw [hz]
  clear hz hA
  go_enter Tryz.func73, Tryz.ntmps73
  go_wp2_with fail
  go_loopw [8] (fun i wr => ∃ k : Nat, k ≤ xs.length ∧ i = .int .i64 k ∧ Hid (orI xs = orI (xs.drop k)) ∧ wr = w) (fun i _ => xs.length - (intOf i).toNat)
  case atStart => exact ⟨0, Nat.zero_le _, rfl, rfl, rfl⟩
  case round =>
    obtain ⟨k, hk, rfl, he, rfl⟩ := hrel
    by_cases hlt : k < xs.length
    · obtain ⟨ad, x, rfl, -, hx, x0⟩ := HA.out.atI hlt
      have hi1 : (k : Int) < (xs.length : Int) := by omega
      have E := hid (he.out.trans (orI_drop hx))
      clear hx
      by_cases h0 : x = 0
      · have E1 := hid (E.out.trans (if_pos h0))
        have b0 : (x != 0) = false := by rw [h0]; rfl
        clear h0 E
        go_wp2_with fail
        go_roundw
        case rel => exact ⟨k + 1, by omega, by go_num, E1, by first | rfl | trivial⟩
        case measure => simp [intOf]; omega
      · have E1 := hid (E.out.trans (if_neg h0))
        have b0 : (x != 0) = true := by simpa using h0
        clear h0 E
        go_wp2_with fail
        go_ret
        exact ⟨ret_inC (E1.out.symm.trans HZ.out), rfl⟩
    · obtain rfl : k = xs.length := by omega
      have E1 : Hid (orI xs = 0) := hid (by rw [he.out, List.drop_length]; rfl)
      go_wp2_with fail
      go_ret
      exact ⟨ret_inC (E1.out.symm.trans HZ.out), rfl⟩
end Go.Proofs.YtblbfoniimnkcaaGreatDoor

/- The walk of doc.Cmp. (Printed by wip/bldoc.py.) -/
namespace Go.Proofs.YtblbfoniimnkcaaGreatDoor
open Go.RowKit Go.Lib

theorem slI2 {w : World} {g : Nat} {x y : Int} {t : TypeId} (h : w.heap[g]? = some (.cells #[.int .i64 x, .int .i64 y] t (0, 0))) : SlAt encI 1 w (g + 1) (some ⟨g, 0, none⟩) [x, y] := fun _ => ⟨_, rfl, Nat.lt_succ_self _, fun k z hz j u hu => by
  have hj : j = 0 ∧ u = .int .i64 z := by
    cases j with
    | zero => simp [encI] at hu; exact ⟨rfl, hu.symm⟩
    | succ j => simp [encI] at hu
  obtain ⟨rfl, rfl⟩ := hj
  rw [add_zero', show (⟨g, 0, none⟩ : Addr).add (k * 1) = ⟨g, k, none⟩ from by unfold Addr.add; split <;> simp_all, cell_of_row w g k _ t (0, 0) h]
  match k, hz with
  | 0, hz => simp at hz; subst hz; rfl
  | 1, hz => simp at hz; subst hz; rfl⟩
theorem orW (w : World) (p q r : Obj) {x y : Int} {t : TypeId} (hr : r = .cells #[.int .i64 x, .int .i64 y] t) : Calls Tryz.prog 73 #[.slice (some ⟨w.heap.size + 1 + 1, 0, none⟩) 2 2] ((((w.alloc p).alloc q).alloc r).drew) (fun e w' => e = .returned (.int .i64 (orI [x, y])) ∧ w' = (((w.alloc p).alloc q).alloc r).drew) := by
  subst hr
  have h := heap_alloc_new ((w.alloc p).alloc q).drew (.cells #[.int .i64 x, .int .i64 y] t)
  rw [show ((w.alloc p).alloc q).drew.heap.size = w.heap.size + 1 + 1 from show ((w.alloc p).alloc q).heap.size = _ by simp] at h
  have h2 : ((((w.alloc p).alloc q).alloc (.cells #[.int .i64 x, .int .i64 y] t)).drew).heap[w.heap.size + 1 + 1]? = some (.cells #[.int .i64 x, .int .i64 y] t (0, 0)) := h
  exact or_any [x, y] _ _ _ _ rfl _ (slI2 h2) (by simp)
theorem belowW (w : World) (p q r : Obj) : Below w.heap.size w ((((w.alloc p).alloc q).drew).alloc r) := (below_drewN (((Below.refl w.heap.size w).alloc (Nat.le_refl _) p).alloc (by simp) q) 1).alloc (show w.heap.size ≤ ((w.alloc p).alloc q).heap.size by simp; omega) r
set_option maxRecDepth 100000 in
set_option maxHeartbeats 8000000 in
theorem dCmp_any (pl pa ql qa : Int) (w : World) : Calls Tryz.prog 61 #[.agg #[.int .i64 pl, .int .i64 pa], .agg #[.int .i64 ql, .int .i64 qa]] w (IsIntC (cmpP ⟨pl, pa⟩ ⟨ql, qa⟩) w) := by
  have T := hid (orW w (.cells #[.int .i64 pl, .int .i64 pa] 24) (.cells #[.int .i64 ql, .int .i64 qa] 24) (.cells #[.int .i64 (cmpI pl ql), .int .i64 (cmpI pa qa)] 3) rfl)
  have B := hid (belowW w (.cells #[.int .i64 pl, .int .i64 pa] 24) (.cells #[.int .i64 ql, .int .i64 qa] 24) (.cells #[.int .i64 (cmpI pl ql), .int .i64 (cmpI pa qa)] 3))
  obtain ⟨z, hz⟩ : ∃ z, cmpP ⟨pl, pa⟩ ⟨ql, qa⟩ = z := ⟨_, rfl⟩
  rw [hz]
  have Z : Hid (orI [cmpI pl ql, cmpI pa qa] = z) := hid hz
  rw [Z.out] at T
  clear hz
  go_enter Tryz.func61, Tryz.ntmps61
  go_upto_region 1 with (fail)
  refine wp_region_still_tail 10 (by kernel_rfl) (by kernel_rfl) ?_
  simp only [List.take_succ_cons, List.take_zero, List.drop_succ_cons, List.drop_zero]
  change wpStill _ _ ((w.alloc (.cells #[.int .i64 pl, .int .i64 pa] 24)).alloc (.cells #[.int .i64 ql, .int .i64 qa] 24)).drew (fun a' => wpList _ _ _ _ a' ((w.alloc (.cells #[.int .i64 pl, .int .i64 pa] 24)).alloc (.cells #[.int .i64 ql, .int .i64 qa] 24)).drew) _ _
  iterate 4 still_step
  still_call (compare_any _ _ _)
  iterate 4 still_step
  still_call (compare_any _ _ _)
  refine wpStill_nil ?_
  go_wp2_with (first
    | (go_at_call 73; (with_reducible refine (T.out).mono ?_); rintro e w1 ⟨rfl, rfl⟩))
  go_ret
  exact ⟨rfl, B.out⟩
end Go.Proofs.YtblbfoniimnkcaaGreatDoor

/- The walk of doc.Is. (Printed by wip/bldoc.py.) -/
namespace Go.Proofs.YtblbfoniimnkcaaGreatDoor
open Go.RowKit Go.Lib

theorem isD_in {hs : List Hd} {k : Nat} {x : Hd} (hx : hs[k]? = some x) (pa : Int) : isD (lnsOf hs) ⟨k, pa⟩ = (decide (0 ≤ pa) && decide (pa ≤ x.l.cs.length)) := by
  have hk := (List.getElem?_eq_some_iff.1 hx).1
  unfold isD
  dsimp only
  rw [lnsOf_len, decide_eq_true (show (0 : Int) ≤ (k : Int) by omega), decide_eq_true (show (k : Int) < (hs.length : Int) by omega), show ((k : Int)).toNat = k from by omega, lnsOf_get hx]
  simp
theorem isD_out {hs : List Hd} {pl pa : Int} (h : ¬ (0 ≤ pl ∧ pl < hs.length)) : isD (lnsOf hs) ⟨pl, pa⟩ = false := by
  unfold isD
  dsimp only
  rw [lnsOf_len]
  by_cases c : 0 ≤ pl
  · rw [decide_eq_true c, decide_eq_false (show ¬ pl < (hs.length : Int) from fun e => h ⟨c, e⟩)]; rfl
  · rw [decide_eq_false c]; rfl
set_option maxRecDepth 100000 in
set_option maxHeartbeats 4000000 in
theorem dIs_any (hs : List Hd) (A : Option Addr) (n c C : Nat) (hn : n = hs.length) (w : World) (hd : DocAt w C A hs) (pl pa : Int) :
    Calls Tryz.prog 37 #[.slice A n c, .agg #[.int .i64 pl, .int .i64 pa]] w (IsBool (isD (lnsOf hs) ⟨pl, pa⟩) w) := by
  subst hn
  have B0 := hid ((Below.refl w.heap.size w).alloc (Nat.le_refl _) (.cells #[.int .i64 pl, .int .i64 pa] 24))
  have HS : Hid (SlAt encH 4 (w.alloc (.cells #[.int .i64 pl, .int .i64 pa] 24)) w.heap.size A hs) := hid (hd.live.row.belowM B0.out (Nat.le_refl _))
  clear hd
  by_cases c0 : 0 ≤ pl
  · obtain ⟨k, rfl⟩ : ∃ k : Nat, pl = k := ⟨pl.toNat, by omega⟩
    by_cases c1 : k < hs.length
    · obtain ⟨ad, x, rfl, -, hx, x0, x1, x2, x3⟩ := HS.out.atH c1
      have hi0 : (0 : Int) ≤ (k : Int) := by omega
      have hi1 : (k : Int) < (hs.length : Int) := by omega
      have E := hid (isD_in hx pa)
      clear hx
      by_cases c2 : 0 ≤ pa
      · by_cases c3 : pa ≤ x.l.cs.length
        · have M := hid (E.out.trans (by rw [decide_eq_true c2, decide_eq_true c3]; rfl : _ = true))
          go_enter Tryz.func37, Tryz.ntmps37
          go_wp2_with fail
          go_quiet (fail)
          go_wp2_with fail
          go_ret
          exact ⟨ret_bool M.out.symm, below_drewN B0.out _⟩
        · have M := hid (E.out.trans (by rw [decide_eq_true c2, decide_eq_false c3]; rfl : _ = false))
          have cb3 : decide (pa ≤ (x.l.cs.length : Int)) = false := decide_eq_false c3
          go_enter Tryz.func37, Tryz.ntmps37
          go_wp2_with fail
          go_quiet (fail)
          go_wp2_with fail
          go_ret
          exact ⟨ret_bool M.out.symm, below_drewN B0.out _⟩
      · have M := hid (E.out.trans (by rw [decide_eq_false c2]; rfl : _ = false))
        have cb2 : decide (0 ≤ pa) = false := decide_eq_false c2
        go_enter Tryz.func37, Tryz.ntmps37
        go_wp2_with fail
        go_quiet (fail)
        go_wp2_with fail
        go_ret
        exact ⟨ret_bool M.out.symm, below_drewN B0.out _⟩
    · have M := hid (isD_out (hs := hs) (pl := (k : Int)) (pa := pa) (by omega))
      have hi0 : (0 : Int) ≤ (k : Int) := by omega
      have hi1 : ¬ ((k : Int) < (hs.length : Int)) := by omega
      go_enter Tryz.func37, Tryz.ntmps37
      go_wp2_with fail
      go_quiet (fail)
      go_wp2_with fail
      go_ret
      exact ⟨ret_bool M.out.symm, below_drewN B0.out _⟩
  · have M := hid (isD_out (hs := hs) (pl := pl) (pa := pa) (by omega))
    have cb0 : decide (0 ≤ pl) = false := decide_eq_false c0
    go_enter Tryz.func37, Tryz.ntmps37
    go_wp2_with fail
    go_quiet (fail)
    go_wp2_with fail
    go_ret
    exact ⟨ret_bool M.out.symm, below_drewN B0.out _⟩
end Go.Proofs.YtblbfoniimnkcaaGreatDoor
