/- When a document is more than is gone through, said of lists; the walks of the reference's Long, of law25's long. -/
import Derived.Test.YtblbfoniimnkcaaGreatDoorBgKg
import Derived.Test.YtblbfoniimnkcaaGreatDoorLnIW
import Derived.BigQuiet
import Derived.Deep.QuietTactic
namespace Go.Proofs.YtblbfoniimnkcaaGreatDoor
open Go.RowKit Go.Lib

def hsumC (cs : List Cl) : Nat := (cs.map fun x : Cl => x.h.size / 8).sum
def wtL (l : Ln) : Nat := l.cs.length + l.ls.length + hsumC l.cs
def wtD (d : List Ln) : Nat := (d.map wtL).sum
def longD (d : List Ln) : Bool := decide (300 < d.length ∨ 20000 < wtD d)
theorem hsumC_take {cs : List Cl} {k : Nat} {x : Cl} (h : cs[k]? = some x) : hsumC (cs.take (k + 1)) = hsumC (cs.take k) + x.h.size / 8 := by
  unfold hsumC; rw [List.take_add_one, h]; simp
theorem hsumC_take_le (cs : List Cl) (k : Nat) : hsumC (cs.take k) ≤ hsumC cs := by
  unfold hsumC
  conv => rhs; rw [← List.take_append_drop k cs, List.map_append, List.sum_append]
  omega
theorem wtD_take {d : List Ln} {k : Nat} {l : Ln} (h : d[k]? = some l) : wtD (d.take (k + 1)) = wtD (d.take k) + wtL l := by
  unfold wtD; rw [List.take_add_one, h]; simp
theorem wtD_take_le (d : List Ln) (k : Nat) : wtD (d.take k) ≤ wtD d := by
  unfold wtD
  conv => rhs; rw [← List.take_append_drop k d, List.map_append, List.sum_append]
  omega
theorem wtL_mem {d : List Ln} {l : Ln} (h : l ∈ d) : wtL l ≤ wtD d := by
  obtain ⟨k, hk, e⟩ := List.getElem_of_mem h
  have h1 := wtD_take (List.getElem?_eq_getElem hk)
  have h2 := wtD_take_le d (k + 1)
  rw [e] at h1
  omega
theorem hsumC_mem {cs : List Cl} {x : Cl} (h : x ∈ cs) : x.h.size / 8 ≤ hsumC cs := by
  obtain ⟨k, hk, e⟩ := List.getElem_of_mem h
  have h1 := hsumC_take (List.getElem?_eq_getElem hk)
  have h2 := hsumC_take_le cs (k + 1)
  rw [e] at h1
  omega
/-- What a state that is not long holds. -/
theorem notLongD {d : List Ln} (h : longD d = false) : d.length ≤ 300 ∧ sizeD d ≤ 20000 ∧ ∀ l ∈ d, l.cs.length ≤ 20000 ∧ l.ls.length ≤ 20000 ∧ ∀ x ∈ l.cs, x.h.size ≤ 200000 := by
  unfold longD at h
  have h := of_decide_eq_false h
  refine ⟨by omega, ?_, fun l hl => ?_⟩
  · have key : ∀ d : List Ln, sizeD d ≤ wtD d := fun d => by
      unfold sizeD wtD
      induction d with
      | nil => simp
      | cons l d ih =>
        simp only [List.map_cons, List.sum_cons]
        have : l.cs.length ≤ wtL l := by unfold wtL; omega
        omega
    have := key d
    omega
  · have h1 := wtL_mem hl
    unfold wtL at h1
    refine ⟨by omega, by omega, fun x hx => ?_⟩
    have := hsumC_mem hx
    omega
set_option maxRecDepth 100000 in
set_option maxHeartbeats 8000000 in
theorem rLong7_any (hs : List Hd) (A : Option Addr) (n c C : Nat) (hn : n = hs.length) (w : World) (hd : DocAt w C A hs) (h1 : hs.length ≤ 1000000000000000) (h2 : ∀ h ∈ hs, h.l.ls.length ≤ 1000000000000000 ∧ h.l.cs.length ≤ 1000000000000000 ∧ ∀ x ∈ h.l.cs, x.h.size ≤ 1000000000000000) :
    Calls Tryz.prog 20 #[.slice A n c] w (RetQuiet (.bool (longD (lnsOf hs))) w) := by
  subst hn
  have D0 := hid h2
  have HD := hid hd
  have NL := hid (lnsOf_len hs)
  clear hd h2
  by_cases c0 : 300 < hs.length
  · have M := hid (show longD (lnsOf hs) = true by unfold longD; rw [NL.out]; exact decide_eq_true (.inl c0))
    have c1 : (300 : Int) < (hs.length : Int) := by omega
    clear c0
    go_enter Tryz.func20, Tryz.ntmps20
    go_wp2_with fail
    go_ret
    exact ⟨by rw [M.out] <;> rfl, 0, rfl⟩
  · have c1 : ¬ ((300 : Int) < (hs.length : Int)) := by omega
    have NC := hid c0
    have YES : Hid (20000 < wtD (lnsOf hs) → longD (lnsOf hs) = true) := hid (fun h => by unfold longD; exact decide_eq_true (.inr h))
    have NO : Hid (¬ 20000 < wtD (lnsOf hs) → longD (lnsOf hs) = false) := hid (fun h => by unfold longD; rw [NL.out]; exact decide_eq_false (fun e => e.elim NC.out h))
    clear c0
    go_enter Tryz.func20, Tryz.ntmps20
    go_wp2_with fail
    go_loopw [3, 4, 5] (fun s i _ wr => ∃ (k m q : Nat), k ≤ hs.length ∧ i = .int .i64 k ∧ s = .int .i64 m ∧ m ≤ 20000 ∧ Hid (m = wtD ((lnsOf hs).take k)) ∧ wr = w.drewN q) (fun _ i _ _ => hs.length - (intOf i).toNat)
    case atStart => exact ⟨0, 0, 0, Nat.zero_le _, rfl, rfl, by omega, by simp [Hid, wtD], rfl⟩
    case round =>
      obtain ⟨k, m, q, hk, rfl, rfl, hm, HM, rfl⟩ := hrel
      by_cases hlt : k < hs.length
      · obtain ⟨ad, x, rfl, -, hx, x0, x1, x2, x3⟩ := HD.out.row.atH hlt
        have hi1 : (k : Int) < (hs.length : Int) := by omega
        have q1 := (D0.out x (List.mem_of_getElem? hx))
        have HX := hid hx
        have b1 := q1.1
        have b2 := q1.2.1
        have BX := hid q1.2.2
        have WX := hid (wtD_take (lnsOf_get hx))
        clear hx q1
        go_wp2_with fail
        go_quiet (fail)
        go_wp2_with fail
        obtain ⟨z, hz⟩ : ∃ z : Nat, z = m + (x.l.cs.length + x.l.ls.length) := ⟨_, rfl⟩
        have hz' : ((m : Int) + ((x.l.cs.length : Int) + (x.l.ls.length : Int))) = (z : Int) := by omega
        rw [hz']
        have zb : z ≤ 2000000000020000 := by omega
        have HZ := hid hz
        clear hz hz'
        go_loopw [3, 5] (fun s j wr => ∃ (i t p : Nat), i ≤ x.l.cs.length ∧ j = .int .i64 i ∧ s = .int .i64 t ∧ t ≤ 3000000000020000 ∧ Hid (t = z + hsumC (x.l.cs.take i)) ∧ wr = w.drewN p) (fun _ j _ => x.l.cs.length - (intOf j).toNat)
        case atStart => exact ⟨0, z, q + nq, Nat.zero_le _, rfl, rfl, by omega, by simp [Hid, hsumC], World.drewN_drewN _ _ _⟩
        case round =>
          obtain ⟨i, t, p, hi, rfl, rfl, ht, HT, rfl⟩ := hrel
          have j0 : (i : Int) ≤ (x.l.cs.length : Int) := by omega
          have out : ¬ (i < x.l.cs.length ∧ t ≤ 20000) → 20000 < t ∨ (t ≤ 20000 ∧ t = wtD ((lnsOf hs).take (k + 1))) := fun hne => by
            by_cases h20 : 20000 < t
            · exact .inl h20
            · refine .inr ⟨by omega, ?_⟩
              have : i = x.l.cs.length := by omega
              have e := HT.out
              rw [this, List.take_length] at e
              rw [WX.out, ← HM.out, e, HZ.out]
              unfold wtL
              omega
          have OUT := hid out
          clear out
          by_cases hlt2 : i < x.l.cs.length
          · have j1 : (i : Int) < (x.l.cs.length : Int) := by omega
            by_cases h20 : t ≤ 20000
            · have j2 : (t : Int) ≤ 20000 := by omega
              obtain ⟨ad2, y, e2, -, hy, y0, y1, y2⟩ := (HD.out.ln HX.out).cs.atC hlt2
              have hys := BX.out y (List.mem_of_getElem? hy)
              have HY := hid (hsumC_take hy)
              rw [e2] at x3
              clear hy
              go_wp2_with fail
              go_roundw
              case rel => exact ⟨i + 1, t + y.h.size / 8, p, by omega, by go_num, by go_num, by omega, by show _ = _; rw [HY.out, HT.out]; omega, rfl⟩
              case measure => simp [intOf]; omega
            · have j2 : ¬ ((t : Int) ≤ 20000) := by omega
              have j3 : (20000 : Int) < (t : Int) := by omega
              have M := hid (YES.out (by
                have h1 := wtD_take_le (lnsOf hs) (k + 1)
                have h2 := hsumC_take_le x.l.cs i
                have h3 := HT.out
                have h4 := WX.out
                have h5 := HM.out
                have h6 := HZ.out
                unfold wtL at h4
                omega))
              go_wp2_with fail
              go_ret
              exact ⟨by rw [M.out] <;> rfl, p, rfl⟩
          · have j1 : ¬ ((i : Int) < (x.l.cs.length : Int)) := by omega
            rcases OUT.out (fun h => hlt2 h.1) with h20 | ⟨h20, he⟩
            · have j3 : (20000 : Int) < (t : Int) := by omega
              have M := hid (YES.out (by
                have h1 := wtD_take_le (lnsOf hs) (k + 1)
                have h2 := hsumC_take_le x.l.cs i
                have h3 := HT.out
                have h4 := WX.out
                have h5 := HM.out
                have h6 := HZ.out
                unfold wtL at h4
                omega))
              go_wp2_with fail
              go_ret
              exact ⟨by rw [M.out] <;> rfl, p, rfl⟩
            · have j3 : ¬ ((20000 : Int) < (t : Int)) := by omega
              have HE := hid he
              clear he
              go_wp2_with fail
              go_roundw
              case rel => exact ⟨k + 1, t, p, by omega, by go_num, rfl, h20, HE, rfl⟩
              case measure => simp [intOf]; omega
      · obtain rfl : k = hs.length := by omega
        have M := hid (NO.out (by
          have e := HM.out
          rw [List.take_of_length_le (by rw [NL.out]; exact Nat.le_refl _)] at e
          omega))
        go_wp2_with fail
        go_ret
        exact ⟨by rw [M.out] <;> rfl, q, rfl⟩
set_option maxHeartbeats 4000000 in
theorem long25_any (hs : List Hd) (A : Option Addr) (n c C : Nat) (al aa fl fa on off : Int) (hn : n = hs.length) (w : World) (hd : DocAt w C A hs) (h1 : hs.length ≤ 1000000000000000) (h2 : ∀ h ∈ hs, h.l.ls.length ≤ 1000000000000000 ∧ h.l.cs.length ≤ 1000000000000000 ∧ ∀ x ∈ h.l.cs, x.h.size ≤ 1000000000000000) :
    Calls Tryz.prog 5 #[.agg #[.slice A n c, .int .i64 al, .int .i64 aa, .int .i64 fl, .int .i64 fa, .int .i64 on, .int .i64 off]] w (IsBool (longD (lnsOf hs)) w) := by
  subst hn
  have K := hid (KG.start w [⟨hs, A, false⟩] (by simpa using hd.live))
  have H2 := hid h2
  clear hd h2
  go_enter Tryz.func5, Tryz.ntmps5
  go_wp2_with (first
    | ((with_reducible show wpList _ _ _ _ _ _); refine kgBox (by rfl) 26 _ (by rfl) (some 1) (by rfl) (by rfl) [_, _, _, _, _, _, _] (by rfl) K ?_; intro g1 V1 K1; clear K; (have K := K1); clear K1)
    | ((with_reducible show wpList _ _ _ _ _ _); refine kgLoad1 (by rfl) 22 _ (by rfl) _ Tryz.underlying22 rfl K (by rfl) (by repeat (first | exact List.mem_cons_self | refine List.mem_cons_of_mem _ ?_)) (by rfl) ?_)
    | (go_at_call 20; (with_reducible refine (rLong7_any hs A _ c _ rfl _ (K.out.at_ (d := ⟨hs, A, false⟩) (by simp)) h1 H2.out).mono ?_); rintro e W2 ⟨rfl, hq⟩; (have K2 := hid (K.out.quiet hq)); clear hq K; (have K := K2); clear K2))
  go_ret
  exact ⟨rfl, K.out.b⟩
end Go.Proofs.YtblbfoniimnkcaaGreatDoor
