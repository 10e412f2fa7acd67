/- The walks of the reference's Kind, Listed of states. (Printed by wip/bldoc.py.) -/
import Derived.Test.YtblbfoniimnkcaaGreatDoorRMay23
import Derived.Test.YtblbfoniimnkcaaGreatDoorRSpan23
import Derived.Test.YtblbfoniimnkcaaGreatDoorBlKind
import Derived.Test.YtblbfoniimnkcaaGreatDoorBlListed
import Derived.Test.YtblbfoniimnkcaaGreatDoorBgPl
import Derived.BigQuiet
import Derived.Deep.QuietTactic
namespace Go.Proofs.YtblbfoniimnkcaaGreatDoor
open Go.RowKit Go.Lib

theorem kindS_at {s : Stt} (hm : mayS s = true) {f : Nat} (hf : (fromS s).l.toNat = f) {x : Ln} (hx : s.d[f]? = some x) : kindS s = if (sel s).all (fun l => decide (l.ls.length = 0) && decide (l.k = x.k)) then (x.k, true) else (0, false) := by
  obtain ⟨b1, b2, b3, -⟩ := mayS_in hm
  have h0 : (sel s)[0]? = some x := by
    unfold sel
    rw [selF_get _ (by omega), hf, Nat.add_zero]
    exact hx
  unfold kindS
  rw [if_pos hm]
  cases hs : sel s with
  | nil => rw [hs] at h0; cases h0
  | cons y ys =>
    rw [hs] at h0
    obtain rfl : y = x := Option.some.inj h0
    rfl
theorem kindS_yes {s : Stt} {hs : List Hd} (hd : s.d = lnsOf hs) (hm : mayS s = true) {f t : Nat} (hf : (fromS s).l.toNat = f) (hn : selN s = t + 1 - f) (hft : f ≤ t) {x : Hd} (hx : hs[f]? = some x) (h : ∀ (j : Nat) (y : Hd), f ≤ j → j < t + 1 → hs[j]? = some y → y.l.ls.length = 0 ∧ y.l.k = x.l.k) : kindS s = (x.l.k, true) := by
  rw [kindS_at hm hf (by rw [hd]; exact lnsOf_get hx), if_pos]
  rw [sel_all hm, hf, hn]
  intro k l h1 h2 h3
  rw [hd] at h3
  unfold lnsOf at h3
  rw [List.getElem?_map] at h3
  cases hy : hs[k]? with
  | none => rw [hy] at h3; cases h3
  | some y =>
    rw [hy] at h3
    obtain rfl : y.l = l := Option.some.inj h3
    obtain ⟨q1, q2⟩ := h k y h1 (by omega) hy
    rw [decide_eq_true q1, decide_eq_true q2]
    rfl
theorem kindS_no {s : Stt} {hs : List Hd} (hd : s.d = lnsOf hs) (hm : mayS s = true) {f t : Nat} (hf : (fromS s).l.toNat = f) (hn : selN s = t + 1 - f) {x y : Hd} (hx : hs[f]? = some x) {k : Nat} (h1 : f ≤ k) (h2 : k ≤ t) (hy : hs[k]? = some y) (h : ¬ (y.l.ls.length = 0 ∧ y.l.k = x.l.k)) : kindS s = (0, false) := by
  rw [kindS_at hm hf (by rw [hd]; exact lnsOf_get hx), if_neg]
  rw [sel_all hm, hf, hn]
  intro hall
  have := hall k y.l h1 (by omega) (by rw [hd]; exact lnsOf_get hy)
  simp only [Bool.and_eq_true, decide_eq_true_eq] at this
  exact h this
theorem listedS_at {s : Stt} {hs : List Hd} (hd : s.d = lnsOf hs) (hm : mayS s = true) {f t : Nat} (hf : (fromS s).l.toNat = f) (hn : selN s = t + 1 - f) (kind : Int) (a b : Bool)
    (ha : a = true ↔ ∀ (j : Nat) (y : Hd), f ≤ j → j < t + 1 → hs[j]? = some y → listedL kind y.l = true) (hb : b = false ↔ ∀ (j : Nat) (y : Hd), f ≤ j → j < t + 1 → hs[j]? = some y → listedL kind y.l = false) : listedS s kind = (a, b) := by
  unfold listedS
  rw [if_pos hm]
  have key : ∀ p : Ln → Bool, (sel s).all p = true ↔ ∀ (j : Nat) (y : Hd), f ≤ j → j < t + 1 → hs[j]? = some y → p y.l = true := fun p => by
    rw [sel_all hm, hf, hn, hd]
    constructor
    · intro h j y h1 h2 h3
      exact h j y.l h1 (by omega) (lnsOf_get h3)
    · intro h k l h1 h2 h3
      unfold lnsOf at h3
      rw [List.getElem?_map] at h3
      cases hy : hs[k]? with
      | none => rw [hy] at h3; cases h3
      | some y =>
        rw [hy] at h3
        obtain rfl : y.l = l := Option.some.inj h3
        exact h k y h1 (by omega) hy
  have e1 : (sel s).all (listedL kind) = a := by rw [Bool.eq_iff_iff, key, ha]
  have e2 : (sel s).any (listedL kind) = b := by
    have h1 : (sel s).any (listedL kind) = !((sel s).all fun l => !listedL kind l) := by
      rw [List.not_all_eq_any_not]
      simp
    have h2 : ((sel s).all fun l => !listedL kind l) = true ↔ b = false := by
      rw [key, hb]
      simp
    rw [h1]
    cases b with
    | false => rw [h2.2 rfl]; rfl
    | true =>
      cases h3 : (sel s).all fun l => !listedL kind l with
      | false => rfl
      | true => cases h2.1 h3
  rw [e1, e2]
set_option maxRecDepth 100000 in
set_option maxHeartbeats 8000000 in
theorem rKind25_any (hs : List Hd) (A : Option Addr) (n c C : Nat) (hn : n = hs.length) (w : World) (hd : DocAt w C A hs) (h1 : hs.length ≤ 1000) (h2 : ∀ h ∈ hs, h.l.ls.length ≤ 1000000 ∧ h.l.cs.length ≤ 1000000) (hf : ∀ h ∈ hs, FineC h.l.cs) (al aa fl fa on off : Int) (w1 : (Lit.int .i64 on).wf = true) (w2 : (Lit.int .i64 off).wf = true) :
    Calls Tryz.prog 8 #[.agg #[.slice A n c, .int .i64 al, .int .i64 aa, .int .i64 fl, .int .i64 fa, .int .i64 on, .int .i64 off]] w (IsKB (kindS ⟨lnsOf hs, ⟨al, aa⟩, ⟨fl, fa⟩, on, off⟩) w) := by
  subst hn
  have D0 := hid h2
  have L0 := hid h1
  have K := hid (KG.start w [⟨hs, A, false⟩] (by simpa using hd.live))
  have FI := hid hf
  have W1 := hid w1
  have W2 := hid w2
  clear hd h2 hf w1 w2
  cases hb : mayS ⟨lnsOf hs, ⟨al, aa⟩, ⟨fl, fa⟩, on, off⟩ with
  | false =>
    have MB := hid hb
    have KZ := hid (show kindS ⟨lnsOf hs, ⟨al, aa⟩, ⟨fl, fa⟩, on, off⟩ = (0, false) by unfold kindS; rw [hb]; rfl)
    rw [KZ.out]
    clear hb
    go_enter Tryz.func8, Tryz.ntmps8
    go_wp2_with (first
      | go_big_skip
      | ((with_reducible show wpList _ _ _ _ _ _); refine kgBox (by rfl) 26 _ (by rfl) (some 1) (by rfl) (by rfl) [_, _, _, _, _, _, _] (by rfl) K ?_; intro g1 V1 K1; clear K; (have K := K1); clear K1)
      | ((with_reducible show wpList _ _ _ _ _ _); refine kgLoadA (by rfl) 26 _ (by rfl) 7 _ Tryz.underlying26 rfl (by kernel_rfl) K (by rfl) (by repeat (first | exact List.mem_cons_self | refine List.mem_cons_of_mem _ ?_)) (part := [_, _, _, _, _, _, _]) (by rfl) (by rfl) ?_)
      | (go_at_call 23; (with_reducible refine (rMay23_any hs A _ c _ rfl _ (K.out.at_ (d := ⟨hs, A, false⟩) (by simp)) L0.out D0.out FI.out al aa fl fa on off W1.out W2.out).mono ?_); rintro e WM ⟨rfl, hb⟩; rw [MB.out]; (have K2 := hid (K.out.later hb)); clear hb K; (have K := K2); clear K2))
    go_ret2
    exact ⟨rfl, K.out.b⟩
  | true =>
    have MB := hid hb
    obtain ⟨f, t, pa, qa, hp, hq, hft, htl, hln, hfn, hsn⟩ := span_nat hb
    have HP := hid hp
    have HQ := hid hq
    have hB := hid hb
    have FN := hid hfn
    have SN := hid hsn
    dsimp only at htl hln
    rw [lnsOf_len] at htl hln
    have hf0 : (0 : Int) ≤ (f : Int) := by omega
    have ht3 : (t : Int) ≤ 300 := by omega
    clear hp hq hfn hsn
    obtain ⟨x, hx⟩ : ∃ x, hs[f]? = some x := ⟨_, List.getElem?_eq_getElem (by omega)⟩
    have HX := hid hx
    have KY := hid (fun h => kindS_yes (s := ⟨lnsOf hs, ⟨al, aa⟩, ⟨fl, fa⟩, on, off⟩) rfl hb FN.out SN.out hft hx h)
    have KN := hid (fun (k : Nat) (y : Hd) (h1 : f ≤ k) (h2 : k ≤ t) hy h => kindS_no (s := ⟨lnsOf hs, ⟨al, aa⟩, ⟨fl, fa⟩, on, off⟩) rfl hb FN.out SN.out hx h1 h2 (y := y) (k := k) hy h)
    have hif : (f : Int) < (hs.length : Int) := by omega
    obtain ⟨ad, -, rfl, -, -, -⟩ := (K.out.at_ (d := ⟨hs, A, false⟩) (by simp)).row.atH (show f < hs.length by omega)
    clear hb hx
    go_enter Tryz.func8, Tryz.ntmps8
    go_wp2_with (first
      | go_big_skip
      | ((with_reducible show wpList _ _ _ _ _ _); refine kgBox (by rfl) 26 _ (by rfl) (some 1) (by rfl) (by rfl) [_, _, _, _, _, _, _] (by rfl) K ?_; intro g1 V1 K1; clear K; (have K := K1); clear K1)
      | ((with_reducible show wpList _ _ _ _ _ _); refine kgLoadA (by rfl) 26 _ (by rfl) 7 _ Tryz.underlying26 rfl (by kernel_rfl) K (by rfl) (by repeat (first | exact List.mem_cons_self | refine List.mem_cons_of_mem _ ?_)) (part := [_, _, _, _, _, _, _]) (by rfl) (by rfl) ?_)
      | (go_at_call 23; (with_reducible refine (rMay23_any hs (some ad) _ c _ rfl _ (K.out.at_ (d := ⟨hs, some ad, false⟩) (by simp)) L0.out D0.out FI.out al aa fl fa on off W1.out W2.out).mono ?_); rintro e WM ⟨rfl, hb⟩; rw [MB.out]; (have K2 := hid (K.out.later hb)); clear hb K; (have K := K2); clear K2)
      | (go_at_call 24; (with_reducible refine (rSpan23_any (lnsOf hs) (some ad) _ c al aa fl fa on off _).mono ?_); rintro e W3 ⟨rfl, hb⟩; rw [HP.out, HQ.out]; unfold psV; dsimp only; (have K2 := hid (K.out.later hb)); clear hb K; (have K := K2); clear K2)
      | ((with_reducible show wpList _ _ _ _ _ _); refine kgAlloc (by rfl) 24 (by rfl) (some 4) (by rfl) [.int .i64 0, .int .i64 0] (fun _ => by kernel_rfl) K ?_; intro g4 V1 K1; clear K; (have K := K1); clear K1)
      | ((with_reducible show wpList _ _ _ _ _ _); refine kgAlloc (by rfl) 24 (by rfl) (some 5) (by rfl) [.int .i64 0, .int .i64 0] (fun _ => by kernel_rfl) K ?_; intro g5 V1 K1; clear K; (have K := K1); clear K1)
      | ((with_reducible show wpList _ _ _ _ _ _); refine kgStore (by rfl) 24 (.tmp 4) _ (by rfl) 2 (by kernel_rfl) [_] (by exact K) (by rfl) (by rfl) [_, _] (by rfl) (by rfl) (by simp) (by simp [Value.oneCell']) (cs := [_, _]) (by rfl) ?_; intro V2 K1; (dsimp only [List.cons_append, List.nil_append] at K1); clear K; (have K := K1); clear K1)
      | ((with_reducible show wpList _ _ _ _ _ _); refine kgStore (by rfl) 24 (.tmp 5) _ (by rfl) 2 (by kernel_rfl) [] (by exact K) (by rfl) (by rfl) [_, _] (by rfl) (by rfl) (by simp) (by simp [Value.oneCell']) (cs := [_, _]) (by rfl) ?_; intro V2 K1; (dsimp only [List.cons_append, List.nil_append] at K1); clear K; (have K := K1); clear K1)
      | ((with_reducible show wpList _ _ _ _ _ _); refine kgLoad1 (by rfl) 22 _ (by rfl) _ Tryz.underlying22 rfl K (by rfl) (by repeat (first | exact List.mem_cons_self | refine List.mem_cons_of_mem _ ?_)) (by rfl) ?_)
      | ((with_reducible show wpList _ _ _ _ _ _); refine kgLoad1 (by rfl) 3 _ (by rfl) _ Tryz.underlying3 rfl K (by rfl) (by repeat (first | exact List.mem_cons_self | refine List.mem_cons_of_mem _ ?_)) (by rfl) ?_)
      | ((with_reducible show wpList _ _ _ _ _ _); refine kgElem1 (by rfl) 3 _ (by rfl) _ Tryz.underlying3 rfl K (by rfl) (by repeat (first | exact List.mem_cons_self | refine List.mem_cons_of_mem _ ?_)) HX.out (by decide) (by rfl) ?_))
    go_loopw [7] (fun i wr => ∃ (k : Nat), f ≤ k ∧ k ≤ t + 1 ∧ i = .int .i64 (k : Int) ∧ Hid (∀ (j : Nat) (y : Hd), f ≤ j → j < k → hs[j]? = some y → y.l.ls.length = 0 ∧ y.l.k = x.l.k) ∧ Hid (KG w wr [⟨g5, 24, [.int .i64 (t : Int), .int .i64 qa]⟩, ⟨g4, 24, [.int .i64 (f : Int), .int .i64 pa]⟩, ⟨g1, 26, [.slice (some ad) hs.length c, .int .i64 al, .int .i64 aa, .int .i64 fl, .int .i64 fa, .int .i64 on, .int .i64 off]⟩] [⟨hs, some ad, false⟩])) (fun i _ => t + 1 - (intOf i).toNat)
    case atStart => exact ⟨f, Nat.le_refl _, by omega, rfl, hid (fun j y h1 h2 => by omega), K⟩
    case round =>
      clear K
      obtain ⟨k, hfk, hkt, rfl, HA, K⟩ := hrel
      have hk3 : (k : Int) ≤ 301 := by omega
      by_cases hlt : k ≤ t
      · have hi1 : (k : Int) ≤ (t : Int) := by omega
        have hi2 : (k : Int) < (hs.length : Int) := by omega
        obtain ⟨y, hy⟩ : ∃ y, hs[k]? = some y := ⟨_, List.getElem?_eq_getElem (by omega)⟩
        have HY := hid hy
        by_cases p1 : 0 < y.l.ls.length
        · have p1' : (0 : Int) < (y.l.ls.length : Int) := by omega
          have KZ := hid (KN.out k y hfk hlt hy (fun h => by omega))
          clear hy
          go_wp2_with (first
            | go_big_skip
            | ((with_reducible show wpList _ _ _ _ _ _); refine kgLoad1 (by rfl) 3 _ (by rfl) _ Tryz.underlying3 rfl K (by rfl) (by repeat (first | exact List.mem_cons_self | refine List.mem_cons_of_mem _ ?_)) (by rfl) ?_)
            | ((with_reducible show wpList _ _ _ _ _ _); refine kgLoad1 (by rfl) 22 _ (by rfl) _ Tryz.underlying22 rfl K (by rfl) (by repeat (first | exact List.mem_cons_self | refine List.mem_cons_of_mem _ ?_)) (by rfl) ?_)
            | ((with_reducible show wpList _ _ _ _ _ _); refine kgElem1 (by rfl) 43 _ (by rfl) _ Tryz.underlying43 rfl K (by rfl) (by repeat (first | exact List.mem_cons_self | refine List.mem_cons_of_mem _ ?_)) HY.out (by decide) (by rfl) ?_)
            | ((with_reducible show wpList _ _ _ _ _ _); refine kgElem1 (by rfl) 3 _ (by rfl) _ Tryz.underlying3 rfl K (by rfl) (by repeat (first | exact List.mem_cons_self | refine List.mem_cons_of_mem _ ?_)) HY.out (by decide) (by rfl) ?_))
          go_ret2
          exact ⟨by first | rfl | (rw [KZ.out]; rfl) | (rw [KZ.out]), K.out.b⟩
        · have p1' : decide ((0 : Int) < (y.l.ls.length : Int)) = false := decide_eq_false (by omega)
          have p1n : ¬ (0 : Int) < (y.l.ls.length : Int) := by omega
          have p1m : decide (0 < y.l.ls.length) = false := decide_eq_false p1
          by_cases p2 : y.l.k = x.l.k
          · have p2' : (y.l.k != x.l.k) = false := bne_eq_false_iff_eq.2 p2
            have PZ := hid (show y.l.ls.length = 0 ∧ y.l.k = x.l.k from ⟨by omega, p2⟩)
            clear hy p2 p1
            go_wp2_with (first
              | go_big_skip
              | ((with_reducible show wpList _ _ _ _ _ _); refine kgLoad1 (by rfl) 3 _ (by rfl) _ Tryz.underlying3 rfl K (by rfl) (by repeat (first | exact List.mem_cons_self | refine List.mem_cons_of_mem _ ?_)) (by rfl) ?_)
              | ((with_reducible show wpList _ _ _ _ _ _); refine kgLoad1 (by rfl) 22 _ (by rfl) _ Tryz.underlying22 rfl K (by rfl) (by repeat (first | exact List.mem_cons_self | refine List.mem_cons_of_mem _ ?_)) (by rfl) ?_)
              | ((with_reducible show wpList _ _ _ _ _ _); refine kgElem1 (by rfl) 43 _ (by rfl) _ Tryz.underlying43 rfl K (by rfl) (by repeat (first | exact List.mem_cons_self | refine List.mem_cons_of_mem _ ?_)) HY.out (by decide) (by rfl) ?_)
              | ((with_reducible show wpList _ _ _ _ _ _); refine kgElem1 (by rfl) 3 _ (by rfl) _ Tryz.underlying3 rfl K (by rfl) (by repeat (first | exact List.mem_cons_self | refine List.mem_cons_of_mem _ ?_)) HY.out (by decide) (by rfl) ?_))
            go_roundw
            case rel =>
              refine ⟨k + 1, by omega, by omega, by go_num, hid (fun j z h1 h2 h3 => ?_), K⟩
              by_cases e : j = k
              · subst e
                rw [HY.out] at h3
                injection h3 with h3
                subst h3
                exact PZ.out
              · exact HA.out j z h1 (by omega) h3
            case measure => simp [intOf]; omega
          · have p2' : (y.l.k != x.l.k) = true := bne_iff_ne.2 p2
            have KZ := hid (KN.out k y hfk hlt hy (fun h => p2 h.2))
            clear hy p2 p1
            go_wp2_with (first
              | go_big_skip
              | ((with_reducible show wpList _ _ _ _ _ _); refine kgLoad1 (by rfl) 3 _ (by rfl) _ Tryz.underlying3 rfl K (by rfl) (by repeat (first | exact List.mem_cons_self | refine List.mem_cons_of_mem _ ?_)) (by rfl) ?_)
              | ((with_reducible show wpList _ _ _ _ _ _); refine kgLoad1 (by rfl) 22 _ (by rfl) _ Tryz.underlying22 rfl K (by rfl) (by repeat (first | exact List.mem_cons_self | refine List.mem_cons_of_mem _ ?_)) (by rfl) ?_)
              | ((with_reducible show wpList _ _ _ _ _ _); refine kgElem1 (by rfl) 43 _ (by rfl) _ Tryz.underlying43 rfl K (by rfl) (by repeat (first | exact List.mem_cons_self | refine List.mem_cons_of_mem _ ?_)) HY.out (by decide) (by rfl) ?_)
              | ((with_reducible show wpList _ _ _ _ _ _); refine kgElem1 (by rfl) 3 _ (by rfl) _ Tryz.underlying3 rfl K (by rfl) (by repeat (first | exact List.mem_cons_self | refine List.mem_cons_of_mem _ ?_)) HY.out (by decide) (by rfl) ?_))
            go_ret2
            exact ⟨by first | rfl | (rw [KZ.out]; rfl) | (rw [KZ.out]), K.out.b⟩
      · have hi1 : ¬ (k : Int) ≤ (t : Int) := by omega
        have hi2 : decide ((k : Int) ≤ (t : Int)) = false := decide_eq_false hi1
        obtain rfl : k = t + 1 := by omega
        have KZ := hid (KY.out (fun j y h1 h2 h3 => HA.out j y h1 h2 h3))
        go_wp2_with (first
          | go_big_skip
          | ((with_reducible show wpList _ _ _ _ _ _); refine kgLoad1 (by rfl) 3 _ (by rfl) _ Tryz.underlying3 rfl K (by rfl) (by repeat (first | exact List.mem_cons_self | refine List.mem_cons_of_mem _ ?_)) (by rfl) ?_))
        go_ret2
        exact ⟨by first | rfl | (rw [KZ.out]; rfl) | (rw [KZ.out]), K.out.b⟩
set_option maxRecDepth 100000 in
set_option maxHeartbeats 8000000 in
theorem rListed25_any (hs : List Hd) (A : Option Addr) (n c C : Nat) (hn : n = hs.length) (w : World) (hd : DocAt w C A hs) (h1 : hs.length ≤ 1000) (h2 : ∀ h ∈ hs, h.l.ls.length ≤ 1000000 ∧ h.l.cs.length ≤ 1000000) (hf : ∀ h ∈ hs, FineC h.l.cs) (al aa fl fa on off kind : Int) (w1 : (Lit.int .i64 on).wf = true) (w2 : (Lit.int .i64 off).wf = true) :
    Calls Tryz.prog 10 #[.agg #[.slice A n c, .int .i64 al, .int .i64 aa, .int .i64 fl, .int .i64 fa, .int .i64 on, .int .i64 off], .int .i64 kind] w (IsBB (listedS ⟨lnsOf hs, ⟨al, aa⟩, ⟨fl, fa⟩, on, off⟩ kind) w) := by
  subst hn
  have D0 := hid h2
  have L0 := hid h1
  have K := hid (KG.start w [⟨hs, A, false⟩] (by simpa using hd.live))
  have FI := hid hf
  have W1 := hid w1
  have W2 := hid w2
  clear hd h2 hf w1 w2
  cases hb : mayS ⟨lnsOf hs, ⟨al, aa⟩, ⟨fl, fa⟩, on, off⟩ with
  | false =>
    have MB := hid hb
    have KZ := hid (show listedS ⟨lnsOf hs, ⟨al, aa⟩, ⟨fl, fa⟩, on, off⟩ kind = (false, false) by unfold listedS; rw [hb]; rfl)
    rw [KZ.out]
    clear hb
    go_enter Tryz.func10, Tryz.ntmps10
    go_wp2_with (first
      | go_big_skip
      | ((with_reducible show wpList _ _ _ _ _ _); refine kgBox (by rfl) 26 _ (by rfl) (some 2) (by rfl) (by rfl) [_, _, _, _, _, _, _] (by rfl) K ?_; intro g2 V1 K1; clear K; (have K := K1); clear K1)
      | ((with_reducible show wpList _ _ _ _ _ _); refine kgLoadA (by rfl) 26 _ (by rfl) 7 _ Tryz.underlying26 rfl (by kernel_rfl) K (by rfl) (by repeat (first | exact List.mem_cons_self | refine List.mem_cons_of_mem _ ?_)) (part := [_, _, _, _, _, _, _]) (by rfl) (by rfl) ?_)
      | (go_at_call 23; (with_reducible refine (rMay23_any hs A _ c _ rfl _ (K.out.at_ (d := ⟨hs, A, false⟩) (by simp)) L0.out D0.out FI.out al aa fl fa on off W1.out W2.out).mono ?_); rintro e WM ⟨rfl, hb⟩; rw [MB.out]; (have K2 := hid (K.out.later hb)); clear hb K; (have K := K2); clear K2))
    go_ret2
    exact ⟨rfl, K.out.b⟩
  | true =>
    have MB := hid hb
    obtain ⟨f, t, pa, qa, hp, hq, hft, htl, hln, hfn, hsn⟩ := span_nat hb
    have HP := hid hp
    have HQ := hid hq
    have hB := hid hb
    have FN := hid hfn
    have SN := hid hsn
    dsimp only at htl hln
    rw [lnsOf_len] at htl hln
    have hf0 : (0 : Int) ≤ (f : Int) := by omega
    have ht3 : (t : Int) ≤ 300 := by omega
    clear hp hq hfn hsn
    have LZ := hid (fun a b ha hb2 => listedS_at (s := ⟨lnsOf hs, ⟨al, aa⟩, ⟨fl, fa⟩, on, off⟩) rfl hb FN.out SN.out kind a b ha hb2)
    obtain ⟨ad, -, rfl, -, -, -⟩ := (K.out.at_ (d := ⟨hs, A, false⟩) (by simp)).row.atH (show f < hs.length by omega)
    clear hb
    go_enter Tryz.func10, Tryz.ntmps10
    go_wp2_with (first
      | go_big_skip
      | ((with_reducible show wpList _ _ _ _ _ _); refine kgBox (by rfl) 26 _ (by rfl) (some 2) (by rfl) (by rfl) [_, _, _, _, _, _, _] (by rfl) K ?_; intro g2 V1 K1; clear K; (have K := K1); clear K1)
      | ((with_reducible show wpList _ _ _ _ _ _); refine kgLoadA (by rfl) 26 _ (by rfl) 7 _ Tryz.underlying26 rfl (by kernel_rfl) K (by rfl) (by repeat (first | exact List.mem_cons_self | refine List.mem_cons_of_mem _ ?_)) (part := [_, _, _, _, _, _, _]) (by rfl) (by rfl) ?_)
      | (go_at_call 23; (with_reducible refine (rMay23_any hs (some ad) _ c _ rfl _ (K.out.at_ (d := ⟨hs, some ad, false⟩) (by simp)) L0.out D0.out FI.out al aa fl fa on off W1.out W2.out).mono ?_); rintro e WM ⟨rfl, hb⟩; rw [MB.out]; (have K2 := hid (K.out.later hb)); clear hb K; (have K := K2); clear K2)
      | (go_at_call 24; (with_reducible refine (rSpan23_any (lnsOf hs) (some ad) _ c al aa fl fa on off _).mono ?_); rintro e W3 ⟨rfl, hb⟩; rw [HP.out, HQ.out]; unfold psV; dsimp only; (have K2 := hid (K.out.later hb)); clear hb K; (have K := K2); clear K2)
      | ((with_reducible show wpList _ _ _ _ _ _); refine kgAlloc (by rfl) 24 (by rfl) (some 6) (by rfl) [.int .i64 0, .int .i64 0] (fun _ => by kernel_rfl) K ?_; intro g6 V1 K1; clear K; (have K := K1); clear K1)
      | ((with_reducible show wpList _ _ _ _ _ _); refine kgAlloc (by rfl) 24 (by rfl) (some 7) (by rfl) [.int .i64 0, .int .i64 0] (fun _ => by kernel_rfl) K ?_; intro g7 V1 K1; clear K; (have K := K1); clear K1)
      | ((with_reducible show wpList _ _ _ _ _ _); refine kgStore (by rfl) 24 (.tmp 6) _ (by rfl) 2 (by kernel_rfl) [_] (by exact K) (by rfl) (by rfl) [_, _] (by rfl) (by rfl) (by simp) (by simp [Value.oneCell']) (cs := [_, _]) (by rfl) ?_; intro V2 K1; (dsimp only [List.cons_append, List.nil_append] at K1); clear K; (have K := K1); clear K1)
      | ((with_reducible show wpList _ _ _ _ _ _); refine kgStore (by rfl) 24 (.tmp 7) _ (by rfl) 2 (by kernel_rfl) [] (by exact K) (by rfl) (by rfl) [_, _] (by rfl) (by rfl) (by simp) (by simp [Value.oneCell']) (cs := [_, _]) (by rfl) ?_; intro V2 K1; (dsimp only [List.cons_append, List.nil_append] at K1); clear K; (have K := K1); clear K1)
      | ((with_reducible show wpList _ _ _ _ _ _); refine kgLoad1 (by rfl) 3 _ (by rfl) _ Tryz.underlying3 rfl K (by rfl) (by repeat (first | exact List.mem_cons_self | refine List.mem_cons_of_mem _ ?_)) (by rfl) ?_))
    go_loopw [8, 9] (fun v i wr => ∃ (k m : Nat), f ≤ k ∧ k ≤ t + 1 ∧ v = .int .i64 (m : Int) ∧ i = .int .i64 (k : Int) ∧ m ≤ k - f ∧ Hid (m = k - f ↔ ∀ (j : Nat) (y : Hd), f ≤ j → j < k → hs[j]? = some y → listedL kind y.l = true) ∧ Hid (m = 0 ↔ ∀ (j : Nat) (y : Hd), f ≤ j → j < k → hs[j]? = some y → listedL kind y.l = false) ∧ Hid (KG w wr [⟨g7, 24, [.int .i64 (t : Int), .int .i64 qa]⟩, ⟨g6, 24, [.int .i64 (f : Int), .int .i64 pa]⟩, ⟨g2, 26, [.slice (some ad) hs.length c, .int .i64 al, .int .i64 aa, .int .i64 fl, .int .i64 fa, .int .i64 on, .int .i64 off]⟩] [⟨hs, some ad, false⟩])) (fun _ i _ => t + 1 - (intOf i).toNat)
    case atStart => exact ⟨f, 0, Nat.le_refl _, by omega, rfl, rfl, Nat.zero_le _, hid ⟨fun _ j y h1 h2 => by omega, fun _ => by omega⟩, hid ⟨fun _ j y h1 h2 => by omega, fun _ => rfl⟩, K⟩
    case round =>
      clear K
      obtain ⟨k, m, hfk, hkt, rfl, rfl, hmk, HA, HB, K⟩ := hrel
      have hk3 : (k : Int) ≤ 301 := by omega
      have hm3 : (m : Int) ≤ 301 := by omega
      by_cases hlt : k ≤ t
      · have hi1 : (k : Int) ≤ (t : Int) := by omega
        have hi2 : (k : Int) < (hs.length : Int) := by omega
        obtain ⟨y, hy⟩ : ∃ y, hs[k]? = some y := ⟨_, List.getElem?_eq_getElem (by omega)⟩
        have HY := hid hy
        have LY := hid ((K.out.at_ (d := ⟨hs, some ad, false⟩) (by simp)).ln hy).ls
        have Y6 := hid (D0.out y (List.mem_of_getElem? hy)).1
        have HLT := hid hlt
        have YES := hid (show listedL kind y.l = true → (m + 1 = k + 1 - f ↔ ∀ (j : Nat) (z : Hd), f ≤ j → j < k + 1 → hs[j]? = some z → listedL kind z.l = true) ∧ (m + 1 = 0 ↔ ∀ (j : Nat) (z : Hd), f ≤ j → j < k + 1 → hs[j]? = some z → listedL kind z.l = false) from fun hl => by
          refine ⟨⟨fun h j z h1 h2 h3 => ?_, fun h => ?_⟩, fun h => by omega, fun h => ?_⟩
          · by_cases e : j = k
            · subst e
              rw [HY.out] at h3
              injection h3 with h3
              subst h3
              exact hl
            · exact HA.out.1 (by omega) j z h1 (by omega) h3
          · have := HA.out.2 fun j z h1 h2 h3 => h j z h1 (by omega) h3
            omega
          · have := h k y hfk (by omega) HY.out
            rw [hl] at this
            cases this)
        have NO := hid (show listedL kind y.l = false → (m = k + 1 - f ↔ ∀ (j : Nat) (z : Hd), f ≤ j → j < k + 1 → hs[j]? = some z → listedL kind z.l = true) ∧ (m = 0 ↔ ∀ (j : Nat) (z : Hd), f ≤ j → j < k + 1 → hs[j]? = some z → listedL kind z.l = false) from fun hl => by
          refine ⟨⟨fun h => by omega, fun h => ?_⟩, fun h j z h1 h2 h3 => ?_, fun h => ?_⟩
          · have := h k y hfk (by omega) HY.out
            rw [hl] at this
            cases this
          · by_cases e : j = k
            · subst e
              rw [HY.out] at h3
              injection h3 with h3
              subst h3
              exact hl
            · exact HB.out.1 h j z h1 (by omega) h3
          · exact HB.out.2 fun j z h1 h2 h3 => h j z h1 (by omega) h3)
        clear hy
        obtain ⟨n, hn⟩ : ∃ n, y.l.ls.length = n := ⟨_, rfl⟩
        cases n with
        | zero =>
          have LN := hid (NO.out (by unfold listedL; rw [hn]; rfl))
          have HN := hid hn
          clear hn hlt
          go_wp2_with (first
            | go_big_skip
            | ((with_reducible show wpList _ _ _ _ _ _); refine kgLoad1 (by rfl) 3 _ (by rfl) _ Tryz.underlying3 rfl K (by rfl) (by repeat (first | exact List.mem_cons_self | refine List.mem_cons_of_mem _ ?_)) (by rfl) ?_)
            | ((with_reducible show wpList _ _ _ _ _ _); refine kgLoad1 (by rfl) 22 _ (by rfl) _ Tryz.underlying22 rfl K (by rfl) (by repeat (first | exact List.mem_cons_self | refine List.mem_cons_of_mem _ ?_)) (by rfl) ?_)
            | ((with_reducible show wpList _ _ _ _ _ _); refine kgElem1 (by rfl) 43 _ (by rfl) _ Tryz.underlying43 rfl K (by rfl) (by repeat (first | exact List.mem_cons_self | refine List.mem_cons_of_mem _ ?_)) HY.out (by decide) (v := .slice y.A 0 y.c) (by rw [show (encH y)[1]? = some (Value.slice y.A y.l.ls.length y.c) from rfl, HN.out]) ?_))
          go_roundw
          case rel => exact ⟨k + 1, m, by omega, by have := HLT.out; omega, rfl, by go_num, by omega, hid LN.out.1, hid LN.out.2, K⟩
          case measure => simp [intOf]; have := HLT.out; omega
        | succ n =>
          obtain ⟨ad2, z, hya, had2, hz, z0⟩ := LY.out.atI (show n < y.l.ls.length by omega)
          have YA := hid hya
          have HN := hid hn
          have hzl : lastI y.l.ls = z := lastI_at hz hn.symm
          have HX0 : Hid (∀ W, Below wr.heap.size wr W → W.cell? (ad2.add n) = some (.int .i64 z)) := hid (fun W hb => (hb.cell (by rw [block_add]; exact had2)).trans z0)
          have hb1 : n < 1000000 := by have := Y6.out; omega
          have k1 : (0 : Int) < ((n + 1 : Nat) : Int) := by omega
          have k2 : (n : Int) < ((n + 1 : Nat) : Int) := by omega
          by_cases e : z = kind
          · have e1 : (z == kind) = true := beq_iff_eq.2 e
            have LN := hid (YES.out (by unfold listedL; rw [hn, hzl, e]; simp))
            clear hn hlt hz z0 hzl had2 e
            go_wp2_with (first
              | go_big_skip
              | ((with_reducible show wpList _ _ _ _ _ _); refine wpList_loadV (by rfl) 3 (.tmp 41) (by rfl) (by rfl) (run_loadVar_one _ _ 3 (.int .i64 z) _ (HX0.out _ (Below.refl _ _)) Tryz.underlying3 rfl) ?_)
              | ((with_reducible show wpList _ _ _ _ _ _); refine kgLoad1 (by rfl) 3 _ (by rfl) _ Tryz.underlying3 rfl K (by rfl) (by repeat (first | exact List.mem_cons_self | refine List.mem_cons_of_mem _ ?_)) (by rfl) ?_)
              | ((with_reducible show wpList _ _ _ _ _ _); refine kgLoad1 (by rfl) 22 _ (by rfl) _ Tryz.underlying22 rfl K (by rfl) (by repeat (first | exact List.mem_cons_self | refine List.mem_cons_of_mem _ ?_)) (by rfl) ?_)
              | ((with_reducible show wpList _ _ _ _ _ _); refine kgElem1 (by rfl) 43 _ (by rfl) _ Tryz.underlying43 rfl K (by rfl) (by repeat (first | exact List.mem_cons_self | refine List.mem_cons_of_mem _ ?_)) HY.out (by decide) (v := .slice (some ad2) (n + 1) y.c) (by rw [show (encH y)[1]? = some (Value.slice y.A y.l.ls.length y.c) from rfl, HN.out, YA.out]) ?_))
            go_roundw
            case rel => exact ⟨k + 1, m + 1, by omega, by have := HLT.out; omega, by go_num, by go_num, by omega, hid LN.out.1, hid LN.out.2, K⟩
            case measure => simp [intOf]; have := HLT.out; omega
          · have e1 : (z == kind) = false := beq_eq_false_iff_ne.2 e
            have LN := hid (NO.out (by unfold listedL; rw [hn, hzl, decide_eq_false e, Bool.and_false]))
            clear hn hlt hz z0 hzl had2 e
            go_wp2_with (first
              | go_big_skip
              | ((with_reducible show wpList _ _ _ _ _ _); refine wpList_loadV (by rfl) 3 (.tmp 41) (by rfl) (by rfl) (run_loadVar_one _ _ 3 (.int .i64 z) _ (HX0.out _ (Below.refl _ _)) Tryz.underlying3 rfl) ?_)
              | ((with_reducible show wpList _ _ _ _ _ _); refine kgLoad1 (by rfl) 3 _ (by rfl) _ Tryz.underlying3 rfl K (by rfl) (by repeat (first | exact List.mem_cons_self | refine List.mem_cons_of_mem _ ?_)) (by rfl) ?_)
              | ((with_reducible show wpList _ _ _ _ _ _); refine kgLoad1 (by rfl) 22 _ (by rfl) _ Tryz.underlying22 rfl K (by rfl) (by repeat (first | exact List.mem_cons_self | refine List.mem_cons_of_mem _ ?_)) (by rfl) ?_)
              | ((with_reducible show wpList _ _ _ _ _ _); refine kgElem1 (by rfl) 43 _ (by rfl) _ Tryz.underlying43 rfl K (by rfl) (by repeat (first | exact List.mem_cons_self | refine List.mem_cons_of_mem _ ?_)) HY.out (by decide) (v := .slice (some ad2) (n + 1) y.c) (by rw [show (encH y)[1]? = some (Value.slice y.A y.l.ls.length y.c) from rfl, HN.out, YA.out]) ?_))
            go_roundw
            case rel => exact ⟨k + 1, m, by omega, by have := HLT.out; omega, rfl, by go_num, by omega, hid LN.out.1, hid LN.out.2, K⟩
            case measure => simp [intOf]; have := HLT.out; omega
      · have hi1 : ¬ (k : Int) ≤ (t : Int) := by omega
        have hi2 : decide ((k : Int) ≤ (t : Int)) = false := decide_eq_false hi1
        obtain rfl : k = t + 1 := by omega
        have KZ := hid (LZ.out (decide (m = t + 1 - f)) (decide (0 < m)) (by rw [decide_eq_true_eq]; exact HA.out) (by rw [decide_eq_false_iff_not]; exact ⟨fun h => HB.out.1 (by omega), fun h => by have := HB.out.2 h; omega⟩))
        by_cases q1 : m = t + 1 - f
        · have r1 : ((m : Int) == (t : Int) - (f : Int) + 1) = true := beq_iff_eq.2 (by omega)
          have S1 := hid (decide_eq_true q1)
          have hsub : (t : Int) - (f : Int) ≤ 300 := by omega
          have q2 : 0 < m := by omega
          have r2 : (0 : Int) < (m : Int) := by omega
          have S2 := hid (decide_eq_true q2)
          clear q1 q2
          go_wp2_with (first
            | go_big_skip
            | ((with_reducible show wpList _ _ _ _ _ _); refine kgLoad1 (by rfl) 3 _ (by rfl) _ Tryz.underlying3 rfl K (by rfl) (by repeat (first | exact List.mem_cons_self | refine List.mem_cons_of_mem _ ?_)) (by rfl) ?_))
          go_ret2
          exact ⟨by rw [KZ.out, S1.out, S2.out]; rfl, K.out.b⟩
        · have r1 : ((m : Int) == (t : Int) - (f : Int) + 1) = false := beq_eq_false_iff_ne.2 (by omega)
          have S1 := hid (decide_eq_false q1)
          have hsub : (t : Int) - (f : Int) ≤ 300 := by omega
          by_cases q2 : 0 < m
          · have r2 : (0 : Int) < (m : Int) := by omega
            have S2 := hid (decide_eq_true q2)
            clear q1 q2
            go_wp2_with (first
              | go_big_skip
              | ((with_reducible show wpList _ _ _ _ _ _); refine kgLoad1 (by rfl) 3 _ (by rfl) _ Tryz.underlying3 rfl K (by rfl) (by repeat (first | exact List.mem_cons_self | refine List.mem_cons_of_mem _ ?_)) (by rfl) ?_))
            go_ret2
            exact ⟨by rw [KZ.out, S1.out, S2.out]; rfl, K.out.b⟩
          · have r2 : decide ((0 : Int) < (m : Int)) = false := decide_eq_false (by omega)
            have S2 := hid (decide_eq_false q2)
            clear q1 q2
            go_wp2_with (first
              | go_big_skip
              | ((with_reducible show wpList _ _ _ _ _ _); refine kgLoad1 (by rfl) 3 _ (by rfl) _ Tryz.underlying3 rfl K (by rfl) (by repeat (first | exact List.mem_cons_self | refine List.mem_cons_of_mem _ ?_)) (by rfl) ?_))
            go_ret2
            exact ⟨by rw [KZ.out, S1.out, S2.out]; rfl, K.out.b⟩
end Go.Proofs.YtblbfoniimnkcaaGreatDoor
