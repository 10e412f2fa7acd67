/- The walks of doc.Size, of slices.ContainsFunc at doc.May's closure, of doc.May. (Printed by wip/bldoc.py.) -/
import Derived.Test.YtblbfoniimnkcaaGreatDoorBgKg
import Derived.Test.YtblbfoniimnkcaaGreatDoorLnMay
import Derived.Test.YtblbfoniimnkcaaGreatDoorLnOpen
import Derived.BigQuiet
import Derived.Deep.QuietTactic
namespace Go.Proofs.YtblbfoniimnkcaaGreatDoor
open Go.RowKit Go.Lib

theorem sizeD_step {hs : List Hd} {k : Nat} {x : Hd} (h : hs[k]? = some x) : sizeD ((lnsOf hs).take (k + 1)) = sizeD ((lnsOf hs).take k) + x.l.cs.length := sizeD_take (lnsOf_get h)
theorem sizeD_end (hs : List Hd) : sizeD ((lnsOf hs).take hs.length) = sizeD (lnsOf hs) := sizeD_all _ (by rw [lnsOf_len]; omega)
theorem sizeD_bound {hs : List Hd} (h2 : ∀ h ∈ hs, h.l.ls.length ≤ 1000000 ∧ h.l.cs.length ≤ 1000000) : ∀ k, sizeD ((lnsOf hs).take k) ≤ k * 1000000 := by
  intro k
  induction k with
  | zero => simp [sizeD]
  | succ k ih =>
    by_cases hk : k < hs.length
    · rw [sizeD_step (List.getElem?_eq_getElem hk)]
      have := (h2 _ (List.getElem_mem hk)).2
      omega
    · have e : (lnsOf hs).take (k + 1) = (lnsOf hs).take k := by rw [List.take_of_length_le (by rw [lnsOf_len]; omega), List.take_of_length_le (by rw [lnsOf_len]; omega)]
      rw [e]; exact Nat.le_trans ih (Nat.mul_le_mul_right _ (Nat.le_succ k))
/-- The first line that may not be, or -1. -/
def noLn (l : Ln) : Bool := !mayL l
def idxD (d : List Ln) : Int := match d.findIdx? noLn with | some i => i | none => -1
theorem idxD_at {hs : List Hd} {k : Nat} {x : Hd} (hx : hs[k]? = some x) (hp : mayL x.l = false) (hno : ∀ (j : Nat) (y : Hd), hs[j]? = some y → j < k → mayL y.l = true) : idxD (lnsOf hs) = k := by
  have h : (lnsOf hs).findIdx? noLn = some k := by
    rw [List.findIdx?_eq_some_iff_getElem]
    have hk := (List.getElem?_eq_some_iff.1 hx).1
    have hl : k < (lnsOf hs).length := by rw [lnsOf_len]; exact hk
    refine ⟨hl, ?_, fun j hj => ?_⟩
    · have e : (lnsOf hs)[k] = x.l := by
        have := lnsOf_get hx
        rw [List.getElem?_eq_getElem hl] at this
        simpa using this
      rw [e]; unfold noLn; rw [hp]; rfl
    · have hj' : j < hs.length := by omega
      have e : (lnsOf hs)[j]'(by rw [lnsOf_len]; exact hj') = (hs[j]'hj').l := by simp [lnsOf]
      rw [e]; unfold noLn; rw [hno j _ (List.getElem?_eq_getElem hj') hj]; simp
  unfold idxD; rw [h]
theorem idxD_none {hs : List Hd} (hno : ∀ (j : Nat) (y : Hd), hs[j]? = some y → mayL y.l = true) : idxD (lnsOf hs) = -1 := by
  have h : (lnsOf hs).findIdx? noLn = none := by
    rw [List.findIdx?_eq_none_iff]
    intro l hl
    obtain ⟨x, hx, rfl⟩ := List.mem_map.1 hl
    obtain ⟨j, hj, e⟩ := List.getElem_of_mem hx
    unfold noLn; rw [hno j x (by rw [List.getElem?_eq_getElem hj, e])]; rfl
  unfold idxD; rw [h]
theorem idxD_all (d : List Ln) : decide (0 ≤ idxD d) = !d.all mayL := by
  unfold idxD
  cases h : d.findIdx? noLn with
  | none =>
    rw [List.findIdx?_eq_none_iff] at h
    have : d.all mayL = true := by
      rw [List.all_eq_true]
      intro l hl
      have := h l hl
      unfold noLn at this
      simpa using this
    rw [this]; rfl
  | some i =>
    rw [List.findIdx?_eq_some_iff_getElem] at h
    obtain ⟨h1, h2, _⟩ := h
    have : d.all mayL = false := by
      rw [List.all_eq_false]
      refine ⟨d[i], List.getElem_mem h1, ?_⟩
      unfold noLn at h2
      simpa using h2
    rw [this]
    show decide (0 ≤ (i : Int)) = true
    exact decide_eq_true (by omega)
set_option maxRecDepth 100000 in
set_option maxHeartbeats 4000000 in
theorem dSize_any (hs : List Hd) (A : Option Addr) (n c C : Nat) (hn : n = hs.length) (w : World) (hd : DocAt w C A hs) (h1 : hs.length ≤ 1000) (h2 : ∀ h ∈ hs, h.l.ls.length ≤ 1000000 ∧ h.l.cs.length ≤ 1000000) :
    Calls Tryz.prog 57 #[.slice A n c] w (IsIntC (sizeD (lnsOf hs)) w) := by
  subst hn
  have D0 := hid h2
  have L0 := hid h1
  have K := hid (KG.start w [⟨hs, A, false⟩] (by simpa using hd.live))
  clear hd h2
  go_enter Tryz.func57, Tryz.ntmps57
  go_wp2_with fail
  go_loopw [3, 8] (fun s i wr => ∃ k : Nat, k ≤ hs.length ∧ i = .int .i64 k ∧ s = .int .i64 (sizeD ((lnsOf hs).take k) : Nat) ∧ Hid (KG w wr [] [⟨hs, A, false⟩])) (fun _ i _ => hs.length - (intOf i).toNat)
  case atStart => exact ⟨0, Nat.zero_le _, rfl, rfl, K⟩
  case round =>
    clear K
    obtain ⟨k, hk, rfl, rfl, K⟩ := hrel
    by_cases hlt : k < hs.length
    · obtain ⟨ad, x, rfl, -, hx, -⟩ := (K.out.at_ (d := ⟨hs, A, false⟩) (by simp)).row.atH hlt
      have hi1 : (k : Int) < (hs.length : Int) := by omega
      have q1 := (D0.out x (List.mem_of_getElem? hx)).2
      have q2 := sizeD_bound D0.out k
      have q3 := L0.out
      have EQ := hid (sizeD_step hx)
      have HX := hid hx
      obtain ⟨s, hs'⟩ : ∃ s, sizeD ((lnsOf hs).take k) = s := ⟨_, rfl⟩
      rw [hs'] at q2 EQ ⊢
      have q4 : s ≤ 1000000000 := by omega
      clear hx hs' q2 q3
      go_wp2_with (first
        | ((with_reducible show wpList _ _ _ _ _ _); refine kgElem (by rfl) 46 _ (by rfl) _ Tryz.underlying46 rfl (by kernel_rfl) K (by rfl) (by repeat (first | exact List.mem_cons_self | refine List.mem_cons_of_mem _ ?_)) HX.out ?_)
        | ((with_reducible show wpList _ _ _ _ _ _); refine kgAlloc (by rfl) 46 (by rfl) (some 5) (by rfl) [.int .i64 0, .slice none 0 0, .int .i64 0, .slice none 0 0] (fun _ => by kernel_rfl) K ?_; intro g5 V1 K1; clear K; (have K := K1); clear K1)
        | ((with_reducible show wpList _ _ _ _ _ _); refine kgStore (by rfl) 46 (.tmp 5) _ (by rfl) 4 (by kernel_rfl) [] (by exact K) (by rfl) (by rfl) [_, _, _, _] (by rfl) (by rfl) (by simp) (by simp [Value.oneCell']) (by rfl) ?_; intro V2 K1; (dsimp only [List.cons_append, List.nil_append] at K1); clear K; (have K := K1); clear K1)
        | ((with_reducible show wpList _ _ _ _ _ _); refine kgLoad1 (by rfl) 44 _ (by rfl) _ Tryz.underlying44 rfl K (by rfl) (by repeat (first | exact List.mem_cons_self | refine List.mem_cons_of_mem _ ?_)) (by rfl) ?_))
      go_roundw
      case rel => exact ⟨k + 1, by omega, by go_num, by rw [EQ.out]; go_num, hid (K.out.less (List.nil_sublist _) (by simp))⟩
      case measure => simp [intOf]; omega
    · obtain rfl : k = hs.length := by omega
      have e := hid (sizeD_end hs)
      rw [e.out]
      go_wp2_with fail
      go_ret
      exact ⟨rfl, K.out.b⟩
set_option maxRecDepth 100000 in
set_option maxHeartbeats 4000000 in
theorem dMay1_any (l : Ln) (A : Option Addr) (n c : Nat) (B : Option Addr) (m d C : Nat) (hn : n = l.ls.length) (hm : m = l.cs.length) (w : World) (hl : LnAt w C l A B) (h1 : l.ls.length ≤ 1000000000) (h2 : l.cs.length ≤ 1000000000) (hf : FineC l.cs) (hT : Tb w) :
    Calls Tryz.prog 59 #[.agg #[.int .i64 l.q, .slice A n c, .int .i64 l.k, .slice B m d]] w (IsBool (noLn l) w) := by
  subst hn hm
  have K := hid (KG.start w [] (by simp))
  have HL := hid hl.live
  have T := hid hT
  have FI := hid hf
  clear hl hT hf
  go_enter Tryz.func59, Tryz.ntmps59
  go_wp2_with (first
    | ((with_reducible show wpList _ _ _ _ _ _); refine kgBox (by rfl) 46 _ (by rfl) (some 1) (by rfl) (by rfl) [_, _, _, _] (by rfl) K ?_; intro g1 V1 K1; clear K; (have K := K1); clear K1)
    | ((with_reducible show wpList _ _ _ _ _ _); refine kgLoadA (by rfl) 46 _ (by rfl) 4 _ Tryz.underlying46 rfl (by kernel_rfl) K (by rfl) (by repeat (first | exact List.mem_cons_self | refine List.mem_cons_of_mem _ ?_)) (by rfl) (by rfl) ?_)
    | (go_at_call 60; (with_reducible refine (lMay_any l A _ c B _ d _ rfl rfl _ (HL.out.belowM K.out.b (Nat.le_refl _)) h1 h2 FI.out (Utf8Tabs_below T.out K.out.b)).mono ?_); rintro e W2 ⟨rfl, hb⟩; (have K2 := hid (K.out.later hb)); clear hb K; (have K := K2); clear K2))
  go_ret
  exact ⟨rfl, K.out.b⟩
set_option maxRecDepth 100000 in
set_option maxHeartbeats 4000000 in
theorem dIndex_any (hs : List Hd) (A : Option Addr) (n c C : Nat) (hn : n = hs.length) (w : World) (hd : DocAt w C A hs) (h1 : hs.length ≤ 1000) (h2 : ∀ h ∈ hs, h.l.ls.length ≤ 1000000 ∧ h.l.cs.length ≤ 1000000) (hf : ∀ h ∈ hs, FineC h.l.cs) (hT : Tb w) :
    Calls Tryz.prog 69 #[.slice A n c, .func (.func 59) #[] #[]] w (IsIntC (idxD (lnsOf hs)) w) := by
  subst hn
  have D0 := hid h2
  have L0 := hid h1
  have K := hid (KG.start w [⟨hs, A, false⟩] (by simpa using hd.live))
  have T := hid hT
  have FI := hid hf
  obtain ⟨z, hz⟩ : ∃ z, idxD (lnsOf hs) = z := ⟨_, rfl⟩
  have HZ := hid hz
  rw [hz]
  clear hd h2 hT hf hz
  go_enter Tryz.func69, Tryz.ntmps69
  go_wp2_with fail
  go_loopw [8] (fun i wr => ∃ k : Nat, k ≤ hs.length ∧ i = .int .i64 k ∧ Hid (∀ (j : Nat) (y : Hd), hs[j]? = some y → j < k → mayL y.l = true) ∧ Hid (KG w wr [] [⟨hs, A, false⟩])) (fun i _ => hs.length - (intOf i).toNat)
  case atStart => exact ⟨0, Nat.zero_le _, rfl, hid (fun j _ _ h => absurd h (by omega)), K⟩
  case round =>
    clear K
    obtain ⟨k, hk, rfl, hno, K⟩ := hrel
    by_cases hlt : k < hs.length
    · have DD := K.out.at_ (d := ⟨hs, A, false⟩) (by simp)
      obtain ⟨ad, x, e, -, hx, -⟩ := DD.row.atH hlt
      obtain rfl : A = some ad := e
      have hi1 : (k : Int) < (hs.length : Int) := by omega
      have hm := List.mem_of_getElem? hx
      have XL : Hid (x.l.ls.length ≤ 1000000000) := hid (by have := (D0.out x hm).1; omega)
      have XC : Hid (x.l.cs.length ≤ 1000000000) := hid (by have := (D0.out x hm).2; omega)
      have XF := hid (FI.out x hm)
      have HX := hid hx
      cases hp : noLn x.l with
      | true =>
        have HP := hid hp
        have E := hid (idxD_at hx (by unfold noLn at hp; simpa using hp) hno.out)
        clear DD hx hp hm
        go_wp2_with (first
          | ((with_reducible show wpList _ _ _ _ _ _); refine kgElem (by rfl) 46 _ (by rfl) _ Tryz.underlying46 rfl (by kernel_rfl) K (by rfl) (by repeat (first | exact List.mem_cons_self | refine List.mem_cons_of_mem _ ?_)) HX.out ?_)
          | (go_at_call 59; (with_reducible refine (dMay1_any x.l x.A _ x.c x.B _ x.d _ rfl rfl _ ((K.out.at_ (d := ⟨hs, some ad, false⟩) (by simp)).ln HX.out) XL.out XC.out XF.out (Utf8Tabs_below T.out K.out.b)).mono ?_); rintro e W2 ⟨rfl, hb⟩; rw [HP.out]; (have K2 := hid (K.out.later hb)); clear hb K; (have K := K2); clear K2))
        go_ret
        exact ⟨ret_inC (E.out.symm.trans HZ.out), K.out.b⟩
      | false =>
        have HP := hid hp
        have N1 : Hid (∀ (j : Nat) (y : Hd), hs[j]? = some y → j < k + 1 → mayL y.l = true) := hid (fun j y hj hlt' => by
          rcases Nat.lt_or_ge j k with h | h
          · exact hno.out j y hj h
          · obtain rfl : j = k := by omega
            rw [hx] at hj; injection hj with hj; subst hj; unfold noLn at hp; simpa using hp)
        clear DD hx hp hm hno
        go_wp2_with (first
          | ((with_reducible show wpList _ _ _ _ _ _); refine kgElem (by rfl) 46 _ (by rfl) _ Tryz.underlying46 rfl (by kernel_rfl) K (by rfl) (by repeat (first | exact List.mem_cons_self | refine List.mem_cons_of_mem _ ?_)) HX.out ?_)
          | (go_at_call 59; (with_reducible refine (dMay1_any x.l x.A _ x.c x.B _ x.d _ rfl rfl _ ((K.out.at_ (d := ⟨hs, some ad, false⟩) (by simp)).ln HX.out) XL.out XC.out XF.out (Utf8Tabs_below T.out K.out.b)).mono ?_); rintro e W2 ⟨rfl, hb⟩; rw [HP.out]; (have K2 := hid (K.out.later hb)); clear hb K; (have K := K2); clear K2))
        go_roundw
        case rel => exact ⟨k + 1, by omega, by go_num, N1, K⟩
        case measure => simp [intOf]; omega
    · obtain rfl : k = hs.length := by omega
      have E := hid (idxD_none fun j y hj => hno.out j y hj (List.getElem?_eq_some_iff.1 hj).1)
      clear hno
      go_wp2_with fail
      go_ret
      exact ⟨ret_inC (E.out.symm.trans HZ.out), K.out.b⟩
set_option maxRecDepth 100000 in
set_option maxHeartbeats 4000000 in
theorem dHas_any (hs : List Hd) (A : Option Addr) (n c C : Nat) (hn : n = hs.length) (w : World) (hd : DocAt w C A hs) (h1 : hs.length ≤ 1000) (h2 : ∀ h ∈ hs, h.l.ls.length ≤ 1000000 ∧ h.l.cs.length ≤ 1000000) (hf : ∀ h ∈ hs, FineC h.l.cs) (hT : Tb w) :
    Calls Tryz.prog 58 #[.slice A n c, .func (.func 59) #[] #[]] w (IsBool (!(lnsOf hs).all mayL) w) := by
  rw [← idxD_all]
  have I := hid (dIndex_any hs A n c C hn w hd h1 h2 hf hT)
  obtain ⟨z, hz⟩ : ∃ z, idxD (lnsOf hs) = z := ⟨_, rfl⟩
  rw [hz] at I ⊢
  clear hn hd h1 h2 hf hT hz
  go_enter Tryz.func58, Tryz.ntmps58
  go_wp2_with (first
    | (go_at_call 69; (with_reducible refine (I.out).mono ?_); rintro e w1 ⟨rfl, hb1⟩; (have B1 := hid hb1); clear hb1))
  go_ret
  exact ⟨rfl, B1.out⟩
set_option maxRecDepth 100000 in
set_option maxHeartbeats 4000000 in
theorem dMay_any (hs : List Hd) (A : Option Addr) (n c C : Nat) (hn : n = hs.length) (w : World) (hd : DocAt w C A hs) (h1 : hs.length ≤ 1000) (h2 : ∀ h ∈ hs, h.l.ls.length ≤ 1000000 ∧ h.l.cs.length ≤ 1000000) (hf : ∀ h ∈ hs, FineC h.l.cs) (hT : Tb w) :
    Calls Tryz.prog 36 #[.slice A n c] w (IsBool (mayD (lnsOf hs)) w) := by
  subst hn
  have S := hid (dSize_any hs A _ c C rfl w hd h1 h2)
  have H := hid (fun w' (hb : Below w.heap.size w w') => dHas_any hs A _ c _ rfl w' (hd.live.belowM hb (Nat.le_refl _)) h1 h2 hf (Utf8Tabs_below hT hb))
  obtain ⟨z, hz⟩ : ∃ z, sizeD (lnsOf hs) = z := ⟨_, rfl⟩
  obtain ⟨b, hb⟩ : ∃ b, (lnsOf hs).all mayL = b := ⟨_, rfl⟩
  have L0 := hid h1
  have zb : Hid (z ≤ 1000000000) := hid (by have := sizeD_bound h2 hs.length; rw [sizeD_end, hz] at this; omega)
  unfold mayD
  rw [lnsOf_len, hz, hb]
  rw [hz] at S
  rw [hb] at H
  clear hd h1 h2 hf hT hz hb
  by_cases c1 : 1 ≤ hs.length
  · by_cases c2 : hs.length ≤ 200
    · by_cases c3 : z ≤ 4000
      · have i1 : (1 : Int) ≤ (hs.length : Int) := by omega
        have i2 : (hs.length : Int) ≤ 200 := by omega
        have i3 : (z : Int) ≤ 4000 := by omega
        have M : Hid ((decide (1 ≤ hs.length) && (decide (hs.length ≤ 200) && (decide (z ≤ 4000) && b))) = b) := hid (by rw [decide_eq_true c1, decide_eq_true c2, decide_eq_true c3]; cases b <;> rfl)
        rw [M.out]
        clear M
        go_enter Tryz.func36, Tryz.ntmps36
        go_wp2_with (first
          | (go_at_call 57; (with_reducible refine (S.out).mono ?_); rintro e w1 ⟨rfl, hb1⟩; (have B1 := hid hb1); clear hb1)
          | (go_at_call 58; (with_reducible refine (H.out _ B1.out).mono ?_); rintro e w2 ⟨rfl, hb2⟩; (have B2 := hid (B1.out.trans (hb2.mono B1.out.size))); clear hb2))
        go_ret
        exact ⟨ret_bo (by cases b <;> rfl), B2.out⟩
      · have i1 : ((1 : Int) ≤ (hs.length : Int)) := by omega
        have i2 : ((hs.length : Int) ≤ 200) := by omega
        have i3 : ¬ ((z : Int) ≤ 4000) := by omega
        have M : Hid ((decide (1 ≤ hs.length) && (decide (hs.length ≤ 200) && (decide (z ≤ 4000) && b))) = false) := hid (by rw [decide_eq_true c1]; rw [decide_eq_true c2]; rw [decide_eq_false c3]; simp)
        rw [M.out]
        clear M
        go_enter Tryz.func36, Tryz.ntmps36
        go_wp2_with (first
          | (go_at_call 57; (with_reducible refine (S.out).mono ?_); rintro e w1 ⟨rfl, hb1⟩; (have B1 := hid hb1); clear hb1))
        go_ret
        exact ⟨rfl, B1.out⟩
    · have i1 : ((1 : Int) ≤ (hs.length : Int)) := by omega
      have i2 : ¬ ((hs.length : Int) ≤ 200) := by omega
      have M : Hid ((decide (1 ≤ hs.length) && (decide (hs.length ≤ 200) && (decide (z ≤ 4000) && b))) = false) := hid (by rw [decide_eq_true c1]; rw [decide_eq_false c2]; simp)
      rw [M.out]
      clear M
      go_enter Tryz.func36, Tryz.ntmps36
      go_wp2_with fail
      go_ret
      exact ⟨rfl, Below.refl _ _⟩
  · have i1 : ¬ ((1 : Int) ≤ (hs.length : Int)) := by omega
    have M : Hid ((decide (1 ≤ hs.length) && (decide (hs.length ≤ 200) && (decide (z ≤ 4000) && b))) = false) := hid (by rw [decide_eq_false c1]; simp)
    rw [M.out]
    clear M
    go_enter Tryz.func36, Tryz.ntmps36
    go_wp2_with fail
    go_ret
    exact ⟨rfl, Below.refl _ _⟩
end Go.Proofs.YtblbfoniimnkcaaGreatDoor
