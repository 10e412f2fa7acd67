/- The walks of the reference's May, of attrs.Put and the reference's Put. -/
import Derived.Test.YtapjlkiffgfbfaaDoorAttPut
import Derived.Test.YtapjlkiffgfbfaaDoorAttRefT
namespace Go.Proofs.YtapjlkiffgfbfaaDoor
open Go.RowKit Go.Lib

set_option maxRecDepth 100000 in
set_option maxHeartbeats 4000000 in
theorem refMayA_any (A : Option Addr) (xs : List At) (n c B : Nat) (hn : n = xs.length) (w : World) (hA : SlAt encA 2 w B A xs) (hl : xs.length ≤ 1000000000) (hz : Small xs) :
    Calls Tryd.prog 47 #[.slice A n c] w (IsBool (mayL xs) w) := by
  subst hn
  have HS := hid (hA.live (fun _ => by rw [encA_len]; omega))
  obtain ⟨r, hr⟩ : ∃ r, mayL xs = r := ⟨_, rfl⟩
  have HR := hid hr
  have HZ := hid hz
  rw [hr]
  clear hr hz hA
  go_enter Tryd.func47, Tryd.ntmps47
  go_wp2
  go_loopw [3] (fun i wr => ∃ k : Nat, k ≤ xs.length ∧ i = .int .i64 k ∧ Hid (MayTo xs k) ∧ Below w.heap.size w wr) (fun i _ => xs.length - (intOf i).toNat)
  case atStart => exact ⟨0, Nat.zero_le _, rfl, (fun j _ h => absurd h (by omega)), Below.refl _ _⟩
  case round =>
    obtain ⟨k, hk, rfl, hto, hbr⟩ := hrel
    have HB := hid hbr
    by_cases hlt : k < xs.length
    · obtain ⟨ad, x, rfl, hab, hx, x0, x1⟩ := (HS.out.below hbr).atA hlt
      have hi1 : (k : Int) < (xs.length : Int) := by omega
      have hzz := HZ.out x (List.mem_of_getElem? hx)
      have Z1 := hid hzz.1
      have Z2 := hid hzz.2
      have hfo := find_own hx
      obtain ⟨nb, hnb⟩ : ∃ nb, nameB x.n.data.toList = nb := ⟨_, rfl⟩
      obtain ⟨vb, hvb⟩ : ∃ vb, valueB x.v = vb := ⟨_, rfl⟩
      obtain ⟨fk, hfk⟩ : ∃ fk, findK xs x.n = fk := ⟨_, rfl⟩
      have hm : mayAt xs k x = (nb && (vb && decide (fk = (k : Int)))) := by unfold mayAt; rw [hnb, hvb, hfk]
      rw [hfk] at hfo
      obtain ⟨hf0, hf1⟩ := hfo
      have HN := hid hnb
      have HV := hid hvb
      have HF := hid hfk
      have HX := hid hx
      have HM := hid hm
      have hab2 : ad.block < wr.heap.size := by have := HB.out.size; omega
      clear hnb hvb hfk hx hm hzz hbr hab
      cases nb with
      | false =>
        have E := hid (HR.out.symm.trans (mayL_no HX.out (by rw [HM.out]; rfl)))
        go_wp2_with (go_at_call 34; refine (refName3_any _ _ Z1.out).mono ?_; rintro e w1 ⟨rfl, rfl⟩; rw [HN.out])
        go_ret
        exact ⟨ret_bo E.out.symm, HB.out⟩
      | true =>
        cases vb with
        | false =>
          have E := hid (HR.out.symm.trans (mayL_no HX.out (by rw [HM.out]; rfl)))
          go_wp2_with (first
            | (go_at_call 34; refine (refName3_any _ _ Z1.out).mono ?_; rintro e w1 ⟨rfl, rfl⟩; rw [HN.out])
            | (go_at_call 36; refine (refValue_any _ _ Z2.out).mono ?_; rintro e w2 ⟨rfl, hb3⟩; rw [HV.out]; (have B2 := hid (HB.out.trans (hb3.mono HB.out.size))); clear hb3))
          go_ret
          exact ⟨ret_bo E.out.symm, B2.out⟩
        | true =>
          by_cases hf : fk = (k : Int)
          · have M1 := hid (hto.out.succ HX.out (by rw [HM.out, decide_eq_true hf]; rfl))
            have bq : ¬ fk < (k : Int) := by omega
            clear hf
            go_wp2_with (first
              | (go_at_call 34; refine (refName3_any _ _ Z1.out).mono ?_; rintro e w1 ⟨rfl, rfl⟩; rw [HN.out])
              | (go_at_call 36; refine (refValue_any _ _ Z2.out).mono ?_; rintro e w2 ⟨rfl, hb3⟩; rw [HV.out]; (have y0 := (hb3.cell (p := ad.add (k * 2)) (by rw [block_add]; exact hab2)).trans x0); (have B2 := hid (HB.out.trans (hb3.mono HB.out.size))); clear hb3 x0 x1)
              | (go_at_call 46; refine (refFindA_any _ xs _ c _ rfl x.n _ (HS.out.below B2.out) hl).mono ?_; rintro e w3 ⟨rfl, rfl⟩; rw [HF.out]))
            go_roundw
            case rel => exact ⟨k + 1, by omega, by go_num, M1.out, B2.out⟩
            case measure => simp [intOf]; omega
          · have E := hid (HR.out.symm.trans (mayL_no HX.out (by rw [HM.out, decide_eq_false hf]; rfl)))
            have bq : fk < (k : Int) := by omega
            clear hf
            go_wp2_with (first
              | (go_at_call 34; refine (refName3_any _ _ Z1.out).mono ?_; rintro e w1 ⟨rfl, rfl⟩; rw [HN.out])
              | (go_at_call 36; refine (refValue_any _ _ Z2.out).mono ?_; rintro e w2 ⟨rfl, hb3⟩; rw [HV.out]; (have y0 := (hb3.cell (p := ad.add (k * 2)) (by rw [block_add]; exact hab2)).trans x0); (have B2 := hid (HB.out.trans (hb3.mono HB.out.size))); clear hb3 x0 x1)
              | (go_at_call 46; refine (refFindA_any _ xs _ c _ rfl x.n _ (HS.out.below B2.out) hl).mono ?_; rintro e w3 ⟨rfl, rfl⟩; rw [HF.out]))
            go_ret
            exact ⟨ret_bo E.out.symm, B2.out⟩
    · obtain rfl : k = xs.length := by omega
      have E := hid (HR.out.symm.trans (mayL_yes hto.out))
      clear hbr
      go_wp2
      go_ret
      exact ⟨ret_bo E.out.symm, HB.out⟩

/-! ### Put -/
theorem flatA_set (cs : List At) (k : Nat) (x : At) (v : ByteArray) (hx : cs[k]? = some x) : (cs.flatMap encA).set (k * 2 + 1) (.string v) = (cs.set k ⟨x.n, v⟩).flatMap encA := by
  induction cs generalizing k with
  | nil => simp at hx
  | cons y ys ih =>
    cases k with
    | zero =>
      simp at hx
      subst hx
      rfl
    | succ k =>
      have := ih k (by simpa using hx)
      rw [List.set_cons_succ, List.flatMap_cons, List.flatMap_cons, ← this]
      show (_ :: _ :: ys.flatMap encA).set ((k + 1) * 2 + 1) _ = _ :: _ :: _
      rw [show (k + 1) * 2 + 1 = (k * 2 + 1) + 1 + 1 from by omega]
      rfl
/-- A value of a row of one's own is stored. -/
theorem own_store {w : World} {base : Nat} {A : Option Addr} {n c : Nat} {xs : List At} (ho : Own encA 2 52 w base (.slice A n c) xs) (hn : n = xs.length) {k : Nat} {x : At} (hx : xs[k]? = some x) (v : ByteArray) :
    ∃ g, A = some ⟨g, 0, none⟩ ∧ base ≤ g ∧ w.cell? ⟨g, k * 2 + 1, none⟩ = some (.string x.v) ∧ w.frozen? ⟨g, k * 2 + 1, none⟩ = false ∧ Own encA 2 52 (w.setCell ⟨g, k * 2 + 1, none⟩ (.string v)) base (.slice A n c) (xs.set k ⟨x.n, v⟩) := by
  have hlt := (List.getElem?_eq_some_iff.1 hx).1
  obtain ⟨g, rfl, hg⟩ : ∃ g, A = some ⟨g, 0, none⟩ ∧ base ≤ g := by
    rcases ho.2 with ⟨_, h0⟩ | ⟨g, cap, cur, hv, hbg, _⟩
    · omega
    · injection hv with hv; exact ⟨g, hv, hbg⟩
  have ho0 := ho
  unfold Own at ho0
  rw [← hn] at ho0
  refine ⟨g, rfl, hg, ?_, World.ownsRow.frozenAt ho0 (k * 2 + 1), ?_⟩
  · rw [World.ownsRow.cellAt ho0 (k * 2 + 1) (by omega)]
    exact getElem?_flat encA_len _ k x 1 _ hx rfl
  · have hst := (World.ownsRow.stored ho0 (k * 2 + 1) (.string v)).1
    unfold Own
    rw [List.length_set, ← hn, ← flatA_set _ k x _ hx]
    exact hst

/-- What is put where: the row then; the error. -/
def putL (xs : List At) (m v : ByteArray) : List At :=
  if nameB m.data.toList && valueB v then (match findN xs m with | some i => xs.set i ⟨m, v⟩ | none => xs ++ [⟨m, v⟩]) else []
def putE (m v : ByteArray) : Int := if nameB m.data.toList && valueB v then 0 else 1
def AnsA (w : World) (xs : List At) (er : Int) (e : Ending) (w' : World) : Prop := ∃ v, e = .returned (.tuple #[v, .int .i64 er]) ∧ Own encA 2 52 w' w.heap.size v xs ∧ Below w.heap.size w w'
theorem ansA_mk {w w' : World} {xs ys : List At} {er er' : Int} {v : Value} (h : xs = ys) (k : er = er') (ho : Own encA 2 52 w' w.heap.size v xs) (hb : Below w.heap.size w w') : AnsA w ys er' (.returned (.tuple #[v, .int .i64 er])) w' := by
  subst h k; exact ⟨v, rfl, ho, hb⟩

set_option maxRecDepth 100000 in
set_option maxHeartbeats 4000000 in
theorem put_any (A : Option Addr) (xs : List At) (n c B : Nat) (hn : n = xs.length) (m v : ByteArray) (w : World) (hA : SlAt encA 2 w B A xs) (hl : xs.length ≤ 100000000) (hm : m.size ≤ 1000000000) (hv : v.size ≤ 1000000000) (hT : Tb w) :
    Calls Tryd.prog 41 #[.slice A n c, .string m, .string v] w (AnsA w (putL xs m v) (putE m v)) := by
  subst hn
  have HS := hid (hA.live (fun _ => by rw [encA_len]; omega))
  have T := hid hT
  obtain ⟨nb, hnb⟩ : ∃ nb, nameB m.data.toList = nb := ⟨_, rfl⟩
  obtain ⟨vb, hvb⟩ : ∃ vb, valueB v = vb := ⟨_, rfl⟩
  have HN := hid hnb
  have HV := hid hvb
  have hl9 : xs.length ≤ 1000000000 := by omega
  have Bx := hid (Below.refl w.heap.size w)
  clear hA hT
  cases nb with
  | false =>
    have E1 := hid (show putL xs m v = [] by unfold putL; rw [hnb]; rfl)
    have E2 := hid (show putE m v = 1 by unfold putE; rw [hnb]; rfl)
    clear hnb hvb
    go_enter Tryd.func41, Tryd.ntmps41
    go_wp2_with ((go_at_call 33; refine (attName_any _ _ hm).mono ?_; rintro e w1 ⟨rfl, hb1⟩; rw [HN.out]; (have By := hid (Bx.out.trans (hb1.mono Bx.out.size))); clear hb1 Bx; (have Bx := By); clear By))
    go_ret2
    exact ansA_mk E1.out.symm E2.out.symm Own.nil Bx.out
  | true =>
    cases vb with
    | false =>
      have E1 := hid (show putL xs m v = [] by unfold putL; rw [hnb, hvb]; rfl)
      have E2 := hid (show putE m v = 1 by unfold putE; rw [hnb, hvb]; rfl)
      clear hnb hvb
      go_enter Tryd.func41, Tryd.ntmps41
      go_wp2_with (first
          | (go_at_call 33; refine (attName_any _ _ hm).mono ?_; rintro e w1 ⟨rfl, hb1⟩; rw [HN.out]; (have By := hid (Bx.out.trans (hb1.mono Bx.out.size))); clear hb1 Bx; (have Bx := By); clear By)
          | (go_at_call 35; refine (value_any _ _ hv (Utf8Tabs_below T.out Bx.out)).mono ?_; rintro e w1 ⟨rfl, hb1⟩; rw [HV.out]; (have By := hid (Bx.out.trans (hb1.mono Bx.out.size))); clear hb1 Bx; (have Bx := By); clear By))
      go_ret2
      exact ansA_mk E1.out.symm E2.out.symm Own.nil Bx.out
    | true =>
      have E2 := hid (show putE m v = 0 by unfold putE; rw [hnb, hvb]; rfl)
      cases hf : findN xs m with
      | none =>
        have E1 := hid (show putL xs m v = xs ++ [⟨m, v⟩] by unfold putL; rw [hnb, hvb, hf]; rfl)
        have HK := hid (findK_no hf)
        have lenk : xs.length + 1 ≤ 1000000000000 := by omega
        clear hnb hvb hf
        go_enter Tryd.func41, Tryd.ntmps41
        go_wp2_with (first
          | (go_at_call 33; refine (attName_any _ _ hm).mono ?_; rintro e w1 ⟨rfl, hb1⟩; rw [HN.out]; (have By := hid (Bx.out.trans (hb1.mono Bx.out.size))); clear hb1 Bx; (have Bx := By); clear By)
          | (go_at_call 35; refine (value_any _ _ hv (Utf8Tabs_below T.out Bx.out)).mono ?_; rintro e w1 ⟨rfl, hb1⟩; rw [HV.out]; (have By := hid (Bx.out.trans (hb1.mono Bx.out.size))); clear hb1 Bx; (have Bx := By); clear By)
          | (go_at_call 68; refine (cloneA_any A xs _ c _ rfl _ (HS.out.below Bx.out) hl9).mono ?_; rintro e w1 ⟨v1, rfl, ho1, hb1⟩; (have O1 := hid (ho1.based Bx.out.size)); (have By := hid (Bx.out.trans (hb1.mono Bx.out.size))); clear ho1 hb1 Bx; (have Bx := By); clear By)
          | (go_at_call 69; refine (at_any A xs _ c _ rfl m _ (HS.out.below Bx.out) hl9).mono ?_; rintro e w1 ⟨rfl, hb1⟩; rw [HK.out]; (have O2 := hid (O1.out.later hb1)); clear O1; (have O1 := O2); clear O2; (have By := hid (Bx.out.trans (hb1.mono Bx.out.size))); clear hb1 Bx; (have Bx := By); clear By)
          | (at_builtin; refine wpList_app1g Tryd.okA rfl (.tmp 31) (.tmp 35) 39 rfl Tryd.underlying39 w.heap.size _ xs rfl O1.out (⟨m, v⟩ : At) rfl _ rfl (by simp) lenk Bx.out.size ?_; intro v' w5 hown' hb' _; (have O5 := hid hown'); (have B5 := hid (Bx.out.trans hb')); clear hown' hb'))
        go_ret2
        exact ansA_mk E1.out.symm E2.out.symm O5.out B5.out
      | some i =>
        obtain ⟨x, hx, hxn, -⟩ := findN_spec hf
        have E1 := hid (show putL xs m v = xs.set i ⟨x.n, v⟩ by unfold putL; rw [hnb, hvb, hf, hxn]; rfl)
        have HK := hid (findK_some hf)
        have HX := hid hx
        have hlt := findN_lt hf
        clear hnb hvb hf hx hxn
        go_enter Tryd.func41, Tryd.ntmps41
        go_wp2_with (first
          | (go_at_call 33; refine (attName_any _ _ hm).mono ?_; rintro e w1 ⟨rfl, hb1⟩; rw [HN.out]; (have By := hid (Bx.out.trans (hb1.mono Bx.out.size))); clear hb1 Bx; (have Bx := By); clear By)
          | (go_at_call 35; refine (value_any _ _ hv (Utf8Tabs_below T.out Bx.out)).mono ?_; rintro e w1 ⟨rfl, hb1⟩; rw [HV.out]; (have By := hid (Bx.out.trans (hb1.mono Bx.out.size))); clear hb1 Bx; (have Bx := By); clear By)
          | (go_at_call 68; refine (cloneA_any A xs _ c _ rfl _ (HS.out.below Bx.out) hl9).mono ?_; rintro e w1 ⟨v1, rfl, ho1, hb1⟩; obtain ⟨A1, n1, c1, rfl, hn1⟩ := ho1.shape; (have O1 := hid (ho1.based Bx.out.size)); (have By := hid (Bx.out.trans (hb1.mono Bx.out.size))); (have hi1 : (i : Int) < (n1 : Int) := by (have := hn1.out); omega); clear ho1 hb1 Bx; (have Bx := By); clear By)
          | (go_at_call 69; refine (at_any A xs _ c _ rfl m _ (HS.out.below Bx.out) hl9).mono ?_; rintro e w1 ⟨rfl, hb1⟩; rw [HK.out]; obtain ⟨g, rfl, hbg, hcell, hfz, hst⟩ := own_store (O1.out.later hb1) hn1.out HX.out v; (have ST := hid hst); (have By := hid (Bx.out.trans (hb1.mono Bx.out.size))); clear hb1 Bx hst; (have Bx := By); clear By))
        go_ret2
        exact ansA_mk E1.out.symm E2.out.symm ST.out (Bx.out.setCell hbg _)

set_option maxRecDepth 100000 in
set_option maxHeartbeats 4000000 in
theorem refPut_any (A : Option Addr) (xs : List At) (n c B : Nat) (hn : n = xs.length) (m v : ByteArray) (w : World) (hA : SlAt encA 2 w B A xs) (hl : xs.length ≤ 100000000) (hm : m.size ≤ 1000000000) (hv : v.size ≤ 1000000000) :
    Calls Tryd.prog 48 #[.slice A n c, .string m, .string v] w (AnsA w (putL xs m v) (putE m v)) := by
  subst hn
  have HS := hid (hA.live (fun _ => by rw [encA_len]; omega))
  obtain ⟨nb, hnb⟩ : ∃ nb, nameB m.data.toList = nb := ⟨_, rfl⟩
  obtain ⟨vb, hvb⟩ : ∃ vb, valueB v = vb := ⟨_, rfl⟩
  have HN := hid hnb
  have HV := hid hvb
  have hl9 : xs.length ≤ 1000000000 := by omega
  have Bx := hid (Below.refl w.heap.size w)
  clear hA
  cases nb with
  | false =>
    have E1 := hid (show putL xs m v = [] by unfold putL; rw [hnb]; rfl)
    have E2 := hid (show putE m v = 1 by unfold putE; rw [hnb]; rfl)
    clear hnb hvb
    go_enter Tryd.func48, Tryd.ntmps48
    go_wp2_with ((go_at_call 34; refine (refName3_any _ _ hm).mono ?_; rintro e w1 ⟨rfl, rfl⟩; rw [HN.out]))
    go_ret2
    exact ansA_mk E1.out.symm E2.out.symm Own.nil Bx.out
  | true =>
    cases vb with
    | false =>
      have E1 := hid (show putL xs m v = [] by unfold putL; rw [hnb, hvb]; rfl)
      have E2 := hid (show putE m v = 1 by unfold putE; rw [hnb, hvb]; rfl)
      clear hnb hvb
      go_enter Tryd.func48, Tryd.ntmps48
      go_wp2_with (first
          | (go_at_call 34; refine (refName3_any _ _ hm).mono ?_; rintro e w1 ⟨rfl, rfl⟩; rw [HN.out])
          | (go_at_call 36; refine (refValue_any _ _ hv).mono ?_; rintro e w1 ⟨rfl, hb1⟩; rw [HV.out]; (have By := hid (Bx.out.trans (hb1.mono Bx.out.size))); clear hb1 Bx; (have Bx := By); clear By))
      go_ret2
      exact ansA_mk E1.out.symm E2.out.symm Own.nil Bx.out
    | true =>
      have E2 := hid (show putE m v = 0 by unfold putE; rw [hnb, hvb]; rfl)
      cases hf : findN xs m with
      | none =>
        have E1 := hid (show putL xs m v = xs ++ [⟨m, v⟩] by unfold putL; rw [hnb, hvb, hf]; rfl)
        have HK := hid (findK_no hf)
        have lenk : xs.length + 1 ≤ 1000000000000 := by omega
        clear hnb hvb hf
        go_enter Tryd.func48, Tryd.ntmps48
        go_wp2_with (first
          | (go_at_call 34; refine (refName3_any _ _ hm).mono ?_; rintro e w1 ⟨rfl, rfl⟩; rw [HN.out])
          | (go_at_call 36; refine (refValue_any _ _ hv).mono ?_; rintro e w1 ⟨rfl, hb1⟩; rw [HV.out]; (have By := hid (Bx.out.trans (hb1.mono Bx.out.size))); clear hb1 Bx; (have Bx := By); clear By)
          | (go_at_call 45; refine (refOwnA_any A xs _ c _ rfl _ (HS.out.below Bx.out) hl9).mono ?_; rintro e w1 ⟨v1, rfl, ho1, hb1⟩; (have O1 := hid (ho1.based Bx.out.size)); (have By := hid (Bx.out.trans (hb1.mono Bx.out.size))); clear ho1 hb1 Bx; (have Bx := By); clear By)
          | (go_at_call 46; refine (refFindA_any A xs _ c _ rfl m _ (HS.out.below Bx.out) hl9).mono ?_; rintro e w1 ⟨rfl, rfl⟩; rw [HK.out])
          | (at_builtin; refine wpList_app1g Tryd.okA rfl (.tmp 25) (.tmp 29) 39 rfl Tryd.underlying39 w.heap.size _ xs rfl O1.out (⟨m, v⟩ : At) rfl _ rfl (by simp) lenk Bx.out.size ?_; intro v' w5 hown' hb' _; (have O5 := hid hown'); (have B5 := hid (Bx.out.trans hb')); clear hown' hb'))
        go_ret2
        exact ansA_mk E1.out.symm E2.out.symm O5.out B5.out
      | some i =>
        obtain ⟨x, hx, hxn, -⟩ := findN_spec hf
        have E1 := hid (show putL xs m v = xs.set i ⟨x.n, v⟩ by unfold putL; rw [hnb, hvb, hf, hxn]; rfl)
        have HK := hid (findK_some hf)
        have HX := hid hx
        have hlt := findN_lt hf
        clear hnb hvb hf hx hxn
        go_enter Tryd.func48, Tryd.ntmps48
        go_wp2_with (first
          | (go_at_call 34; refine (refName3_any _ _ hm).mono ?_; rintro e w1 ⟨rfl, rfl⟩; rw [HN.out])
          | (go_at_call 36; refine (refValue_any _ _ hv).mono ?_; rintro e w1 ⟨rfl, hb1⟩; rw [HV.out]; (have By := hid (Bx.out.trans (hb1.mono Bx.out.size))); clear hb1 Bx; (have Bx := By); clear By)
          | (go_at_call 45; refine (refOwnA_any A xs _ c _ rfl _ (HS.out.below Bx.out) hl9).mono ?_; rintro e w1 ⟨v1, rfl, ho1, hb1⟩; obtain ⟨A1, n1, c1, rfl, hn1⟩ := ho1.shape; (have O1 := hid (ho1.based Bx.out.size)); (have By := hid (Bx.out.trans (hb1.mono Bx.out.size))); (have hi1 : (i : Int) < (n1 : Int) := by (have := hn1.out); omega); clear ho1 hb1 Bx; (have Bx := By); clear By)
          | (go_at_call 46; refine (refFindA_any A xs _ c _ rfl m _ (HS.out.below Bx.out) hl9).mono ?_; rintro e w1 ⟨rfl, rfl⟩; rw [HK.out]; obtain ⟨g, rfl, hbg, hcell, hfz, hst⟩ := own_store O1.out hn1.out HX.out v; (have ST := hid hst); clear hst))
        go_ret2
        exact ansA_mk E1.out.symm E2.out.symm ST.out (Bx.out.setCell hbg _)
end Go.Proofs.YtapjlkiffgfbfaaDoor
