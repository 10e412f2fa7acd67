/- Texts on cells and lines, put together: ROwn7, ROwn23. -/
import Derived.Test.YtblbfoniimnkcaaGreatDoorDocOwn
import Derived.Test.YtblbfoniimnkcaaGreatDoorLnROwn
import Derived.BigQuiet
import Derived.Deep.QuietTactic
import Derived.Test.YtblbfoniimnkcaaGreatDoorTOwn
import Derived.Test.YtblbfoniimnkcaaGreatDoorBgDr
/- The walk of the reference's Own of documents. (Printed by wip/bldoc.py.) -/
namespace Go.Proofs.YtblbfoniimnkcaaGreatDoor
open Go.RowKit Go.Lib

set_option maxRecDepth 100000 in
set_option maxHeartbeats 4000000 in
theorem rOwn7_any (hs : List Hd) (A : Option Addr) (n c C : Nat) (hn : n = hs.length) (w : World) (hd : DocAt w C A hs) (h1 : hs.length ≤ 1000) (h2 : ∀ h ∈ hs, h.l.ls.length ≤ 1000000 ∧ h.l.cs.length ≤ 1000000) :
    Calls Tryz.prog 26 #[.slice A n c] w (RetDoc (lnsOf hs) w) := by
  subst hn
  have D0 := hid h2
  have L0 := hid h1
  have HD := hid hd.live
  clear hd h2
  go_enter Tryz.func26, Tryz.ntmps26
  go_wp2_with fail
  go_loopw [3, 4] (fun v i wr => ∃ (k : Nat) (rs : List Hd), k ≤ hs.length ∧ i = .int .i64 k ∧ Hid (lnsOf rs = (lnsOf hs).take k) ∧ Hid (Own encH 4 46 wr w.heap.size v rs) ∧ Hid (∀ x ∈ rs, HdW wr w.heap.size x) ∧ (∃ A' n' c', v = .slice A' n' c') ∧ Hid (Below w.heap.size w wr)) (fun _ i _ => hs.length - (intOf i).toNat)
  case atStart => exact ⟨0, [], Nat.zero_le _, rfl, rfl, hid Own.nil, hid (fun _ h => by cases h), ⟨_, _, _, rfl⟩, hid (Below.refl _ _)⟩
  case round =>
    obtain ⟨k, rs, hk, rfl, HR, HO, HL, ⟨A', n', c', rfl⟩, HB⟩ := hrel
    have HW := hid (HD.out.belowM HB.out (Nat.le_refl _))
    have K := hid (KG.start wr [⟨hs, A, false⟩] (by simpa using HW.out.live))
    by_cases hlt : k < hs.length
    · obtain ⟨ad, x, rfl, -, hx, -⟩ := HW.out.row.atH hlt
      have hi1 : (k : Int) < (hs.length : Int) := by omega
      have XL : Hid (x.l.ls.length ≤ 1000000000) := hid (by have := (D0.out x (List.mem_of_getElem? hx)).1; omega)
      have XC : Hid (x.l.cs.length ≤ 1000000000) := hid (by have := (D0.out x (List.mem_of_getElem? hx)).2; omega)
      have LE : Hid (rs.length + 1 ≤ 1000000000000) := hid (by have e := congrArg List.length HR.out; rw [lnsOf_len, List.length_take, lnsOf_len] at e; have := L0.out; omega)
      have HX := hid hx
      clear hx HW
      go_wp2_with (first
        | go_big_skip
        | ((with_reducible show wpList _ _ _ _ _ _); refine kgElem (by rfl) 46 _ (by rfl) _ Tryz.underlying46 rfl (by kernel_rfl) K (by rfl) (by repeat (first | exact List.mem_cons_self | refine List.mem_cons_of_mem _ ?_)) HX.out ?_)
        | ((with_reducible show wpList _ _ _ _ _ _); refine kgAlloc (by rfl) 46 (by rfl) (some 5) (by rfl) [.int .i64 0, .slice none 0 0, .int .i64 0, .slice none 0 0] (fun _ => by kernel_rfl) K ?_; intro g5 V1 K1; clear K; (have K := K1); clear K1)
        | ((with_reducible show wpList _ _ _ _ _ _); refine kgStore (by rfl) 46 (.tmp 5) _ (by rfl) 4 (by kernel_rfl) [] (by exact K) (by rfl) (by rfl) [_, _, _, _] (by rfl) (by rfl) (by simp) (by simp [Value.oneCell']) (cs := [_, _, _, _]) (by rfl) ?_; intro V2 K1; (dsimp only [List.cons_append, List.nil_append] at K1); clear K; (have K := K1); clear K1)
        | ((with_reducible show wpList _ _ _ _ _ _); refine kgLoadA (by rfl) 46 _ (by rfl) 4 _ Tryz.underlying46 rfl (by kernel_rfl) K (by rfl) (by repeat (first | exact List.mem_cons_self | refine List.mem_cons_of_mem _ ?_)) (part := [_, _, _, _]) (by rfl) (by rfl) ?_)
        | (go_at_call 43; (with_reducible refine (refLOwn_any x.l x.A _ x.c x.B _ x.d _ rfl rfl _ ((K.out.at_ (d := ⟨hs, some ad, false⟩) (by simp)).ln HX.out) XL.out XC.out).mono ?_); rintro e W3 ⟨A3, c3, B3, d3, rfl, ho, hb3⟩; (have HN : Hid (HdW W3 w.heap.size (⟨x.l, A3, c3, B3, d3⟩ : Hd)) := hid ⟨ho.wr.based (Nat.le_trans HB.out.size K.out.b.size), ho.caps.1, ho.caps.2⟩); clear ho; simp only [lnV]; (have BW := hid (K.out.b.trans (hb3.mono K.out.b.size))); (have HO3 := hid (HO.out.later BW.out)); clear hb3 K)
        | (at_builtin; refine wpList_app1g Tryz.okH rfl (.tmp 11) (.tmp 17) 22 rfl Tryz.underlying22 w.heap.size _ rs rfl HO3.out (⟨x.l, A3, c3, B3, d3⟩ : Hd) rfl _ rfl rfl LE.out (Nat.le_trans HB.out.size BW.out.size) ?_; intro v' w1 hown' hb' hg'; (have HG := hid hg'); (have HOA := hid hown'); (have HBA := hid hb'); clear hg' hown' hb'))
      obtain ⟨A4, n4, c4, rfl, -⟩ := HOA.out.shape
      go_wp2_with fail
      go_roundw
      case rel =>
        refine ⟨k + 1, rs ++ [⟨x.l, A3, c3, B3, d3⟩], by omega, by go_num, hid (lnsOf_snoc HR.out HX.out rfl), HOA, hid (fun y hy => ?_), ⟨_, _, _, rfl⟩, hid ((HB.out.trans (BW.out.mono HB.out.size)).trans HBA.out)⟩
        have al : Below W3.heap.size W3 (W3.alloc (.cells #[.int .i64 x.l.q, .slice A3 x.l.ls.length c3, .int .i64 x.l.k, .slice B3 x.l.cs.length d3] 46)) := (Below.refl _ _).alloc (Nat.le_refl _) _
        refine HdW.grown ?_ (HO3.out.alloc _) HG.out
        rcases List.mem_append.1 hy with hy | hy
        · exact ((HL.out y hy).later BW.out).later al
        · rw [List.mem_singleton.1 hy]
          exact HN.out.later al
      case measure => simp [intOf]; omega
    · obtain rfl : k = hs.length := by omega
      have HR2 : Hid (lnsOf rs = lnsOf hs) := hid (HR.out.trans (List.take_of_length_le (by rw [lnsOf_len]; exact Nat.le_refl _)))
      go_wp2_with fail
      go_ret
      exact RetDoc.mk' HO.out HL.out HR2.out HB.out
end Go.Proofs.YtblbfoniimnkcaaGreatDoor

/- The walk of the reference's Own of states. (Printed by wip/bldoc.py.) -/
namespace Go.Proofs.YtblbfoniimnkcaaGreatDoor
open Go.RowKit Go.Lib

set_option maxRecDepth 100000 in
set_option maxHeartbeats 8000000 in
theorem rOwn23_any (hs : List Hd) (A : Option Addr) (n c C : Nat) (hn : n = hs.length) (w : World) (hd : DocAt w C A hs) (h1 : hs.length ≤ 1000) (h2 : ∀ h ∈ hs, h.l.ls.length ≤ 1000000 ∧ h.l.cs.length ≤ 1000000) (al aa fl fa on off : Int) :
    Calls Tryz.prog 11 #[.agg #[.slice A n c, .int .i64 al, .int .i64 aa, .int .i64 fl, .int .i64 fa, .int .i64 on, .int .i64 off]] w (RetSt ⟨lnsOf hs, ⟨al, aa⟩, ⟨fl, fa⟩, on, off⟩ w) := by
  subst hn
  have D0 := hid h2
  have L0 := hid h1
  have K := hid (KG.start w [⟨hs, A, false⟩] (by simpa using hd.live))
  have H2 := hid h2
  clear hd h2
  go_enter Tryz.func11, Tryz.ntmps11
  go_upto_region 1 with (first
    | go_big_skip
    | ((with_reducible show wpList _ _ _ _ _ _); refine kgBox (by rfl) 26 _ (by rfl) (some 1) (by rfl) (by rfl) [_, _, _, _, _, _, _] (by rfl) K ?_; intro g1 V1 K1; clear K; (have K := K1); clear K1)
    | ((with_reducible show wpList _ _ _ _ _ _); refine kgAlloc (by rfl) 26 (by rfl) (some 2) (by rfl) [.slice none 0 0, .int .i64 0, .int .i64 0, .int .i64 0, .int .i64 0, .int .i64 0, .int .i64 0] (fun _ => by kernel_rfl) K ?_; intro g2 V1 K1; clear K; (have K := K1); clear K1))
  simp only [Act.put, List.setIfInBounds_toArray, List.set_cons_succ, List.set_cons_zero]
  obtain ⟨vs, hvs⟩ : ∃ vs : DocX → List Value, vs = fun ⟨A3, n3, c3, hs3⟩ => [.pointer (some ⟨g1, 0, none⟩), .slice A hs.length c, .slice A3 n3 c3, .pointer (some ⟨g1, 1, none⟩), .agg #[.int .i64 al, .int .i64 aa], .pointer (some ⟨g1, 3, none⟩), .agg #[.int .i64 fl, .int .i64 fa], .pointer (some ⟨g1, 5, none⟩), .int .i64 on, .pointer (some ⟨g1, 6, none⟩), .int .i64 off, .agg #[.slice A3 n3 c3, .int .i64 al, .int .i64 aa, .int .i64 fl, .int .i64 fa, .int .i64 on, .int .i64 off], undef] := ⟨_, rfl⟩
  replace hvs := hid hvs
  obtain ⟨J, hJ⟩ : ∃ J : DocX → (Nat → Bool) → World → Prop, J = fun ⟨A3, n3, c3, hs3⟩ b W => Hid (KG w W [⟨g2, 26, if b 12 then [.slice A3 n3 c3, .int .i64 al, .int .i64 aa, .int .i64 fl, .int .i64 fa, .int .i64 on, .int .i64 off] else [.slice none 0 0, .int .i64 0, .int .i64 0, .int .i64 0, .int .i64 0, .int .i64 0, .int .i64 0]⟩, ⟨g1, 26, [.slice A hs.length c, .int .i64 al, .int .i64 aa, .int .i64 fl, .int .i64 fa, .int .i64 on, .int .i64 off]⟩] (if b 2 then [⟨hs3, A3, true⟩, ⟨hs, A, false⟩] else [⟨hs, A, false⟩])) ∧ (b 2 = true → Hid (n3 = hs3.length ∧ n3 ≤ c3 ∧ lnsOf hs3 = lnsOf hs)) := ⟨_, rfl⟩
  replace hJ := hid hJ
  refine wp_drawn_dep vs (by kernel_rfl) (by kernel_rfl) (by rw [hvs.out]; exact fun _ => rfl) J ⟨none, 0, 0, []⟩ (by rw [hJ.out]; exact ⟨hid (K.out.quiet ⟨1, rfl⟩), fun h => by cases h⟩) ?step ?fin
  case step =>
    clear K
    intro i o x b W ho hb hw hc K
    obtain ⟨A3, n3, c3, hs3⟩ := x
    rw [hJ.out] at K
    dsimp only at K
    have ev : vs ⟨A3, n3, c3, hs3⟩ = [.pointer (some ⟨g1, 0, none⟩), .slice A hs.length c, .slice A3 n3 c3, .pointer (some ⟨g1, 1, none⟩), .agg #[.int .i64 al, .int .i64 aa], .pointer (some ⟨g1, 3, none⟩), .agg #[.int .i64 fl, .int .i64 fa], .pointer (some ⟨g1, 5, none⟩), .int .i64 on, .pointer (some ⟨g1, 6, none⟩), .int .i64 off, .agg #[.slice A3 n3 c3, .int .i64 al, .int .i64 aa, .int .i64 fl, .int .i64 fa, .int .i64 on, .int .i64 off], undef] := by rw [hvs.out]
    rw [ev]
    replace ev := hid ev
    simp only [drFrame, List.setIfInBounds_toArray, List.set_cons_succ, List.set_cons_zero]
    obtain ⟨K, HQ⟩ := K
    replace HQ := hid HQ
    rcases i with _ | i
    · obtain rfl := Option.some.inj ho
      replace hb := hid hb
      replace hc := hid hc
      clear ho hw
      go_wp2_with (first
        | fail)
      refine ⟨rfl, ⟨A3, n3, c3, hs3⟩, by rw [ev.out]; rfl, (by intro j _; rw [ev.out]), ?_⟩
      rw [hJ.out]
      exact ⟨K, HQ⟩
    rcases i with _ | i
    · obtain rfl := Option.some.inj ho
      replace hb := hid hb
      replace hc := hid hc
      clear ho hw
      go_wp2_with (first
        | go_big_skip
        | ((with_reducible show wpList _ _ _ _ _ _); refine kgLoad1 (by rfl) 22 _ (by rfl) _ Tryz.underlying22 rfl K (by rfl) (by repeat (first | exact List.mem_cons_self | refine List.mem_cons_of_mem _ ?_)) (by rfl) ?_))
      refine ⟨rfl, ⟨A3, n3, c3, hs3⟩, by rw [ev.out]; rfl, (by intro j _; rw [ev.out]), ?_⟩
      rw [hJ.out]
      exact ⟨K, HQ⟩
    rcases i with _ | i
    · obtain rfl := Option.some.inj ho
      replace hb : b 2 = false := hb
      simp only [hb, Bool.false_eq_true, if_false] at K
      replace hb := hid hb
      replace hc := hid hc
      clear ho hw
      go_wp2_with (first
        | go_big_skip
        | (go_at_call 26; (with_reducible refine (rOwn7_any hs A _ c _ rfl _ (K.out.at_ (d := ⟨hs, A, false⟩) (by simp)) h1 H2.out).mono ?_); rintro e W3 ⟨A9, n9, c9, hs9, rfl, q1, q2, q3, ho, hb3⟩; (have QQ : Hid (n9 = hs9.length ∧ n9 ≤ c9 ∧ lnsOf hs9 = lnsOf hs) := hid ⟨q1, q2, q3⟩); (have K2 := hid (K.out.addW hb3 ho)); clear q1 q2 q3 ho hb3 K; (have K := K2); clear K2))
      refine ⟨rfl, ⟨A9, n9, c9, hs9⟩, ?_, ?_, ?_⟩
      · rw [hvs.out]; rfl
      · intro j hj
        rw [hvs.out]
        rcases j with _ | _ | _ | _ | _ | _ | _ | _ | _ | _ | _ | _ | _ | j <;> first | rfl | (rw [hb.out] at hj; cases hj) | exact absurd (hc.out _ 2 (by kernel_rfl) hj) (by rw [hb.out]; simp)
      · rw [hJ.out]
        have e : b 12 = false := by
          cases h6 : b 12 with
          | false => rfl
          | true => exact absurd (hc.out _ 2 (by kernel_rfl) (hc.out _ 11 (by kernel_rfl) h6)) (by rw [hb.out]; simp)
        refine ⟨?_, fun _ => QQ⟩
        dsimp only
        rw [show bitUp b (0 + 1 + 1) 12 = b 12 from rfl, e]
        rw [e] at K
        exact K
    rcases i with _ | i
    · obtain rfl := Option.some.inj ho
      replace hb := hid hb
      replace hc := hid hc
      clear ho hw
      go_wp2_with (first
        | fail)
      refine ⟨rfl, ⟨A3, n3, c3, hs3⟩, by rw [ev.out]; rfl, (by intro j _; rw [ev.out]), ?_⟩
      rw [hJ.out]
      exact ⟨K, HQ⟩
    rcases i with _ | i
    · obtain rfl := Option.some.inj ho
      replace hb := hid hb
      replace hc := hid hc
      clear ho hw
      go_wp2_with (first
        | go_big_skip
        | ((with_reducible show wpList _ _ _ _ _ _); refine kgLoadA (by rfl) 24 _ (by rfl) 2 _ Tryz.underlying24 rfl (by kernel_rfl) K (by rfl) (by repeat (first | exact List.mem_cons_self | refine List.mem_cons_of_mem _ ?_)) (part := [_, _]) (by rfl) (by rfl) ?_))
      refine ⟨rfl, ⟨A3, n3, c3, hs3⟩, by rw [ev.out]; rfl, (by intro j _; rw [ev.out]), ?_⟩
      rw [hJ.out]
      exact ⟨K, HQ⟩
    rcases i with _ | i
    · obtain rfl := Option.some.inj ho
      replace hb := hid hb
      replace hc := hid hc
      clear ho hw
      go_wp2_with (first
        | fail)
      refine ⟨rfl, ⟨A3, n3, c3, hs3⟩, by rw [ev.out]; rfl, (by intro j _; rw [ev.out]), ?_⟩
      rw [hJ.out]
      exact ⟨K, HQ⟩
    rcases i with _ | i
    · obtain rfl := Option.some.inj ho
      replace hb := hid hb
      replace hc := hid hc
      clear ho hw
      go_wp2_with (first
        | go_big_skip
        | ((with_reducible show wpList _ _ _ _ _ _); refine kgLoadA (by rfl) 24 _ (by rfl) 2 _ Tryz.underlying24 rfl (by kernel_rfl) K (by rfl) (by repeat (first | exact List.mem_cons_self | refine List.mem_cons_of_mem _ ?_)) (part := [_, _]) (by rfl) (by rfl) ?_))
      refine ⟨rfl, ⟨A3, n3, c3, hs3⟩, by rw [ev.out]; rfl, (by intro j _; rw [ev.out]), ?_⟩
      rw [hJ.out]
      exact ⟨K, HQ⟩
    rcases i with _ | i
    · obtain rfl := Option.some.inj ho
      replace hb := hid hb
      replace hc := hid hc
      clear ho hw
      go_wp2_with (first
        | fail)
      refine ⟨rfl, ⟨A3, n3, c3, hs3⟩, by rw [ev.out]; rfl, (by intro j _; rw [ev.out]), ?_⟩
      rw [hJ.out]
      exact ⟨K, HQ⟩
    rcases i with _ | i
    · obtain rfl := Option.some.inj ho
      replace hb := hid hb
      replace hc := hid hc
      clear ho hw
      go_wp2_with (first
        | go_big_skip
        | ((with_reducible show wpList _ _ _ _ _ _); refine kgLoad1 (by rfl) 3 _ (by rfl) _ Tryz.underlying3 rfl K (by rfl) (by repeat (first | exact List.mem_cons_self | refine List.mem_cons_of_mem _ ?_)) (by rfl) ?_))
      refine ⟨rfl, ⟨A3, n3, c3, hs3⟩, by rw [ev.out]; rfl, (by intro j _; rw [ev.out]), ?_⟩
      rw [hJ.out]
      exact ⟨K, HQ⟩
    rcases i with _ | i
    · obtain rfl := Option.some.inj ho
      replace hb := hid hb
      replace hc := hid hc
      clear ho hw
      go_wp2_with (first
        | fail)
      refine ⟨rfl, ⟨A3, n3, c3, hs3⟩, by rw [ev.out]; rfl, (by intro j _; rw [ev.out]), ?_⟩
      rw [hJ.out]
      exact ⟨K, HQ⟩
    rcases i with _ | i
    · obtain rfl := Option.some.inj ho
      replace hb := hid hb
      replace hc := hid hc
      clear ho hw
      go_wp2_with (first
        | go_big_skip
        | ((with_reducible show wpList _ _ _ _ _ _); refine kgLoad1 (by rfl) 3 _ (by rfl) _ Tryz.underlying3 rfl K (by rfl) (by repeat (first | exact List.mem_cons_self | refine List.mem_cons_of_mem _ ?_)) (by rfl) ?_))
      refine ⟨rfl, ⟨A3, n3, c3, hs3⟩, by rw [ev.out]; rfl, (by intro j _; rw [ev.out]), ?_⟩
      rw [hJ.out]
      exact ⟨K, HQ⟩
    rcases i with _ | i
    · obtain rfl := Option.some.inj ho
      replace hb := hid hb
      replace hc := hid hc
      clear ho hw
      go_wp2_with (first
        | fail)
      refine ⟨rfl, ⟨A3, n3, c3, hs3⟩, by rw [ev.out]; rfl, (by intro j _; rw [ev.out]), ?_⟩
      rw [hJ.out]
      exact ⟨K, HQ⟩
    rcases i with _ | i
    · obtain rfl := Option.some.inj ho
      replace hb : b 12 = false := hb
      simp only [hb, Bool.false_eq_true, if_false] at K
      replace hb := hid hb
      replace hc := hid hc
      clear ho hw
      go_wp2_with (first
        | go_big_skip
        | ((with_reducible show wpList _ _ _ _ _ _); refine kgStore (by rfl) 26 (.tmp 2) _ (by rfl) 7 (by kernel_rfl) [] (by exact K) (by rfl) (by rfl) [_, _, _, _, _, _, _] (by rfl) (by rfl) (by simp) (by simp [Value.oneCell']) (cs := [_, _, _, _, _, _, _]) (by rfl) ?_; intro V2 K1; (dsimp only [List.cons_append, List.nil_append] at K1); clear K; (have K := K1); clear K1))
      refine ⟨rfl, ⟨A3, n3, c3, hs3⟩, trivial, (by intro j _; rw [ev.out]), ?_⟩
      rw [hJ.out]
      exact ⟨K, HQ⟩
    · cases ho
  case fin =>
    clear K
    intro x b W hb K
    obtain ⟨A3, n3, c3, hs3⟩ := x
    rw [hJ.out] at K
    dsimp only at K
    have ev : vs ⟨A3, n3, c3, hs3⟩ = [.pointer (some ⟨g1, 0, none⟩), .slice A hs.length c, .slice A3 n3 c3, .pointer (some ⟨g1, 1, none⟩), .agg #[.int .i64 al, .int .i64 aa], .pointer (some ⟨g1, 3, none⟩), .agg #[.int .i64 fl, .int .i64 fa], .pointer (some ⟨g1, 5, none⟩), .int .i64 on, .pointer (some ⟨g1, 6, none⟩), .int .i64 off, .agg #[.slice A3 n3 c3, .int .i64 al, .int .i64 aa, .int .i64 fl, .int .i64 fa, .int .i64 on, .int .i64 off], undef] := by rw [hvs.out]
    rw [ev]
    clear ev
    simp only [drFrame, List.setIfInBounds_toArray, List.set_cons_succ, List.set_cons_zero]
    have b2 := hb 2 (by decide)
    have b12 := hb 12 (by decide)
    simp only [b2, b12, if_true] at K
    clear b2 b12
    clear hb hJ hvs
    obtain ⟨K, HQ⟩ := K
    replace HQ := HQ trivial
    go_wp2_with (first
      | fail)
    refine bodyPost_ret (results_c Tryz.results11 (by rfl) (K.out.loadA (off := 0) (n := 7) (by repeat (first | exact List.mem_cons_self | refine List.mem_cons_of_mem _ ?_)) Tryz.underlying26 rfl (by kernel_rfl) (part := [_, _, _, _, _, _, _]) (by rfl) (by rfl))) rfl ?_
    exact ⟨A3, n3, c3, hs3, rfl, HQ.out.1, HQ.out.2.1, HQ.out.2.2, K.out.docW (by simp), K.out.b⟩
end Go.Proofs.YtblbfoniimnkcaaGreatDoor
