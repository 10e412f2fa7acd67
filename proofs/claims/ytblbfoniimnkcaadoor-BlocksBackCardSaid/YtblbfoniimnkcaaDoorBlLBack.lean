/- The walk of the law BlocksBack: it answers true. (Printed by wip/bldoc.py.) -/
import Derived.Test.YtblbfoniimnkcaaDoorBgPl
import Derived.Test.YtblbfoniimnkcaaDoorBlAwake
import Derived.Test.YtblbfoniimnkcaaDoorDocBits
import Derived.Test.YtblbfoniimnkcaaDoorDocLong
import Derived.Test.YtblbfoniimnkcaaDoorBgSame
import Derived.Test.YtblbfoniimnkcaaDoorTSpan
import Derived.Test.YtblbfoniimnkcaaDoorBgOpen
import Derived.Test.YtblbfoniimnkcaaDoorDrawn2
import Derived.BigQuiet
import Derived.Deep.QuietTactic
namespace Go.Proofs.YtblbfoniimnkcaaDoor
open Go.RowKit Go.Lib

set_option maxRecDepth 100000 in
set_option maxHeartbeats 32000000 in
theorem blocksBack_walk (w : World) {s : Stt} {hs : List Hd} {A : Option Addr} {n c : Nat} (hS : StateIn w s hs A n c) (kind : Int) (_ : (Lit.int .i64 kind).wf = true) (hT : Tb w) :
    Calls Tryd.prog 4 #[stV s A n c, .int .i64 kind] w fun e w' => e = .returned (.bool true) ∧ Below w.heap.size w w' := by
  obtain ⟨d, ⟨al, aa⟩, ⟨fl, fa⟩, on, off⟩ := s
  obtain rfl : d = lnsOf hs := hS.d
  have BG := hid hS.big
  obtain rfl : n = hs.length := hS.doc.len
  have K := hid (KG.start w [⟨hs, A, false⟩] (by simpa using hS.doc.at_))
  have T := hid hT
  clear hT
  unfold stV
  dsimp only
  cases hb : longD (lnsOf hs) with
  | true =>
    have HL := hid hb
    clear hb hS
    go_enter Tryd.func4, Tryd.ntmps4
    go_wp2_with (first
      | go_big_skip
      | ((with_reducible show wpList _ _ _ _ _ _); refine kgBox (by rfl) 26 _ (by rfl) (some 2) (by rfl) (by rfl) [_, _, _, _, _, _, _] (by rfl) K ?_; intro g2 V1 K1; clear K; (have K := K1); clear K1)
      | ((with_reducible show wpList _ _ _ _ _ _); refine kgLoadA (by rfl) 26 _ (by rfl) 7 _ Tryd.underlying26 rfl (by kernel_rfl) K (by rfl) (by repeat (first | exact List.mem_cons_self | refine List.mem_cons_of_mem _ ?_)) (part := [_, _, _, _, _, _, _]) (by rfl) (by rfl) ?_)
      | (go_at_call 6; (with_reducible refine (long25_any hs A _ c _ al aa fl fa on off rfl _ (K.out.at_ (d := ⟨hs, A, false⟩) (by simp)) BG.out.1 BG.out.2).mono ?_); rintro e W1 ⟨rfl, hb⟩; rw [HL.out]; (have K2 := hid (K.out.later hb)); clear hb K; (have K := K2); clear K2)
      | (go_at_call 9; (with_reducible refine (awake25_any _ (Utf8Tabs_below T.out K.out.b)).mono ?_); rintro e W9 ⟨rfl, hb⟩; (have K2 := hid (K.out.later hb)); clear hb K; (have K := K2); clear K2))
    go_ret
    exact ⟨rfl, K.out.b⟩
  | false =>
    have HL := hid hb
    obtain ⟨okd, hz⟩ := hS.ok hb
    obtain ⟨l0, h2, hf⟩ := OkD.hs rfl okd
    have L0 := hid l0
    have H2 := hid h2
    have FI := hid hf
    have OKD := hid okd
    clear hb l0 h2 hf okd hS
    cases hb : mayS ⟨lnsOf hs, ⟨al, aa⟩, ⟨fl, fa⟩, on, off⟩ with
    | false =>
      have MB := hid hb
      clear hb
      go_enter Tryd.func4, Tryd.ntmps4
      go_wp2_with (first
        | go_big_skip
        | ((with_reducible show wpList _ _ _ _ _ _); refine kgBox (by rfl) 26 _ (by rfl) (some 2) (by rfl) (by rfl) [_, _, _, _, _, _, _] (by rfl) K ?_; intro g2 V1 K1; clear K; (have K := K1); clear K1)
        | ((with_reducible show wpList _ _ _ _ _ _); refine kgLoadA (by rfl) 26 _ (by rfl) 7 _ Tryd.underlying26 rfl (by kernel_rfl) K (by rfl) (by repeat (first | exact List.mem_cons_self | refine List.mem_cons_of_mem _ ?_)) (part := [_, _, _, _, _, _, _]) (by rfl) (by rfl) ?_)
        | (go_at_call 6; (with_reducible refine (long25_any hs A _ c _ al aa fl fa on off rfl _ (K.out.at_ (d := ⟨hs, A, false⟩) (by simp)) BG.out.1 BG.out.2).mono ?_); rintro e W1 ⟨rfl, hb⟩; rw [HL.out]; (have K2 := hid (K.out.later hb)); clear hb K; (have K := K2); clear K2)
        | (go_at_call 8; (with_reducible refine (tMay_any hs A _ c _ rfl _ (K.out.at_ (d := ⟨hs, A, false⟩) (by simp)) L0.out H2.out FI.out (Utf8Tabs_below T.out K.out.b) al aa fl fa on off).mono ?_); rintro e W2 ⟨rfl, hb⟩; rw [MB.out]; (have K2 := hid (K.out.later hb)); clear hb K; (have K := K2); clear K2)
        | (go_at_call 9; (with_reducible refine (awake25_any _ (Utf8Tabs_below T.out K.out.b)).mono ?_); rintro e W9 ⟨rfl, hb⟩; (have K2 := hid (K.out.later hb)); clear hb K; (have K := K2); clear K2))
      go_ret
      exact ⟨rfl, K.out.b⟩
    | true =>
      have MB := hid hb
      obtain ⟨f, t, pa, qa, hp, hq, hft, htl, hln, hfn, hsn⟩ := span_nat hb
      have HP := hid hp
      have HQ := hid hq
      have hB := hid hb
      have FN := hid hfn
      have SN := hid hsn
      dsimp only at htl hln
      rw [lnsOf_len] at htl hln
      have hf0 : (0 : Int) ≤ (f : Int) := by omega
      have ht3 : (t : Int) ≤ 300 := by omega
      clear hp hq hfn hsn
      have hk01 : (bits .and .i64 kind 1) = 0 ∨ (bits .and .i64 kind 1) = 1 := and1 kind
      obtain ⟨LD, LB, le, lm, lcs, lb, lno, lyes⟩ := list_cases hb hk01 f FN.out
      dsimp only at le lm lcs lb lno lyes
      rw [SN.out] at lyes
      have LE := hid le
      have LCS := hid lcs
      have OKL := hid (OkD.turnedS (s := ⟨lnsOf hs, ⟨al, aa⟩, ⟨fl, fa⟩, on, off⟩) OKD.out lm lcs)
      have LBE := hid lb
      have LNO := hid lno
      have LYES := hid lyes
      have BC := back_cases hb f FN.out
      dsimp only at BC
      rw [SN.out] at BC
      clear le lm lcs lb lno lyes hb hk01
      rcases BC with hb1 | ⟨D, D2, hb1, hb2, hb3, hb4, hb5, hb6, hb7⟩
      · have E1 := hid hb1
        clear hb1
        go_enter Tryd.func4, Tryd.ntmps4
        cases LB with
        | false =>
          have LA := hid (LNO.out rfl)
          go_wp2_with (first
            | go_big_skip
            | ((with_reducible show wpList _ _ _ _ _ _); refine kgBox (by rfl) 26 _ (by rfl) (some 2) (by rfl) (by rfl) [_, _, _, _, _, _, _] (by rfl) K ?_; intro g2 V1 K1; clear K; (have K := K1); clear K1)
            | ((with_reducible show wpList _ _ _ _ _ _); refine kgLoadA (by rfl) 26 _ (by rfl) 7 _ Tryd.underlying26 rfl (by kernel_rfl) K (by rfl) (by repeat (first | exact List.mem_cons_self | refine List.mem_cons_of_mem _ ?_)) (part := [_, _, _, _, _, _, _]) (by rfl) (by rfl) ?_)
            | ((with_reducible show wpList _ _ _ _ _ _); refine kgLoad1 (by rfl) 22 _ (by rfl) _ Tryd.underlying22 rfl K (by rfl) (by repeat (first | exact List.mem_cons_self | refine List.mem_cons_of_mem _ ?_)) (by rfl) ?_)
            | (go_at_call 6; (with_reducible refine (long25_any hs A _ c _ al aa fl fa on off rfl _ (K.out.at_ (d := ⟨hs, A, false⟩) (by simp)) BG.out.1 BG.out.2).mono ?_); rintro e W1 ⟨rfl, hb⟩; rw [HL.out]; (have K2 := hid (K.out.later hb)); clear hb K; (have K := K2); clear K2)
            | (go_at_call 8; (with_reducible refine (tMay_any hs A _ c _ rfl _ (K.out.at_ (d := ⟨hs, A, false⟩) (by simp)) L0.out H2.out FI.out (Utf8Tabs_below T.out K.out.b) al aa fl fa on off).mono ?_); rintro e W2 ⟨rfl, hb⟩; rw [MB.out]; (have K2 := hid (K.out.later hb)); clear hb K; (have K := K2); clear K2)
            | (go_at_call 10; (with_reducible refine (tSpan_any (lnsOf hs) A _ c al aa fl fa on off _).mono ?_); rintro e W3 ⟨rfl, hb⟩; rw [HP.out, HQ.out]; unfold psV; dsimp only; (have K2 := hid (K.out.later hb)); clear hb K; (have K := K2); clear K2)
            | ((with_reducible show wpList _ _ _ _ _ _); refine kgAlloc (by rfl) 24 (by rfl) (some 5) (by rfl) [.int .i64 0, .int .i64 0] (fun _ => by kernel_rfl) K ?_; intro g5 V1 K1; clear K; (have K := K1); clear K1)
            | ((with_reducible show wpList _ _ _ _ _ _); refine kgAlloc (by rfl) 24 (by rfl) (some 6) (by rfl) [.int .i64 0, .int .i64 0] (fun _ => by kernel_rfl) K ?_; intro g6 V1 K1; clear K; (have K := K1); clear K1)
            | ((with_reducible show wpList _ _ _ _ _ _); refine kgStore (by rfl) 24 (.tmp 5) _ (by rfl) 2 (by kernel_rfl) [_] (by exact K) (by rfl) (by rfl) [_, _] (by rfl) (by rfl) (by simp) (by simp [Value.oneCell']) (cs := [_, _]) (by rfl) ?_; intro V2 K1; (dsimp only [List.cons_append, List.nil_append] at K1); clear K; (have K := K1); clear K1)
            | ((with_reducible show wpList _ _ _ _ _ _); refine kgStore (by rfl) 24 (.tmp 6) _ (by rfl) 2 (by kernel_rfl) [] (by exact K) (by rfl) (by rfl) [_, _] (by rfl) (by rfl) (by simp) (by simp [Value.oneCell']) (cs := [_, _]) (by rfl) ?_; intro V2 K1; (dsimp only [List.cons_append, List.nil_append] at K1); clear K; (have K := K1); clear K1)
            | ((with_reducible show wpList _ _ _ _ _ _); refine kgLoad1 (by rfl) 3 _ (by rfl) _ Tryd.underlying3 rfl K (by rfl) (by repeat (first | exact List.mem_cons_self | refine List.mem_cons_of_mem _ ?_)) (by rfl) ?_)
            | (go_at_call 15; (with_reducible refine (bIndent_any hs A _ c _ rfl _ (K.out.at_ (d := ⟨hs, A, false⟩) (by simp)) L0.out H2.out FI.out (Utf8Tabs_below T.out K.out.b) al aa fl fa on off).mono ?_); rintro e W5 hc; unfold RetStE at hc; rw [E1.out] at hc; obtain ⟨A3, n3, c3, hs3, rfl, q1, q2, q3, ho, hb3⟩ := hc; dsimp only at q3; unfold stV; dsimp only; (obtain rfl : n3 = hs3.length := q1); (have Q3 := hid q3); (have K2 := hid (K.out.addW hb3 ho)); clear q2 q3 ho hb3 K; (have K := K2); clear K2)
            | ((with_reducible show wpList _ _ _ _ _ _); refine kgAlloc (by rfl) 26 (by rfl) (some 7) (by rfl) [.slice none 0 0, .int .i64 0, .int .i64 0, .int .i64 0, .int .i64 0, .int .i64 0, .int .i64 0] (fun _ => by kernel_rfl) K ?_; intro g7 V1 K1; clear K; (have K := K1); clear K1)
            | ((with_reducible show wpList _ _ _ _ _ _); refine kgStore (by rfl) 26 (.tmp 7) _ (by rfl) 7 (by kernel_rfl) [] (by exact K) (by rfl) (by rfl) [_, _, _, _, _, _, _] (by rfl) (by rfl) (by simp) (by simp [Value.oneCell']) (cs := [_, _, _, _, _, _, _]) (by rfl) ?_; intro V2 K1; (dsimp only [List.cons_append, List.nil_append] at K1); clear K; (have K := K1); clear K1)
            | (go_at_call 18; (with_reducible refine (bListed_any hs A _ c _ rfl _ (K.out.at_ (d := ⟨hs, A, false⟩) (by simp)) L0.out H2.out FI.out (Utf8Tabs_below T.out K.out.b) al aa fl fa on off _).mono ?_); rintro e W6 ⟨rfl, hb⟩; rw [LBE.out]; dsimp only; (have K2 := hid (K.out.later hb)); clear hb K; (have K := K2); clear K2)
            | (go_at_call 19; (with_reducible refine (bList_any hs A _ c _ rfl _ (K.out.at_ (d := ⟨hs, A, false⟩) (by simp)) L0.out H2.out FI.out (Utf8Tabs_below T.out K.out.b) al aa fl fa on off _).mono ?_); rintro e W5 hc; unfold RetStE at hc; rw [LE.out] at hc; obtain ⟨A9, n9, c9, hs9, rfl, q1, q2, q3, ho, hb3⟩ := hc; dsimp only at q3; unfold stV; dsimp only; (obtain rfl : n9 = hs9.length := q1); (have Q9 := hid q3); (have K2 := hid (K.out.addW hb3 ho)); clear q2 q3 ho hb3 K; (have K := K2); clear K2)
            | ((with_reducible show wpList _ _ _ _ _ _); refine kgAlloc (by rfl) 26 (by rfl) (some 15) (by rfl) [.slice none 0 0, .int .i64 0, .int .i64 0, .int .i64 0, .int .i64 0, .int .i64 0, .int .i64 0] (fun _ => by kernel_rfl) K ?_; intro g15 V1 K1; clear K; (have K := K1); clear K1)
            | ((with_reducible show wpList _ _ _ _ _ _); refine kgStore (by rfl) 26 (.tmp 15) _ (by rfl) 7 (by kernel_rfl) [] (by exact K) (by rfl) (by rfl) [_, _, _, _, _, _, _] (by rfl) (by rfl) (by simp) (by simp [Value.oneCell']) (cs := [_, _, _, _, _, _, _]) (by rfl) ?_; intro V2 K1; (dsimp only [List.cons_append, List.nil_append] at K1); clear K; (have K := K1); clear K1)
            | (go_at_call 18; (with_reducible refine (bListed_any hs9 A9 _ c9 _ rfl _ (K.out.at_ (d := ⟨hs9, A9, true⟩) (by simp)) (OkD.hs Q9.out OKL.out).1 (OkD.hs Q9.out OKL.out).2.1 (OkD.hs Q9.out OKL.out).2.2 (Utf8Tabs_below T.out K.out.b) al aa fl fa 0 0 _).mono ?_); rintro e W7 ⟨rfl, hb⟩; rw [Q9.out, LA.out]; dsimp only; (have K2 := hid (K.out.later hb)); clear hb K; (have K := K2); clear K2)
            | (go_at_call 9; (with_reducible refine (awake25_any _ (Utf8Tabs_below T.out K.out.b)).mono ?_); rintro e W9 ⟨rfl, hb⟩; (have K2 := hid (K.out.later hb)); clear hb K; (have K := K2); clear K2))
          go_ret
          exact ⟨rfl, K.out.b⟩
        | true =>
          have LA := hid (LYES.out rfl)
          go_wp2_with (first
            | go_big_skip
            | ((with_reducible show wpList _ _ _ _ _ _); refine kgBox (by rfl) 26 _ (by rfl) (some 2) (by rfl) (by rfl) [_, _, _, _, _, _, _] (by rfl) K ?_; intro g2 V1 K1; clear K; (have K := K1); clear K1)
            | ((with_reducible show wpList _ _ _ _ _ _); refine kgLoadA (by rfl) 26 _ (by rfl) 7 _ Tryd.underlying26 rfl (by kernel_rfl) K (by rfl) (by repeat (first | exact List.mem_cons_self | refine List.mem_cons_of_mem _ ?_)) (part := [_, _, _, _, _, _, _]) (by rfl) (by rfl) ?_)
            | ((with_reducible show wpList _ _ _ _ _ _); refine kgLoad1 (by rfl) 22 _ (by rfl) _ Tryd.underlying22 rfl K (by rfl) (by repeat (first | exact List.mem_cons_self | refine List.mem_cons_of_mem _ ?_)) (by rfl) ?_)
            | (go_at_call 6; (with_reducible refine (long25_any hs A _ c _ al aa fl fa on off rfl _ (K.out.at_ (d := ⟨hs, A, false⟩) (by simp)) BG.out.1 BG.out.2).mono ?_); rintro e W1 ⟨rfl, hb⟩; rw [HL.out]; (have K2 := hid (K.out.later hb)); clear hb K; (have K := K2); clear K2)
            | (go_at_call 8; (with_reducible refine (tMay_any hs A _ c _ rfl _ (K.out.at_ (d := ⟨hs, A, false⟩) (by simp)) L0.out H2.out FI.out (Utf8Tabs_below T.out K.out.b) al aa fl fa on off).mono ?_); rintro e W2 ⟨rfl, hb⟩; rw [MB.out]; (have K2 := hid (K.out.later hb)); clear hb K; (have K := K2); clear K2)
            | (go_at_call 10; (with_reducible refine (tSpan_any (lnsOf hs) A _ c al aa fl fa on off _).mono ?_); rintro e W3 ⟨rfl, hb⟩; rw [HP.out, HQ.out]; unfold psV; dsimp only; (have K2 := hid (K.out.later hb)); clear hb K; (have K := K2); clear K2)
            | ((with_reducible show wpList _ _ _ _ _ _); refine kgAlloc (by rfl) 24 (by rfl) (some 5) (by rfl) [.int .i64 0, .int .i64 0] (fun _ => by kernel_rfl) K ?_; intro g5 V1 K1; clear K; (have K := K1); clear K1)
            | ((with_reducible show wpList _ _ _ _ _ _); refine kgAlloc (by rfl) 24 (by rfl) (some 6) (by rfl) [.int .i64 0, .int .i64 0] (fun _ => by kernel_rfl) K ?_; intro g6 V1 K1; clear K; (have K := K1); clear K1)
            | ((with_reducible show wpList _ _ _ _ _ _); refine kgStore (by rfl) 24 (.tmp 5) _ (by rfl) 2 (by kernel_rfl) [_] (by exact K) (by rfl) (by rfl) [_, _] (by rfl) (by rfl) (by simp) (by simp [Value.oneCell']) (cs := [_, _]) (by rfl) ?_; intro V2 K1; (dsimp only [List.cons_append, List.nil_append] at K1); clear K; (have K := K1); clear K1)
            | ((with_reducible show wpList _ _ _ _ _ _); refine kgStore (by rfl) 24 (.tmp 6) _ (by rfl) 2 (by kernel_rfl) [] (by exact K) (by rfl) (by rfl) [_, _] (by rfl) (by rfl) (by simp) (by simp [Value.oneCell']) (cs := [_, _]) (by rfl) ?_; intro V2 K1; (dsimp only [List.cons_append, List.nil_append] at K1); clear K; (have K := K1); clear K1)
            | ((with_reducible show wpList _ _ _ _ _ _); refine kgLoad1 (by rfl) 3 _ (by rfl) _ Tryd.underlying3 rfl K (by rfl) (by repeat (first | exact List.mem_cons_self | refine List.mem_cons_of_mem _ ?_)) (by rfl) ?_)
            | (go_at_call 15; (with_reducible refine (bIndent_any hs A _ c _ rfl _ (K.out.at_ (d := ⟨hs, A, false⟩) (by simp)) L0.out H2.out FI.out (Utf8Tabs_below T.out K.out.b) al aa fl fa on off).mono ?_); rintro e W5 hc; unfold RetStE at hc; rw [E1.out] at hc; obtain ⟨A3, n3, c3, hs3, rfl, q1, q2, q3, ho, hb3⟩ := hc; dsimp only at q3; unfold stV; dsimp only; (obtain rfl : n3 = hs3.length := q1); (have Q3 := hid q3); (have K2 := hid (K.out.addW hb3 ho)); clear q2 q3 ho hb3 K; (have K := K2); clear K2)
            | ((with_reducible show wpList _ _ _ _ _ _); refine kgAlloc (by rfl) 26 (by rfl) (some 7) (by rfl) [.slice none 0 0, .int .i64 0, .int .i64 0, .int .i64 0, .int .i64 0, .int .i64 0, .int .i64 0] (fun _ => by kernel_rfl) K ?_; intro g7 V1 K1; clear K; (have K := K1); clear K1)
            | ((with_reducible show wpList _ _ _ _ _ _); refine kgStore (by rfl) 26 (.tmp 7) _ (by rfl) 7 (by kernel_rfl) [] (by exact K) (by rfl) (by rfl) [_, _, _, _, _, _, _] (by rfl) (by rfl) (by simp) (by simp [Value.oneCell']) (cs := [_, _, _, _, _, _, _]) (by rfl) ?_; intro V2 K1; (dsimp only [List.cons_append, List.nil_append] at K1); clear K; (have K := K1); clear K1)
            | (go_at_call 18; (with_reducible refine (bListed_any hs A _ c _ rfl _ (K.out.at_ (d := ⟨hs, A, false⟩) (by simp)) L0.out H2.out FI.out (Utf8Tabs_below T.out K.out.b) al aa fl fa on off _).mono ?_); rintro e W6 ⟨rfl, hb⟩; rw [LBE.out]; dsimp only; (have K2 := hid (K.out.later hb)); clear hb K; (have K := K2); clear K2)
            | (go_at_call 19; (with_reducible refine (bList_any hs A _ c _ rfl _ (K.out.at_ (d := ⟨hs, A, false⟩) (by simp)) L0.out H2.out FI.out (Utf8Tabs_below T.out K.out.b) al aa fl fa on off _).mono ?_); rintro e W5 hc; unfold RetStE at hc; rw [LE.out] at hc; obtain ⟨A9, n9, c9, hs9, rfl, q1, q2, q3, ho, hb3⟩ := hc; dsimp only at q3; unfold stV; dsimp only; (obtain rfl : n9 = hs9.length := q1); (have Q9 := hid q3); (have K2 := hid (K.out.addW hb3 ho)); clear q2 q3 ho hb3 K; (have K := K2); clear K2)
            | ((with_reducible show wpList _ _ _ _ _ _); refine kgAlloc (by rfl) 26 (by rfl) (some 15) (by rfl) [.slice none 0 0, .int .i64 0, .int .i64 0, .int .i64 0, .int .i64 0, .int .i64 0, .int .i64 0] (fun _ => by kernel_rfl) K ?_; intro g15 V1 K1; clear K; (have K := K1); clear K1)
            | ((with_reducible show wpList _ _ _ _ _ _); refine kgStore (by rfl) 26 (.tmp 15) _ (by rfl) 7 (by kernel_rfl) [] (by exact K) (by rfl) (by rfl) [_, _, _, _, _, _, _] (by rfl) (by rfl) (by simp) (by simp [Value.oneCell']) (cs := [_, _, _, _, _, _, _]) (by rfl) ?_; intro V2 K1; (dsimp only [List.cons_append, List.nil_append] at K1); clear K; (have K := K1); clear K1)
            | (go_at_call 18; (with_reducible refine (bListed_any hs9 A9 _ c9 _ rfl _ (K.out.at_ (d := ⟨hs9, A9, true⟩) (by simp)) (OkD.hs Q9.out OKL.out).1 (OkD.hs Q9.out OKL.out).2.1 (OkD.hs Q9.out OKL.out).2.2 (Utf8Tabs_below T.out K.out.b) al aa fl fa 0 0 _).mono ?_); rintro e W7 ⟨rfl, hb⟩; rw [Q9.out]; dsimp only; (have K2 := hid (K.out.later hb)); clear hb K; (have K := K2); clear K2))
          go_loopw [19] (fun i wr => ∃ (k : Nat), f ≤ k ∧ k ≤ t + 1 ∧ i = .int .i64 (k : Int) ∧ Hid (KG w wr [⟨g15, 26, [.slice A9 hs9.length c9, .int .i64 al, .int .i64 aa, .int .i64 fl, .int .i64 fa, .int .i64 0, .int .i64 0]⟩, ⟨g6, 24, [.int .i64 (t : Int), .int .i64 qa]⟩, ⟨g5, 24, [.int .i64 (f : Int), .int .i64 pa]⟩, ⟨g2, 26, [.slice A hs.length c, .int .i64 al, .int .i64 aa, .int .i64 fl, .int .i64 fa, .int .i64 on, .int .i64 off]⟩] [⟨hs9, A9, true⟩, ⟨hs, A, false⟩])) (fun i _ => t + 1 - (intOf i).toNat)
          case atStart => exact ⟨f, Nat.le_refl _, by omega, rfl, hid (K.out.less (by repeat (first | exact List.Sublist.slnil | refine List.Sublist.cons_cons _ ?_ | refine List.Sublist.cons _ ?_)) (by simp))⟩
          case round =>
            clear K
            obtain ⟨k, hfk, hkt, rfl, K⟩ := hrel
            have hk3 : (k : Int) ≤ 301 := by omega
            by_cases hlt : k ≤ t
            · have hi1 : (k : Int) ≤ (t : Int) := by omega
              have n9 : hs9.length = hs.length := by have h1 := congrArg List.length Q9.out; have h2 := csD_len LCS.out; rw [lnsOf_len] at h1 h2; omega
              have hi2 : (k : Int) < (hs.length : Int) := by omega
              have hi3 : (k : Int) < (hs9.length : Int) := by omega
              obtain ⟨ad, x, rfl, -, hx, -⟩ := (K.out.at_ (d := ⟨hs, A, false⟩) (by simp)).row.atH (show k < hs.length by omega)
              obtain ⟨ad9, y, rfl, -, hy, -⟩ := (K.out.at_ (d := ⟨hs9, A9, true⟩) (by simp)).row.atH (show k < hs9.length by omega)
              have HX := hid hx
              have HY := hid hy
              obtain ⟨m, hm1, hm2⟩ := LA.out k x.l hfk (by omega) (lnsOf_get hx)
              have hm3 : y.l = m := by have h1 := lnsOf_get hy; rw [Q9.out] at h1; exact Option.some.inj (h1.symm.trans hm1)
              subst hm3
              have hx6 : (x.l.ls.length : Int) ≤ 1000000 := by have := (H2.out x (List.mem_of_getElem? hx)).1; omega
              have hx1 : (1 : Int) ≤ (x.l.ls.length : Int) := by omega
              have hne : ((y.l.ls.length : Int) != (x.l.ls.length : Int) - 1) = false := bne_eq_false_iff_eq.2 (by omega)
              have hy6 : (y.l.ls.length : Int) = (x.l.ls.length : Int) - 1 := by omega
              replace hy6 := hid hy6
              clear hx hy hm1 hm2 n9
              go_upto_region 25 with (first
                | go_big_skip
                | ((with_reducible show wpList _ _ _ _ _ _); refine kgLoad1 (by rfl) 3 _ (by rfl) _ Tryd.underlying3 rfl K (by rfl) (by repeat (first | exact List.mem_cons_self | refine List.mem_cons_of_mem _ ?_)) (by rfl) ?_))
              obtain ⟨J, hJ⟩ : ∃ J : (Nat → Bool) → World → Prop, J = fun _ W => Hid (KG w W [⟨g15, 26, [.slice (some ad9) hs9.length c9, .int .i64 al, .int .i64 aa, .int .i64 fl, .int .i64 fa, .int .i64 0, .int .i64 0]⟩, ⟨g6, 24, [.int .i64 (t : Int), .int .i64 qa]⟩, ⟨g5, 24, [.int .i64 (f : Int), .int .i64 pa]⟩, ⟨g2, 26, [.slice (some ad) hs.length c, .int .i64 al, .int .i64 aa, .int .i64 fl, .int .i64 fa, .int .i64 on, .int .i64 off]⟩] [⟨hs9, (some ad9), true⟩, ⟨hs, some ad, false⟩]) := ⟨_, rfl⟩
              replace hJ := hid hJ
              refine wp_drawn2_det [.pointer (some ⟨g15, 0, none⟩), .slice (some ad9) hs9.length c9, .int .i64 (k : Int), .pointer (some (ad9.add (k * 4))), .pointer (some ⟨(ad9.add (k * 4)).block, (ad9.add (k * 4)).off + 1, none⟩), .slice y.A y.l.ls.length y.c, .int .i64 (y.l.ls.length : Int), .pointer (some ⟨g2, 0, none⟩), .slice (some ad) hs.length c, .int .i64 (k : Int), .pointer (some (ad.add (k * 4))), .pointer (some ⟨(ad.add (k * 4)).block, (ad.add (k * 4)).off + 1, none⟩), .slice x.A x.l.ls.length x.c, .int .i64 (x.l.ls.length : Int), .int .i64 ((x.l.ls.length : Int) - 1), .bool false] (by kernel_rfl) (by kernel_rfl) rfl J (by rw [hJ.out]; exact hid (K.out.quiet ⟨1, rfl⟩)) ?step ?fin
              case step =>
                clear K
                intro i o b W ho hb hw K
                rw [hJ.out] at K
                rcases i with _ | i
                · obtain rfl := Option.some.inj ho
                  simp only [List.take_zero, drFrame]
                  clear ho hb hw
                  go_wp2_with (first
                    | fail)
                  refine ⟨rfl, rfl, ?_⟩
                  rw [hJ.out]
                  exact K
                rcases i with _ | i
                · obtain rfl := Option.some.inj ho
                  simp only [List.take_succ_cons, List.take_zero, drFrame, List.setIfInBounds_toArray, List.set_cons_succ, List.set_cons_zero]
                  clear ho hb hw
                  go_wp2_with (first
                    | go_big_skip
                    | ((with_reducible show wpList _ _ _ _ _ _); refine kgLoad1 (by rfl) 22 _ (by rfl) _ Tryd.underlying22 rfl K (by rfl) (by repeat (first | exact List.mem_cons_self | refine List.mem_cons_of_mem _ ?_)) (by rfl) ?_))
                  refine ⟨rfl, rfl, ?_⟩
                  rw [hJ.out]
                  exact K
                rcases i with _ | i
                · obtain rfl := Option.some.inj ho
                  simp only [List.take_succ_cons, List.take_zero, drFrame, List.setIfInBounds_toArray, List.set_cons_succ, List.set_cons_zero]
                  clear ho hb hw
                  go_wp2_with (first
                    | fail)
                  refine ⟨rfl, rfl, ?_⟩
                  rw [hJ.out]
                  exact K
                rcases i with _ | i
                · obtain rfl := Option.some.inj ho
                  simp only [List.take_succ_cons, List.take_zero, drFrame, List.setIfInBounds_toArray, List.set_cons_succ, List.set_cons_zero]
                  clear ho hb hw
                  go_wp2_with (first
                    | fail)
                  refine ⟨rfl, rfl, ?_⟩
                  rw [hJ.out]
                  exact K
                rcases i with _ | i
                · obtain rfl := Option.some.inj ho
                  simp only [List.take_succ_cons, List.take_zero, drFrame, List.setIfInBounds_toArray, List.set_cons_succ, List.set_cons_zero]
                  clear ho hb hw
                  go_wp2_with (first
                    | fail)
                  refine ⟨rfl, rfl, ?_⟩
                  rw [hJ.out]
                  exact K
                rcases i with _ | i
                · obtain rfl := Option.some.inj ho
                  simp only [List.take_succ_cons, List.take_zero, drFrame, List.setIfInBounds_toArray, List.set_cons_succ, List.set_cons_zero]
                  clear ho hb hw
                  go_wp2_with (first
                    | go_big_skip
                    | ((with_reducible show wpList _ _ _ _ _ _); refine kgElem1 (by rfl) 41 _ (by rfl) _ Tryd.underlying41 rfl K (by rfl) (by repeat (first | exact List.mem_cons_self | refine List.mem_cons_of_mem _ ?_)) HY.out (by decide) (by rfl) ?_))
                  refine ⟨rfl, rfl, ?_⟩
                  rw [hJ.out]
                  exact K
                rcases i with _ | i
                · obtain rfl := Option.some.inj ho
                  simp only [List.take_succ_cons, List.take_zero, drFrame, List.setIfInBounds_toArray, List.set_cons_succ, List.set_cons_zero]
                  clear ho hb hw
                  go_wp2_with (first
                    | fail)
                  refine ⟨rfl, rfl, ?_⟩
                  rw [hJ.out]
                  exact K
                rcases i with _ | i
                · obtain rfl := Option.some.inj ho
                  simp only [List.take_succ_cons, List.take_zero, drFrame, List.setIfInBounds_toArray, List.set_cons_succ, List.set_cons_zero]
                  clear ho hb hw
                  go_wp2_with (first
                    | fail)
                  refine ⟨rfl, rfl, ?_⟩
                  rw [hJ.out]
                  exact K
                rcases i with _ | i
                · obtain rfl := Option.some.inj ho
                  simp only [List.take_succ_cons, List.take_zero, drFrame, List.setIfInBounds_toArray, List.set_cons_succ, List.set_cons_zero]
                  clear ho hb hw
                  go_wp2_with (first
                    | go_big_skip
                    | ((with_reducible show wpList _ _ _ _ _ _); refine kgLoad1 (by rfl) 22 _ (by rfl) _ Tryd.underlying22 rfl K (by rfl) (by repeat (first | exact List.mem_cons_self | refine List.mem_cons_of_mem _ ?_)) (by rfl) ?_))
                  refine ⟨rfl, rfl, ?_⟩
                  rw [hJ.out]
                  exact K
                rcases i with _ | i
                · obtain rfl := Option.some.inj ho
                  simp only [List.take_succ_cons, List.take_zero, drFrame, List.setIfInBounds_toArray, List.set_cons_succ, List.set_cons_zero]
                  clear ho hb hw
                  go_wp2_with (first
                    | fail)
                  refine ⟨rfl, rfl, ?_⟩
                  rw [hJ.out]
                  exact K
                rcases i with _ | i
                · obtain rfl := Option.some.inj ho
                  simp only [List.take_succ_cons, List.take_zero, drFrame, List.setIfInBounds_toArray, List.set_cons_succ, List.set_cons_zero]
                  clear ho hb hw
                  go_wp2_with (first
                    | fail)
                  refine ⟨rfl, rfl, ?_⟩
                  rw [hJ.out]
                  exact K
                rcases i with _ | i
                · obtain rfl := Option.some.inj ho
                  simp only [List.take_succ_cons, List.take_zero, drFrame, List.setIfInBounds_toArray, List.set_cons_succ, List.set_cons_zero]
                  clear ho hb hw
                  go_wp2_with (first
                    | fail)
                  refine ⟨rfl, rfl, ?_⟩
                  rw [hJ.out]
                  exact K
                rcases i with _ | i
                · obtain rfl := Option.some.inj ho
                  simp only [List.take_succ_cons, List.take_zero, drFrame, List.setIfInBounds_toArray, List.set_cons_succ, List.set_cons_zero]
                  clear ho hb hw
                  go_wp2_with (first
                    | go_big_skip
                    | ((with_reducible show wpList _ _ _ _ _ _); refine kgElem1 (by rfl) 41 _ (by rfl) _ Tryd.underlying41 rfl K (by rfl) (by repeat (first | exact List.mem_cons_self | refine List.mem_cons_of_mem _ ?_)) HX.out (by decide) (by rfl) ?_))
                  refine ⟨rfl, rfl, ?_⟩
                  rw [hJ.out]
                  exact K
                rcases i with _ | i
                · obtain rfl := Option.some.inj ho
                  simp only [List.take_succ_cons, List.take_zero, drFrame, List.setIfInBounds_toArray, List.set_cons_succ, List.set_cons_zero]
                  clear ho hb hw
                  go_wp2_with (first
                    | fail)
                  refine ⟨rfl, rfl, ?_⟩
                  rw [hJ.out]
                  exact K
                rcases i with _ | i
                · obtain rfl := Option.some.inj ho
                  simp only [List.take_succ_cons, List.take_zero, drFrame, List.setIfInBounds_toArray, List.set_cons_succ, List.set_cons_zero]
                  clear ho hb hw
                  go_wp2_with (first
                    | fail)
                  refine ⟨rfl, rfl, ?_⟩
                  rw [hJ.out]
                  exact K
                rcases i with _ | i
                · obtain rfl := Option.some.inj ho
                  simp only [List.take_succ_cons, List.take_zero, drFrame, List.setIfInBounds_toArray, List.set_cons_succ, List.set_cons_zero]
                  clear ho hb hw
                  go_wp2_with (first
                    | fail)
                  refine ⟨rfl, rfl, ?_⟩
                  rw [hJ.out]
                  exact K
                · cases ho
              case fin =>
                clear K
                intro b W hb K
                rw [hJ.out] at K
                simp only [drFrame, List.setIfInBounds_toArray, List.set_cons_succ, List.set_cons_zero]
                clear hb hJ
                go_wp2_with (first
                  | fail)
                go_roundw
                case rel => exact ⟨k + 1, by omega, by omega, by go_num, K⟩
                case measure => simp [intOf]; omega
            · have hi1 : ¬ (k : Int) ≤ (t : Int) := by omega
              go_wp2_with (first
                | go_big_skip
                | ((with_reducible show wpList _ _ _ _ _ _); refine kgLoad1 (by rfl) 3 _ (by rfl) _ Tryd.underlying3 rfl K (by rfl) (by repeat (first | exact List.mem_cons_self | refine List.mem_cons_of_mem _ ?_)) (by rfl) ?_)
                | (go_at_call 9; (with_reducible refine (awake25_any _ (Utf8Tabs_below T.out K.out.b)).mono ?_); rintro e W9 ⟨rfl, hb⟩; (have K2 := hid (K.out.later hb)); clear hb K; (have K := K2); clear K2))
              go_ret
              exact ⟨rfl, K.out.b⟩
      · have E1 := hid hb1
        have E2 := hid hb4
        have OKA := hid (OkD.turnedS (s := ⟨lnsOf hs, ⟨al, aa⟩, ⟨fl, fa⟩, on, off⟩) OKD.out hb2 hb3)
        have OKB := hid (OKD.out.turned hb6 hb5)
        have CSA := hid hb3
        have BK := hid hb7
        clear hb1 hb2 hb3 hb4 hb5 hb6 hb7
        go_enter Tryd.func4, Tryd.ntmps4
        go_wp2_with (first
          | go_big_skip
          | ((with_reducible show wpList _ _ _ _ _ _); refine kgBox (by rfl) 26 _ (by rfl) (some 2) (by rfl) (by rfl) [_, _, _, _, _, _, _] (by rfl) K ?_; intro g2 V1 K1; clear K; (have K := K1); clear K1)
          | ((with_reducible show wpList _ _ _ _ _ _); refine kgLoadA (by rfl) 26 _ (by rfl) 7 _ Tryd.underlying26 rfl (by kernel_rfl) K (by rfl) (by repeat (first | exact List.mem_cons_self | refine List.mem_cons_of_mem _ ?_)) (part := [_, _, _, _, _, _, _]) (by rfl) (by rfl) ?_)
          | ((with_reducible show wpList _ _ _ _ _ _); refine kgLoad1 (by rfl) 22 _ (by rfl) _ Tryd.underlying22 rfl K (by rfl) (by repeat (first | exact List.mem_cons_self | refine List.mem_cons_of_mem _ ?_)) (by rfl) ?_)
          | (go_at_call 6; (with_reducible refine (long25_any hs A _ c _ al aa fl fa on off rfl _ (K.out.at_ (d := ⟨hs, A, false⟩) (by simp)) BG.out.1 BG.out.2).mono ?_); rintro e W1 ⟨rfl, hb⟩; rw [HL.out]; (have K2 := hid (K.out.later hb)); clear hb K; (have K := K2); clear K2)
          | (go_at_call 8; (with_reducible refine (tMay_any hs A _ c _ rfl _ (K.out.at_ (d := ⟨hs, A, false⟩) (by simp)) L0.out H2.out FI.out (Utf8Tabs_below T.out K.out.b) al aa fl fa on off).mono ?_); rintro e W2 ⟨rfl, hb⟩; rw [MB.out]; (have K2 := hid (K.out.later hb)); clear hb K; (have K := K2); clear K2)
          | (go_at_call 10; (with_reducible refine (tSpan_any (lnsOf hs) A _ c al aa fl fa on off _).mono ?_); rintro e W3 ⟨rfl, hb⟩; rw [HP.out, HQ.out]; unfold psV; dsimp only; (have K2 := hid (K.out.later hb)); clear hb K; (have K := K2); clear K2)
          | ((with_reducible show wpList _ _ _ _ _ _); refine kgAlloc (by rfl) 24 (by rfl) (some 5) (by rfl) [.int .i64 0, .int .i64 0] (fun _ => by kernel_rfl) K ?_; intro g5 V1 K1; clear K; (have K := K1); clear K1)
          | ((with_reducible show wpList _ _ _ _ _ _); refine kgAlloc (by rfl) 24 (by rfl) (some 6) (by rfl) [.int .i64 0, .int .i64 0] (fun _ => by kernel_rfl) K ?_; intro g6 V1 K1; clear K; (have K := K1); clear K1)
          | ((with_reducible show wpList _ _ _ _ _ _); refine kgStore (by rfl) 24 (.tmp 5) _ (by rfl) 2 (by kernel_rfl) [_] (by exact K) (by rfl) (by rfl) [_, _] (by rfl) (by rfl) (by simp) (by simp [Value.oneCell']) (cs := [_, _]) (by rfl) ?_; intro V2 K1; (dsimp only [List.cons_append, List.nil_append] at K1); clear K; (have K := K1); clear K1)
          | ((with_reducible show wpList _ _ _ _ _ _); refine kgStore (by rfl) 24 (.tmp 6) _ (by rfl) 2 (by kernel_rfl) [] (by exact K) (by rfl) (by rfl) [_, _] (by rfl) (by rfl) (by simp) (by simp [Value.oneCell']) (cs := [_, _]) (by rfl) ?_; intro V2 K1; (dsimp only [List.cons_append, List.nil_append] at K1); clear K; (have K := K1); clear K1)
          | ((with_reducible show wpList _ _ _ _ _ _); refine kgLoad1 (by rfl) 3 _ (by rfl) _ Tryd.underlying3 rfl K (by rfl) (by repeat (first | exact List.mem_cons_self | refine List.mem_cons_of_mem _ ?_)) (by rfl) ?_)
          | (go_at_call 15; (with_reducible refine (bIndent_any hs A _ c _ rfl _ (K.out.at_ (d := ⟨hs, A, false⟩) (by simp)) L0.out H2.out FI.out (Utf8Tabs_below T.out K.out.b) al aa fl fa on off).mono ?_); rintro e W5 hc; unfold RetStE at hc; rw [E1.out] at hc; obtain ⟨A3, n3, c3, hs3, rfl, q1, q2, q3, ho, hb3⟩ := hc; dsimp only at q3; unfold stV; dsimp only; (obtain rfl : n3 = hs3.length := q1); (have Q3 := hid q3); (have K2 := hid (K.out.addW hb3 ho)); clear q2 q3 ho hb3 K; (have K := K2); clear K2)
          | ((with_reducible show wpList _ _ _ _ _ _); refine kgAlloc (by rfl) 26 (by rfl) (some 7) (by rfl) [.slice none 0 0, .int .i64 0, .int .i64 0, .int .i64 0, .int .i64 0, .int .i64 0, .int .i64 0] (fun _ => by kernel_rfl) K ?_; intro g7 V1 K1; clear K; (have K := K1); clear K1)
          | ((with_reducible show wpList _ _ _ _ _ _); refine kgStore (by rfl) 26 (.tmp 7) _ (by rfl) 7 (by kernel_rfl) [] (by exact K) (by rfl) (by rfl) [_, _, _, _, _, _, _] (by rfl) (by rfl) (by simp) (by simp [Value.oneCell']) (cs := [_, _, _, _, _, _, _]) (by rfl) ?_; intro V2 K1; (dsimp only [List.cons_append, List.nil_append] at K1); clear K; (have K := K1); clear K1))
        go_loopw [9, 10] (fun v i wr => ∃ (k : Nat) (b : Bool), f ≤ k ∧ k ≤ t + 1 ∧ v = .bool b ∧ i = .int .i64 (k : Int) ∧ Hid (b = true → ∀ (j : Nat) (l : Ln), f ≤ j → j < k → (lnsOf hs)[j]? = some l → D[j]? ≠ some l) ∧ Hid (KG w wr [⟨g7, 26, [.slice A3 hs3.length c3, .int .i64 al, .int .i64 aa, .int .i64 fl, .int .i64 fa, .int .i64 0, .int .i64 0]⟩, ⟨g6, 24, [.int .i64 (t : Int), .int .i64 qa]⟩, ⟨g5, 24, [.int .i64 (f : Int), .int .i64 pa]⟩, ⟨g2, 26, [.slice A hs.length c, .int .i64 al, .int .i64 aa, .int .i64 fl, .int .i64 fa, .int .i64 on, .int .i64 off]⟩] [⟨hs3, A3, true⟩, ⟨hs, A, false⟩])) (fun _ i _ => t + 1 - (intOf i).toNat)
        case atStart => exact ⟨f, true, Nat.le_refl _, by omega, rfl, rfl, hid (fun _ j l h1 h2 => by omega), hid (K.out.less (by repeat (first | exact List.Sublist.slnil | refine List.Sublist.cons_cons _ ?_ | refine List.Sublist.cons _ ?_)) (by simp))⟩
        case round =>
          clear K
          obtain ⟨k, b, hfk, hkt, rfl, rfl, HB, K⟩ := hrel
          have hk3 : (k : Int) ≤ 301 := by omega
          by_cases hlt : k ≤ t
          · have hi1 : (k : Int) ≤ (t : Int) := by omega
            have n3 : hs3.length = hs.length := by have h1 := congrArg List.length Q3.out; have h2 := csD_len CSA.out; rw [lnsOf_len] at h1 h2; omega
            have hi2 : (k : Int) < (hs.length : Int) := by omega
            have hi3 : (k : Int) < (hs3.length : Int) := by omega
            obtain ⟨ad, x, rfl, -, hx, -⟩ := (K.out.at_ (d := ⟨hs, A, false⟩) (by simp)).row.atH (show k < hs.length by omega)
            obtain ⟨ad3, y, rfl, -, hy, -⟩ := (K.out.at_ (d := ⟨hs3, A3, true⟩) (by simp)).row.atH (show k < hs3.length by omega)
            have HX := hid hx
            have HY := hid hy
            have DK := hid (show D[k]? = some y.l by have h1 := lnsOf_get hy; rwa [Q3.out] at h1)
            have XK := hid (lnsOf_get hx)
            have Y9 := hid ((OkD.hs Q3.out OKA.out).2.1 y (List.mem_of_getElem? hy))
            clear hx hy n3
            cases b with
            | false =>
              go_upto_region 10 with (first
                | go_big_skip
                | ((with_reducible show wpList _ _ _ _ _ _); refine kgLoad1 (by rfl) 3 _ (by rfl) _ Tryd.underlying3 rfl K (by rfl) (by repeat (first | exact List.mem_cons_self | refine List.mem_cons_of_mem _ ?_)) (by rfl) ?_))
              obtain ⟨J, hJ⟩ : ∃ J : (Nat → Bool) → World → Prop, J = fun _ W => Hid (KG w W [⟨g7, 26, [.slice (some ad3) hs3.length c3, .int .i64 al, .int .i64 aa, .int .i64 fl, .int .i64 fa, .int .i64 0, .int .i64 0]⟩, ⟨g6, 24, [.int .i64 (t : Int), .int .i64 qa]⟩, ⟨g5, 24, [.int .i64 (f : Int), .int .i64 pa]⟩, ⟨g2, 26, [.slice (some ad) hs.length c, .int .i64 al, .int .i64 aa, .int .i64 fl, .int .i64 fa, .int .i64 on, .int .i64 off]⟩] [⟨hs3, (some ad3), true⟩, ⟨hs, some ad, false⟩]) := ⟨_, rfl⟩
              replace hJ := hid hJ
              refine wp_drawn2_det [.bool false, .bool false, (undef), (undef), (undef), (undef), (undef), (undef), (undef), (undef), (undef), (undef), (undef), (undef), .bool false, .bool false] (by kernel_rfl) (by kernel_rfl) rfl J (by rw [hJ.out]; exact hid (K.out.quiet ⟨1, rfl⟩)) ?step ?fin
              case step =>
                clear K
                intro i o b W ho hb hw K
                rw [hJ.out] at K
                rcases i with _ | i
                · obtain rfl := Option.some.inj ho
                  simp only [List.take_zero, drFrame]
                  clear ho hb hw
                  go_wp2_with (first
                    | fail)
                  refine ⟨rfl, rfl, ?_⟩
                  rw [hJ.out]
                  exact K
                rcases i with _ | i
                · obtain rfl := Option.some.inj ho
                  simp only [List.take_succ_cons, List.take_zero, drFrame, List.setIfInBounds_toArray, List.set_cons_succ, List.set_cons_zero]
                  clear ho hb hw
                  go_wp2_with (first
                    | fail)
                  refine ⟨rfl, rfl, ?_⟩
                  rw [hJ.out]
                  exact K
                rcases i with _ | i
                · obtain rfl := Option.some.inj ho
                  simp only [List.take_succ_cons, List.take_zero, drFrame, List.setIfInBounds_toArray, List.set_cons_succ, List.set_cons_zero]
                  clear ho hb hw
                  go_wp2_with (first
                    | fail)
                  refine ⟨rfl, rfl, ?_⟩
                  rw [hJ.out]
                  exact K
                rcases i with _ | i
                · obtain rfl := Option.some.inj ho
                  simp only [List.take_succ_cons, List.take_zero, drFrame, List.setIfInBounds_toArray, List.set_cons_succ, List.set_cons_zero]
                  clear ho hb hw
                  go_wp2_with (first
                    | fail)
                  refine ⟨rfl, rfl, ?_⟩
                  rw [hJ.out]
                  exact K
                rcases i with _ | i
                · obtain rfl := Option.some.inj ho
                  simp only [List.take_succ_cons, List.take_zero, drFrame, List.setIfInBounds_toArray, List.set_cons_succ, List.set_cons_zero]
                  clear ho hb hw
                  go_wp2_with (first
                    | fail)
                  refine ⟨rfl, rfl, ?_⟩
                  rw [hJ.out]
                  exact K
                rcases i with _ | i
                · obtain rfl := Option.some.inj ho
                  simp only [List.take_succ_cons, List.take_zero, drFrame, List.setIfInBounds_toArray, List.set_cons_succ, List.set_cons_zero]
                  clear ho hb hw
                  go_wp2_with (first
                    | fail)
                  refine ⟨rfl, rfl, ?_⟩
                  rw [hJ.out]
                  exact K
                rcases i with _ | i
                · obtain rfl := Option.some.inj ho
                  simp only [List.take_succ_cons, List.take_zero, drFrame, List.setIfInBounds_toArray, List.set_cons_succ, List.set_cons_zero]
                  clear ho hb hw
                  go_wp2_with (first
                    | fail)
                  refine ⟨rfl, rfl, ?_⟩
                  rw [hJ.out]
                  exact K
                rcases i with _ | i
                · obtain rfl := Option.some.inj ho
                  simp only [List.take_succ_cons, List.take_zero, drFrame, List.setIfInBounds_toArray, List.set_cons_succ, List.set_cons_zero]
                  clear ho hb hw
                  go_wp2_with (first
                    | fail)
                  refine ⟨rfl, rfl, ?_⟩
                  rw [hJ.out]
                  exact K
                rcases i with _ | i
                · obtain rfl := Option.some.inj ho
                  simp only [List.take_succ_cons, List.take_zero, drFrame, List.setIfInBounds_toArray, List.set_cons_succ, List.set_cons_zero]
                  clear ho hb hw
                  go_wp2_with (first
                    | fail)
                  refine ⟨rfl, rfl, ?_⟩
                  rw [hJ.out]
                  exact K
                rcases i with _ | i
                · obtain rfl := Option.some.inj ho
                  simp only [List.take_succ_cons, List.take_zero, drFrame, List.setIfInBounds_toArray, List.set_cons_succ, List.set_cons_zero]
                  clear ho hb hw
                  go_wp2_with (first
                    | fail)
                  refine ⟨rfl, rfl, ?_⟩
                  rw [hJ.out]
                  exact K
                rcases i with _ | i
                · obtain rfl := Option.some.inj ho
                  simp only [List.take_succ_cons, List.take_zero, drFrame, List.setIfInBounds_toArray, List.set_cons_succ, List.set_cons_zero]
                  clear ho hb hw
                  go_wp2_with (first
                    | fail)
                  refine ⟨rfl, rfl, ?_⟩
                  rw [hJ.out]
                  exact K
                rcases i with _ | i
                · obtain rfl := Option.some.inj ho
                  simp only [List.take_succ_cons, List.take_zero, drFrame, List.setIfInBounds_toArray, List.set_cons_succ, List.set_cons_zero]
                  clear ho hb hw
                  go_wp2_with (first
                    | fail)
                  refine ⟨rfl, rfl, ?_⟩
                  rw [hJ.out]
                  exact K
                rcases i with _ | i
                · obtain rfl := Option.some.inj ho
                  simp only [List.take_succ_cons, List.take_zero, drFrame, List.setIfInBounds_toArray, List.set_cons_succ, List.set_cons_zero]
                  clear ho hb hw
                  go_wp2_with (first
                    | fail)
                  refine ⟨rfl, rfl, ?_⟩
                  rw [hJ.out]
                  exact K
                rcases i with _ | i
                · obtain rfl := Option.some.inj ho
                  simp only [List.take_succ_cons, List.take_zero, drFrame, List.setIfInBounds_toArray, List.set_cons_succ, List.set_cons_zero]
                  clear ho hb hw
                  go_wp2_with (first
                    | fail)
                  refine ⟨rfl, rfl, ?_⟩
                  rw [hJ.out]
                  exact K
                rcases i with _ | i
                · obtain rfl := Option.some.inj ho
                  simp only [List.take_succ_cons, List.take_zero, drFrame, List.setIfInBounds_toArray, List.set_cons_succ, List.set_cons_zero]
                  clear ho hb hw
                  go_wp2_with (first
                    | fail)
                  refine ⟨rfl, rfl, ?_⟩
                  rw [hJ.out]
                  exact K
                rcases i with _ | i
                · obtain rfl := Option.some.inj ho
                  simp only [List.take_succ_cons, List.take_zero, drFrame, List.setIfInBounds_toArray, List.set_cons_succ, List.set_cons_zero]
                  clear ho hb hw
                  go_wp2_with (first
                    | fail)
                  refine ⟨rfl, rfl, ?_⟩
                  rw [hJ.out]
                  exact K
                · cases ho
              case fin =>
                clear K
                intro b W hb K
                rw [hJ.out] at K
                simp only [drFrame, List.setIfInBounds_toArray, List.set_cons_succ, List.set_cons_zero]
                clear hb hJ
                go_wp2_with (first
                  | fail)
                go_roundw
                case rel => exact ⟨k + 1, false, by omega, by omega, rfl, by go_num, hid (fun h => by cases h), K⟩
                case measure => simp [intOf]; omega
            | true =>
              go_upto_region 10 with (first
                | go_big_skip
                | ((with_reducible show wpList _ _ _ _ _ _); refine kgLoad1 (by rfl) 3 _ (by rfl) _ Tryd.underlying3 rfl K (by rfl) (by repeat (first | exact List.mem_cons_self | refine List.mem_cons_of_mem _ ?_)) (by rfl) ?_))
              obtain ⟨J, hJ⟩ : ∃ J : (Nat → Bool) → World → Prop, J = fun _ W => Hid (KG w W [⟨g7, 26, [.slice (some ad3) hs3.length c3, .int .i64 al, .int .i64 aa, .int .i64 fl, .int .i64 fa, .int .i64 0, .int .i64 0]⟩, ⟨g6, 24, [.int .i64 (t : Int), .int .i64 qa]⟩, ⟨g5, 24, [.int .i64 (f : Int), .int .i64 pa]⟩, ⟨g2, 26, [.slice (some ad) hs.length c, .int .i64 al, .int .i64 aa, .int .i64 fl, .int .i64 fa, .int .i64 on, .int .i64 off]⟩] [⟨hs3, (some ad3), true⟩, ⟨hs, some ad, false⟩]) := ⟨_, rfl⟩
              replace hJ := hid hJ
              refine wp_drawn2_det [.bool true, .bool true, .pointer (some ⟨g7, 0, none⟩), .slice (some ad3) hs3.length c3, .int .i64 (k : Int), .pointer (some (ad3.add (k * 4))), .agg #[.int .i64 y.l.q, .slice y.A y.l.ls.length y.c, .int .i64 y.l.k, .slice y.B y.l.cs.length y.d], .pointer (some ⟨g2, 0, none⟩), .slice (some ad) hs.length c, .int .i64 (k : Int), .pointer (some (ad.add (k * 4))), .agg #[.int .i64 x.l.q, .slice x.A x.l.ls.length x.c, .int .i64 x.l.k, .slice x.B x.l.cs.length x.d], .bool (decide (y.l = x.l)), .bool (!decide (y.l = x.l)), .bool (!decide (y.l = x.l)), .bool (!decide (y.l = x.l))] (by kernel_rfl) (by kernel_rfl) rfl J (by rw [hJ.out]; exact hid (K.out.quiet ⟨1, rfl⟩)) ?step ?fin
              case step =>
                clear K
                intro i o b W ho hb hw K
                rw [hJ.out] at K
                rcases i with _ | i
                · obtain rfl := Option.some.inj ho
                  simp only [List.take_zero, drFrame]
                  clear ho hb hw
                  go_wp2_with (first
                    | fail)
                  refine ⟨rfl, rfl, ?_⟩
                  rw [hJ.out]
                  exact K
                rcases i with _ | i
                · obtain rfl := Option.some.inj ho
                  simp only [List.take_succ_cons, List.take_zero, drFrame, List.setIfInBounds_toArray, List.set_cons_succ, List.set_cons_zero]
                  clear ho hb hw
                  go_wp2_with (first
                    | fail)
                  refine ⟨rfl, rfl, ?_⟩
                  rw [hJ.out]
                  exact K
                rcases i with _ | i
                · obtain rfl := Option.some.inj ho
                  simp only [List.take_succ_cons, List.take_zero, drFrame, List.setIfInBounds_toArray, List.set_cons_succ, List.set_cons_zero]
                  clear ho hb hw
                  go_wp2_with (first
                    | fail)
                  refine ⟨rfl, rfl, ?_⟩
                  rw [hJ.out]
                  exact K
                rcases i with _ | i
                · obtain rfl := Option.some.inj ho
                  simp only [List.take_succ_cons, List.take_zero, drFrame, List.setIfInBounds_toArray, List.set_cons_succ, List.set_cons_zero]
                  clear ho hb hw
                  go_wp2_with (first
                    | go_big_skip
                    | ((with_reducible show wpList _ _ _ _ _ _); refine kgLoad1 (by rfl) 22 _ (by rfl) _ Tryd.underlying22 rfl K (by rfl) (by repeat (first | exact List.mem_cons_self | refine List.mem_cons_of_mem _ ?_)) (by rfl) ?_))
                  refine ⟨rfl, rfl, ?_⟩
                  rw [hJ.out]
                  exact K
                rcases i with _ | i
                · obtain rfl := Option.some.inj ho
                  simp only [List.take_succ_cons, List.take_zero, drFrame, List.setIfInBounds_toArray, List.set_cons_succ, List.set_cons_zero]
                  clear ho hb hw
                  go_wp2_with (first
                    | fail)
                  refine ⟨rfl, rfl, ?_⟩
                  rw [hJ.out]
                  exact K
                rcases i with _ | i
                · obtain rfl := Option.some.inj ho
                  simp only [List.take_succ_cons, List.take_zero, drFrame, List.setIfInBounds_toArray, List.set_cons_succ, List.set_cons_zero]
                  clear ho hb hw
                  go_wp2_with (first
                    | fail)
                  refine ⟨rfl, rfl, ?_⟩
                  rw [hJ.out]
                  exact K
                rcases i with _ | i
                · obtain rfl := Option.some.inj ho
                  simp only [List.take_succ_cons, List.take_zero, drFrame, List.setIfInBounds_toArray, List.set_cons_succ, List.set_cons_zero]
                  clear ho hb hw
                  go_wp2_with (first
                    | go_big_skip
                    | ((with_reducible show wpList _ _ _ _ _ _); refine kgElem (by rfl) 44 _ (by rfl) _ Tryd.underlying44 rfl (by kernel_rfl) K (by rfl) (by repeat (first | exact List.mem_cons_self | refine List.mem_cons_of_mem _ ?_)) HY.out ?_))
                  refine ⟨rfl, rfl, ?_⟩
                  rw [hJ.out]
                  exact K
                rcases i with _ | i
                · obtain rfl := Option.some.inj ho
                  simp only [List.take_succ_cons, List.take_zero, drFrame, List.setIfInBounds_toArray, List.set_cons_succ, List.set_cons_zero]
                  clear ho hb hw
                  go_wp2_with (first
                    | fail)
                  refine ⟨rfl, rfl, ?_⟩
                  rw [hJ.out]
                  exact K
                rcases i with _ | i
                · obtain rfl := Option.some.inj ho
                  simp only [List.take_succ_cons, List.take_zero, drFrame, List.setIfInBounds_toArray, List.set_cons_succ, List.set_cons_zero]
                  clear ho hb hw
                  go_wp2_with (first
                    | go_big_skip
                    | ((with_reducible show wpList _ _ _ _ _ _); refine kgLoad1 (by rfl) 22 _ (by rfl) _ Tryd.underlying22 rfl K (by rfl) (by repeat (first | exact List.mem_cons_self | refine List.mem_cons_of_mem _ ?_)) (by rfl) ?_))
                  refine ⟨rfl, rfl, ?_⟩
                  rw [hJ.out]
                  exact K
                rcases i with _ | i
                · obtain rfl := Option.some.inj ho
                  simp only [List.take_succ_cons, List.take_zero, drFrame, List.setIfInBounds_toArray, List.set_cons_succ, List.set_cons_zero]
                  clear ho hb hw
                  go_wp2_with (first
                    | fail)
                  refine ⟨rfl, rfl, ?_⟩
                  rw [hJ.out]
                  exact K
                rcases i with _ | i
                · obtain rfl := Option.some.inj ho
                  simp only [List.take_succ_cons, List.take_zero, drFrame, List.setIfInBounds_toArray, List.set_cons_succ, List.set_cons_zero]
                  clear ho hb hw
                  go_wp2_with (first
                    | fail)
                  refine ⟨rfl, rfl, ?_⟩
                  rw [hJ.out]
                  exact K
                rcases i with _ | i
                · obtain rfl := Option.some.inj ho
                  simp only [List.take_succ_cons, List.take_zero, drFrame, List.setIfInBounds_toArray, List.set_cons_succ, List.set_cons_zero]
                  clear ho hb hw
                  go_wp2_with (first
                    | go_big_skip
                    | ((with_reducible show wpList _ _ _ _ _ _); refine kgElem (by rfl) 44 _ (by rfl) _ Tryd.underlying44 rfl (by kernel_rfl) K (by rfl) (by repeat (first | exact List.mem_cons_self | refine List.mem_cons_of_mem _ ?_)) HX.out ?_))
                  refine ⟨rfl, rfl, ?_⟩
                  rw [hJ.out]
                  exact K
                rcases i with _ | i
                · obtain rfl := Option.some.inj ho
                  simp only [List.take_succ_cons, List.take_zero, drFrame, List.setIfInBounds_toArray, List.set_cons_succ, List.set_cons_zero]
                  clear ho hb hw
                  go_wp2_with (first
                    | go_big_skip
                    | (go_at_call 16; (with_reducible refine (lSame_any y.l x.l y.A _ y.c y.B _ y.d x.A _ x.c x.B _ x.d _ _ rfl rfl rfl rfl _ ((K.out.at_ (d := ⟨hs3, some ad3, true⟩) (by simp)).ln HY.out) ((K.out.at_ (d := ⟨hs, some ad, false⟩) (by simp)).ln HX.out) (by have := Y9.out.1; omega) (by have := Y9.out.2; omega)).mono ?_); rintro e W6 ⟨rfl, hb⟩; (have K2 := hid (K.out.later hb)); clear hb K; (have K := K2); clear K2))
                  refine ⟨rfl, rfl, ?_⟩
                  rw [hJ.out]
                  exact K
                rcases i with _ | i
                · obtain rfl := Option.some.inj ho
                  simp only [List.take_succ_cons, List.take_zero, drFrame, List.setIfInBounds_toArray, List.set_cons_succ, List.set_cons_zero]
                  clear ho hb hw
                  go_wp2_with (first
                    | fail)
                  refine ⟨rfl, rfl, ?_⟩
                  rw [hJ.out]
                  exact K
                rcases i with _ | i
                · obtain rfl := Option.some.inj ho
                  simp only [List.take_succ_cons, List.take_zero, drFrame, List.setIfInBounds_toArray, List.set_cons_succ, List.set_cons_zero]
                  clear ho hb hw
                  go_wp2_with (first
                    | fail)
                  refine ⟨rfl, rfl, ?_⟩
                  rw [hJ.out]
                  exact K
                rcases i with _ | i
                · obtain rfl := Option.some.inj ho
                  simp only [List.take_succ_cons, List.take_zero, drFrame, List.setIfInBounds_toArray, List.set_cons_succ, List.set_cons_zero]
                  clear ho hb hw
                  go_wp2_with (first
                    | fail)
                  refine ⟨rfl, rfl, ?_⟩
                  rw [hJ.out]
                  exact K
                · cases ho
              case fin =>
                clear K
                intro b W hb K
                rw [hJ.out] at K
                simp only [drFrame, List.setIfInBounds_toArray, List.set_cons_succ, List.set_cons_zero]
                clear hb hJ
                go_wp2_with (first
                  | fail)
                go_roundw
                case rel =>
                  refine ⟨k + 1, !decide (y.l = x.l), by omega, by omega, rfl, by go_num, hid (fun h j l h1 h2 h3 => ?_), K⟩
                  by_cases e : j = k
                  · subst e
                    have e1 : x.l = l := Option.some.inj (XK.out.symm.trans h3)
                    subst e1
                    rw [DK.out]
                    intro e2
                    rw [decide_eq_true (Option.some.inj e2)] at h
                    cases h
                  · exact HB.out rfl j l h1 (by omega) h3
                case measure => simp [intOf]; omega
          · have hi1 : ¬ (k : Int) ≤ (t : Int) := by omega
            obtain rfl : k = t + 1 := by omega
            cases b with
            | false =>
              cases LB with
              | false =>
                have LA := hid (LNO.out rfl)
                go_wp2_with (first
                  | go_big_skip
                  | ((with_reducible show wpList _ _ _ _ _ _); refine kgLoad1 (by rfl) 3 _ (by rfl) _ Tryd.underlying3 rfl K (by rfl) (by repeat (first | exact List.mem_cons_self | refine List.mem_cons_of_mem _ ?_)) (by rfl) ?_)
                  | ((with_reducible show wpList _ _ _ _ _ _); refine kgLoadA (by rfl) 26 _ (by rfl) 7 _ Tryd.underlying26 rfl (by kernel_rfl) K (by rfl) (by repeat (first | exact List.mem_cons_self | refine List.mem_cons_of_mem _ ?_)) (part := [_, _, _, _, _, _, _]) (by rfl) (by rfl) ?_)
                  | ((with_reducible show wpList _ _ _ _ _ _); refine kgLoad1 (by rfl) 22 _ (by rfl) _ Tryd.underlying22 rfl K (by rfl) (by repeat (first | exact List.mem_cons_self | refine List.mem_cons_of_mem _ ?_)) (by rfl) ?_)
                  | (go_at_call 17; (with_reducible refine (bOutdent_any hs3 A3 _ c3 _ rfl _ (K.out.at_ (d := ⟨hs3, A3, true⟩) (by simp)) (OkD.hs Q3.out OKA.out).1 (OkD.hs Q3.out OKA.out).2.1 (OkD.hs Q3.out OKA.out).2.2 (Utf8Tabs_below T.out K.out.b) al aa fl fa 0 0).mono ?_); rintro e W5 hc; unfold RetStE at hc; rw [Q3.out, E2.out] at hc; obtain ⟨A4, n4, c4, hs4, rfl, q1, q2, q3, ho, hb3⟩ := hc; dsimp only at q3; unfold stV; dsimp only; (obtain rfl : n4 = hs4.length := q1); (have Q4 := hid q3); (have K2 := hid (K.out.addW hb3 ho)); clear q2 q3 ho hb3 K; (have K := K2); clear K2)
                  | ((with_reducible show wpList _ _ _ _ _ _); refine kgAlloc (by rfl) 26 (by rfl) (some 11) (by rfl) [.slice none 0 0, .int .i64 0, .int .i64 0, .int .i64 0, .int .i64 0, .int .i64 0, .int .i64 0] (fun _ => by kernel_rfl) K ?_; intro g11 V1 K1; clear K; (have K := K1); clear K1)
                  | ((with_reducible show wpList _ _ _ _ _ _); refine kgStore (by rfl) 26 (.tmp 11) _ (by rfl) 7 (by kernel_rfl) [] (by exact K) (by rfl) (by rfl) [_, _, _, _, _, _, _] (by rfl) (by rfl) (by simp) (by simp [Value.oneCell']) (cs := [_, _, _, _, _, _, _]) (by rfl) ?_; intro V2 K1; (dsimp only [List.cons_append, List.nil_append] at K1); clear K; (have K := K1); clear K1)
                  | (go_at_call 18; (with_reducible refine (bListed_any hs A _ c _ rfl _ (K.out.at_ (d := ⟨hs, A, false⟩) (by simp)) L0.out H2.out FI.out (Utf8Tabs_below T.out K.out.b) al aa fl fa on off _).mono ?_); rintro e W6 ⟨rfl, hb⟩; rw [LBE.out]; dsimp only; (have K2 := hid (K.out.later hb)); clear hb K; (have K := K2); clear K2)
                  | (go_at_call 19; (with_reducible refine (bList_any hs A _ c _ rfl _ (K.out.at_ (d := ⟨hs, A, false⟩) (by simp)) L0.out H2.out FI.out (Utf8Tabs_below T.out K.out.b) al aa fl fa on off _).mono ?_); rintro e W5 hc; unfold RetStE at hc; rw [LE.out] at hc; obtain ⟨A9, n9, c9, hs9, rfl, q1, q2, q3, ho, hb3⟩ := hc; dsimp only at q3; unfold stV; dsimp only; (obtain rfl : n9 = hs9.length := q1); (have Q9 := hid q3); (have K2 := hid (K.out.addW hb3 ho)); clear q2 q3 ho hb3 K; (have K := K2); clear K2)
                  | ((with_reducible show wpList _ _ _ _ _ _); refine kgAlloc (by rfl) 26 (by rfl) (some 15) (by rfl) [.slice none 0 0, .int .i64 0, .int .i64 0, .int .i64 0, .int .i64 0, .int .i64 0, .int .i64 0] (fun _ => by kernel_rfl) K ?_; intro g15 V1 K1; clear K; (have K := K1); clear K1)
                  | ((with_reducible show wpList _ _ _ _ _ _); refine kgStore (by rfl) 26 (.tmp 15) _ (by rfl) 7 (by kernel_rfl) [] (by exact K) (by rfl) (by rfl) [_, _, _, _, _, _, _] (by rfl) (by rfl) (by simp) (by simp [Value.oneCell']) (cs := [_, _, _, _, _, _, _]) (by rfl) ?_; intro V2 K1; (dsimp only [List.cons_append, List.nil_append] at K1); clear K; (have K := K1); clear K1)
                  | (go_at_call 18; (with_reducible refine (bListed_any hs9 A9 _ c9 _ rfl _ (K.out.at_ (d := ⟨hs9, A9, true⟩) (by simp)) (OkD.hs Q9.out OKL.out).1 (OkD.hs Q9.out OKL.out).2.1 (OkD.hs Q9.out OKL.out).2.2 (Utf8Tabs_below T.out K.out.b) al aa fl fa 0 0 _).mono ?_); rintro e W7 ⟨rfl, hb⟩; rw [Q9.out, LA.out]; dsimp only; (have K2 := hid (K.out.later hb)); clear hb K; (have K := K2); clear K2)
                  | (go_at_call 9; (with_reducible refine (awake25_any _ (Utf8Tabs_below T.out K.out.b)).mono ?_); rintro e W9 ⟨rfl, hb⟩; (have K2 := hid (K.out.later hb)); clear hb K; (have K := K2); clear K2))
                go_ret
                exact ⟨rfl, K.out.b⟩
              | true =>
                have LA := hid (LYES.out rfl)
                go_wp2_with (first
                  | go_big_skip
                  | ((with_reducible show wpList _ _ _ _ _ _); refine kgLoad1 (by rfl) 3 _ (by rfl) _ Tryd.underlying3 rfl K (by rfl) (by repeat (first | exact List.mem_cons_self | refine List.mem_cons_of_mem _ ?_)) (by rfl) ?_)
                  | ((with_reducible show wpList _ _ _ _ _ _); refine kgLoadA (by rfl) 26 _ (by rfl) 7 _ Tryd.underlying26 rfl (by kernel_rfl) K (by rfl) (by repeat (first | exact List.mem_cons_self | refine List.mem_cons_of_mem _ ?_)) (part := [_, _, _, _, _, _, _]) (by rfl) (by rfl) ?_)
                  | ((with_reducible show wpList _ _ _ _ _ _); refine kgLoad1 (by rfl) 22 _ (by rfl) _ Tryd.underlying22 rfl K (by rfl) (by repeat (first | exact List.mem_cons_self | refine List.mem_cons_of_mem _ ?_)) (by rfl) ?_)
                  | (go_at_call 17; (with_reducible refine (bOutdent_any hs3 A3 _ c3 _ rfl _ (K.out.at_ (d := ⟨hs3, A3, true⟩) (by simp)) (OkD.hs Q3.out OKA.out).1 (OkD.hs Q3.out OKA.out).2.1 (OkD.hs Q3.out OKA.out).2.2 (Utf8Tabs_below T.out K.out.b) al aa fl fa 0 0).mono ?_); rintro e W5 hc; unfold RetStE at hc; rw [Q3.out, E2.out] at hc; obtain ⟨A4, n4, c4, hs4, rfl, q1, q2, q3, ho, hb3⟩ := hc; dsimp only at q3; unfold stV; dsimp only; (obtain rfl : n4 = hs4.length := q1); (have Q4 := hid q3); (have K2 := hid (K.out.addW hb3 ho)); clear q2 q3 ho hb3 K; (have K := K2); clear K2)
                  | ((with_reducible show wpList _ _ _ _ _ _); refine kgAlloc (by rfl) 26 (by rfl) (some 11) (by rfl) [.slice none 0 0, .int .i64 0, .int .i64 0, .int .i64 0, .int .i64 0, .int .i64 0, .int .i64 0] (fun _ => by kernel_rfl) K ?_; intro g11 V1 K1; clear K; (have K := K1); clear K1)
                  | ((with_reducible show wpList _ _ _ _ _ _); refine kgStore (by rfl) 26 (.tmp 11) _ (by rfl) 7 (by kernel_rfl) [] (by exact K) (by rfl) (by rfl) [_, _, _, _, _, _, _] (by rfl) (by rfl) (by simp) (by simp [Value.oneCell']) (cs := [_, _, _, _, _, _, _]) (by rfl) ?_; intro V2 K1; (dsimp only [List.cons_append, List.nil_append] at K1); clear K; (have K := K1); clear K1)
                  | (go_at_call 18; (with_reducible refine (bListed_any hs A _ c _ rfl _ (K.out.at_ (d := ⟨hs, A, false⟩) (by simp)) L0.out H2.out FI.out (Utf8Tabs_below T.out K.out.b) al aa fl fa on off _).mono ?_); rintro e W6 ⟨rfl, hb⟩; rw [LBE.out]; dsimp only; (have K2 := hid (K.out.later hb)); clear hb K; (have K := K2); clear K2)
                  | (go_at_call 19; (with_reducible refine (bList_any hs A _ c _ rfl _ (K.out.at_ (d := ⟨hs, A, false⟩) (by simp)) L0.out H2.out FI.out (Utf8Tabs_below T.out K.out.b) al aa fl fa on off _).mono ?_); rintro e W5 hc; unfold RetStE at hc; rw [LE.out] at hc; obtain ⟨A9, n9, c9, hs9, rfl, q1, q2, q3, ho, hb3⟩ := hc; dsimp only at q3; unfold stV; dsimp only; (obtain rfl : n9 = hs9.length := q1); (have Q9 := hid q3); (have K2 := hid (K.out.addW hb3 ho)); clear q2 q3 ho hb3 K; (have K := K2); clear K2)
                  | ((with_reducible show wpList _ _ _ _ _ _); refine kgAlloc (by rfl) 26 (by rfl) (some 15) (by rfl) [.slice none 0 0, .int .i64 0, .int .i64 0, .int .i64 0, .int .i64 0, .int .i64 0, .int .i64 0] (fun _ => by kernel_rfl) K ?_; intro g15 V1 K1; clear K; (have K := K1); clear K1)
                  | ((with_reducible show wpList _ _ _ _ _ _); refine kgStore (by rfl) 26 (.tmp 15) _ (by rfl) 7 (by kernel_rfl) [] (by exact K) (by rfl) (by rfl) [_, _, _, _, _, _, _] (by rfl) (by rfl) (by simp) (by simp [Value.oneCell']) (cs := [_, _, _, _, _, _, _]) (by rfl) ?_; intro V2 K1; (dsimp only [List.cons_append, List.nil_append] at K1); clear K; (have K := K1); clear K1)
                  | (go_at_call 18; (with_reducible refine (bListed_any hs9 A9 _ c9 _ rfl _ (K.out.at_ (d := ⟨hs9, A9, true⟩) (by simp)) (OkD.hs Q9.out OKL.out).1 (OkD.hs Q9.out OKL.out).2.1 (OkD.hs Q9.out OKL.out).2.2 (Utf8Tabs_below T.out K.out.b) al aa fl fa 0 0 _).mono ?_); rintro e W7 ⟨rfl, hb⟩; rw [Q9.out]; dsimp only; (have K2 := hid (K.out.later hb)); clear hb K; (have K := K2); clear K2))
                go_loopw [19] (fun i wr => ∃ (k : Nat), f ≤ k ∧ k ≤ t + 1 ∧ i = .int .i64 (k : Int) ∧ Hid (KG w wr [⟨g15, 26, [.slice A9 hs9.length c9, .int .i64 al, .int .i64 aa, .int .i64 fl, .int .i64 fa, .int .i64 0, .int .i64 0]⟩, ⟨g6, 24, [.int .i64 (t : Int), .int .i64 qa]⟩, ⟨g5, 24, [.int .i64 (f : Int), .int .i64 pa]⟩, ⟨g2, 26, [.slice A hs.length c, .int .i64 al, .int .i64 aa, .int .i64 fl, .int .i64 fa, .int .i64 on, .int .i64 off]⟩] [⟨hs9, A9, true⟩, ⟨hs, A, false⟩])) (fun i _ => t + 1 - (intOf i).toNat)
                case atStart => exact ⟨f, Nat.le_refl _, by omega, rfl, hid (K.out.less (by repeat (first | exact List.Sublist.slnil | refine List.Sublist.cons_cons _ ?_ | refine List.Sublist.cons _ ?_)) (by simp))⟩
                case round =>
                  clear K
                  obtain ⟨k, hfk, hkt, rfl, K⟩ := hrel
                  have hk3 : (k : Int) ≤ 301 := by omega
                  by_cases hlt : k ≤ t
                  · have hi1 : (k : Int) ≤ (t : Int) := by omega
                    have n9 : hs9.length = hs.length := by have h1 := congrArg List.length Q9.out; have h2 := csD_len LCS.out; rw [lnsOf_len] at h1 h2; omega
                    have hi2 : (k : Int) < (hs.length : Int) := by omega
                    have hi3 : (k : Int) < (hs9.length : Int) := by omega
                    obtain ⟨ad, x, rfl, -, hx, -⟩ := (K.out.at_ (d := ⟨hs, A, false⟩) (by simp)).row.atH (show k < hs.length by omega)
                    obtain ⟨ad9, y, rfl, -, hy, -⟩ := (K.out.at_ (d := ⟨hs9, A9, true⟩) (by simp)).row.atH (show k < hs9.length by omega)
                    have HX := hid hx
                    have HY := hid hy
                    obtain ⟨m, hm1, hm2⟩ := LA.out k x.l hfk (by omega) (lnsOf_get hx)
                    have hm3 : y.l = m := by have h1 := lnsOf_get hy; rw [Q9.out] at h1; exact Option.some.inj (h1.symm.trans hm1)
                    subst hm3
                    have hx6 : (x.l.ls.length : Int) ≤ 1000000 := by have := (H2.out x (List.mem_of_getElem? hx)).1; omega
                    have hx1 : (1 : Int) ≤ (x.l.ls.length : Int) := by omega
                    have hne : ((y.l.ls.length : Int) != (x.l.ls.length : Int) - 1) = false := bne_eq_false_iff_eq.2 (by omega)
                    have hy6 : (y.l.ls.length : Int) = (x.l.ls.length : Int) - 1 := by omega
                    replace hy6 := hid hy6
                    clear hx hy hm1 hm2 n9
                    go_upto_region 25 with (first
                      | go_big_skip
                      | ((with_reducible show wpList _ _ _ _ _ _); refine kgLoad1 (by rfl) 3 _ (by rfl) _ Tryd.underlying3 rfl K (by rfl) (by repeat (first | exact List.mem_cons_self | refine List.mem_cons_of_mem _ ?_)) (by rfl) ?_))
                    obtain ⟨J, hJ⟩ : ∃ J : (Nat → Bool) → World → Prop, J = fun _ W => Hid (KG w W [⟨g15, 26, [.slice (some ad9) hs9.length c9, .int .i64 al, .int .i64 aa, .int .i64 fl, .int .i64 fa, .int .i64 0, .int .i64 0]⟩, ⟨g6, 24, [.int .i64 (t : Int), .int .i64 qa]⟩, ⟨g5, 24, [.int .i64 (f : Int), .int .i64 pa]⟩, ⟨g2, 26, [.slice (some ad) hs.length c, .int .i64 al, .int .i64 aa, .int .i64 fl, .int .i64 fa, .int .i64 on, .int .i64 off]⟩] [⟨hs9, (some ad9), true⟩, ⟨hs, some ad, false⟩]) := ⟨_, rfl⟩
                    replace hJ := hid hJ
                    refine wp_drawn2_det [.pointer (some ⟨g15, 0, none⟩), .slice (some ad9) hs9.length c9, .int .i64 (k : Int), .pointer (some (ad9.add (k * 4))), .pointer (some ⟨(ad9.add (k * 4)).block, (ad9.add (k * 4)).off + 1, none⟩), .slice y.A y.l.ls.length y.c, .int .i64 (y.l.ls.length : Int), .pointer (some ⟨g2, 0, none⟩), .slice (some ad) hs.length c, .int .i64 (k : Int), .pointer (some (ad.add (k * 4))), .pointer (some ⟨(ad.add (k * 4)).block, (ad.add (k * 4)).off + 1, none⟩), .slice x.A x.l.ls.length x.c, .int .i64 (x.l.ls.length : Int), .int .i64 ((x.l.ls.length : Int) - 1), .bool false] (by kernel_rfl) (by kernel_rfl) rfl J (by rw [hJ.out]; exact hid (K.out.quiet ⟨1, rfl⟩)) ?step ?fin
                    case step =>
                      clear K
                      intro i o b W ho hb hw K
                      rw [hJ.out] at K
                      rcases i with _ | i
                      · obtain rfl := Option.some.inj ho
                        simp only [List.take_zero, drFrame]
                        clear ho hb hw
                        go_wp2_with (first
                          | fail)
                        refine ⟨rfl, rfl, ?_⟩
                        rw [hJ.out]
                        exact K
                      rcases i with _ | i
                      · obtain rfl := Option.some.inj ho
                        simp only [List.take_succ_cons, List.take_zero, drFrame, List.setIfInBounds_toArray, List.set_cons_succ, List.set_cons_zero]
                        clear ho hb hw
                        go_wp2_with (first
                          | go_big_skip
                          | ((with_reducible show wpList _ _ _ _ _ _); refine kgLoad1 (by rfl) 22 _ (by rfl) _ Tryd.underlying22 rfl K (by rfl) (by repeat (first | exact List.mem_cons_self | refine List.mem_cons_of_mem _ ?_)) (by rfl) ?_))
                        refine ⟨rfl, rfl, ?_⟩
                        rw [hJ.out]
                        exact K
                      rcases i with _ | i
                      · obtain rfl := Option.some.inj ho
                        simp only [List.take_succ_cons, List.take_zero, drFrame, List.setIfInBounds_toArray, List.set_cons_succ, List.set_cons_zero]
                        clear ho hb hw
                        go_wp2_with (first
                          | fail)
                        refine ⟨rfl, rfl, ?_⟩
                        rw [hJ.out]
                        exact K
                      rcases i with _ | i
                      · obtain rfl := Option.some.inj ho
                        simp only [List.take_succ_cons, List.take_zero, drFrame, List.setIfInBounds_toArray, List.set_cons_succ, List.set_cons_zero]
                        clear ho hb hw
                        go_wp2_with (first
                          | fail)
                        refine ⟨rfl, rfl, ?_⟩
                        rw [hJ.out]
                        exact K
                      rcases i with _ | i
                      · obtain rfl := Option.some.inj ho
                        simp only [List.take_succ_cons, List.take_zero, drFrame, List.setIfInBounds_toArray, List.set_cons_succ, List.set_cons_zero]
                        clear ho hb hw
                        go_wp2_with (first
                          | fail)
                        refine ⟨rfl, rfl, ?_⟩
                        rw [hJ.out]
                        exact K
                      rcases i with _ | i
                      · obtain rfl := Option.some.inj ho
                        simp only [List.take_succ_cons, List.take_zero, drFrame, List.setIfInBounds_toArray, List.set_cons_succ, List.set_cons_zero]
                        clear ho hb hw
                        go_wp2_with (first
                          | go_big_skip
                          | ((with_reducible show wpList _ _ _ _ _ _); refine kgElem1 (by rfl) 41 _ (by rfl) _ Tryd.underlying41 rfl K (by rfl) (by repeat (first | exact List.mem_cons_self | refine List.mem_cons_of_mem _ ?_)) HY.out (by decide) (by rfl) ?_))
                        refine ⟨rfl, rfl, ?_⟩
                        rw [hJ.out]
                        exact K
                      rcases i with _ | i
                      · obtain rfl := Option.some.inj ho
                        simp only [List.take_succ_cons, List.take_zero, drFrame, List.setIfInBounds_toArray, List.set_cons_succ, List.set_cons_zero]
                        clear ho hb hw
                        go_wp2_with (first
                          | fail)
                        refine ⟨rfl, rfl, ?_⟩
                        rw [hJ.out]
                        exact K
                      rcases i with _ | i
                      · obtain rfl := Option.some.inj ho
                        simp only [List.take_succ_cons, List.take_zero, drFrame, List.setIfInBounds_toArray, List.set_cons_succ, List.set_cons_zero]
                        clear ho hb hw
                        go_wp2_with (first
                          | fail)
                        refine ⟨rfl, rfl, ?_⟩
                        rw [hJ.out]
                        exact K
                      rcases i with _ | i
                      · obtain rfl := Option.some.inj ho
                        simp only [List.take_succ_cons, List.take_zero, drFrame, List.setIfInBounds_toArray, List.set_cons_succ, List.set_cons_zero]
                        clear ho hb hw
                        go_wp2_with (first
                          | go_big_skip
                          | ((with_reducible show wpList _ _ _ _ _ _); refine kgLoad1 (by rfl) 22 _ (by rfl) _ Tryd.underlying22 rfl K (by rfl) (by repeat (first | exact List.mem_cons_self | refine List.mem_cons_of_mem _ ?_)) (by rfl) ?_))
                        refine ⟨rfl, rfl, ?_⟩
                        rw [hJ.out]
                        exact K
                      rcases i with _ | i
                      · obtain rfl := Option.some.inj ho
                        simp only [List.take_succ_cons, List.take_zero, drFrame, List.setIfInBounds_toArray, List.set_cons_succ, List.set_cons_zero]
                        clear ho hb hw
                        go_wp2_with (first
                          | fail)
                        refine ⟨rfl, rfl, ?_⟩
                        rw [hJ.out]
                        exact K
                      rcases i with _ | i
                      · obtain rfl := Option.some.inj ho
                        simp only [List.take_succ_cons, List.take_zero, drFrame, List.setIfInBounds_toArray, List.set_cons_succ, List.set_cons_zero]
                        clear ho hb hw
                        go_wp2_with (first
                          | fail)
                        refine ⟨rfl, rfl, ?_⟩
                        rw [hJ.out]
                        exact K
                      rcases i with _ | i
                      · obtain rfl := Option.some.inj ho
                        simp only [List.take_succ_cons, List.take_zero, drFrame, List.setIfInBounds_toArray, List.set_cons_succ, List.set_cons_zero]
                        clear ho hb hw
                        go_wp2_with (first
                          | fail)
                        refine ⟨rfl, rfl, ?_⟩
                        rw [hJ.out]
                        exact K
                      rcases i with _ | i
                      · obtain rfl := Option.some.inj ho
                        simp only [List.take_succ_cons, List.take_zero, drFrame, List.setIfInBounds_toArray, List.set_cons_succ, List.set_cons_zero]
                        clear ho hb hw
                        go_wp2_with (first
                          | go_big_skip
                          | ((with_reducible show wpList _ _ _ _ _ _); refine kgElem1 (by rfl) 41 _ (by rfl) _ Tryd.underlying41 rfl K (by rfl) (by repeat (first | exact List.mem_cons_self | refine List.mem_cons_of_mem _ ?_)) HX.out (by decide) (by rfl) ?_))
                        refine ⟨rfl, rfl, ?_⟩
                        rw [hJ.out]
                        exact K
                      rcases i with _ | i
                      · obtain rfl := Option.some.inj ho
                        simp only [List.take_succ_cons, List.take_zero, drFrame, List.setIfInBounds_toArray, List.set_cons_succ, List.set_cons_zero]
                        clear ho hb hw
                        go_wp2_with (first
                          | fail)
                        refine ⟨rfl, rfl, ?_⟩
                        rw [hJ.out]
                        exact K
                      rcases i with _ | i
                      · obtain rfl := Option.some.inj ho
                        simp only [List.take_succ_cons, List.take_zero, drFrame, List.setIfInBounds_toArray, List.set_cons_succ, List.set_cons_zero]
                        clear ho hb hw
                        go_wp2_with (first
                          | fail)
                        refine ⟨rfl, rfl, ?_⟩
                        rw [hJ.out]
                        exact K
                      rcases i with _ | i
                      · obtain rfl := Option.some.inj ho
                        simp only [List.take_succ_cons, List.take_zero, drFrame, List.setIfInBounds_toArray, List.set_cons_succ, List.set_cons_zero]
                        clear ho hb hw
                        go_wp2_with (first
                          | fail)
                        refine ⟨rfl, rfl, ?_⟩
                        rw [hJ.out]
                        exact K
                      · cases ho
                    case fin =>
                      clear K
                      intro b W hb K
                      rw [hJ.out] at K
                      simp only [drFrame, List.setIfInBounds_toArray, List.set_cons_succ, List.set_cons_zero]
                      clear hb hJ
                      go_wp2_with (first
                        | fail)
                      go_roundw
                      case rel => exact ⟨k + 1, by omega, by omega, by go_num, K⟩
                      case measure => simp [intOf]; omega
                  · have hi1 : ¬ (k : Int) ≤ (t : Int) := by omega
                    go_wp2_with (first
                      | go_big_skip
                      | ((with_reducible show wpList _ _ _ _ _ _); refine kgLoad1 (by rfl) 3 _ (by rfl) _ Tryd.underlying3 rfl K (by rfl) (by repeat (first | exact List.mem_cons_self | refine List.mem_cons_of_mem _ ?_)) (by rfl) ?_)
                      | (go_at_call 9; (with_reducible refine (awake25_any _ (Utf8Tabs_below T.out K.out.b)).mono ?_); rintro e W9 ⟨rfl, hb⟩; (have K2 := hid (K.out.later hb)); clear hb K; (have K := K2); clear K2))
                    go_ret
                    exact ⟨rfl, K.out.b⟩
            | true =>
              have BE := hid (BK.out (fun j l h1 h2 h3 => HB.out rfl j l h1 (by omega) h3))
              cases LB with
              | false =>
                have LA := hid (LNO.out rfl)
                go_wp2_with (first
                  | go_big_skip
                  | ((with_reducible show wpList _ _ _ _ _ _); refine kgLoad1 (by rfl) 3 _ (by rfl) _ Tryd.underlying3 rfl K (by rfl) (by repeat (first | exact List.mem_cons_self | refine List.mem_cons_of_mem _ ?_)) (by rfl) ?_)
                  | ((with_reducible show wpList _ _ _ _ _ _); refine kgLoadA (by rfl) 26 _ (by rfl) 7 _ Tryd.underlying26 rfl (by kernel_rfl) K (by rfl) (by repeat (first | exact List.mem_cons_self | refine List.mem_cons_of_mem _ ?_)) (part := [_, _, _, _, _, _, _]) (by rfl) (by rfl) ?_)
                  | ((with_reducible show wpList _ _ _ _ _ _); refine kgLoad1 (by rfl) 22 _ (by rfl) _ Tryd.underlying22 rfl K (by rfl) (by repeat (first | exact List.mem_cons_self | refine List.mem_cons_of_mem _ ?_)) (by rfl) ?_)
                  | (go_at_call 17; (with_reducible refine (bOutdent_any hs3 A3 _ c3 _ rfl _ (K.out.at_ (d := ⟨hs3, A3, true⟩) (by simp)) (OkD.hs Q3.out OKA.out).1 (OkD.hs Q3.out OKA.out).2.1 (OkD.hs Q3.out OKA.out).2.2 (Utf8Tabs_below T.out K.out.b) al aa fl fa 0 0).mono ?_); rintro e W5 hc; unfold RetStE at hc; rw [Q3.out, E2.out] at hc; obtain ⟨A4, n4, c4, hs4, rfl, q1, q2, q3, ho, hb3⟩ := hc; dsimp only at q3; unfold stV; dsimp only; (obtain rfl : n4 = hs4.length := q1); (have Q4 := hid q3); (have K2 := hid (K.out.addW hb3 ho)); clear q2 q3 ho hb3 K; (have K := K2); clear K2)
                  | ((with_reducible show wpList _ _ _ _ _ _); refine kgAlloc (by rfl) 26 (by rfl) (some 11) (by rfl) [.slice none 0 0, .int .i64 0, .int .i64 0, .int .i64 0, .int .i64 0, .int .i64 0, .int .i64 0] (fun _ => by kernel_rfl) K ?_; intro g11 V1 K1; clear K; (have K := K1); clear K1)
                  | ((with_reducible show wpList _ _ _ _ _ _); refine kgStore (by rfl) 26 (.tmp 11) _ (by rfl) 7 (by kernel_rfl) [] (by exact K) (by rfl) (by rfl) [_, _, _, _, _, _, _] (by rfl) (by rfl) (by simp) (by simp [Value.oneCell']) (cs := [_, _, _, _, _, _, _]) (by rfl) ?_; intro V2 K1; (dsimp only [List.cons_append, List.nil_append] at K1); clear K; (have K := K1); clear K1)
                  | (go_at_call 14; (with_reducible refine (rSame7_any hs4 hs A4 A _ _ c4 c _ _ rfl rfl _ (K.out.at_ (d := ⟨hs4, A4, true⟩) (by simp)) (K.out.at_ (d := ⟨hs, A, false⟩) (by simp)) (OkD.hs Q4.out OKB.out).1 (OkD.hs Q4.out OKB.out).2.1).mono ?_); rintro e W7 ⟨rfl, hb⟩; rw [decide_eq_true (Q4.out.trans BE.out)]; (have K2 := hid (K.out.later hb)); clear hb K; (have K := K2); clear K2)
                  | (go_at_call 18; (with_reducible refine (bListed_any hs A _ c _ rfl _ (K.out.at_ (d := ⟨hs, A, false⟩) (by simp)) L0.out H2.out FI.out (Utf8Tabs_below T.out K.out.b) al aa fl fa on off _).mono ?_); rintro e W6 ⟨rfl, hb⟩; rw [LBE.out]; dsimp only; (have K2 := hid (K.out.later hb)); clear hb K; (have K := K2); clear K2)
                  | (go_at_call 19; (with_reducible refine (bList_any hs A _ c _ rfl _ (K.out.at_ (d := ⟨hs, A, false⟩) (by simp)) L0.out H2.out FI.out (Utf8Tabs_below T.out K.out.b) al aa fl fa on off _).mono ?_); rintro e W5 hc; unfold RetStE at hc; rw [LE.out] at hc; obtain ⟨A9, n9, c9, hs9, rfl, q1, q2, q3, ho, hb3⟩ := hc; dsimp only at q3; unfold stV; dsimp only; (obtain rfl : n9 = hs9.length := q1); (have Q9 := hid q3); (have K2 := hid (K.out.addW hb3 ho)); clear q2 q3 ho hb3 K; (have K := K2); clear K2)
                  | ((with_reducible show wpList _ _ _ _ _ _); refine kgAlloc (by rfl) 26 (by rfl) (some 15) (by rfl) [.slice none 0 0, .int .i64 0, .int .i64 0, .int .i64 0, .int .i64 0, .int .i64 0, .int .i64 0] (fun _ => by kernel_rfl) K ?_; intro g15 V1 K1; clear K; (have K := K1); clear K1)
                  | ((with_reducible show wpList _ _ _ _ _ _); refine kgStore (by rfl) 26 (.tmp 15) _ (by rfl) 7 (by kernel_rfl) [] (by exact K) (by rfl) (by rfl) [_, _, _, _, _, _, _] (by rfl) (by rfl) (by simp) (by simp [Value.oneCell']) (cs := [_, _, _, _, _, _, _]) (by rfl) ?_; intro V2 K1; (dsimp only [List.cons_append, List.nil_append] at K1); clear K; (have K := K1); clear K1)
                  | (go_at_call 18; (with_reducible refine (bListed_any hs9 A9 _ c9 _ rfl _ (K.out.at_ (d := ⟨hs9, A9, true⟩) (by simp)) (OkD.hs Q9.out OKL.out).1 (OkD.hs Q9.out OKL.out).2.1 (OkD.hs Q9.out OKL.out).2.2 (Utf8Tabs_below T.out K.out.b) al aa fl fa 0 0 _).mono ?_); rintro e W7 ⟨rfl, hb⟩; rw [Q9.out, LA.out]; dsimp only; (have K2 := hid (K.out.later hb)); clear hb K; (have K := K2); clear K2)
                  | (go_at_call 9; (with_reducible refine (awake25_any _ (Utf8Tabs_below T.out K.out.b)).mono ?_); rintro e W9 ⟨rfl, hb⟩; (have K2 := hid (K.out.later hb)); clear hb K; (have K := K2); clear K2))
                go_ret
                exact ⟨rfl, K.out.b⟩
              | true =>
                have LA := hid (LYES.out rfl)
                go_wp2_with (first
                  | go_big_skip
                  | ((with_reducible show wpList _ _ _ _ _ _); refine kgLoad1 (by rfl) 3 _ (by rfl) _ Tryd.underlying3 rfl K (by rfl) (by repeat (first | exact List.mem_cons_self | refine List.mem_cons_of_mem _ ?_)) (by rfl) ?_)
                  | ((with_reducible show wpList _ _ _ _ _ _); refine kgLoadA (by rfl) 26 _ (by rfl) 7 _ Tryd.underlying26 rfl (by kernel_rfl) K (by rfl) (by repeat (first | exact List.mem_cons_self | refine List.mem_cons_of_mem _ ?_)) (part := [_, _, _, _, _, _, _]) (by rfl) (by rfl) ?_)
                  | ((with_reducible show wpList _ _ _ _ _ _); refine kgLoad1 (by rfl) 22 _ (by rfl) _ Tryd.underlying22 rfl K (by rfl) (by repeat (first | exact List.mem_cons_self | refine List.mem_cons_of_mem _ ?_)) (by rfl) ?_)
                  | (go_at_call 17; (with_reducible refine (bOutdent_any hs3 A3 _ c3 _ rfl _ (K.out.at_ (d := ⟨hs3, A3, true⟩) (by simp)) (OkD.hs Q3.out OKA.out).1 (OkD.hs Q3.out OKA.out).2.1 (OkD.hs Q3.out OKA.out).2.2 (Utf8Tabs_below T.out K.out.b) al aa fl fa 0 0).mono ?_); rintro e W5 hc; unfold RetStE at hc; rw [Q3.out, E2.out] at hc; obtain ⟨A4, n4, c4, hs4, rfl, q1, q2, q3, ho, hb3⟩ := hc; dsimp only at q3; unfold stV; dsimp only; (obtain rfl : n4 = hs4.length := q1); (have Q4 := hid q3); (have K2 := hid (K.out.addW hb3 ho)); clear q2 q3 ho hb3 K; (have K := K2); clear K2)
                  | ((with_reducible show wpList _ _ _ _ _ _); refine kgAlloc (by rfl) 26 (by rfl) (some 11) (by rfl) [.slice none 0 0, .int .i64 0, .int .i64 0, .int .i64 0, .int .i64 0, .int .i64 0, .int .i64 0] (fun _ => by kernel_rfl) K ?_; intro g11 V1 K1; clear K; (have K := K1); clear K1)
                  | ((with_reducible show wpList _ _ _ _ _ _); refine kgStore (by rfl) 26 (.tmp 11) _ (by rfl) 7 (by kernel_rfl) [] (by exact K) (by rfl) (by rfl) [_, _, _, _, _, _, _] (by rfl) (by rfl) (by simp) (by simp [Value.oneCell']) (cs := [_, _, _, _, _, _, _]) (by rfl) ?_; intro V2 K1; (dsimp only [List.cons_append, List.nil_append] at K1); clear K; (have K := K1); clear K1)
                  | (go_at_call 14; (with_reducible refine (rSame7_any hs4 hs A4 A _ _ c4 c _ _ rfl rfl _ (K.out.at_ (d := ⟨hs4, A4, true⟩) (by simp)) (K.out.at_ (d := ⟨hs, A, false⟩) (by simp)) (OkD.hs Q4.out OKB.out).1 (OkD.hs Q4.out OKB.out).2.1).mono ?_); rintro e W7 ⟨rfl, hb⟩; rw [decide_eq_true (Q4.out.trans BE.out)]; (have K2 := hid (K.out.later hb)); clear hb K; (have K := K2); clear K2)
                  | (go_at_call 18; (with_reducible refine (bListed_any hs A _ c _ rfl _ (K.out.at_ (d := ⟨hs, A, false⟩) (by simp)) L0.out H2.out FI.out (Utf8Tabs_below T.out K.out.b) al aa fl fa on off _).mono ?_); rintro e W6 ⟨rfl, hb⟩; rw [LBE.out]; dsimp only; (have K2 := hid (K.out.later hb)); clear hb K; (have K := K2); clear K2)
                  | (go_at_call 19; (with_reducible refine (bList_any hs A _ c _ rfl _ (K.out.at_ (d := ⟨hs, A, false⟩) (by simp)) L0.out H2.out FI.out (Utf8Tabs_below T.out K.out.b) al aa fl fa on off _).mono ?_); rintro e W5 hc; unfold RetStE at hc; rw [LE.out] at hc; obtain ⟨A9, n9, c9, hs9, rfl, q1, q2, q3, ho, hb3⟩ := hc; dsimp only at q3; unfold stV; dsimp only; (obtain rfl : n9 = hs9.length := q1); (have Q9 := hid q3); (have K2 := hid (K.out.addW hb3 ho)); clear q2 q3 ho hb3 K; (have K := K2); clear K2)
                  | ((with_reducible show wpList _ _ _ _ _ _); refine kgAlloc (by rfl) 26 (by rfl) (some 15) (by rfl) [.slice none 0 0, .int .i64 0, .int .i64 0, .int .i64 0, .int .i64 0, .int .i64 0, .int .i64 0] (fun _ => by kernel_rfl) K ?_; intro g15 V1 K1; clear K; (have K := K1); clear K1)
                  | ((with_reducible show wpList _ _ _ _ _ _); refine kgStore (by rfl) 26 (.tmp 15) _ (by rfl) 7 (by kernel_rfl) [] (by exact K) (by rfl) (by rfl) [_, _, _, _, _, _, _] (by rfl) (by rfl) (by simp) (by simp [Value.oneCell']) (cs := [_, _, _, _, _, _, _]) (by rfl) ?_; intro V2 K1; (dsimp only [List.cons_append, List.nil_append] at K1); clear K; (have K := K1); clear K1)
                  | (go_at_call 18; (with_reducible refine (bListed_any hs9 A9 _ c9 _ rfl _ (K.out.at_ (d := ⟨hs9, A9, true⟩) (by simp)) (OkD.hs Q9.out OKL.out).1 (OkD.hs Q9.out OKL.out).2.1 (OkD.hs Q9.out OKL.out).2.2 (Utf8Tabs_below T.out K.out.b) al aa fl fa 0 0 _).mono ?_); rintro e W7 ⟨rfl, hb⟩; rw [Q9.out]; dsimp only; (have K2 := hid (K.out.later hb)); clear hb K; (have K := K2); clear K2))
                go_loopw [19] (fun i wr => ∃ (k : Nat), f ≤ k ∧ k ≤ t + 1 ∧ i = .int .i64 (k : Int) ∧ Hid (KG w wr [⟨g15, 26, [.slice A9 hs9.length c9, .int .i64 al, .int .i64 aa, .int .i64 fl, .int .i64 fa, .int .i64 0, .int .i64 0]⟩, ⟨g6, 24, [.int .i64 (t : Int), .int .i64 qa]⟩, ⟨g5, 24, [.int .i64 (f : Int), .int .i64 pa]⟩, ⟨g2, 26, [.slice A hs.length c, .int .i64 al, .int .i64 aa, .int .i64 fl, .int .i64 fa, .int .i64 on, .int .i64 off]⟩] [⟨hs9, A9, true⟩, ⟨hs, A, false⟩])) (fun i _ => t + 1 - (intOf i).toNat)
                case atStart => exact ⟨f, Nat.le_refl _, by omega, rfl, hid (K.out.less (by repeat (first | exact List.Sublist.slnil | refine List.Sublist.cons_cons _ ?_ | refine List.Sublist.cons _ ?_)) (by simp))⟩
                case round =>
                  clear K
                  obtain ⟨k, hfk, hkt, rfl, K⟩ := hrel
                  have hk3 : (k : Int) ≤ 301 := by omega
                  by_cases hlt : k ≤ t
                  · have hi1 : (k : Int) ≤ (t : Int) := by omega
                    have n9 : hs9.length = hs.length := by have h1 := congrArg List.length Q9.out; have h2 := csD_len LCS.out; rw [lnsOf_len] at h1 h2; omega
                    have hi2 : (k : Int) < (hs.length : Int) := by omega
                    have hi3 : (k : Int) < (hs9.length : Int) := by omega
                    obtain ⟨ad, x, rfl, -, hx, -⟩ := (K.out.at_ (d := ⟨hs, A, false⟩) (by simp)).row.atH (show k < hs.length by omega)
                    obtain ⟨ad9, y, rfl, -, hy, -⟩ := (K.out.at_ (d := ⟨hs9, A9, true⟩) (by simp)).row.atH (show k < hs9.length by omega)
                    have HX := hid hx
                    have HY := hid hy
                    obtain ⟨m, hm1, hm2⟩ := LA.out k x.l hfk (by omega) (lnsOf_get hx)
                    have hm3 : y.l = m := by have h1 := lnsOf_get hy; rw [Q9.out] at h1; exact Option.some.inj (h1.symm.trans hm1)
                    subst hm3
                    have hx6 : (x.l.ls.length : Int) ≤ 1000000 := by have := (H2.out x (List.mem_of_getElem? hx)).1; omega
                    have hx1 : (1 : Int) ≤ (x.l.ls.length : Int) := by omega
                    have hne : ((y.l.ls.length : Int) != (x.l.ls.length : Int) - 1) = false := bne_eq_false_iff_eq.2 (by omega)
                    have hy6 : (y.l.ls.length : Int) = (x.l.ls.length : Int) - 1 := by omega
                    replace hy6 := hid hy6
                    clear hx hy hm1 hm2 n9
                    go_upto_region 25 with (first
                      | go_big_skip
                      | ((with_reducible show wpList _ _ _ _ _ _); refine kgLoad1 (by rfl) 3 _ (by rfl) _ Tryd.underlying3 rfl K (by rfl) (by repeat (first | exact List.mem_cons_self | refine List.mem_cons_of_mem _ ?_)) (by rfl) ?_))
                    obtain ⟨J, hJ⟩ : ∃ J : (Nat → Bool) → World → Prop, J = fun _ W => Hid (KG w W [⟨g15, 26, [.slice (some ad9) hs9.length c9, .int .i64 al, .int .i64 aa, .int .i64 fl, .int .i64 fa, .int .i64 0, .int .i64 0]⟩, ⟨g6, 24, [.int .i64 (t : Int), .int .i64 qa]⟩, ⟨g5, 24, [.int .i64 (f : Int), .int .i64 pa]⟩, ⟨g2, 26, [.slice (some ad) hs.length c, .int .i64 al, .int .i64 aa, .int .i64 fl, .int .i64 fa, .int .i64 on, .int .i64 off]⟩] [⟨hs9, (some ad9), true⟩, ⟨hs, some ad, false⟩]) := ⟨_, rfl⟩
                    replace hJ := hid hJ
                    refine wp_drawn2_det [.pointer (some ⟨g15, 0, none⟩), .slice (some ad9) hs9.length c9, .int .i64 (k : Int), .pointer (some (ad9.add (k * 4))), .pointer (some ⟨(ad9.add (k * 4)).block, (ad9.add (k * 4)).off + 1, none⟩), .slice y.A y.l.ls.length y.c, .int .i64 (y.l.ls.length : Int), .pointer (some ⟨g2, 0, none⟩), .slice (some ad) hs.length c, .int .i64 (k : Int), .pointer (some (ad.add (k * 4))), .pointer (some ⟨(ad.add (k * 4)).block, (ad.add (k * 4)).off + 1, none⟩), .slice x.A x.l.ls.length x.c, .int .i64 (x.l.ls.length : Int), .int .i64 ((x.l.ls.length : Int) - 1), .bool false] (by kernel_rfl) (by kernel_rfl) rfl J (by rw [hJ.out]; exact hid (K.out.quiet ⟨1, rfl⟩)) ?step ?fin
                    case step =>
                      clear K
                      intro i o b W ho hb hw K
                      rw [hJ.out] at K
                      rcases i with _ | i
                      · obtain rfl := Option.some.inj ho
                        simp only [List.take_zero, drFrame]
                        clear ho hb hw
                        go_wp2_with (first
                          | fail)
                        refine ⟨rfl, rfl, ?_⟩
                        rw [hJ.out]
                        exact K
                      rcases i with _ | i
                      · obtain rfl := Option.some.inj ho
                        simp only [List.take_succ_cons, List.take_zero, drFrame, List.setIfInBounds_toArray, List.set_cons_succ, List.set_cons_zero]
                        clear ho hb hw
                        go_wp2_with (first
                          | go_big_skip
                          | ((with_reducible show wpList _ _ _ _ _ _); refine kgLoad1 (by rfl) 22 _ (by rfl) _ Tryd.underlying22 rfl K (by rfl) (by repeat (first | exact List.mem_cons_self | refine List.mem_cons_of_mem _ ?_)) (by rfl) ?_))
                        refine ⟨rfl, rfl, ?_⟩
                        rw [hJ.out]
                        exact K
                      rcases i with _ | i
                      · obtain rfl := Option.some.inj ho
                        simp only [List.take_succ_cons, List.take_zero, drFrame, List.setIfInBounds_toArray, List.set_cons_succ, List.set_cons_zero]
                        clear ho hb hw
                        go_wp2_with (first
                          | fail)
                        refine ⟨rfl, rfl, ?_⟩
                        rw [hJ.out]
                        exact K
                      rcases i with _ | i
                      · obtain rfl := Option.some.inj ho
                        simp only [List.take_succ_cons, List.take_zero, drFrame, List.setIfInBounds_toArray, List.set_cons_succ, List.set_cons_zero]
                        clear ho hb hw
                        go_wp2_with (first
                          | fail)
                        refine ⟨rfl, rfl, ?_⟩
                        rw [hJ.out]
                        exact K
                      rcases i with _ | i
                      · obtain rfl := Option.some.inj ho
                        simp only [List.take_succ_cons, List.take_zero, drFrame, List.setIfInBounds_toArray, List.set_cons_succ, List.set_cons_zero]
                        clear ho hb hw
                        go_wp2_with (first
                          | fail)
                        refine ⟨rfl, rfl, ?_⟩
                        rw [hJ.out]
                        exact K
                      rcases i with _ | i
                      · obtain rfl := Option.some.inj ho
                        simp only [List.take_succ_cons, List.take_zero, drFrame, List.setIfInBounds_toArray, List.set_cons_succ, List.set_cons_zero]
                        clear ho hb hw
                        go_wp2_with (first
                          | go_big_skip
                          | ((with_reducible show wpList _ _ _ _ _ _); refine kgElem1 (by rfl) 41 _ (by rfl) _ Tryd.underlying41 rfl K (by rfl) (by repeat (first | exact List.mem_cons_self | refine List.mem_cons_of_mem _ ?_)) HY.out (by decide) (by rfl) ?_))
                        refine ⟨rfl, rfl, ?_⟩
                        rw [hJ.out]
                        exact K
                      rcases i with _ | i
                      · obtain rfl := Option.some.inj ho
                        simp only [List.take_succ_cons, List.take_zero, drFrame, List.setIfInBounds_toArray, List.set_cons_succ, List.set_cons_zero]
                        clear ho hb hw
                        go_wp2_with (first
                          | fail)
                        refine ⟨rfl, rfl, ?_⟩
                        rw [hJ.out]
                        exact K
                      rcases i with _ | i
                      · obtain rfl := Option.some.inj ho
                        simp only [List.take_succ_cons, List.take_zero, drFrame, List.setIfInBounds_toArray, List.set_cons_succ, List.set_cons_zero]
                        clear ho hb hw
                        go_wp2_with (first
                          | fail)
                        refine ⟨rfl, rfl, ?_⟩
                        rw [hJ.out]
                        exact K
                      rcases i with _ | i
                      · obtain rfl := Option.some.inj ho
                        simp only [List.take_succ_cons, List.take_zero, drFrame, List.setIfInBounds_toArray, List.set_cons_succ, List.set_cons_zero]
                        clear ho hb hw
                        go_wp2_with (first
                          | go_big_skip
                          | ((with_reducible show wpList _ _ _ _ _ _); refine kgLoad1 (by rfl) 22 _ (by rfl) _ Tryd.underlying22 rfl K (by rfl) (by repeat (first | exact List.mem_cons_self | refine List.mem_cons_of_mem _ ?_)) (by rfl) ?_))
                        refine ⟨rfl, rfl, ?_⟩
                        rw [hJ.out]
                        exact K
                      rcases i with _ | i
                      · obtain rfl := Option.some.inj ho
                        simp only [List.take_succ_cons, List.take_zero, drFrame, List.setIfInBounds_toArray, List.set_cons_succ, List.set_cons_zero]
                        clear ho hb hw
                        go_wp2_with (first
                          | fail)
                        refine ⟨rfl, rfl, ?_⟩
                        rw [hJ.out]
                        exact K
                      rcases i with _ | i
                      · obtain rfl := Option.some.inj ho
                        simp only [List.take_succ_cons, List.take_zero, drFrame, List.setIfInBounds_toArray, List.set_cons_succ, List.set_cons_zero]
                        clear ho hb hw
                        go_wp2_with (first
                          | fail)
                        refine ⟨rfl, rfl, ?_⟩
                        rw [hJ.out]
                        exact K
                      rcases i with _ | i
                      · obtain rfl := Option.some.inj ho
                        simp only [List.take_succ_cons, List.take_zero, drFrame, List.setIfInBounds_toArray, List.set_cons_succ, List.set_cons_zero]
                        clear ho hb hw
                        go_wp2_with (first
                          | fail)
                        refine ⟨rfl, rfl, ?_⟩
                        rw [hJ.out]
                        exact K
                      rcases i with _ | i
                      · obtain rfl := Option.some.inj ho
                        simp only [List.take_succ_cons, List.take_zero, drFrame, List.setIfInBounds_toArray, List.set_cons_succ, List.set_cons_zero]
                        clear ho hb hw
                        go_wp2_with (first
                          | go_big_skip
                          | ((with_reducible show wpList _ _ _ _ _ _); refine kgElem1 (by rfl) 41 _ (by rfl) _ Tryd.underlying41 rfl K (by rfl) (by repeat (first | exact List.mem_cons_self | refine List.mem_cons_of_mem _ ?_)) HX.out (by decide) (by rfl) ?_))
                        refine ⟨rfl, rfl, ?_⟩
                        rw [hJ.out]
                        exact K
                      rcases i with _ | i
                      · obtain rfl := Option.some.inj ho
                        simp only [List.take_succ_cons, List.take_zero, drFrame, List.setIfInBounds_toArray, List.set_cons_succ, List.set_cons_zero]
                        clear ho hb hw
                        go_wp2_with (first
                          | fail)
                        refine ⟨rfl, rfl, ?_⟩
                        rw [hJ.out]
                        exact K
                      rcases i with _ | i
                      · obtain rfl := Option.some.inj ho
                        simp only [List.take_succ_cons, List.take_zero, drFrame, List.setIfInBounds_toArray, List.set_cons_succ, List.set_cons_zero]
                        clear ho hb hw
                        go_wp2_with (first
                          | fail)
                        refine ⟨rfl, rfl, ?_⟩
                        rw [hJ.out]
                        exact K
                      rcases i with _ | i
                      · obtain rfl := Option.some.inj ho
                        simp only [List.take_succ_cons, List.take_zero, drFrame, List.setIfInBounds_toArray, List.set_cons_succ, List.set_cons_zero]
                        clear ho hb hw
                        go_wp2_with (first
                          | fail)
                        refine ⟨rfl, rfl, ?_⟩
                        rw [hJ.out]
                        exact K
                      · cases ho
                    case fin =>
                      clear K
                      intro b W hb K
                      rw [hJ.out] at K
                      simp only [drFrame, List.setIfInBounds_toArray, List.set_cons_succ, List.set_cons_zero]
                      clear hb hJ
                      go_wp2_with (first
                        | fail)
                      go_roundw
                      case rel => exact ⟨k + 1, by omega, by omega, by go_num, K⟩
                      case measure => simp [intOf]; omega
                  · have hi1 : ¬ (k : Int) ≤ (t : Int) := by omega
                    go_wp2_with (first
                      | go_big_skip
                      | ((with_reducible show wpList _ _ _ _ _ _); refine kgLoad1 (by rfl) 3 _ (by rfl) _ Tryd.underlying3 rfl K (by rfl) (by repeat (first | exact List.mem_cons_self | refine List.mem_cons_of_mem _ ?_)) (by rfl) ?_)
                      | (go_at_call 9; (with_reducible refine (awake25_any _ (Utf8Tabs_below T.out K.out.b)).mono ?_); rintro e W9 ⟨rfl, hb⟩; (have K2 := hid (K.out.later hb)); clear hb K; (have K := K2); clear K2))
                    go_ret
                    exact ⟨rfl, K.out.b⟩
end Go.Proofs.YtblbfoniimnkcaaDoor
