/- The walk of the law BlocksEach: it answers true. (Printed by wip/bldoc.py.) -/
import Derived.Test.YtblbfoniimnkcaaDoorBgPl
import Derived.Test.YtblbfoniimnkcaaDoorBlAwake
import Derived.Test.YtblbfoniimnkcaaDoorBlTurn
import Derived.Test.YtblbfoniimnkcaaDoorDocLong
import Derived.Test.YtblbfoniimnkcaaDoorBgSame
import Derived.Test.YtblbfoniimnkcaaDoorTSelect
import Derived.Test.YtblbfoniimnkcaaDoorTSpan
import Derived.Test.YtblbfoniimnkcaaDoorBgOpen
import Derived.BigQuiet
import Derived.Deep.QuietTactic
namespace Go.Proofs.YtblbfoniimnkcaaDoor
open Go.RowKit Go.Lib

set_option maxRecDepth 100000 in
set_option maxHeartbeats 32000000 in
theorem blocksEach_walk (w : World) {s : Stt} {hs : List Hd} {A : Option Addr} {n c : Nat} (hS : StateIn w s hs A n c) (do_ : Int) (_ : (Lit.int .i64 do_).wf = true) (kind : Int) (_ : (Lit.int .i64 kind).wf = true) (hT : Tb w) :
    Calls Tryd.prog 3 #[stV s A n c, .int .i64 do_, .int .i64 kind] w fun e w' => e = .returned (.bool true) ∧ Below w.heap.size w w' := by
  obtain ⟨d, ⟨al, aa⟩, ⟨fl, fa⟩, on, off⟩ := s
  obtain rfl : d = lnsOf hs := hS.d
  have BG := hid hS.big
  obtain rfl : n = hs.length := hS.doc.len
  have K := hid (KG.start w [⟨hs, A, false⟩] (by simpa using hS.doc.at_))
  have T := hid hT
  clear hT
  unfold stV
  dsimp only
  cases hb : longD (lnsOf hs) with
  | true =>
    have HL := hid hb
    clear hb hS
    go_enter Tryd.func3, Tryd.ntmps3
    go_wp2_with (first
      | go_big_skip
      | ((with_reducible show wpList _ _ _ _ _ _); refine kgBox (by rfl) 26 _ (by rfl) (some 3) (by rfl) (by rfl) [_, _, _, _, _, _, _] (by rfl) K ?_; intro g3 V1 K1; clear K; (have K := K1); clear K1)
      | ((with_reducible show wpList _ _ _ _ _ _); refine kgLoadA (by rfl) 26 _ (by rfl) 7 _ Tryd.underlying26 rfl (by kernel_rfl) K (by rfl) (by repeat (first | exact List.mem_cons_self | refine List.mem_cons_of_mem _ ?_)) (part := [_, _, _, _, _, _, _]) (by rfl) (by rfl) ?_)
      | (go_at_call 6; (with_reducible refine (long25_any hs A _ c _ al aa fl fa on off rfl _ (K.out.at_ (d := ⟨hs, A, false⟩) (by simp)) BG.out.1 BG.out.2).mono ?_); rintro e W1 ⟨rfl, hb⟩; rw [HL.out]; (have K2 := hid (K.out.later hb)); clear hb K; (have K := K2); clear K2)
      | (go_at_call 9; (with_reducible refine (awake25_any _ (Utf8Tabs_below T.out K.out.b)).mono ?_); rintro e W9 ⟨rfl, hb⟩; (have K2 := hid (K.out.later hb)); clear hb K; (have K := K2); clear K2))
    go_ret
    exact ⟨rfl, K.out.b⟩
  | false =>
    have HL := hid hb
    obtain ⟨okd, hz⟩ := hS.ok hb
    obtain ⟨l0, h2, hf⟩ := OkD.hs rfl okd
    have L0 := hid l0
    have H2 := hid h2
    have FI := hid hf
    have OKD := hid okd
    clear hb l0 h2 hf okd hS
    by_cases h5 : (5000 : Int) < ((sizeD (lnsOf hs) : Nat) : Int)
    · go_enter Tryd.func3, Tryd.ntmps3
      go_wp2_with (first
        | go_big_skip
        | ((with_reducible show wpList _ _ _ _ _ _); refine kgBox (by rfl) 26 _ (by rfl) (some 3) (by rfl) (by rfl) [_, _, _, _, _, _, _] (by rfl) K ?_; intro g3 V1 K1; clear K; (have K := K1); clear K1)
        | ((with_reducible show wpList _ _ _ _ _ _); refine kgLoadA (by rfl) 26 _ (by rfl) 7 _ Tryd.underlying26 rfl (by kernel_rfl) K (by rfl) (by repeat (first | exact List.mem_cons_self | refine List.mem_cons_of_mem _ ?_)) (part := [_, _, _, _, _, _, _]) (by rfl) (by rfl) ?_)
        | (go_at_call 6; (with_reducible refine (long25_any hs A _ c _ al aa fl fa on off rfl _ (K.out.at_ (d := ⟨hs, A, false⟩) (by simp)) BG.out.1 BG.out.2).mono ?_); rintro e W1 ⟨rfl, hb⟩; rw [HL.out]; (have K2 := hid (K.out.later hb)); clear hb K; (have K := K2); clear K2)
        | (go_at_call 7; (with_reducible refine (rSize7_any hs A _ c _ rfl _ (K.out.at_ (d := ⟨hs, A, false⟩) (by simp)) L0.out H2.out).mono ?_); rintro e W1 ⟨rfl, hb⟩; (have K2 := hid (K.out.later hb)); clear hb K; (have K := K2); clear K2)
        | ((with_reducible show wpList _ _ _ _ _ _); refine kgLoad1 (by rfl) 22 _ (by rfl) _ Tryd.underlying22 rfl K (by rfl) (by repeat (first | exact List.mem_cons_self | refine List.mem_cons_of_mem _ ?_)) (by rfl) ?_)
        | (go_at_call 8; (with_reducible refine (tMay_any hs A _ c _ rfl _ (K.out.at_ (d := ⟨hs, A, false⟩) (by simp)) L0.out H2.out FI.out (Utf8Tabs_below T.out K.out.b) al aa fl fa on off).mono ?_); rintro e W2 ⟨rfl, hb⟩; rw [MB.out]; (have K2 := hid (K.out.later hb)); clear hb K; (have K := K2); clear K2)
        | (go_at_call 9; (with_reducible refine (awake25_any _ (Utf8Tabs_below T.out K.out.b)).mono ?_); rintro e W9 ⟨rfl, hb⟩; (have K2 := hid (K.out.later hb)); clear hb K; (have K := K2); clear K2))
      go_ret
      exact ⟨rfl, K.out.b⟩
    have d5 : decide ((5000 : Int) < ((sizeD (lnsOf hs) : Nat) : Int)) = false := decide_eq_false h5
    cases hb : mayS ⟨lnsOf hs, ⟨al, aa⟩, ⟨fl, fa⟩, on, off⟩ with
    | false =>
      have MB := hid hb
      clear hb
      go_enter Tryd.func3, Tryd.ntmps3
      go_wp2_with (first
        | go_big_skip
        | ((with_reducible show wpList _ _ _ _ _ _); refine kgBox (by rfl) 26 _ (by rfl) (some 3) (by rfl) (by rfl) [_, _, _, _, _, _, _] (by rfl) K ?_; intro g3 V1 K1; clear K; (have K := K1); clear K1)
        | ((with_reducible show wpList _ _ _ _ _ _); refine kgLoadA (by rfl) 26 _ (by rfl) 7 _ Tryd.underlying26 rfl (by kernel_rfl) K (by rfl) (by repeat (first | exact List.mem_cons_self | refine List.mem_cons_of_mem _ ?_)) (part := [_, _, _, _, _, _, _]) (by rfl) (by rfl) ?_)
        | (go_at_call 6; (with_reducible refine (long25_any hs A _ c _ al aa fl fa on off rfl _ (K.out.at_ (d := ⟨hs, A, false⟩) (by simp)) BG.out.1 BG.out.2).mono ?_); rintro e W1 ⟨rfl, hb⟩; rw [HL.out]; (have K2 := hid (K.out.later hb)); clear hb K; (have K := K2); clear K2)
        | (go_at_call 7; (with_reducible refine (rSize7_any hs A _ c _ rfl _ (K.out.at_ (d := ⟨hs, A, false⟩) (by simp)) L0.out H2.out).mono ?_); rintro e W1 ⟨rfl, hb⟩; (have K2 := hid (K.out.later hb)); clear hb K; (have K := K2); clear K2)
        | ((with_reducible show wpList _ _ _ _ _ _); refine kgLoad1 (by rfl) 22 _ (by rfl) _ Tryd.underlying22 rfl K (by rfl) (by repeat (first | exact List.mem_cons_self | refine List.mem_cons_of_mem _ ?_)) (by rfl) ?_)
        | (go_at_call 8; (with_reducible refine (tMay_any hs A _ c _ rfl _ (K.out.at_ (d := ⟨hs, A, false⟩) (by simp)) L0.out H2.out FI.out (Utf8Tabs_below T.out K.out.b) al aa fl fa on off).mono ?_); rintro e W2 ⟨rfl, hb⟩; rw [MB.out]; (have K2 := hid (K.out.later hb)); clear hb K; (have K := K2); clear K2)
        | (go_at_call 9; (with_reducible refine (awake25_any _ (Utf8Tabs_below T.out K.out.b)).mono ?_); rintro e W9 ⟨rfl, hb⟩; (have K2 := hid (K.out.later hb)); clear hb K; (have K := K2); clear K2))
      go_ret
      exact ⟨rfl, K.out.b⟩
    | true =>
      have MB := hid hb
      by_cases h3 : bits .and .i64 do_ 3 = 3
      · have e3 : (bits .and .i64 do_ 3 == 3) = true := beq_iff_eq.2 h3
        clear h3 hb
        go_enter Tryd.func3, Tryd.ntmps3
        go_wp2_with (first
          | go_big_skip
          | ((with_reducible show wpList _ _ _ _ _ _); refine kgBox (by rfl) 26 _ (by rfl) (some 3) (by rfl) (by rfl) [_, _, _, _, _, _, _] (by rfl) K ?_; intro g3 V1 K1; clear K; (have K := K1); clear K1)
          | ((with_reducible show wpList _ _ _ _ _ _); refine kgLoadA (by rfl) 26 _ (by rfl) 7 _ Tryd.underlying26 rfl (by kernel_rfl) K (by rfl) (by repeat (first | exact List.mem_cons_self | refine List.mem_cons_of_mem _ ?_)) (part := [_, _, _, _, _, _, _]) (by rfl) (by rfl) ?_)
          | (go_at_call 6; (with_reducible refine (long25_any hs A _ c _ al aa fl fa on off rfl _ (K.out.at_ (d := ⟨hs, A, false⟩) (by simp)) BG.out.1 BG.out.2).mono ?_); rintro e W1 ⟨rfl, hb⟩; rw [HL.out]; (have K2 := hid (K.out.later hb)); clear hb K; (have K := K2); clear K2)
          | (go_at_call 7; (with_reducible refine (rSize7_any hs A _ c _ rfl _ (K.out.at_ (d := ⟨hs, A, false⟩) (by simp)) L0.out H2.out).mono ?_); rintro e W1 ⟨rfl, hb⟩; (have K2 := hid (K.out.later hb)); clear hb K; (have K := K2); clear K2)
          | ((with_reducible show wpList _ _ _ _ _ _); refine kgLoad1 (by rfl) 22 _ (by rfl) _ Tryd.underlying22 rfl K (by rfl) (by repeat (first | exact List.mem_cons_self | refine List.mem_cons_of_mem _ ?_)) (by rfl) ?_)
          | (go_at_call 8; (with_reducible refine (tMay_any hs A _ c _ rfl _ (K.out.at_ (d := ⟨hs, A, false⟩) (by simp)) L0.out H2.out FI.out (Utf8Tabs_below T.out K.out.b) al aa fl fa on off).mono ?_); rintro e W2 ⟨rfl, hb⟩; rw [MB.out]; (have K2 := hid (K.out.later hb)); clear hb K; (have K := K2); clear K2)
          | (go_at_call 9; (with_reducible refine (awake25_any _ (Utf8Tabs_below T.out K.out.b)).mono ?_); rintro e W9 ⟨rfl, hb⟩; (have K2 := hid (K.out.later hb)); clear hb K; (have K := K2); clear K2))
        go_ret
        exact ⟨rfl, K.out.b⟩
      have e3 : (bits .and .i64 do_ 3 == 3) = false := beq_eq_false_iff_ne.2 h3
      obtain ⟨f, t, pa, qa, hp, hq, hft, htl, hln, hfn, hsn⟩ := span_nat hb
      have HP := hid hp
      have HQ := hid hq
      have hB := hid hb
      have FN := hid hfn
      have SN := hid hsn
      dsimp only at htl hln
      rw [lnsOf_len] at htl hln
      have hf0 : (0 : Int) ≤ (f : Int) := by omega
      have ht3 : (t : Int) ≤ 300 := by omega
      clear hp hq hfn hsn
      have h012 : bits .and .i64 do_ 3 = 0 ∨ bits .and .i64 do_ 3 = 1 ∨ bits .and .i64 do_ 3 = 2 := by
        rcases and3 do_ with h | h | h | h
        · exact .inl h
        · exact .inr (.inl h)
        · exact .inr (.inr h)
        · exact absurd h h3
      obtain ⟨fL, hfL, step, fin1, fin2⟩ := each_plain hb (bits .and .i64 do_ 3) kind h012 f FN.out
      rw [SN.out] at fin1 fin2
      have SEL := hid (fun (j k : Nat) (hk : k < (lnsOf hs).length) => one_sel hfL hb f j k hk)
      have OKT := hid (fun (i j : Nat) => okD_turns hfL OKD.out (mayD_of hb) i j)
      have STEP := hid step
      have FIN1 := hid fin1
      have FIN2 := hid fin2
      clear hb h3 h012 step fin1 fin2 hfL
      by_cases h20 : (20 : Int) < (t : Int) - (f : Int)
      · go_enter Tryd.func3, Tryd.ntmps3
        go_wp2_with (first
          | go_big_skip
          | ((with_reducible show wpList _ _ _ _ _ _); refine kgBox (by rfl) 26 _ (by rfl) (some 3) (by rfl) (by rfl) [_, _, _, _, _, _, _] (by rfl) K ?_; intro g3 V1 K1; clear K; (have K := K1); clear K1)
          | ((with_reducible show wpList _ _ _ _ _ _); refine kgLoadA (by rfl) 26 _ (by rfl) 7 _ Tryd.underlying26 rfl (by kernel_rfl) K (by rfl) (by repeat (first | exact List.mem_cons_self | refine List.mem_cons_of_mem _ ?_)) (part := [_, _, _, _, _, _, _]) (by rfl) (by rfl) ?_)
          | (go_at_call 6; (with_reducible refine (long25_any hs A _ c _ al aa fl fa on off rfl _ (K.out.at_ (d := ⟨hs, A, false⟩) (by simp)) BG.out.1 BG.out.2).mono ?_); rintro e W1 ⟨rfl, hb⟩; rw [HL.out]; (have K2 := hid (K.out.later hb)); clear hb K; (have K := K2); clear K2)
          | (go_at_call 7; (with_reducible refine (rSize7_any hs A _ c _ rfl _ (K.out.at_ (d := ⟨hs, A, false⟩) (by simp)) L0.out H2.out).mono ?_); rintro e W1 ⟨rfl, hb⟩; (have K2 := hid (K.out.later hb)); clear hb K; (have K := K2); clear K2)
          | ((with_reducible show wpList _ _ _ _ _ _); refine kgLoad1 (by rfl) 22 _ (by rfl) _ Tryd.underlying22 rfl K (by rfl) (by repeat (first | exact List.mem_cons_self | refine List.mem_cons_of_mem _ ?_)) (by rfl) ?_)
          | (go_at_call 8; (with_reducible refine (tMay_any hs A _ c _ rfl _ (K.out.at_ (d := ⟨hs, A, false⟩) (by simp)) L0.out H2.out FI.out (Utf8Tabs_below T.out K.out.b) al aa fl fa on off).mono ?_); rintro e W2 ⟨rfl, hb⟩; rw [MB.out]; (have K2 := hid (K.out.later hb)); clear hb K; (have K := K2); clear K2)
          | (go_at_call 9; (with_reducible refine (awake25_any _ (Utf8Tabs_below T.out K.out.b)).mono ?_); rintro e W9 ⟨rfl, hb⟩; (have K2 := hid (K.out.later hb)); clear hb K; (have K := K2); clear K2)
          | (go_at_call 10; (with_reducible refine (tSpan_any (lnsOf hs) A _ c al aa fl fa on off _).mono ?_); rintro e W3 ⟨rfl, hb⟩; rw [HP.out, HQ.out]; unfold psV; dsimp only; (have K2 := hid (K.out.later hb)); clear hb K; (have K := K2); clear K2)
          | ((with_reducible show wpList _ _ _ _ _ _); refine kgAlloc (by rfl) 24 (by rfl) (some 7) (by rfl) [.int .i64 0, .int .i64 0] (fun _ => by kernel_rfl) K ?_; intro g7 V1 K1; clear K; (have K := K1); clear K1)
          | ((with_reducible show wpList _ _ _ _ _ _); refine kgAlloc (by rfl) 24 (by rfl) (some 8) (by rfl) [.int .i64 0, .int .i64 0] (fun _ => by kernel_rfl) K ?_; intro g8 V1 K1; clear K; (have K := K1); clear K1)
          | ((with_reducible show wpList _ _ _ _ _ _); refine kgStore (by rfl) 24 (.tmp 7) _ (by rfl) 2 (by kernel_rfl) [_] (by exact K) (by rfl) (by rfl) [_, _] (by rfl) (by rfl) (by simp) (by simp [Value.oneCell']) (cs := [_, _]) (by rfl) ?_; intro V2 K1; (dsimp only [List.cons_append, List.nil_append] at K1); clear K; (have K := K1); clear K1)
          | ((with_reducible show wpList _ _ _ _ _ _); refine kgStore (by rfl) 24 (.tmp 8) _ (by rfl) 2 (by kernel_rfl) [] (by exact K) (by rfl) (by rfl) [_, _] (by rfl) (by rfl) (by simp) (by simp [Value.oneCell']) (cs := [_, _]) (by rfl) ?_; intro V2 K1; (dsimp only [List.cons_append, List.nil_append] at K1); clear K; (have K := K1); clear K1)
          | ((with_reducible show wpList _ _ _ _ _ _); refine kgLoad1 (by rfl) 3 _ (by rfl) _ Tryd.underlying3 rfl K (by rfl) (by repeat (first | exact List.mem_cons_self | refine List.mem_cons_of_mem _ ?_)) (by rfl) ?_))
        go_ret
        exact ⟨rfl, K.out.b⟩
      have d20 : decide ((20 : Int) < (t : Int) - (f : Int)) = false := decide_eq_false h20
      go_enter Tryd.func3, Tryd.ntmps3
      go_wp2_with (first
        | go_big_skip
        | ((with_reducible show wpList _ _ _ _ _ _); refine kgBox (by rfl) 26 _ (by rfl) (some 3) (by rfl) (by rfl) [_, _, _, _, _, _, _] (by rfl) K ?_; intro g3 V1 K1; clear K; (have K := K1); clear K1)
        | ((with_reducible show wpList _ _ _ _ _ _); refine kgLoadA (by rfl) 26 _ (by rfl) 7 _ Tryd.underlying26 rfl (by kernel_rfl) K (by rfl) (by repeat (first | exact List.mem_cons_self | refine List.mem_cons_of_mem _ ?_)) (part := [_, _, _, _, _, _, _]) (by rfl) (by rfl) ?_)
        | (go_at_call 6; (with_reducible refine (long25_any hs A _ c _ al aa fl fa on off rfl _ (K.out.at_ (d := ⟨hs, A, false⟩) (by simp)) BG.out.1 BG.out.2).mono ?_); rintro e W1 ⟨rfl, hb⟩; rw [HL.out]; (have K2 := hid (K.out.later hb)); clear hb K; (have K := K2); clear K2)
        | (go_at_call 7; (with_reducible refine (rSize7_any hs A _ c _ rfl _ (K.out.at_ (d := ⟨hs, A, false⟩) (by simp)) L0.out H2.out).mono ?_); rintro e W1 ⟨rfl, hb⟩; (have K2 := hid (K.out.later hb)); clear hb K; (have K := K2); clear K2)
        | ((with_reducible show wpList _ _ _ _ _ _); refine kgLoad1 (by rfl) 22 _ (by rfl) _ Tryd.underlying22 rfl K (by rfl) (by repeat (first | exact List.mem_cons_self | refine List.mem_cons_of_mem _ ?_)) (by rfl) ?_)
        | (go_at_call 8; (with_reducible refine (tMay_any hs A _ c _ rfl _ (K.out.at_ (d := ⟨hs, A, false⟩) (by simp)) L0.out H2.out FI.out (Utf8Tabs_below T.out K.out.b) al aa fl fa on off).mono ?_); rintro e W2 ⟨rfl, hb⟩; rw [MB.out]; (have K2 := hid (K.out.later hb)); clear hb K; (have K := K2); clear K2)
        | (go_at_call 10; (with_reducible refine (tSpan_any (lnsOf hs) A _ c al aa fl fa on off _).mono ?_); rintro e W3 ⟨rfl, hb⟩; rw [HP.out, HQ.out]; unfold psV; dsimp only; (have K2 := hid (K.out.later hb)); clear hb K; (have K := K2); clear K2)
        | ((with_reducible show wpList _ _ _ _ _ _); refine kgAlloc (by rfl) 24 (by rfl) (some 7) (by rfl) [.int .i64 0, .int .i64 0] (fun _ => by kernel_rfl) K ?_; intro g7 V1 K1; clear K; (have K := K1); clear K1)
        | ((with_reducible show wpList _ _ _ _ _ _); refine kgAlloc (by rfl) 24 (by rfl) (some 8) (by rfl) [.int .i64 0, .int .i64 0] (fun _ => by kernel_rfl) K ?_; intro g8 V1 K1; clear K; (have K := K1); clear K1)
        | ((with_reducible show wpList _ _ _ _ _ _); refine kgStore (by rfl) 24 (.tmp 7) _ (by rfl) 2 (by kernel_rfl) [_] (by exact K) (by rfl) (by rfl) [_, _] (by rfl) (by rfl) (by simp) (by simp [Value.oneCell']) (cs := [_, _]) (by rfl) ?_; intro V2 K1; (dsimp only [List.cons_append, List.nil_append] at K1); clear K; (have K := K1); clear K1)
        | ((with_reducible show wpList _ _ _ _ _ _); refine kgStore (by rfl) 24 (.tmp 8) _ (by rfl) 2 (by kernel_rfl) [] (by exact K) (by rfl) (by rfl) [_, _] (by rfl) (by rfl) (by simp) (by simp [Value.oneCell']) (cs := [_, _]) (by rfl) ?_; intro V2 K1; (dsimp only [List.cons_append, List.nil_append] at K1); clear K; (have K := K1); clear K1)
        | ((with_reducible show wpList _ _ _ _ _ _); refine kgLoad1 (by rfl) 3 _ (by rfl) _ Tryd.underlying3 rfl K (by rfl) (by repeat (first | exact List.mem_cons_self | refine List.mem_cons_of_mem _ ?_)) (by rfl) ?_)
        | (go_at_call 11; (with_reducible refine (tOwn_any hs A _ c _ rfl _ (K.out.at_ (d := ⟨hs, A, false⟩) (by simp)) L0.out H2.out al aa fl fa on off).mono ?_); rintro e W4 ⟨A3, n3, c3, hs3, rfl, q1, q2, q3, ho, hb3⟩; dsimp only at q3; unfold stV; dsimp only; (obtain rfl : n3 = hs3.length := q1); (have Q3 := hid q3); (have K2 := hid (K.out.addW hb3 ho)); clear q2 q3 ho hb3 K; (have K := K2); clear K2)
        | ((with_reducible show wpList _ _ _ _ _ _); refine kgAlloc (by rfl) 26 (by rfl) (some 9) (by rfl) [.slice none 0 0, .int .i64 0, .int .i64 0, .int .i64 0, .int .i64 0, .int .i64 0, .int .i64 0] (fun _ => by kernel_rfl) K ?_; intro g9 V1 K1; clear K; (have K := K1); clear K1)
        | ((with_reducible show wpList _ _ _ _ _ _); refine kgStore (by rfl) 26 (.tmp 9) _ (by rfl) 7 (by kernel_rfl) [] (by exact K) (by rfl) (by rfl) [_, _, _, _, _, _, _] (by rfl) (by rfl) (by simp) (by simp [Value.oneCell']) (cs := [_, _, _, _, _, _, _]) (by rfl) ?_; intro V2 K1; (dsimp only [List.cons_append, List.nil_append] at K1); clear K; (have K := K1); clear K1))
      go_loopw [10, 11] (fun v i wr => ∃ (k m : Nat) (hs' : List Hd) (A' : Option Addr) (c' : Nat), f ≤ k ∧ k ≤ t + 1 ∧ v = .int .i64 (m : Int) ∧ i = .int .i64 (k : Int) ∧ m ≤ k ∧ Hid (m = 0 ↔ someN fL (lnsOf hs) f (k - f) = false) ∧ Hid (lnsOf hs' = turnsN fL (lnsOf hs) f (k - f)) ∧ Hid (KG w wr [⟨g9, 26, [.slice A' hs'.length c', .int .i64 al, .int .i64 aa, .int .i64 fl, .int .i64 fa, .int .i64 on, .int .i64 off]⟩, ⟨g8, 24, [.int .i64 (t : Int), .int .i64 qa]⟩, ⟨g7, 24, [.int .i64 (f : Int), .int .i64 pa]⟩, ⟨g3, 26, [.slice A hs.length c, .int .i64 al, .int .i64 aa, .int .i64 fl, .int .i64 fa, .int .i64 on, .int .i64 off]⟩] [⟨hs', A', true⟩, ⟨hs, A, false⟩])) (fun _ i _ => t + 1 - (intOf i).toNat)
      case atStart => exact ⟨f, 0, hs3, A3, c3, Nat.le_refl _, by omega, rfl, rfl, Nat.zero_le _, hid (by rw [Nat.sub_self]; exact ⟨fun _ => rfl, fun _ => rfl⟩), hid (by rw [Nat.sub_self]; exact Q3.out), hid (K.out.less (by repeat (first | exact List.Sublist.slnil | refine List.Sublist.cons_cons _ ?_ | refine List.Sublist.cons _ ?_)) (by simp))⟩
      case round =>
        clear K
        obtain ⟨k, m, hs', A', c', hfk, hkt, rfl, rfl, hmk, HM, HT', K⟩ := hrel
        have hk3 : (k : Int) ≤ 301 := by omega
        have hm3 : (m : Int) ≤ 301 := by omega
        by_cases hlt : k ≤ t
        · have hi1 : (k : Int) ≤ (t : Int) := by omega
          have S1 := hid (SEL.out (k - f) k (by rw [lnsOf_len]; omega))
          have O1 := hid (OKT.out f (k - f))
          have LK : Hid (∃ l, (lnsOf hs)[k]? = some l) := hid ⟨_, List.getElem?_eq_getElem (by rw [lnsOf_len]; omega)⟩
          have HLT := hid hlt
          obtain ⟨l, hl⟩ := LK.out
          have ST := hid (STEP.out k l hfk hl)
          clear hl LK hlt
          rcases ST.out with ⟨hT1, hT2⟩ | ⟨hT1, hT2, hT3⟩
          · have TS := hid hT1
            have TM := hid hT2
            clear hT1 hT2 ST
            go_wp2_with (first
              | go_big_skip
              | ((with_reducible show wpList _ _ _ _ _ _); refine kgLoadA (by rfl) 26 _ (by rfl) 7 _ Tryd.underlying26 rfl (by kernel_rfl) K (by rfl) (by repeat (first | exact List.mem_cons_self | refine List.mem_cons_of_mem _ ?_)) (part := [_, _, _, _, _, _, _]) (by rfl) (by rfl) ?_)
              | ((with_reducible show wpList _ _ _ _ _ _); refine kgLoad1 (by rfl) 22 _ (by rfl) _ Tryd.underlying22 rfl K (by rfl) (by repeat (first | exact List.mem_cons_self | refine List.mem_cons_of_mem _ ?_)) (by rfl) ?_)
              | ((with_reducible show wpList _ _ _ _ _ _); refine kgLoad1 (by rfl) 3 _ (by rfl) _ Tryd.underlying3 rfl K (by rfl) (by repeat (first | exact List.mem_cons_self | refine List.mem_cons_of_mem _ ?_)) (by rfl) ?_)
              | (go_at_call 12; (with_reducible refine (tSel_any hs' A' _ c' _ rfl _ (K.out.at_ (d := ⟨hs', A', true⟩) (by simp)) (OkD.hs HT'.out O1.out).1 (OkD.hs HT'.out O1.out).2.1 (OkD.hs HT'.out O1.out).2.2 (Utf8Tabs_below T.out K.out.b) al aa fl fa on off _ _ _ _).mono ?_); rintro e W5 hc; unfold RetStE at hc; rw [HT'.out, S1.out] at hc; obtain ⟨A4, n4, c4, hs4, rfl, q1, q2, q3, ho, hb3⟩ := hc; dsimp only at q3; unfold stV; dsimp only; (obtain rfl : n4 = hs4.length := q1); (have Q4 := hid q3); (have K2 := hid (K.out.addW hb3 ho)); clear q2 q3 ho hb3 K; (have K := K2); clear K2)
              | ((with_reducible show wpList _ _ _ _ _ _); refine kgAlloc (by rfl) 26 (by rfl) (some 12) (by rfl) [.slice none 0 0, .int .i64 0, .int .i64 0, .int .i64 0, .int .i64 0, .int .i64 0, .int .i64 0] (fun _ => by kernel_rfl) K ?_; intro g12 V1 K1; clear K; (have K := K1); clear K1)
              | ((with_reducible show wpList _ _ _ _ _ _); refine kgStore (by rfl) 26 (.tmp 12) _ (by rfl) 7 (by kernel_rfl) [] (by exact K) (by rfl) (by rfl) [_, _, _, _, _, _, _] (by rfl) (by rfl) (by simp) (by simp [Value.oneCell']) (cs := [_, _, _, _, _, _, _]) (by rfl) ?_; intro V2 K1; (dsimp only [List.cons_append, List.nil_append] at K1); clear K; (have K := K1); clear K1)
              | ((with_reducible show wpList _ _ _ _ _ _); refine kgAlloc (by rfl) 26 (by rfl) (some 14) (by rfl) [.slice none 0 0, .int .i64 0, .int .i64 0, .int .i64 0, .int .i64 0, .int .i64 0, .int .i64 0] (fun _ => by kernel_rfl) K ?_; intro g14 V1 K1; clear K; (have K := K1); clear K1)
              | ((with_reducible show wpList _ _ _ _ _ _); refine kgStore (by rfl) 26 (.tmp 14) _ (by rfl) 7 (by kernel_rfl) [] (by exact K) (by rfl) (by rfl) [_, _, _, _, _, _, _] (by rfl) (by rfl) (by simp) (by simp [Value.oneCell']) (cs := [_, _, _, _, _, _, _]) (by rfl) ?_; intro V2 K1; (dsimp only [List.cons_append, List.nil_append] at K1); clear K; (have K := K1); clear K1)
              | (go_at_call 13; (with_reducible refine (turn25_any hs4 A4 _ c4 _ rfl _ (K.out.at_ (d := ⟨hs4, A4, true⟩) (by simp)) (OkD.hs Q4.out O1.out).1 (OkD.hs Q4.out O1.out).2.1 (OkD.hs Q4.out O1.out).2.2 (Utf8Tabs_below T.out K.out.b) _ _ _ _ _ _ do_ kind).mono ?_); rintro e W5 hc; unfold RetStE at hc; rw [Q4.out, TS.out] at hc; obtain ⟨A5, n5, c5, hs5, rfl, q1, q2, q3, ho, hb3⟩ := hc; dsimp only at q3; unfold stV; dsimp only; (obtain rfl : n5 = hs5.length := q1); (have Q5 := hid q3); (have K2 := hid (K.out.addW hb3 ho)); clear q2 q3 ho hb3 K; (have K := K2); clear K2)
              | ((with_reducible show wpList _ _ _ _ _ _); refine kgStore (by rfl) 22 (.tmp 83) _ (by rfl) 1 (by kernel_rfl) [_, _] (by exact K) (by rfl) (v := .slice A5 hs5.length c5) (by rfl) [.slice A5 hs5.length c5] (by rfl) (by rfl) (by simp) (by simp [Value.oneCell']) (cs := [_, _, _, _, _, _, _]) (by rfl) ?_; intro V2 K1; (dsimp only [List.cons_append, List.nil_append] at K1); clear K; (have K := K1); clear K1))
            go_roundw
            case rel => exact ⟨k + 1, m + 1, hs5, A5, c5, by omega, by have := HLT.out; omega, by go_num, by go_num, by omega, hid ⟨fun h => (by omega), fun h => (by rw [TM.out] at h; cases h)⟩, Q5, hid (K.out.less (by repeat (first | exact List.Sublist.slnil | refine List.Sublist.cons_cons _ ?_ | refine List.Sublist.cons _ ?_)) (by simp))⟩
            case measure => simp [intOf]; have := HLT.out; omega
          · have TU := hid hT2
            have TM := hid hT3
            clear hT2 hT3 ST
            rcases hT1 with hT1 | hT1
            · have TS := hid hT1
              clear hT1
              go_wp2_with (first
                | go_big_skip
                | ((with_reducible show wpList _ _ _ _ _ _); refine kgLoadA (by rfl) 26 _ (by rfl) 7 _ Tryd.underlying26 rfl (by kernel_rfl) K (by rfl) (by repeat (first | exact List.mem_cons_self | refine List.mem_cons_of_mem _ ?_)) (part := [_, _, _, _, _, _, _]) (by rfl) (by rfl) ?_)
                | ((with_reducible show wpList _ _ _ _ _ _); refine kgLoad1 (by rfl) 22 _ (by rfl) _ Tryd.underlying22 rfl K (by rfl) (by repeat (first | exact List.mem_cons_self | refine List.mem_cons_of_mem _ ?_)) (by rfl) ?_)
                | ((with_reducible show wpList _ _ _ _ _ _); refine kgLoad1 (by rfl) 3 _ (by rfl) _ Tryd.underlying3 rfl K (by rfl) (by repeat (first | exact List.mem_cons_self | refine List.mem_cons_of_mem _ ?_)) (by rfl) ?_)
                | (go_at_call 12; (with_reducible refine (tSel_any hs' A' _ c' _ rfl _ (K.out.at_ (d := ⟨hs', A', true⟩) (by simp)) (OkD.hs HT'.out O1.out).1 (OkD.hs HT'.out O1.out).2.1 (OkD.hs HT'.out O1.out).2.2 (Utf8Tabs_below T.out K.out.b) al aa fl fa on off _ _ _ _).mono ?_); rintro e W5 hc; unfold RetStE at hc; rw [HT'.out, S1.out] at hc; obtain ⟨A4, n4, c4, hs4, rfl, q1, q2, q3, ho, hb3⟩ := hc; dsimp only at q3; unfold stV; dsimp only; (obtain rfl : n4 = hs4.length := q1); (have Q4 := hid q3); (have K2 := hid (K.out.addW hb3 ho)); clear q2 q3 ho hb3 K; (have K := K2); clear K2)
                | ((with_reducible show wpList _ _ _ _ _ _); refine kgAlloc (by rfl) 26 (by rfl) (some 12) (by rfl) [.slice none 0 0, .int .i64 0, .int .i64 0, .int .i64 0, .int .i64 0, .int .i64 0, .int .i64 0] (fun _ => by kernel_rfl) K ?_; intro g12 V1 K1; clear K; (have K := K1); clear K1)
                | ((with_reducible show wpList _ _ _ _ _ _); refine kgStore (by rfl) 26 (.tmp 12) _ (by rfl) 7 (by kernel_rfl) [] (by exact K) (by rfl) (by rfl) [_, _, _, _, _, _, _] (by rfl) (by rfl) (by simp) (by simp [Value.oneCell']) (cs := [_, _, _, _, _, _, _]) (by rfl) ?_; intro V2 K1; (dsimp only [List.cons_append, List.nil_append] at K1); clear K; (have K := K1); clear K1)
                | ((with_reducible show wpList _ _ _ _ _ _); refine kgAlloc (by rfl) 26 (by rfl) (some 14) (by rfl) [.slice none 0 0, .int .i64 0, .int .i64 0, .int .i64 0, .int .i64 0, .int .i64 0, .int .i64 0] (fun _ => by kernel_rfl) K ?_; intro g14 V1 K1; clear K; (have K := K1); clear K1)
                | ((with_reducible show wpList _ _ _ _ _ _); refine kgStore (by rfl) 26 (.tmp 14) _ (by rfl) 7 (by kernel_rfl) [] (by exact K) (by rfl) (by rfl) [_, _, _, _, _, _, _] (by rfl) (by rfl) (by simp) (by simp [Value.oneCell']) (cs := [_, _, _, _, _, _, _]) (by rfl) ?_; intro V2 K1; (dsimp only [List.cons_append, List.nil_append] at K1); clear K; (have K := K1); clear K1)
                | (go_at_call 13; (with_reducible refine (turn25_any hs4 A4 _ c4 _ rfl _ (K.out.at_ (d := ⟨hs4, A4, true⟩) (by simp)) (OkD.hs Q4.out O1.out).1 (OkD.hs Q4.out O1.out).2.1 (OkD.hs Q4.out O1.out).2.2 (Utf8Tabs_below T.out K.out.b) _ _ _ _ _ _ do_ kind).mono ?_); rintro e W5 hc; unfold RetStE at hc; rw [Q4.out, TS.out] at hc; obtain ⟨A5, n5, c5, hs5, rfl, q1, q2, q3, ho, hb3⟩ := hc; dsimp only at q3; unfold stV; dsimp only; (obtain rfl : n5 = hs5.length := q1); (have Q5 := hid q3); (have K2 := hid (K.out.addW hb3 ho)); clear q2 q3 ho hb3 K; (have K := K2); clear K2))
              go_roundw
              case rel => exact ⟨k + 1, m, hs', A', c', by omega, by have := HLT.out; omega, rfl, by go_num, by omega, hid (by rw [TM.out]; exact HM.out), hid (by rw [TU.out]; exact HT'.out), hid (K.out.less (by repeat (first | exact List.Sublist.slnil | refine List.Sublist.cons_cons _ ?_ | refine List.Sublist.cons _ ?_)) (by simp))⟩
              case measure => simp [intOf]; have := HLT.out; omega
            · have TS := hid hT1
              clear hT1
              go_wp2_with (first
                | go_big_skip
                | ((with_reducible show wpList _ _ _ _ _ _); refine kgLoadA (by rfl) 26 _ (by rfl) 7 _ Tryd.underlying26 rfl (by kernel_rfl) K (by rfl) (by repeat (first | exact List.mem_cons_self | refine List.mem_cons_of_mem _ ?_)) (part := [_, _, _, _, _, _, _]) (by rfl) (by rfl) ?_)
                | ((with_reducible show wpList _ _ _ _ _ _); refine kgLoad1 (by rfl) 22 _ (by rfl) _ Tryd.underlying22 rfl K (by rfl) (by repeat (first | exact List.mem_cons_self | refine List.mem_cons_of_mem _ ?_)) (by rfl) ?_)
                | ((with_reducible show wpList _ _ _ _ _ _); refine kgLoad1 (by rfl) 3 _ (by rfl) _ Tryd.underlying3 rfl K (by rfl) (by repeat (first | exact List.mem_cons_self | refine List.mem_cons_of_mem _ ?_)) (by rfl) ?_)
                | (go_at_call 12; (with_reducible refine (tSel_any hs' A' _ c' _ rfl _ (K.out.at_ (d := ⟨hs', A', true⟩) (by simp)) (OkD.hs HT'.out O1.out).1 (OkD.hs HT'.out O1.out).2.1 (OkD.hs HT'.out O1.out).2.2 (Utf8Tabs_below T.out K.out.b) al aa fl fa on off _ _ _ _).mono ?_); rintro e W5 hc; unfold RetStE at hc; rw [HT'.out, S1.out] at hc; obtain ⟨A4, n4, c4, hs4, rfl, q1, q2, q3, ho, hb3⟩ := hc; dsimp only at q3; unfold stV; dsimp only; (obtain rfl : n4 = hs4.length := q1); (have Q4 := hid q3); (have K2 := hid (K.out.addW hb3 ho)); clear q2 q3 ho hb3 K; (have K := K2); clear K2)
                | ((with_reducible show wpList _ _ _ _ _ _); refine kgAlloc (by rfl) 26 (by rfl) (some 12) (by rfl) [.slice none 0 0, .int .i64 0, .int .i64 0, .int .i64 0, .int .i64 0, .int .i64 0, .int .i64 0] (fun _ => by kernel_rfl) K ?_; intro g12 V1 K1; clear K; (have K := K1); clear K1)
                | ((with_reducible show wpList _ _ _ _ _ _); refine kgStore (by rfl) 26 (.tmp 12) _ (by rfl) 7 (by kernel_rfl) [] (by exact K) (by rfl) (by rfl) [_, _, _, _, _, _, _] (by rfl) (by rfl) (by simp) (by simp [Value.oneCell']) (cs := [_, _, _, _, _, _, _]) (by rfl) ?_; intro V2 K1; (dsimp only [List.cons_append, List.nil_append] at K1); clear K; (have K := K1); clear K1)
                | ((with_reducible show wpList _ _ _ _ _ _); refine kgAlloc (by rfl) 26 (by rfl) (some 14) (by rfl) [.slice none 0 0, .int .i64 0, .int .i64 0, .int .i64 0, .int .i64 0, .int .i64 0, .int .i64 0] (fun _ => by kernel_rfl) K ?_; intro g14 V1 K1; clear K; (have K := K1); clear K1)
                | ((with_reducible show wpList _ _ _ _ _ _); refine kgStore (by rfl) 26 (.tmp 14) _ (by rfl) 7 (by kernel_rfl) [] (by exact K) (by rfl) (by rfl) [_, _, _, _, _, _, _] (by rfl) (by rfl) (by simp) (by simp [Value.oneCell']) (cs := [_, _, _, _, _, _, _]) (by rfl) ?_; intro V2 K1; (dsimp only [List.cons_append, List.nil_append] at K1); clear K; (have K := K1); clear K1)
                | (go_at_call 13; (with_reducible refine (turn25_any hs4 A4 _ c4 _ rfl _ (K.out.at_ (d := ⟨hs4, A4, true⟩) (by simp)) (OkD.hs Q4.out O1.out).1 (OkD.hs Q4.out O1.out).2.1 (OkD.hs Q4.out O1.out).2.2 (Utf8Tabs_below T.out K.out.b) _ _ _ _ _ _ do_ kind).mono ?_); rintro e W5 hc; unfold RetStE at hc; rw [Q4.out, TS.out] at hc; obtain ⟨A5, n5, c5, hs5, rfl, q1, q2, q3, ho, hb3⟩ := hc; dsimp only at q3; unfold stV; dsimp only; (obtain rfl : n5 = hs5.length := q1); (have Q5 := hid q3); (have K2 := hid (K.out.addW hb3 ho)); clear q2 q3 ho hb3 K; (have K := K2); clear K2))
              go_roundw
              case rel => exact ⟨k + 1, m, hs', A', c', by omega, by have := HLT.out; omega, rfl, by go_num, by omega, hid (by rw [TM.out]; exact HM.out), hid (by rw [TU.out]; exact HT'.out), hid (K.out.less (by repeat (first | exact List.Sublist.slnil | refine List.Sublist.cons_cons _ ?_ | refine List.Sublist.cons _ ?_)) (by simp))⟩
              case measure => simp [intOf]; have := HLT.out; omega
        · have hi1 : ¬ (k : Int) ≤ (t : Int) := by omega
          obtain rfl : k = t + 1 := by omega
          have O1 := hid (OKT.out f (t + 1 - f))
          cases hsome : someN fL (lnsOf hs) f (t + 1 - f) with
          | true =>
            have m0 : m ≠ 0 := fun e => by rw [HM.out.1 e] at hsome; cases hsome
            have m1 : ((m : Int) == 0) = false := beq_eq_false_iff_ne.2 (by omega)
            have m2 : ¬ (m : Int) = 0 := by omega
            have TS := hid (FIN1.out hsome)
            clear hsome m0
            go_wp2_with (first
              | go_big_skip
              | ((with_reducible show wpList _ _ _ _ _ _); refine kgLoadA (by rfl) 26 _ (by rfl) 7 _ Tryd.underlying26 rfl (by kernel_rfl) K (by rfl) (by repeat (first | exact List.mem_cons_self | refine List.mem_cons_of_mem _ ?_)) (part := [_, _, _, _, _, _, _]) (by rfl) (by rfl) ?_)
              | ((with_reducible show wpList _ _ _ _ _ _); refine kgLoad1 (by rfl) 22 _ (by rfl) _ Tryd.underlying22 rfl K (by rfl) (by repeat (first | exact List.mem_cons_self | refine List.mem_cons_of_mem _ ?_)) (by rfl) ?_)
              | ((with_reducible show wpList _ _ _ _ _ _); refine kgLoad1 (by rfl) 3 _ (by rfl) _ Tryd.underlying3 rfl K (by rfl) (by repeat (first | exact List.mem_cons_self | refine List.mem_cons_of_mem _ ?_)) (by rfl) ?_)
              | ((with_reducible show wpList _ _ _ _ _ _); refine kgAlloc (by rfl) 26 (by rfl) (some 16) (by rfl) [.slice none 0 0, .int .i64 0, .int .i64 0, .int .i64 0, .int .i64 0, .int .i64 0, .int .i64 0] (fun _ => by kernel_rfl) K ?_; intro g16 V1 K1; clear K; (have K := K1); clear K1)
              | ((with_reducible show wpList _ _ _ _ _ _); refine kgStore (by rfl) 26 (.tmp 16) _ (by rfl) 7 (by kernel_rfl) [] (by exact K) (by rfl) (by rfl) [_, _, _, _, _, _, _] (by rfl) (by rfl) (by simp) (by simp [Value.oneCell']) (cs := [_, _, _, _, _, _, _]) (by rfl) ?_; intro V2 K1; (dsimp only [List.cons_append, List.nil_append] at K1); clear K; (have K := K1); clear K1)
              | (go_at_call 9; (with_reducible refine (awake25_any _ (Utf8Tabs_below T.out K.out.b)).mono ?_); rintro e W9 ⟨rfl, hb⟩; (have K2 := hid (K.out.later hb)); clear hb K; (have K := K2); clear K2)
              | (go_at_call 13; (with_reducible refine (turn25_any hs A _ c _ rfl _ (K.out.at_ (d := ⟨hs, A, false⟩) (by simp)) L0.out H2.out FI.out (Utf8Tabs_below T.out K.out.b) al aa fl fa on off do_ kind).mono ?_); rintro e W5 hc; unfold RetStE at hc; rw [TS.out] at hc; obtain ⟨A6, n6, c6, hs6, rfl, q1, q2, q3, ho, hb3⟩ := hc; dsimp only at q3; unfold stV; dsimp only; (obtain rfl : n6 = hs6.length := q1); (have Q6 := hid q3); (have K2 := hid (K.out.addW hb3 ho)); clear q2 q3 ho hb3 K; (have K := K2); clear K2)
              | (go_at_call 14; (with_reducible refine (rSame7_any hs6 hs' A6 A' _ _ c6 c' _ _ rfl rfl _ (K.out.at_ (d := ⟨hs6, A6, true⟩) (by simp)) (K.out.at_ (d := ⟨hs', A', true⟩) (by simp)) (OkD.hs Q6.out O1.out).1 (OkD.hs Q6.out O1.out).2.1).mono ?_); rintro e W7 ⟨rfl, hb⟩; rw [decide_eq_true (Q6.out.trans HT'.out.symm)]; (have K2 := hid (K.out.later hb)); clear hb K; (have K := K2); clear K2))
            go_ret
            exact ⟨rfl, K.out.b⟩
          | false =>
            obtain rfl : m = 0 := HM.out.2 hsome
            have TS := FIN2.out hsome
            clear hsome
            rcases TS with hT1 | hT1
            · have TS := hid hT1
              clear hT1
              go_wp2_with (first
                | go_big_skip
                | ((with_reducible show wpList _ _ _ _ _ _); refine kgLoadA (by rfl) 26 _ (by rfl) 7 _ Tryd.underlying26 rfl (by kernel_rfl) K (by rfl) (by repeat (first | exact List.mem_cons_self | refine List.mem_cons_of_mem _ ?_)) (part := [_, _, _, _, _, _, _]) (by rfl) (by rfl) ?_)
                | ((with_reducible show wpList _ _ _ _ _ _); refine kgLoad1 (by rfl) 22 _ (by rfl) _ Tryd.underlying22 rfl K (by rfl) (by repeat (first | exact List.mem_cons_self | refine List.mem_cons_of_mem _ ?_)) (by rfl) ?_)
                | ((with_reducible show wpList _ _ _ _ _ _); refine kgLoad1 (by rfl) 3 _ (by rfl) _ Tryd.underlying3 rfl K (by rfl) (by repeat (first | exact List.mem_cons_self | refine List.mem_cons_of_mem _ ?_)) (by rfl) ?_)
                | ((with_reducible show wpList _ _ _ _ _ _); refine kgAlloc (by rfl) 26 (by rfl) (some 16) (by rfl) [.slice none 0 0, .int .i64 0, .int .i64 0, .int .i64 0, .int .i64 0, .int .i64 0, .int .i64 0] (fun _ => by kernel_rfl) K ?_; intro g16 V1 K1; clear K; (have K := K1); clear K1)
                | ((with_reducible show wpList _ _ _ _ _ _); refine kgStore (by rfl) 26 (.tmp 16) _ (by rfl) 7 (by kernel_rfl) [] (by exact K) (by rfl) (by rfl) [_, _, _, _, _, _, _] (by rfl) (by rfl) (by simp) (by simp [Value.oneCell']) (cs := [_, _, _, _, _, _, _]) (by rfl) ?_; intro V2 K1; (dsimp only [List.cons_append, List.nil_append] at K1); clear K; (have K := K1); clear K1)
                | (go_at_call 9; (with_reducible refine (awake25_any _ (Utf8Tabs_below T.out K.out.b)).mono ?_); rintro e W9 ⟨rfl, hb⟩; (have K2 := hid (K.out.later hb)); clear hb K; (have K := K2); clear K2)
                | (go_at_call 13; (with_reducible refine (turn25_any hs A _ c _ rfl _ (K.out.at_ (d := ⟨hs, A, false⟩) (by simp)) L0.out H2.out FI.out (Utf8Tabs_below T.out K.out.b) al aa fl fa on off do_ kind).mono ?_); rintro e W5 hc; unfold RetStE at hc; rw [TS.out] at hc; obtain ⟨A6, n6, c6, hs6, rfl, q1, q2, q3, ho, hb3⟩ := hc; dsimp only at q3; unfold stV; dsimp only; (obtain rfl : n6 = hs6.length := q1); (have Q6 := hid q3); (have K2 := hid (K.out.addW hb3 ho)); clear q2 q3 ho hb3 K; (have K := K2); clear K2))
              go_ret
              exact ⟨rfl, K.out.b⟩
            · have TS := hid hT1
              clear hT1
              go_wp2_with (first
                | go_big_skip
                | ((with_reducible show wpList _ _ _ _ _ _); refine kgLoadA (by rfl) 26 _ (by rfl) 7 _ Tryd.underlying26 rfl (by kernel_rfl) K (by rfl) (by repeat (first | exact List.mem_cons_self | refine List.mem_cons_of_mem _ ?_)) (part := [_, _, _, _, _, _, _]) (by rfl) (by rfl) ?_)
                | ((with_reducible show wpList _ _ _ _ _ _); refine kgLoad1 (by rfl) 22 _ (by rfl) _ Tryd.underlying22 rfl K (by rfl) (by repeat (first | exact List.mem_cons_self | refine List.mem_cons_of_mem _ ?_)) (by rfl) ?_)
                | ((with_reducible show wpList _ _ _ _ _ _); refine kgLoad1 (by rfl) 3 _ (by rfl) _ Tryd.underlying3 rfl K (by rfl) (by repeat (first | exact List.mem_cons_self | refine List.mem_cons_of_mem _ ?_)) (by rfl) ?_)
                | ((with_reducible show wpList _ _ _ _ _ _); refine kgAlloc (by rfl) 26 (by rfl) (some 16) (by rfl) [.slice none 0 0, .int .i64 0, .int .i64 0, .int .i64 0, .int .i64 0, .int .i64 0, .int .i64 0] (fun _ => by kernel_rfl) K ?_; intro g16 V1 K1; clear K; (have K := K1); clear K1)
                | ((with_reducible show wpList _ _ _ _ _ _); refine kgStore (by rfl) 26 (.tmp 16) _ (by rfl) 7 (by kernel_rfl) [] (by exact K) (by rfl) (by rfl) [_, _, _, _, _, _, _] (by rfl) (by rfl) (by simp) (by simp [Value.oneCell']) (cs := [_, _, _, _, _, _, _]) (by rfl) ?_; intro V2 K1; (dsimp only [List.cons_append, List.nil_append] at K1); clear K; (have K := K1); clear K1)
                | (go_at_call 9; (with_reducible refine (awake25_any _ (Utf8Tabs_below T.out K.out.b)).mono ?_); rintro e W9 ⟨rfl, hb⟩; (have K2 := hid (K.out.later hb)); clear hb K; (have K := K2); clear K2)
                | (go_at_call 13; (with_reducible refine (turn25_any hs A _ c _ rfl _ (K.out.at_ (d := ⟨hs, A, false⟩) (by simp)) L0.out H2.out FI.out (Utf8Tabs_below T.out K.out.b) al aa fl fa on off do_ kind).mono ?_); rintro e W5 hc; unfold RetStE at hc; rw [TS.out] at hc; obtain ⟨A6, n6, c6, hs6, rfl, q1, q2, q3, ho, hb3⟩ := hc; dsimp only at q3; unfold stV; dsimp only; (obtain rfl : n6 = hs6.length := q1); (have Q6 := hid q3); (have K2 := hid (K.out.addW hb3 ho)); clear q2 q3 ho hb3 K; (have K := K2); clear K2))
              go_ret
              exact ⟨rfl, K.out.b⟩
end Go.Proofs.YtblbfoniimnkcaaDoor
