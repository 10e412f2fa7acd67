/- The walk of law25's turn. (Printed by wip/bldoc.py.) -/
import Derived.Test.YtblbfoniimnkcaaDoorBlList
import Derived.Test.YtblbfoniimnkcaaDoorBgPl
import Derived.Test.YtblbfoniimnkcaaDoorDocBits
import Derived.BigQuiet
import Derived.Deep.QuietTactic
namespace Go.Proofs.YtblbfoniimnkcaaDoor
open Go.RowKit Go.Lib

set_option maxRecDepth 100000 in
set_option maxHeartbeats 4000000 in
theorem turn25_0 (hs : List Hd) (A : Option Addr) (n c C : Nat) (hn : n = hs.length) (w : World) (hd : DocAt w C A hs) (h1 : hs.length ≤ 1000) (h2 : ∀ h ∈ hs, h.l.ls.length ≤ 1000000 ∧ h.l.cs.length ≤ 1000000) (hf : ∀ h ∈ hs, FineC h.l.cs) (hT : Tb w) (al aa fl fa on off do_ kind : Int) (hk : bits .and .i64 do_ 3 = 0) :
    Calls Tryd.prog 13 #[.agg #[.slice A n c, .int .i64 al, .int .i64 aa, .int .i64 fl, .int .i64 fa, .int .i64 on, .int .i64 off], .int .i64 do_, .int .i64 kind] w (RetStE (formatS ⟨lnsOf hs, ⟨al, aa⟩, ⟨fl, fa⟩, on, off⟩ kind) w) := by
  subst hn
  have D0 := hid h2
  have L0 := hid h1
  have K := hid (KG.start w [⟨hs, A, false⟩] (by simpa using hd.live))
  have T := hid hT
  have FI := hid hf
  have H2 := hid h2
  clear hd h2 hT hf
  obtain ⟨⟨⟨rd, ⟨ral, raa⟩, ⟨rfl', rfa⟩, ron, roff⟩, er⟩, hr⟩ : ∃ r, formatS ⟨lnsOf hs, ⟨al, aa⟩, ⟨fl, fa⟩, on, off⟩ kind = r := ⟨_, rfl⟩
  rw [hr]
  have FR := hid hr
  clear hr
  have e0 : (bits .and .i64 do_ 3 == 0) = true := by rw [hk]; rfl
  clear hk
  go_enter Tryd.func13, Tryd.ntmps13
  go_wp2_with (first
    | go_big_skip
    | ((with_reducible show wpList _ _ _ _ _ _); refine kgBox (by rfl) 26 _ (by rfl) (some 3) (by rfl) (by rfl) [_, _, _, _, _, _, _] (by rfl) K ?_; intro g3 V1 K1; clear K; (have K := K1); clear K1)
    | ((with_reducible show wpList _ _ _ _ _ _); refine kgAlloc (by rfl) 26 (by rfl) (some 6) (by rfl) [.slice none 0 0, .int .i64 0, .int .i64 0, .int .i64 0, .int .i64 0, .int .i64 0, .int .i64 0] (fun _ => by kernel_rfl) K ?_; intro g6 V1 K1; clear K; (have K := K1); clear K1)
    | ((with_reducible show wpList _ _ _ _ _ _); refine kgLoadA (by rfl) 26 _ (by rfl) 7 _ Tryd.underlying26 rfl (by kernel_rfl) K (by rfl) (by repeat (first | exact List.mem_cons_self | refine List.mem_cons_of_mem _ ?_)) (part := [_, _, _, _, _, _, _]) (by rfl) (by rfl) ?_)
    | (go_at_call 25; (with_reducible refine (bFormat_any hs A _ c _ rfl _ (K.out.at_ (d := ⟨hs, A, false⟩) (by simp)) L0.out H2.out FI.out (Utf8Tabs_below T.out K.out.b) al aa fl fa on off kind).mono ?_); rintro e W3 hc; rw [FR.out] at hc; obtain ⟨A3, n3, c3, hs3, rfl, q1, q2, q3, ho, hb3⟩ := hc; (have QQ : Hid (n3 = hs3.length ∧ n3 ≤ c3 ∧ lnsOf hs3 = rd) := hid ⟨q1, q2, q3⟩); unfold stV; dsimp only; (have K2 := hid (K.out.addW hb3 ho)); clear q1 q2 q3 ho hb3 K; (have K := K2); clear K2)
    | ((with_reducible show wpList _ _ _ _ _ _); refine kgStore (by rfl) 26 (.tmp 6) _ (by rfl) 7 (by kernel_rfl) [] (by exact K) (by rfl) (by rfl) [_, _, _, _, _, _, _] (by rfl) (by rfl) (by simp) (by simp [Value.oneCell']) (cs := [_, _, _, _, _, _, _]) (by rfl) ?_; intro V2 K1; (dsimp only [List.cons_append, List.nil_append] at K1); clear K; (have K := K1); clear K1))
  refine bodyPost_ret (results_ct Tryd.results13 (by rfl) (K.out.loadA (off := 0) (n := 7) (by repeat (first | exact List.mem_cons_self | refine List.mem_cons_of_mem _ ?_)) Tryd.underlying26 rfl (by kernel_rfl) (part := [_, _, _, _, _, _, _]) (by rfl) (by rfl)) (by rfl)) rfl ?_
  exact ⟨A3, n3, c3, hs3, rfl, QQ.out.1, QQ.out.2.1, QQ.out.2.2, K.out.docW (by simp), K.out.b⟩
set_option maxRecDepth 100000 in
set_option maxHeartbeats 4000000 in
theorem turn25_1 (hs : List Hd) (A : Option Addr) (n c C : Nat) (hn : n = hs.length) (w : World) (hd : DocAt w C A hs) (h1 : hs.length ≤ 1000) (h2 : ∀ h ∈ hs, h.l.ls.length ≤ 1000000 ∧ h.l.cs.length ≤ 1000000) (hf : ∀ h ∈ hs, FineC h.l.cs) (hT : Tb w) (al aa fl fa on off do_ kind : Int) (hk : bits .and .i64 do_ 3 = 1) :
    Calls Tryd.prog 13 #[.agg #[.slice A n c, .int .i64 al, .int .i64 aa, .int .i64 fl, .int .i64 fa, .int .i64 on, .int .i64 off], .int .i64 do_, .int .i64 kind] w (RetStE (eachS indentL ⟨lnsOf hs, ⟨al, aa⟩, ⟨fl, fa⟩, on, off⟩) w) := by
  subst hn
  have D0 := hid h2
  have L0 := hid h1
  have K := hid (KG.start w [⟨hs, A, false⟩] (by simpa using hd.live))
  have T := hid hT
  have FI := hid hf
  have H2 := hid h2
  clear hd h2 hT hf
  obtain ⟨⟨⟨rd, ⟨ral, raa⟩, ⟨rfl', rfa⟩, ron, roff⟩, er⟩, hr⟩ : ∃ r, eachS indentL ⟨lnsOf hs, ⟨al, aa⟩, ⟨fl, fa⟩, on, off⟩ = r := ⟨_, rfl⟩
  rw [hr]
  have FR := hid hr
  clear hr
  have e0 : (bits .and .i64 do_ 3 == 0) = false := by rw [hk]; rfl
  have e1 : (bits .and .i64 do_ 3 == 1) = true := by rw [hk]; rfl
  clear hk
  go_enter Tryd.func13, Tryd.ntmps13
  go_wp2_with (first
    | go_big_skip
    | ((with_reducible show wpList _ _ _ _ _ _); refine kgBox (by rfl) 26 _ (by rfl) (some 3) (by rfl) (by rfl) [_, _, _, _, _, _, _] (by rfl) K ?_; intro g3 V1 K1; clear K; (have K := K1); clear K1)
    | ((with_reducible show wpList _ _ _ _ _ _); refine kgAlloc (by rfl) 26 (by rfl) (some 6) (by rfl) [.slice none 0 0, .int .i64 0, .int .i64 0, .int .i64 0, .int .i64 0, .int .i64 0, .int .i64 0] (fun _ => by kernel_rfl) K ?_; intro g6 V1 K1; clear K; (have K := K1); clear K1)
    | ((with_reducible show wpList _ _ _ _ _ _); refine kgLoadA (by rfl) 26 _ (by rfl) 7 _ Tryd.underlying26 rfl (by kernel_rfl) K (by rfl) (by repeat (first | exact List.mem_cons_self | refine List.mem_cons_of_mem _ ?_)) (part := [_, _, _, _, _, _, _]) (by rfl) (by rfl) ?_)
    | (go_at_call 15; (with_reducible refine (bIndent_any hs A _ c _ rfl _ (K.out.at_ (d := ⟨hs, A, false⟩) (by simp)) L0.out H2.out FI.out (Utf8Tabs_below T.out K.out.b) al aa fl fa on off).mono ?_); rintro e W3 hc; rw [FR.out] at hc; obtain ⟨A3, n3, c3, hs3, rfl, q1, q2, q3, ho, hb3⟩ := hc; (have QQ : Hid (n3 = hs3.length ∧ n3 ≤ c3 ∧ lnsOf hs3 = rd) := hid ⟨q1, q2, q3⟩); unfold stV; dsimp only; (have K2 := hid (K.out.addW hb3 ho)); clear q1 q2 q3 ho hb3 K; (have K := K2); clear K2)
    | ((with_reducible show wpList _ _ _ _ _ _); refine kgStore (by rfl) 26 (.tmp 6) _ (by rfl) 7 (by kernel_rfl) [] (by exact K) (by rfl) (by rfl) [_, _, _, _, _, _, _] (by rfl) (by rfl) (by simp) (by simp [Value.oneCell']) (cs := [_, _, _, _, _, _, _]) (by rfl) ?_; intro V2 K1; (dsimp only [List.cons_append, List.nil_append] at K1); clear K; (have K := K1); clear K1))
  refine bodyPost_ret (results_ct Tryd.results13 (by rfl) (K.out.loadA (off := 0) (n := 7) (by repeat (first | exact List.mem_cons_self | refine List.mem_cons_of_mem _ ?_)) Tryd.underlying26 rfl (by kernel_rfl) (part := [_, _, _, _, _, _, _]) (by rfl) (by rfl)) (by rfl)) rfl ?_
  exact ⟨A3, n3, c3, hs3, rfl, QQ.out.1, QQ.out.2.1, QQ.out.2.2, K.out.docW (by simp), K.out.b⟩
set_option maxRecDepth 100000 in
set_option maxHeartbeats 4000000 in
theorem turn25_2 (hs : List Hd) (A : Option Addr) (n c C : Nat) (hn : n = hs.length) (w : World) (hd : DocAt w C A hs) (h1 : hs.length ≤ 1000) (h2 : ∀ h ∈ hs, h.l.ls.length ≤ 1000000 ∧ h.l.cs.length ≤ 1000000) (hf : ∀ h ∈ hs, FineC h.l.cs) (hT : Tb w) (al aa fl fa on off do_ kind : Int) (hk : bits .and .i64 do_ 3 = 2) :
    Calls Tryd.prog 13 #[.agg #[.slice A n c, .int .i64 al, .int .i64 aa, .int .i64 fl, .int .i64 fa, .int .i64 on, .int .i64 off], .int .i64 do_, .int .i64 kind] w (RetStE (eachS outdentL ⟨lnsOf hs, ⟨al, aa⟩, ⟨fl, fa⟩, on, off⟩) w) := by
  subst hn
  have D0 := hid h2
  have L0 := hid h1
  have K := hid (KG.start w [⟨hs, A, false⟩] (by simpa using hd.live))
  have T := hid hT
  have FI := hid hf
  have H2 := hid h2
  clear hd h2 hT hf
  obtain ⟨⟨⟨rd, ⟨ral, raa⟩, ⟨rfl', rfa⟩, ron, roff⟩, er⟩, hr⟩ : ∃ r, eachS outdentL ⟨lnsOf hs, ⟨al, aa⟩, ⟨fl, fa⟩, on, off⟩ = r := ⟨_, rfl⟩
  rw [hr]
  have FR := hid hr
  clear hr
  have e0 : (bits .and .i64 do_ 3 == 0) = false := by rw [hk]; rfl
  have e1 : (bits .and .i64 do_ 3 == 1) = false := by rw [hk]; rfl
  have e2 : (bits .and .i64 do_ 3 == 2) = true := by rw [hk]; rfl
  clear hk
  go_enter Tryd.func13, Tryd.ntmps13
  go_wp2_with (first
    | go_big_skip
    | ((with_reducible show wpList _ _ _ _ _ _); refine kgBox (by rfl) 26 _ (by rfl) (some 3) (by rfl) (by rfl) [_, _, _, _, _, _, _] (by rfl) K ?_; intro g3 V1 K1; clear K; (have K := K1); clear K1)
    | ((with_reducible show wpList _ _ _ _ _ _); refine kgAlloc (by rfl) 26 (by rfl) (some 6) (by rfl) [.slice none 0 0, .int .i64 0, .int .i64 0, .int .i64 0, .int .i64 0, .int .i64 0, .int .i64 0] (fun _ => by kernel_rfl) K ?_; intro g6 V1 K1; clear K; (have K := K1); clear K1)
    | ((with_reducible show wpList _ _ _ _ _ _); refine kgLoadA (by rfl) 26 _ (by rfl) 7 _ Tryd.underlying26 rfl (by kernel_rfl) K (by rfl) (by repeat (first | exact List.mem_cons_self | refine List.mem_cons_of_mem _ ?_)) (part := [_, _, _, _, _, _, _]) (by rfl) (by rfl) ?_)
    | (go_at_call 17; (with_reducible refine (bOutdent_any hs A _ c _ rfl _ (K.out.at_ (d := ⟨hs, A, false⟩) (by simp)) L0.out H2.out FI.out (Utf8Tabs_below T.out K.out.b) al aa fl fa on off).mono ?_); rintro e W3 hc; rw [FR.out] at hc; obtain ⟨A3, n3, c3, hs3, rfl, q1, q2, q3, ho, hb3⟩ := hc; (have QQ : Hid (n3 = hs3.length ∧ n3 ≤ c3 ∧ lnsOf hs3 = rd) := hid ⟨q1, q2, q3⟩); unfold stV; dsimp only; (have K2 := hid (K.out.addW hb3 ho)); clear q1 q2 q3 ho hb3 K; (have K := K2); clear K2)
    | ((with_reducible show wpList _ _ _ _ _ _); refine kgStore (by rfl) 26 (.tmp 6) _ (by rfl) 7 (by kernel_rfl) [] (by exact K) (by rfl) (by rfl) [_, _, _, _, _, _, _] (by rfl) (by rfl) (by simp) (by simp [Value.oneCell']) (cs := [_, _, _, _, _, _, _]) (by rfl) ?_; intro V2 K1; (dsimp only [List.cons_append, List.nil_append] at K1); clear K; (have K := K1); clear K1))
  refine bodyPost_ret (results_ct Tryd.results13 (by rfl) (K.out.loadA (off := 0) (n := 7) (by repeat (first | exact List.mem_cons_self | refine List.mem_cons_of_mem _ ?_)) Tryd.underlying26 rfl (by kernel_rfl) (part := [_, _, _, _, _, _, _]) (by rfl) (by rfl)) (by rfl)) rfl ?_
  exact ⟨A3, n3, c3, hs3, rfl, QQ.out.1, QQ.out.2.1, QQ.out.2.2, K.out.docW (by simp), K.out.b⟩
set_option maxRecDepth 100000 in
set_option maxHeartbeats 4000000 in
theorem turn25_3 (hs : List Hd) (A : Option Addr) (n c C : Nat) (hn : n = hs.length) (w : World) (hd : DocAt w C A hs) (h1 : hs.length ≤ 1000) (h2 : ∀ h ∈ hs, h.l.ls.length ≤ 1000000 ∧ h.l.cs.length ≤ 1000000) (hf : ∀ h ∈ hs, FineC h.l.cs) (hT : Tb w) (al aa fl fa on off do_ kind : Int) (hk : bits .and .i64 do_ 3 = 3) :
    Calls Tryd.prog 13 #[.agg #[.slice A n c, .int .i64 al, .int .i64 aa, .int .i64 fl, .int .i64 fa, .int .i64 on, .int .i64 off], .int .i64 do_, .int .i64 kind] w (RetStE (listS ⟨lnsOf hs, ⟨al, aa⟩, ⟨fl, fa⟩, on, off⟩ kind) w) := by
  subst hn
  have D0 := hid h2
  have L0 := hid h1
  have K := hid (KG.start w [⟨hs, A, false⟩] (by simpa using hd.live))
  have T := hid hT
  have FI := hid hf
  have H2 := hid h2
  clear hd h2 hT hf
  obtain ⟨⟨⟨rd, ⟨ral, raa⟩, ⟨rfl', rfa⟩, ron, roff⟩, er⟩, hr⟩ : ∃ r, listS ⟨lnsOf hs, ⟨al, aa⟩, ⟨fl, fa⟩, on, off⟩ kind = r := ⟨_, rfl⟩
  rw [hr]
  have FR := hid hr
  clear hr
  have e0 : (bits .and .i64 do_ 3 == 0) = false := by rw [hk]; rfl
  have e1 : (bits .and .i64 do_ 3 == 1) = false := by rw [hk]; rfl
  have e2 : (bits .and .i64 do_ 3 == 2) = false := by rw [hk]; rfl
  clear hk
  go_enter Tryd.func13, Tryd.ntmps13
  go_wp2_with (first
    | go_big_skip
    | ((with_reducible show wpList _ _ _ _ _ _); refine kgBox (by rfl) 26 _ (by rfl) (some 3) (by rfl) (by rfl) [_, _, _, _, _, _, _] (by rfl) K ?_; intro g3 V1 K1; clear K; (have K := K1); clear K1)
    | ((with_reducible show wpList _ _ _ _ _ _); refine kgAlloc (by rfl) 26 (by rfl) (some 6) (by rfl) [.slice none 0 0, .int .i64 0, .int .i64 0, .int .i64 0, .int .i64 0, .int .i64 0, .int .i64 0] (fun _ => by kernel_rfl) K ?_; intro g6 V1 K1; clear K; (have K := K1); clear K1)
    | ((with_reducible show wpList _ _ _ _ _ _); refine kgLoadA (by rfl) 26 _ (by rfl) 7 _ Tryd.underlying26 rfl (by kernel_rfl) K (by rfl) (by repeat (first | exact List.mem_cons_self | refine List.mem_cons_of_mem _ ?_)) (part := [_, _, _, _, _, _, _]) (by rfl) (by rfl) ?_)
    | (go_at_call 19; (with_reducible refine (bList_any hs A _ c _ rfl _ (K.out.at_ (d := ⟨hs, A, false⟩) (by simp)) L0.out H2.out FI.out (Utf8Tabs_below T.out K.out.b) al aa fl fa on off kind).mono ?_); rintro e W3 hc; rw [FR.out] at hc; obtain ⟨A3, n3, c3, hs3, rfl, q1, q2, q3, ho, hb3⟩ := hc; (have QQ : Hid (n3 = hs3.length ∧ n3 ≤ c3 ∧ lnsOf hs3 = rd) := hid ⟨q1, q2, q3⟩); unfold stV; dsimp only; (have K2 := hid (K.out.addW hb3 ho)); clear q1 q2 q3 ho hb3 K; (have K := K2); clear K2)
    | ((with_reducible show wpList _ _ _ _ _ _); refine kgStore (by rfl) 26 (.tmp 6) _ (by rfl) 7 (by kernel_rfl) [] (by exact K) (by rfl) (by rfl) [_, _, _, _, _, _, _] (by rfl) (by rfl) (by simp) (by simp [Value.oneCell']) (cs := [_, _, _, _, _, _, _]) (by rfl) ?_; intro V2 K1; (dsimp only [List.cons_append, List.nil_append] at K1); clear K; (have K := K1); clear K1))
  refine bodyPost_ret (results_ct Tryd.results13 (by rfl) (K.out.loadA (off := 0) (n := 7) (by repeat (first | exact List.mem_cons_self | refine List.mem_cons_of_mem _ ?_)) Tryd.underlying26 rfl (by kernel_rfl) (part := [_, _, _, _, _, _, _]) (by rfl) (by rfl)) (by rfl)) rfl ?_
  exact ⟨A3, n3, c3, hs3, rfl, QQ.out.1, QQ.out.2.1, QQ.out.2.2, K.out.docW (by simp), K.out.b⟩
theorem turn25_any (hs : List Hd) (A : Option Addr) (n c C : Nat) (hn : n = hs.length) (w : World) (hd : DocAt w C A hs) (h1 : hs.length ≤ 1000) (h2 : ∀ h ∈ hs, h.l.ls.length ≤ 1000000 ∧ h.l.cs.length ≤ 1000000) (hf : ∀ h ∈ hs, FineC h.l.cs) (hT : Tb w) (al aa fl fa on off do_ kind : Int) :
    Calls Tryd.prog 13 #[.agg #[.slice A n c, .int .i64 al, .int .i64 aa, .int .i64 fl, .int .i64 fa, .int .i64 on, .int .i64 off], .int .i64 do_, .int .i64 kind] w (RetStE (turnS ⟨lnsOf hs, ⟨al, aa⟩, ⟨fl, fa⟩, on, off⟩ (bits .and .i64 do_ 3) kind) w) := by
  unfold turnS
  rcases and3 do_ with h | h | h | h
  · rw [h, if_pos rfl]
    exact turn25_0 hs A n c C hn w hd h1 h2 hf hT al aa fl fa on off do_ kind h
  · rw [h, if_neg (by decide), if_pos rfl]
    exact turn25_1 hs A n c C hn w hd h1 h2 hf hT al aa fl fa on off do_ kind h
  · rw [h, if_neg (by decide), if_neg (by decide), if_pos rfl]
    exact turn25_2 hs A n c C hn w hd h1 h2 hf hT al aa fl fa on off do_ kind h
  · rw [h, if_neg (by decide), if_neg (by decide), if_neg (by decide)]
    exact turn25_3 hs A n c C hn w hd h1 h2 hf hT al aa fl fa on off do_ kind h
end Go.Proofs.YtblbfoniimnkcaaDoor
