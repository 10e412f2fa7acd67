/- Texts on cells and lines, put together: TMay, TMayA. -/
import Derived.Test.YtblbfoniimnkcaaGreatDoorBgCmp
import Derived.Test.YtblbfoniimnkcaaGreatDoorBgKg
import Derived.BigQuiet
import Derived.Deep.QuietTactic
/- The walk of typing.May. (Printed by wip/bldoc.py.) -/
namespace Go.Proofs.YtblbfoniimnkcaaGreatDoor
open Go.RowKit Go.Lib

set_option maxRecDepth 100000 in
set_option maxHeartbeats 8000000 in
theorem tMay_0 (hs : List Hd) (A : Option Addr) (n c C : Nat) (hn : n = hs.length) (w : World) (hd : DocAt w C A hs) (h1 : hs.length ≤ 1000) (h2 : ∀ h ∈ hs, h.l.ls.length ≤ 1000000 ∧ h.l.cs.length ≤ 1000000) (hf : ∀ h ∈ hs, FineC h.l.cs) (hT : Tb w) (al aa fl fa on off : Int) (m1 : mayD (lnsOf hs) = false)  :
    Calls Tryz.prog 21 #[.agg #[.slice A n c, .int .i64 al, .int .i64 aa, .int .i64 fl, .int .i64 fa, .int .i64 on, .int .i64 off]] w (IsBool false w) := by
  subst hn
  have D0 := hid h2
  have L0 := hid h1
  have K := hid (KG.start w [⟨hs, A, false⟩] (by simpa using hd.live))
  have T := hid hT
  have FI := hid hf
  have H2 := hid h2
  have M1 := hid m1
  clear hd h2 hT hf m1
  go_enter Tryz.func21, Tryz.ntmps21
  go_wp2_with (first
    | go_big_skip
    | ((with_reducible show wpList _ _ _ _ _ _); refine kgBox (by rfl) 26 _ (by rfl) (some 1) (by rfl) (by rfl) [_, _, _, _, _, _, _] (by rfl) K ?_; intro g1 V1 K1; clear K; (have K := K1); clear K1)
    | ((with_reducible show wpList _ _ _ _ _ _); refine kgLoad1 (by rfl) 22 _ (by rfl) _ Tryz.underlying22 rfl K (by rfl) (by repeat (first | exact List.mem_cons_self | refine List.mem_cons_of_mem _ ?_)) (by rfl) ?_)
    | ((with_reducible show wpList _ _ _ _ _ _); refine kgLoadA (by rfl) 24 _ (by rfl) 2 _ Tryz.underlying24 rfl (by kernel_rfl) K (by rfl) (by repeat (first | exact List.mem_cons_self | refine List.mem_cons_of_mem _ ?_)) (part := [_, _]) (by rfl) (by rfl) ?_)
    | ((with_reducible show wpList _ _ _ _ _ _); refine kgLoad1 (by rfl) 3 _ (by rfl) _ Tryz.underlying3 rfl K (by rfl) (by repeat (first | exact List.mem_cons_self | refine List.mem_cons_of_mem _ ?_)) (by rfl) ?_)
    | (go_at_call 36; (with_reducible refine (dMay_any hs A _ c _ rfl _ (K.out.at_ (d := ⟨hs, A, false⟩) (by simp)) h1 H2.out FI.out (Utf8Tabs_below T.out K.out.b)).mono ?_); rintro e W2 ⟨rfl, hb⟩; rw [M1.out]; (have K2 := hid (K.out.later hb)); clear hb K; (have K := K2); clear K2))
  go_ret
  exact ⟨rfl, K.out.b⟩
set_option maxRecDepth 100000 in
set_option maxHeartbeats 8000000 in
theorem tMay_1 (hs : List Hd) (A : Option Addr) (n c C : Nat) (hn : n = hs.length) (w : World) (hd : DocAt w C A hs) (h1 : hs.length ≤ 1000) (h2 : ∀ h ∈ hs, h.l.ls.length ≤ 1000000 ∧ h.l.cs.length ≤ 1000000) (hf : ∀ h ∈ hs, FineC h.l.cs) (hT : Tb w) (al aa fl fa on off : Int) (m1 : mayD (lnsOf hs) = true) (m2 : isD (lnsOf hs) ⟨al, aa⟩ = false)  :
    Calls Tryz.prog 21 #[.agg #[.slice A n c, .int .i64 al, .int .i64 aa, .int .i64 fl, .int .i64 fa, .int .i64 on, .int .i64 off]] w (IsBool false w) := by
  subst hn
  have D0 := hid h2
  have L0 := hid h1
  have K := hid (KG.start w [⟨hs, A, false⟩] (by simpa using hd.live))
  have T := hid hT
  have FI := hid hf
  have H2 := hid h2
  have M1 := hid m1
  have M2 := hid m2
  clear hd h2 hT hf m1 m2
  go_enter Tryz.func21, Tryz.ntmps21
  go_wp2_with (first
    | go_big_skip
    | ((with_reducible show wpList _ _ _ _ _ _); refine kgBox (by rfl) 26 _ (by rfl) (some 1) (by rfl) (by rfl) [_, _, _, _, _, _, _] (by rfl) K ?_; intro g1 V1 K1; clear K; (have K := K1); clear K1)
    | ((with_reducible show wpList _ _ _ _ _ _); refine kgLoad1 (by rfl) 22 _ (by rfl) _ Tryz.underlying22 rfl K (by rfl) (by repeat (first | exact List.mem_cons_self | refine List.mem_cons_of_mem _ ?_)) (by rfl) ?_)
    | ((with_reducible show wpList _ _ _ _ _ _); refine kgLoadA (by rfl) 24 _ (by rfl) 2 _ Tryz.underlying24 rfl (by kernel_rfl) K (by rfl) (by repeat (first | exact List.mem_cons_self | refine List.mem_cons_of_mem _ ?_)) (part := [_, _]) (by rfl) (by rfl) ?_)
    | ((with_reducible show wpList _ _ _ _ _ _); refine kgLoad1 (by rfl) 3 _ (by rfl) _ Tryz.underlying3 rfl K (by rfl) (by repeat (first | exact List.mem_cons_self | refine List.mem_cons_of_mem _ ?_)) (by rfl) ?_)
    | (go_at_call 36; (with_reducible refine (dMay_any hs A _ c _ rfl _ (K.out.at_ (d := ⟨hs, A, false⟩) (by simp)) h1 H2.out FI.out (Utf8Tabs_below T.out K.out.b)).mono ?_); rintro e W2 ⟨rfl, hb⟩; rw [M1.out]; (have K2 := hid (K.out.later hb)); clear hb K; (have K := K2); clear K2)
    | (go_at_call 37; (with_reducible refine (dIs_any hs A _ c _ rfl _ (K.out.at_ (d := ⟨hs, A, false⟩) (by simp)) al aa).mono ?_); rintro e W3 ⟨rfl, hb⟩; rw [M2.out]; (have K2 := hid (K.out.later hb)); clear hb K; (have K := K2); clear K2))
  go_ret
  exact ⟨rfl, K.out.b⟩
set_option maxRecDepth 100000 in
set_option maxHeartbeats 8000000 in
theorem tMay_2 (hs : List Hd) (A : Option Addr) (n c C : Nat) (hn : n = hs.length) (w : World) (hd : DocAt w C A hs) (h1 : hs.length ≤ 1000) (h2 : ∀ h ∈ hs, h.l.ls.length ≤ 1000000 ∧ h.l.cs.length ≤ 1000000) (hf : ∀ h ∈ hs, FineC h.l.cs) (hT : Tb w) (al aa fl fa on off : Int) (m1 : mayD (lnsOf hs) = true) (m2 : isD (lnsOf hs) ⟨al, aa⟩ = true) (m3 : isD (lnsOf hs) ⟨fl, fa⟩ = false)  :
    Calls Tryz.prog 21 #[.agg #[.slice A n c, .int .i64 al, .int .i64 aa, .int .i64 fl, .int .i64 fa, .int .i64 on, .int .i64 off]] w (IsBool false w) := by
  subst hn
  have D0 := hid h2
  have L0 := hid h1
  have K := hid (KG.start w [⟨hs, A, false⟩] (by simpa using hd.live))
  have T := hid hT
  have FI := hid hf
  have H2 := hid h2
  have M1 := hid m1
  have M2 := hid m2
  have M3 := hid m3
  clear hd h2 hT hf m1 m2 m3
  go_enter Tryz.func21, Tryz.ntmps21
  go_wp2_with (first
    | go_big_skip
    | ((with_reducible show wpList _ _ _ _ _ _); refine kgBox (by rfl) 26 _ (by rfl) (some 1) (by rfl) (by rfl) [_, _, _, _, _, _, _] (by rfl) K ?_; intro g1 V1 K1; clear K; (have K := K1); clear K1)
    | ((with_reducible show wpList _ _ _ _ _ _); refine kgLoad1 (by rfl) 22 _ (by rfl) _ Tryz.underlying22 rfl K (by rfl) (by repeat (first | exact List.mem_cons_self | refine List.mem_cons_of_mem _ ?_)) (by rfl) ?_)
    | ((with_reducible show wpList _ _ _ _ _ _); refine kgLoadA (by rfl) 24 _ (by rfl) 2 _ Tryz.underlying24 rfl (by kernel_rfl) K (by rfl) (by repeat (first | exact List.mem_cons_self | refine List.mem_cons_of_mem _ ?_)) (part := [_, _]) (by rfl) (by rfl) ?_)
    | ((with_reducible show wpList _ _ _ _ _ _); refine kgLoad1 (by rfl) 3 _ (by rfl) _ Tryz.underlying3 rfl K (by rfl) (by repeat (first | exact List.mem_cons_self | refine List.mem_cons_of_mem _ ?_)) (by rfl) ?_)
    | (go_at_call 36; (with_reducible refine (dMay_any hs A _ c _ rfl _ (K.out.at_ (d := ⟨hs, A, false⟩) (by simp)) h1 H2.out FI.out (Utf8Tabs_below T.out K.out.b)).mono ?_); rintro e W2 ⟨rfl, hb⟩; rw [M1.out]; (have K2 := hid (K.out.later hb)); clear hb K; (have K := K2); clear K2)
    | (go_at_call 37; (with_reducible refine (dIs_any hs A _ c _ rfl _ (K.out.at_ (d := ⟨hs, A, false⟩) (by simp)) al aa).mono ?_); rintro e W3 ⟨rfl, hb⟩; rw [M2.out]; (have K2 := hid (K.out.later hb)); clear hb K; (have K := K2); clear K2)
    | (go_at_call 37; (with_reducible refine (dIs_any hs A _ c _ rfl _ (K.out.at_ (d := ⟨hs, A, false⟩) (by simp)) fl fa).mono ?_); rintro e W4 ⟨rfl, hb⟩; rw [M3.out]; (have K2 := hid (K.out.later hb)); clear hb K; (have K := K2); clear K2))
  go_ret
  exact ⟨rfl, K.out.b⟩
set_option maxRecDepth 100000 in
set_option maxHeartbeats 8000000 in
theorem tMay_3 (hs : List Hd) (A : Option Addr) (n c C : Nat) (hn : n = hs.length) (w : World) (hd : DocAt w C A hs) (h1 : hs.length ≤ 1000) (h2 : ∀ h ∈ hs, h.l.ls.length ≤ 1000000 ∧ h.l.cs.length ≤ 1000000) (hf : ∀ h ∈ hs, FineC h.l.cs) (hT : Tb w) (al aa fl fa on off : Int) (m1 : mayD (lnsOf hs) = true) (m2 : isD (lnsOf hs) ⟨al, aa⟩ = true) (m3 : isD (lnsOf hs) ⟨fl, fa⟩ = true) (c4 : (bits .andNot .i64 on 15 == 0) = false) :
    Calls Tryz.prog 21 #[.agg #[.slice A n c, .int .i64 al, .int .i64 aa, .int .i64 fl, .int .i64 fa, .int .i64 on, .int .i64 off]] w (IsBool false w) := by
  subst hn
  have D0 := hid h2
  have L0 := hid h1
  have K := hid (KG.start w [⟨hs, A, false⟩] (by simpa using hd.live))
  have T := hid hT
  have FI := hid hf
  have H2 := hid h2
  have M1 := hid m1
  have M2 := hid m2
  have M3 := hid m3
  clear hd h2 hT hf m1 m2 m3
  go_enter Tryz.func21, Tryz.ntmps21
  go_wp2_with (first
    | go_big_skip
    | ((with_reducible show wpList _ _ _ _ _ _); refine kgBox (by rfl) 26 _ (by rfl) (some 1) (by rfl) (by rfl) [_, _, _, _, _, _, _] (by rfl) K ?_; intro g1 V1 K1; clear K; (have K := K1); clear K1)
    | ((with_reducible show wpList _ _ _ _ _ _); refine kgLoad1 (by rfl) 22 _ (by rfl) _ Tryz.underlying22 rfl K (by rfl) (by repeat (first | exact List.mem_cons_self | refine List.mem_cons_of_mem _ ?_)) (by rfl) ?_)
    | ((with_reducible show wpList _ _ _ _ _ _); refine kgLoadA (by rfl) 24 _ (by rfl) 2 _ Tryz.underlying24 rfl (by kernel_rfl) K (by rfl) (by repeat (first | exact List.mem_cons_self | refine List.mem_cons_of_mem _ ?_)) (part := [_, _]) (by rfl) (by rfl) ?_)
    | ((with_reducible show wpList _ _ _ _ _ _); refine kgLoad1 (by rfl) 3 _ (by rfl) _ Tryz.underlying3 rfl K (by rfl) (by repeat (first | exact List.mem_cons_self | refine List.mem_cons_of_mem _ ?_)) (by rfl) ?_)
    | (go_at_call 36; (with_reducible refine (dMay_any hs A _ c _ rfl _ (K.out.at_ (d := ⟨hs, A, false⟩) (by simp)) h1 H2.out FI.out (Utf8Tabs_below T.out K.out.b)).mono ?_); rintro e W2 ⟨rfl, hb⟩; rw [M1.out]; (have K2 := hid (K.out.later hb)); clear hb K; (have K := K2); clear K2)
    | (go_at_call 37; (with_reducible refine (dIs_any hs A _ c _ rfl _ (K.out.at_ (d := ⟨hs, A, false⟩) (by simp)) al aa).mono ?_); rintro e W3 ⟨rfl, hb⟩; rw [M2.out]; (have K2 := hid (K.out.later hb)); clear hb K; (have K := K2); clear K2)
    | (go_at_call 37; (with_reducible refine (dIs_any hs A _ c _ rfl _ (K.out.at_ (d := ⟨hs, A, false⟩) (by simp)) fl fa).mono ?_); rintro e W4 ⟨rfl, hb⟩; rw [M3.out]; (have K2 := hid (K.out.later hb)); clear hb K; (have K := K2); clear K2))
  go_ret
  exact ⟨rfl, K.out.b⟩
set_option maxRecDepth 100000 in
set_option maxHeartbeats 8000000 in
theorem tMay_4 (hs : List Hd) (A : Option Addr) (n c C : Nat) (hn : n = hs.length) (w : World) (hd : DocAt w C A hs) (h1 : hs.length ≤ 1000) (h2 : ∀ h ∈ hs, h.l.ls.length ≤ 1000000 ∧ h.l.cs.length ≤ 1000000) (hf : ∀ h ∈ hs, FineC h.l.cs) (hT : Tb w) (al aa fl fa on off : Int) (m1 : mayD (lnsOf hs) = true) (m2 : isD (lnsOf hs) ⟨al, aa⟩ = true) (m3 : isD (lnsOf hs) ⟨fl, fa⟩ = true) (c4 : (bits .andNot .i64 on 15 == 0) = true) (c5 : (bits .andNot .i64 off 15 == 0) = false) :
    Calls Tryz.prog 21 #[.agg #[.slice A n c, .int .i64 al, .int .i64 aa, .int .i64 fl, .int .i64 fa, .int .i64 on, .int .i64 off]] w (IsBool false w) := by
  subst hn
  have D0 := hid h2
  have L0 := hid h1
  have K := hid (KG.start w [⟨hs, A, false⟩] (by simpa using hd.live))
  have T := hid hT
  have FI := hid hf
  have H2 := hid h2
  have M1 := hid m1
  have M2 := hid m2
  have M3 := hid m3
  clear hd h2 hT hf m1 m2 m3
  go_enter Tryz.func21, Tryz.ntmps21
  go_wp2_with (first
    | go_big_skip
    | ((with_reducible show wpList _ _ _ _ _ _); refine kgBox (by rfl) 26 _ (by rfl) (some 1) (by rfl) (by rfl) [_, _, _, _, _, _, _] (by rfl) K ?_; intro g1 V1 K1; clear K; (have K := K1); clear K1)
    | ((with_reducible show wpList _ _ _ _ _ _); refine kgLoad1 (by rfl) 22 _ (by rfl) _ Tryz.underlying22 rfl K (by rfl) (by repeat (first | exact List.mem_cons_self | refine List.mem_cons_of_mem _ ?_)) (by rfl) ?_)
    | ((with_reducible show wpList _ _ _ _ _ _); refine kgLoadA (by rfl) 24 _ (by rfl) 2 _ Tryz.underlying24 rfl (by kernel_rfl) K (by rfl) (by repeat (first | exact List.mem_cons_self | refine List.mem_cons_of_mem _ ?_)) (part := [_, _]) (by rfl) (by rfl) ?_)
    | ((with_reducible show wpList _ _ _ _ _ _); refine kgLoad1 (by rfl) 3 _ (by rfl) _ Tryz.underlying3 rfl K (by rfl) (by repeat (first | exact List.mem_cons_self | refine List.mem_cons_of_mem _ ?_)) (by rfl) ?_)
    | (go_at_call 36; (with_reducible refine (dMay_any hs A _ c _ rfl _ (K.out.at_ (d := ⟨hs, A, false⟩) (by simp)) h1 H2.out FI.out (Utf8Tabs_below T.out K.out.b)).mono ?_); rintro e W2 ⟨rfl, hb⟩; rw [M1.out]; (have K2 := hid (K.out.later hb)); clear hb K; (have K := K2); clear K2)
    | (go_at_call 37; (with_reducible refine (dIs_any hs A _ c _ rfl _ (K.out.at_ (d := ⟨hs, A, false⟩) (by simp)) al aa).mono ?_); rintro e W3 ⟨rfl, hb⟩; rw [M2.out]; (have K2 := hid (K.out.later hb)); clear hb K; (have K := K2); clear K2)
    | (go_at_call 37; (with_reducible refine (dIs_any hs A _ c _ rfl _ (K.out.at_ (d := ⟨hs, A, false⟩) (by simp)) fl fa).mono ?_); rintro e W4 ⟨rfl, hb⟩; rw [M3.out]; (have K2 := hid (K.out.later hb)); clear hb K; (have K := K2); clear K2))
  go_ret
  exact ⟨rfl, K.out.b⟩
set_option maxRecDepth 100000 in
set_option maxHeartbeats 8000000 in
theorem tMay_5 (hs : List Hd) (A : Option Addr) (n c C : Nat) (hn : n = hs.length) (w : World) (hd : DocAt w C A hs) (h1 : hs.length ≤ 1000) (h2 : ∀ h ∈ hs, h.l.ls.length ≤ 1000000 ∧ h.l.cs.length ≤ 1000000) (hf : ∀ h ∈ hs, FineC h.l.cs) (hT : Tb w) (al aa fl fa on off : Int) (m1 : mayD (lnsOf hs) = true) (m2 : isD (lnsOf hs) ⟨al, aa⟩ = true) (m3 : isD (lnsOf hs) ⟨fl, fa⟩ = true) (c4 : (bits .andNot .i64 on 15 == 0) = true) (c5 : (bits .andNot .i64 off 15 == 0) = true) (c6 : (bits .and .i64 on off == 0) = false) :
    Calls Tryz.prog 21 #[.agg #[.slice A n c, .int .i64 al, .int .i64 aa, .int .i64 fl, .int .i64 fa, .int .i64 on, .int .i64 off]] w (IsBool false w) := by
  subst hn
  have D0 := hid h2
  have L0 := hid h1
  have K := hid (KG.start w [⟨hs, A, false⟩] (by simpa using hd.live))
  have T := hid hT
  have FI := hid hf
  have H2 := hid h2
  have M1 := hid m1
  have M2 := hid m2
  have M3 := hid m3
  clear hd h2 hT hf m1 m2 m3
  go_enter Tryz.func21, Tryz.ntmps21
  go_wp2_with (first
    | go_big_skip
    | ((with_reducible show wpList _ _ _ _ _ _); refine kgBox (by rfl) 26 _ (by rfl) (some 1) (by rfl) (by rfl) [_, _, _, _, _, _, _] (by rfl) K ?_; intro g1 V1 K1; clear K; (have K := K1); clear K1)
    | ((with_reducible show wpList _ _ _ _ _ _); refine kgLoad1 (by rfl) 22 _ (by rfl) _ Tryz.underlying22 rfl K (by rfl) (by repeat (first | exact List.mem_cons_self | refine List.mem_cons_of_mem _ ?_)) (by rfl) ?_)
    | ((with_reducible show wpList _ _ _ _ _ _); refine kgLoadA (by rfl) 24 _ (by rfl) 2 _ Tryz.underlying24 rfl (by kernel_rfl) K (by rfl) (by repeat (first | exact List.mem_cons_self | refine List.mem_cons_of_mem _ ?_)) (part := [_, _]) (by rfl) (by rfl) ?_)
    | ((with_reducible show wpList _ _ _ _ _ _); refine kgLoad1 (by rfl) 3 _ (by rfl) _ Tryz.underlying3 rfl K (by rfl) (by repeat (first | exact List.mem_cons_self | refine List.mem_cons_of_mem _ ?_)) (by rfl) ?_)
    | (go_at_call 36; (with_reducible refine (dMay_any hs A _ c _ rfl _ (K.out.at_ (d := ⟨hs, A, false⟩) (by simp)) h1 H2.out FI.out (Utf8Tabs_below T.out K.out.b)).mono ?_); rintro e W2 ⟨rfl, hb⟩; rw [M1.out]; (have K2 := hid (K.out.later hb)); clear hb K; (have K := K2); clear K2)
    | (go_at_call 37; (with_reducible refine (dIs_any hs A _ c _ rfl _ (K.out.at_ (d := ⟨hs, A, false⟩) (by simp)) al aa).mono ?_); rintro e W3 ⟨rfl, hb⟩; rw [M2.out]; (have K2 := hid (K.out.later hb)); clear hb K; (have K := K2); clear K2)
    | (go_at_call 37; (with_reducible refine (dIs_any hs A _ c _ rfl _ (K.out.at_ (d := ⟨hs, A, false⟩) (by simp)) fl fa).mono ?_); rintro e W4 ⟨rfl, hb⟩; rw [M3.out]; (have K2 := hid (K.out.later hb)); clear hb K; (have K := K2); clear K2))
  go_ret
  exact ⟨rfl, K.out.b⟩
set_option maxRecDepth 100000 in
set_option maxHeartbeats 8000000 in
theorem tMay_6 (hs : List Hd) (A : Option Addr) (n c C : Nat) (hn : n = hs.length) (w : World) (hd : DocAt w C A hs) (h1 : hs.length ≤ 1000) (h2 : ∀ h ∈ hs, h.l.ls.length ≤ 1000000 ∧ h.l.cs.length ≤ 1000000) (hf : ∀ h ∈ hs, FineC h.l.cs) (hT : Tb w) (al aa fl fa on off : Int) (m1 : mayD (lnsOf hs) = true) (m2 : isD (lnsOf hs) ⟨al, aa⟩ = true) (m3 : isD (lnsOf hs) ⟨fl, fa⟩ = true) (c4 : (bits .andNot .i64 on 15 == 0) = true) (c5 : (bits .andNot .i64 off 15 == 0) = true) (c6 : (bits .and .i64 on off == 0) = true) :
    Calls Tryz.prog 21 #[.agg #[.slice A n c, .int .i64 al, .int .i64 aa, .int .i64 fl, .int .i64 fa, .int .i64 on, .int .i64 off]] w (IsBool true w) := by
  subst hn
  have D0 := hid h2
  have L0 := hid h1
  have K := hid (KG.start w [⟨hs, A, false⟩] (by simpa using hd.live))
  have T := hid hT
  have FI := hid hf
  have H2 := hid h2
  have M1 := hid m1
  have M2 := hid m2
  have M3 := hid m3
  clear hd h2 hT hf m1 m2 m3
  go_enter Tryz.func21, Tryz.ntmps21
  go_wp2_with (first
    | go_big_skip
    | ((with_reducible show wpList _ _ _ _ _ _); refine kgBox (by rfl) 26 _ (by rfl) (some 1) (by rfl) (by rfl) [_, _, _, _, _, _, _] (by rfl) K ?_; intro g1 V1 K1; clear K; (have K := K1); clear K1)
    | ((with_reducible show wpList _ _ _ _ _ _); refine kgLoad1 (by rfl) 22 _ (by rfl) _ Tryz.underlying22 rfl K (by rfl) (by repeat (first | exact List.mem_cons_self | refine List.mem_cons_of_mem _ ?_)) (by rfl) ?_)
    | ((with_reducible show wpList _ _ _ _ _ _); refine kgLoadA (by rfl) 24 _ (by rfl) 2 _ Tryz.underlying24 rfl (by kernel_rfl) K (by rfl) (by repeat (first | exact List.mem_cons_self | refine List.mem_cons_of_mem _ ?_)) (part := [_, _]) (by rfl) (by rfl) ?_)
    | ((with_reducible show wpList _ _ _ _ _ _); refine kgLoad1 (by rfl) 3 _ (by rfl) _ Tryz.underlying3 rfl K (by rfl) (by repeat (first | exact List.mem_cons_self | refine List.mem_cons_of_mem _ ?_)) (by rfl) ?_)
    | (go_at_call 36; (with_reducible refine (dMay_any hs A _ c _ rfl _ (K.out.at_ (d := ⟨hs, A, false⟩) (by simp)) h1 H2.out FI.out (Utf8Tabs_below T.out K.out.b)).mono ?_); rintro e W2 ⟨rfl, hb⟩; rw [M1.out]; (have K2 := hid (K.out.later hb)); clear hb K; (have K := K2); clear K2)
    | (go_at_call 37; (with_reducible refine (dIs_any hs A _ c _ rfl _ (K.out.at_ (d := ⟨hs, A, false⟩) (by simp)) al aa).mono ?_); rintro e W3 ⟨rfl, hb⟩; rw [M2.out]; (have K2 := hid (K.out.later hb)); clear hb K; (have K := K2); clear K2)
    | (go_at_call 37; (with_reducible refine (dIs_any hs A _ c _ rfl _ (K.out.at_ (d := ⟨hs, A, false⟩) (by simp)) fl fa).mono ?_); rintro e W4 ⟨rfl, hb⟩; rw [M3.out]; (have K2 := hid (K.out.later hb)); clear hb K; (have K := K2); clear K2))
  go_ret
  exact ⟨rfl, K.out.b⟩
end Go.Proofs.YtblbfoniimnkcaaGreatDoor

/- typing.May: its answer, whatever the state. -/
namespace Go.Proofs.YtblbfoniimnkcaaGreatDoor
open Go.RowKit Go.Lib

theorem tMay_any (hs : List Hd) (A : Option Addr) (n c C : Nat) (hn : n = hs.length) (w : World) (hd : DocAt w C A hs) (h1 : hs.length ≤ 1000) (h2 : ∀ h ∈ hs, h.l.ls.length ≤ 1000000 ∧ h.l.cs.length ≤ 1000000) (hf : ∀ h ∈ hs, FineC h.l.cs) (hT : Tb w) (al aa fl fa on off : Int) :
    Calls Tryz.prog 21 #[.agg #[.slice A n c, .int .i64 al, .int .i64 aa, .int .i64 fl, .int .i64 fa, .int .i64 on, .int .i64 off]] w (IsBool (mayS ⟨lnsOf hs, ⟨al, aa⟩, ⟨fl, fa⟩, on, off⟩) w) := by
  unfold mayS bitsOk
  dsimp only
  cases m1 : mayD (lnsOf hs) with
  | false => exact tMay_0 hs A n c C hn w hd h1 h2 hf hT al aa fl fa on off m1
  | true =>
    cases m2 : isD (lnsOf hs) ⟨al, aa⟩ with
    | false => exact tMay_1 hs A n c C hn w hd h1 h2 hf hT al aa fl fa on off m1 m2
    | true =>
      cases m3 : isD (lnsOf hs) ⟨fl, fa⟩ with
      | false => exact tMay_2 hs A n c C hn w hd h1 h2 hf hT al aa fl fa on off m1 m2 m3
      | true =>
        by_cases c4 : bits .andNot .i64 on 15 = 0
        · by_cases c5 : bits .andNot .i64 off 15 = 0
          · by_cases c6 : bits .and .i64 on off = 0
            · rw [decide_eq_true c4, decide_eq_true c5, decide_eq_true c6]
              exact tMay_6 hs A n c C hn w hd h1 h2 hf hT al aa fl fa on off m1 m2 m3 (beq_iff_eq.2 c4) (beq_iff_eq.2 c5) (beq_iff_eq.2 c6)
            · rw [decide_eq_true c4, decide_eq_true c5, decide_eq_false c6]
              exact tMay_5 hs A n c C hn w hd h1 h2 hf hT al aa fl fa on off m1 m2 m3 (beq_iff_eq.2 c4) (beq_iff_eq.2 c5) (beq_eq_false_iff_ne.2 c6)
          · rw [decide_eq_true c4, decide_eq_false c5]
            exact tMay_4 hs A n c C hn w hd h1 h2 hf hT al aa fl fa on off m1 m2 m3 (beq_iff_eq.2 c4) (beq_eq_false_iff_ne.2 c5)
        · rw [decide_eq_false c4]
          exact tMay_3 hs A n c C hn w hd h1 h2 hf hT al aa fl fa on off m1 m2 m3 (beq_eq_false_iff_ne.2 c4)
end Go.Proofs.YtblbfoniimnkcaaGreatDoor
