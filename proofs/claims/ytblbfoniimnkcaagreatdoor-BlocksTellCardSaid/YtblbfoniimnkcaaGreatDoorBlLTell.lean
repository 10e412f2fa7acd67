/- The walk of the law BlocksTell: it answers true. (Printed by wip/bldoc.py.) -/
import Derived.Test.YtblbfoniimnkcaaGreatDoorBgPl
import Derived.Test.YtblbfoniimnkcaaGreatDoorBlAwake
import Derived.Test.YtblbfoniimnkcaaGreatDoorDocLong
import Derived.Test.YtblbfoniimnkcaaGreatDoorRTell
import Derived.Test.YtblbfoniimnkcaaGreatDoorBgOpen
import Derived.BigQuiet
import Derived.Deep.QuietTactic
namespace Go.Proofs.YtblbfoniimnkcaaGreatDoor
open Go.RowKit Go.Lib

set_option maxRecDepth 100000 in
set_option maxHeartbeats 32000000 in
theorem blocksTell_walk (w : World) {s : Stt} {hs : List Hd} {A : Option Addr} {n c : Nat} (hS : StateIn w s hs A n c) (kind : Int) (_ : (Lit.int .i64 kind).wf = true) (hT : Tb w) :
    Calls Tryz.prog 3 #[stV s A n c, .int .i64 kind] w fun e w' => e = .returned (.bool true) ∧ Below w.heap.size w w' := by
  obtain ⟨d, ⟨al, aa⟩, ⟨fl, fa⟩, on, off⟩ := s
  obtain rfl : d = lnsOf hs := hS.d
  have BG := hid hS.big
  obtain rfl : n = hs.length := hS.doc.len
  have K := hid (KG.start w [⟨hs, A, false⟩] (by simpa using hS.doc.at_))
  have T := hid hT
  clear hT
  unfold stV
  dsimp only
  have WFA := hid (show (Lit.int .i64 on).wf = true from hS.w5)
  have WFB := hid (show (Lit.int .i64 off).wf = true from hS.w6)
  cases hb : longD (lnsOf hs) with
  | true =>
    have HL := hid hb
    clear hb hS
    go_enter Tryz.func3, Tryz.ntmps3
    go_wp2_with (first
      | go_big_skip
      | ((with_reducible show wpList _ _ _ _ _ _); refine kgBox (by rfl) 26 _ (by rfl) (some 2) (by rfl) (by rfl) [_, _, _, _, _, _, _] (by rfl) K ?_; intro g2 V1 K1; clear K; (have K := K1); clear K1)
      | ((with_reducible show wpList _ _ _ _ _ _); refine kgLoadA (by rfl) 26 _ (by rfl) 7 _ Tryz.underlying26 rfl (by kernel_rfl) K (by rfl) (by repeat (first | exact List.mem_cons_self | refine List.mem_cons_of_mem _ ?_)) (part := [_, _, _, _, _, _, _]) (by rfl) (by rfl) ?_)
      | (go_at_call 5; (with_reducible refine (long25_any hs A _ c _ al aa fl fa on off rfl _ (K.out.at_ (d := ⟨hs, A, false⟩) (by simp)) BG.out.1 BG.out.2).mono ?_); rintro e W1 ⟨rfl, hb⟩; rw [HL.out]; (have K2 := hid (K.out.later hb)); clear hb K; (have K := K2); clear K2)
      | (go_at_call 6; (with_reducible refine (awake25_any _ (Utf8Tabs_below T.out K.out.b)).mono ?_); rintro e W9 ⟨rfl, hb⟩; (have K2 := hid (K.out.later hb)); clear hb K; (have K := K2); clear K2))
    go_ret
    exact ⟨rfl, K.out.b⟩
  | false =>
    have HL := hid hb
    obtain ⟨okd, hz⟩ := hS.ok hb
    obtain ⟨l0, h2, hf⟩ := OkD.hs rfl okd
    have L0 := hid l0
    have H2 := hid h2
    have FI := hid hf
    have OKD := hid okd
    clear hb l0 h2 hf okd hS
    have D0 := H2
    obtain ⟨⟨ki, kb⟩, hk⟩ : ∃ z, kindS ⟨lnsOf hs, ⟨al, aa⟩, ⟨fl, fa⟩, on, off⟩ = z := ⟨_, rfl⟩
    obtain ⟨⟨la, lb⟩, hl⟩ : ∃ z, listedS ⟨lnsOf hs, ⟨al, aa⟩, ⟨fl, fa⟩, on, off⟩ kind = z := ⟨_, rfl⟩
    have KK := hid hk
    have LL := hid hl
    clear hk hl
    go_enter Tryz.func3, Tryz.ntmps3
    go_wp2_with (first
      | go_big_skip
      | ((with_reducible show wpList _ _ _ _ _ _); refine kgBox (by rfl) 26 _ (by rfl) (some 2) (by rfl) (by rfl) [_, _, _, _, _, _, _] (by rfl) K ?_; intro g2 V1 K1; clear K; (have K := K1); clear K1)
      | ((with_reducible show wpList _ _ _ _ _ _); refine kgLoadA (by rfl) 26 _ (by rfl) 7 _ Tryz.underlying26 rfl (by kernel_rfl) K (by rfl) (by repeat (first | exact List.mem_cons_self | refine List.mem_cons_of_mem _ ?_)) (part := [_, _, _, _, _, _, _]) (by rfl) (by rfl) ?_)
      | (go_at_call 5; (with_reducible refine (long25_any hs A _ c _ al aa fl fa on off rfl _ (K.out.at_ (d := ⟨hs, A, false⟩) (by simp)) BG.out.1 BG.out.2).mono ?_); rintro e W1 ⟨rfl, hb⟩; rw [HL.out]; (have K2 := hid (K.out.later hb)); clear hb K; (have K := K2); clear K2)
      | (go_at_call 6; (with_reducible refine (awake25_any _ (Utf8Tabs_below T.out K.out.b)).mono ?_); rintro e W9 ⟨rfl, hb⟩; (have K2 := hid (K.out.later hb)); clear hb K; (have K := K2); clear K2)
      | (go_at_call 7; (with_reducible refine (bKind_any hs A _ c _ rfl _ (K.out.at_ (d := ⟨hs, A, false⟩) (by simp)) L0.out H2.out FI.out (Utf8Tabs_below T.out K.out.b) al aa fl fa on off).mono ?_); rintro e W3 ⟨rfl, hb⟩; rw [KK.out]; dsimp only; (have K2 := hid (K.out.later hb)); clear hb K; (have K := K2); clear K2)
      | (go_at_call 9; (with_reducible refine (bListed_any hs A _ c _ rfl _ (K.out.at_ (d := ⟨hs, A, false⟩) (by simp)) L0.out H2.out FI.out (Utf8Tabs_below T.out K.out.b) al aa fl fa on off _).mono ?_); rintro e W3 ⟨rfl, hb⟩; rw [LL.out]; dsimp only; (have K2 := hid (K.out.later hb)); clear hb K; (have K := K2); clear K2)
      | (go_at_call 8; (with_reducible refine (rKind25_any hs A _ c _ rfl _ (K.out.at_ (d := ⟨hs, A, false⟩) (by simp)) L0.out H2.out FI.out al aa fl fa on off WFA.out WFB.out).mono ?_); rintro e W3 ⟨rfl, hb⟩; rw [KK.out]; dsimp only; (have K2 := hid (K.out.later hb)); clear hb K; (have K := K2); clear K2)
      | (go_at_call 10; (with_reducible refine (rListed25_any hs A _ c _ rfl _ (K.out.at_ (d := ⟨hs, A, false⟩) (by simp)) L0.out H2.out FI.out al aa fl fa on off _ WFA.out WFB.out).mono ?_); rintro e W3 ⟨rfl, hb⟩; rw [LL.out]; dsimp only; (have K2 := hid (K.out.later hb)); clear hb K; (have K := K2); clear K2))
    go_ret
    exact ⟨rfl, K.out.b⟩
end Go.Proofs.YtblbfoniimnkcaaGreatDoor
