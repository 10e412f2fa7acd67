/- The walk of the law CellsCuts: whatever the two rows and the places, it answers true. -/
import Derived.Test.YtgpccjmkghpiiaaCuts4
import Derived.Test.YtgpccjmkghpiiaaOpenCap
namespace Go.Proofs.Ytgpccjmkghpiiaa
open Go.RowKit

set_option maxRecDepth 100000 in
set_option maxHeartbeats 8000000 in
theorem lawCuts_any (A M : Option Addr) (cs ms : List Cl) (n c B m cm D : Nat) (hn : n = cs.length) (hm : m = ms.length) (f t : Int) (w : World) (hA : SlAt encC 3 w B A cs) (hM : SlAt encC 3 w D M ms) (hl : cs.length ≤ maxLen) (hh : ∀ x ∈ cs, x.h.size ≤ maxLen) (hl2 : ms.length ≤ maxLen) (hh2 : ∀ x ∈ ms, x.h.size ≤ maxLen) (hc : cs.length ≤ c) :
    Calls Try.prog 6 #[.slice A n c, .slice M m cm, .int .i64 f, .int .i64 t] w (RetBelow (.bool true) w) := by
  subst hn hm
  have hlong := hid (fun W B h => long_any A cs cs.length c B rfl W h hl hh)
  have hlong2 := hid (fun W B h => long_any M ms ms.length cm B rfl W h hl2 hh2)
  by_cases hbig : 20000 < heft cs
  · have hd : decide (20000 < heft cs) = true := decide_eq_true hbig
    clear hbig hl hh hl2 hh2 hc
    go_enter Try.func6, Try.ntmps6
    go_wp2_with (first
      | (go_at_call 13; (with_reducible refine (hlong.out _ _ hA).mono ?_); rintro e w' ⟨rfl, rfl⟩)
      | (go_at_call 9; refine (awake5_any _).mono ?_; rintro e W1 ⟨rfl, hb1⟩))
    go_ret
    exact ⟨rfl, hb1⟩
  · have hd : decide (20000 < heft cs) = false := decide_eq_false hbig
    by_cases hbig2 : 20000 < heft ms
    · have hd2 : decide (20000 < heft ms) = true := decide_eq_true hbig2
      clear hbig hbig2 hl hh hl2 hh2 hc
      go_enter Try.func6, Try.ntmps6
      go_wp2_with (first
        | (go_at_call 13; (with_reducible refine (hlong.out _ _ hA).mono ?_); rintro e w' ⟨rfl, rfl⟩)
        | (go_at_call 13; (with_reducible refine (hlong2.out _ _ hM).mono ?_); rintro e w' ⟨rfl, rfl⟩)
        | (go_at_call 9; refine (awake5_any _).mono ?_; rintro e W1 ⟨rfl, hb1⟩))
      go_ret
      exact ⟨rfl, hb1⟩
    · have hd2 : decide (20000 < heft ms) = false := decide_eq_false hbig2
      have hlen : cs.length ≤ 20000 := by unfold heft at hbig; omega
      have hlen2 : ms.length ≤ 20000 := by unfold heft at hbig2; omega
      clear hbig hbig2 hl hh hl2 hh2
      have hS := hA.live (fun _ => by rw [encC_len]; omega)
      have hMS := hM.live (fun _ => by rw [encC_len]; omega)
      clear hA hM
      have HO := hid (fun W B h => refOwn_any A cs cs.length c B rfl W h (by omega))
      have HO2 := hid (fun W B h => refOwn_any M ms ms.length cm B rfl W h (by omega))
      have HIn := hid (fun W B D h h2 => insert_any A cs cs.length c B rfl f W h (by omega) hc M ms ms.length cm D rfl h2 (by omega))
      have HIr := hid (fun W A' n' c' B M' m' cm' D hn hm hc' h h2 => refInsert_any A' cs n' c' B hn f W h (by omega) hc' M' ms m' cm' D hm h2 (by omega))
      have HCu := hid (fun W B h => cut_any A cs cs.length c B rfl f t W h (by omega) hc)
      have HCr := hid (fun W A' n' c' B hn hc' h => refCut_any A' cs n' c' B hn f t W h (by omega) hc')
      have HPa := hid (fun W B h => part_any A cs cs.length c B rfl f t W h (by omega) hc)
      have HPr := hid (fun W A' n' c' B hn hc' h => refPart_any A' cs n' c' B hn f t W h (by omega) hc')
      have X1l := length_insL cs f ms
      have X2l := length_cutL cs f t
      have X3l := length_partL cs f t
      obtain ⟨X1, hX1⟩ : ∃ X, X = insL cs f ms := ⟨_, rfl⟩
      obtain ⟨X2, hX2⟩ : ∃ X, X = cutL cs f t := ⟨_, rfl⟩
      obtain ⟨X3, hX3⟩ : ∃ X, X = partL cs f t := ⟨_, rfl⟩
      obtain ⟨E1, hE1⟩ : ∃ E, E = errI cs.length f f := ⟨_, rfl⟩
      obtain ⟨E2, hE2⟩ : ∃ E, E = errI cs.length f t := ⟨_, rfl⟩
      rw [← hX1] at X1l HIn HIr
      rw [← hX2] at X2l HCu HCr
      rw [← hX3] at X3l HPa HPr
      rw [← hE1] at HIn HIr
      rw [← hE2] at HCu HCr HPa HPr
      clear hX1 hX2 hX3 hE1 hE2
      have hX1 := hid (show X1.length ≤ 1000000000 from by omega)
      have hX2 := hid (show X2.length ≤ 1000000000 from by omega)
      have hX3 := hid (show X3.length ≤ 1000000000 from by omega)
      clear X1l X2l X3l hc
      go_enter Try.func6, Try.ntmps6
      go_wp2_with (first
        | (go_at_call 13; (with_reducible refine (hlong.out _ _ hS).mono ?_); rintro e w' ⟨rfl, rfl⟩)
        | (go_at_call 13; (with_reducible refine (hlong2.out _ _ hMS).mono ?_); rintro e w' ⟨rfl, rfl⟩)
        | (go_at_call 16; (with_reducible refine (HO.out _ _ hS).mono ?_); rintro e W1 ⟨v1, rfl, ho1, hb1⟩; obtain ⟨A1, n1, c1, rfl, hn1, hc1, hS1⟩ := ho1.shapeS encC_len)
        | (go_at_call 16; (with_reducible refine (HO2.out _ _ (hMS.below hb1)).mono ?_); rintro e W2 ⟨v2, rfl, ho2, hb2⟩; obtain ⟨A2, n2, c2, rfl, hn2, hc2, hS2⟩ := ho2.shapeS encC_len; have hb12 := hb1.trans (hb2.mono hb1.size))
        | (go_at_call 17; (with_reducible refine (HIn.out _ _ _ (hS.below hb12) (hMS.below hb12)).mono ?_); rintro e W3 ⟨v3, rfl, ho3, hb3⟩; obtain ⟨A3, n3, c3, rfl, hn3, hc3, hS3⟩ := ho3.shapeS encC_len)
        | (go_at_call 18; have hb13 := hb12.trans (hb3.mono hb12.size); have hS1' := hS1.below (hb2.trans (hb3.mono hb2.size)); (with_reducible refine (HIr.out _ _ _ _ _ _ _ _ _ hn1.out hn2.out hc1.out hS1' (hS2.below hb3)).mono ?_); rintro e W4 ⟨v4, rfl, ho4, hb4⟩; obtain ⟨A4, n4, c4, rfl, hn4, hc4, hS4⟩ := ho4.shapeS encC_len; have hb14 := hb13.trans (hb4.mono hb13.size))
        | (go_at_call 19; (with_reducible refine (HCu.out _ _ (hS.below hb14)).mono ?_); rintro e W5 ⟨v5, rfl, ho5, hb5⟩; obtain ⟨A5, n5, c5, rfl, hn5, hc5, hS5⟩ := ho5.shapeS encC_len; have hb15 := hb14.trans (hb5.mono hb14.size); have hS1'' := (hS1'.belowM hb4 (Nat.le_trans hb2.size hb3.size)).belowM hb5 (Nat.le_trans hb2.size (Nat.le_trans hb3.size hb4.size)))
        | (go_at_call 20; (with_reducible refine (HCr.out _ _ _ _ _ hn1.out hc1.out hS1'').mono ?_); rintro e W6 ⟨v6, rfl, ho6, hb6⟩; obtain ⟨A6, n6, c6, rfl, hn6, hc6, hS6⟩ := ho6.shapeS encC_len; have hb16 := hb15.trans (hb6.mono hb15.size))
        | (go_at_call 21; (with_reducible refine (HPa.out _ _ (hS.below hb16)).mono ?_); rintro e W7 ⟨v7, rfl, ho7, hb7⟩; obtain ⟨A7, n7, c7, rfl, hn7, hc7, hS7⟩ := ho7.shapeS encC_len; have hb17 := hb16.trans (hb7.mono hb16.size); have hS1x := (hS1''.belowM hb6 (Nat.le_trans hb2.size (Nat.le_trans hb3.size (Nat.le_trans hb4.size hb5.size)))).belowM hb7 (Nat.le_trans hb2.size (Nat.le_trans hb3.size (Nat.le_trans hb4.size (Nat.le_trans hb5.size hb6.size)))))
        | (go_at_call 22; (with_reducible refine (HPr.out _ _ _ _ _ hn1.out hc1.out hS1x).mono ?_); rintro e W8 ⟨v8, rfl, ho8, hb8⟩; obtain ⟨A8, n8, c8, rfl, hn8, hc8, hS8⟩ := ho8.shapeS encC_len; have B68 := hb7.trans (hb8.mono hb7.size); have B58 := hb6.trans (B68.mono hb6.size); have B48 := hb5.trans (B58.mono hb5.size); have B38 := hb4.trans (B48.mono hb4.size); have B28 := hb3.trans (B38.mono hb3.size); have B18 := hb2.trans (B28.mono hb2.size); have B08 := hb1.trans (B18.mono hb1.size); have S38 := hS3.below B38; have S48 := hS4.below B48; have S58 := hS5.below B58; have S68 := hS6.below B68; have S78 := hS7.below hb8; have S18 := hS1.below B18; have S28 := hS2.below B28; have S08 := hS.below B08; have SM8 := hMS.below B08; have O38 := ho3.later B38; have O58 := ho5.later B58; have O78 := ho7.later hb8)
        | (go_at_call 10; (with_reducible refine (refSame_self A3 A4 X1 n3 n4 c3 c4 _ _ hn3.out hn4.out _ S38 S48 hX1.out).mono ?_); rintro e w' ⟨rfl, q1, rfl⟩)
        | (go_at_call 10; (with_reducible refine (refSame_self A3 A4 X1 n3 n4 c3 c4 _ _ hn3.out hn4.out _ (S38.drewN _) (S48.drewN _) hX1.out).mono ?_); rintro e w' ⟨rfl, q1, rfl⟩)
        | (go_at_call 10; (with_reducible refine (refSame_self A5 A6 X2 n5 n6 c5 c6 _ _ hn5.out hn6.out _ S58 S68 hX2.out).mono ?_); rintro e w' ⟨rfl, q2, rfl⟩)
        | (go_at_call 10; (with_reducible refine (refSame_self A5 A6 X2 n5 n6 c5 c6 _ _ hn5.out hn6.out _ (S58.drewN _) (S68.drewN _) hX2.out).mono ?_); rintro e w' ⟨rfl, q2, rfl⟩)
        | (go_at_call 10; (with_reducible refine (refSame_self A7 A8 X3 n7 n8 c7 c8 _ _ hn7.out hn8.out _ S78 hS8 hX3.out).mono ?_); rintro e w' ⟨rfl, q3, rfl⟩)
        | (go_at_call 10; (with_reducible refine (refSame_self A7 A8 X3 n7 n8 c7 c8 _ _ hn7.out hn8.out _ (S78.drewN _) (hS8.drewN _) hX3.out).mono ?_); rintro e w' ⟨rfl, q3, rfl⟩)
        | (go_at_call 23; (with_reducible refine (spoil_any A3 n3 c3 W2.heap.size X1 _ (O38.drewN _) hn3.out hX1.out).mono ?_); rintro e W9 ⟨rfl, hg9⟩; have bb9 : Below W2.heap.size W8 W9 := (below_drewN (Below.refl _ W8) _).grown hg9 B28.size (fun g hr => (ho3.lt g hr).1); have O59 := (O58.drewN _).besides hg9 (fun g hr => Nat.lt_of_lt_of_le (ho3.lt g hr).2 hb4.size); have O79 := (O78.drewN _).besides hg9 (fun g hr => Nat.lt_of_lt_of_le (ho3.lt g hr).2 (Nat.le_trans hb4.size (Nat.le_trans hb5.size hb6.size))))
        | (go_at_call 23; (with_reducible refine (spoil_any A5 n5 c5 W4.heap.size X2 _ O59 hn5.out hX2.out).mono ?_); rintro e W10 ⟨rfl, hg10⟩; have bb10 : Below W2.heap.size W8 W10 := bb9.grown hg10 (Nat.le_trans B28.size bb9.size) (fun g hr => Nat.le_trans (Nat.le_trans hb3.size hb4.size) (ho5.lt g hr).1); have O710 := O79.besides hg10 (fun g hr => Nat.lt_of_lt_of_le (ho5.lt g hr).2 hb6.size))
        | (go_at_call 23; (with_reducible refine (spoil_any A7 n7 c7 W6.heap.size X3 _ O710 hn7.out hX3.out).mono ?_); rintro e W11 ⟨rfl, hg11⟩; have bb11 : Below W2.heap.size W8 W11 := bb10.grown hg11 (Nat.le_trans B28.size bb10.size) (fun g hr => Nat.le_trans (Nat.le_trans hb3.size (Nat.le_trans hb4.size (Nat.le_trans hb5.size hb6.size))) (ho7.lt g hr).1); have T0 := S08.belowM bb11 hb12.size; have TM := SM8.belowM bb11 hb12.size; have T1 := S18.belowM bb11 hb2.size; have T2 := S28.below bb11)
        | (go_at_call 10; (with_reducible refine (refSame_self A A1 cs cs.length n1 c c1 _ _ rfl hn1.out _ T0 T1 (by omega)).mono ?_); rintro e w' ⟨rfl, q4, rfl⟩)
        | (go_at_call 10; (with_reducible refine (refSame_self A A1 cs cs.length n1 c c1 _ _ rfl hn1.out _ (T0.drewN _) (T1.drewN _) (by omega)).mono ?_); rintro e w' ⟨rfl, q4, rfl⟩)
        | (go_at_call 10; (with_reducible refine (refSame_self M A2 ms ms.length n2 cm c2 _ _ rfl hn2.out _ TM T2 (by omega)).mono ?_); rintro e w' ⟨rfl, q5, rfl⟩)
        | (go_at_call 10; (with_reducible refine (refSame_self M A2 ms ms.length n2 cm c2 _ _ rfl hn2.out _ (TM.drewN _) (T2.drewN _) (by omega)).mono ?_); rintro e w' ⟨rfl, q5, rfl⟩)
        | (go_at_call 9; refine (awake5_any _).mono ?_; rintro e W12 ⟨rfl, hb99⟩))
      go_ret
      exact ⟨rfl, (B08.trans (bb11.mono hb12.size)).trans ((below_drewN (Below.refl _ W11) _).trans (hb99.mono (Nat.le_trans B08.size bb11.size)))⟩

theorem lawCuts_in {A M : Option Addr} {n c m cm : Nat} {cs ms : List Cl} (w : World) (h : CellsIn w A n cs) (hc : n ≤ c) (h2 : CellsIn w M m ms) (f : Int) (_ : (Lit.int .i64 f).wf = true) (t : Int) (_ : (Lit.int .i64 t).wf = true) :
    Calls Try.prog 6 #[.slice A n c, .slice M m cm, .int .i64 f, .int .i64 t] w (RetBelow (.bool true) w) :=
  lawCuts_any A M cs ms n c _ m cm _ h.len h2.len f t w h.at_ h2.at_ h.le h.size h2.le h2.size (by rw [← h.len]; exact hc)
end Go.Proofs.Ytgpccjmkghpiiaa
