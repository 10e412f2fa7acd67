/- The walk of typing.Span. (Printed by wip/bldoc.py.) -/
import Derived.Test.YtblbfoniimnkcaaGreatDoorBgKg
import Derived.Test.YtblbfoniimnkcaaGreatDoorBgOpen
import Derived.Test.YtblbfoniimnkcaaGreatDoorBgCmp
import Derived.Test.YtblbfoniimnkcaaGreatDoorBgDr
import Derived.RegionTactic
import Derived.BigQuiet
import Derived.Deep.QuietTactic
namespace Go.Proofs.YtblbfoniimnkcaaGreatDoor
open Go.RowKit Go.Lib

def psV (p : Ps) : Value := .agg #[.int .i64 p.l, .int .i64 p.a]
set_option maxRecDepth 100000 in
set_option maxHeartbeats 8000000 in
theorem tSpan_any (d : List Ln) (A : Option Addr) (n c : Nat) (al aa fl fa on off : Int) (w : World) :
    Calls Tryz.prog 39 #[.agg #[.slice A n c, .int .i64 al, .int .i64 aa, .int .i64 fl, .int .i64 fa, .int .i64 on, .int .i64 off]] w (fun e w' => e = .returned (.tuple #[psV (fromS ⟨d, ⟨al, aa⟩, ⟨fl, fa⟩, on, off⟩), psV (toS ⟨d, ⟨al, aa⟩, ⟨fl, fa⟩, on, off⟩)]) ∧ Below w.heap.size w w') := by
  have K := hid (KG.start w [] (by simp))
  have E := cmpP_gt ⟨al, aa⟩ ⟨fl, fa⟩
  unfold fromS toS
  dsimp only
  rw [← E]
  clear E
  obtain ⟨z, hz⟩ : ∃ z, cmpP ⟨al, aa⟩ ⟨fl, fa⟩ = z := ⟨_, rfl⟩
  rw [hz]
  have HZ := hid hz
  clear hz
  by_cases h0 : 0 < z
  · rw [decide_eq_true h0]
    go_enter Tryz.func39, Tryz.ntmps39
    go_upto_region 2 with (first
      | go_big_skip
      | ((with_reducible show wpList _ _ _ _ _ _); refine kgBox (by rfl) 26 _ (by rfl) (some 1) (by rfl) (by rfl) [_, _, _, _, _, _, _] (by rfl) K ?_; intro g1 V1 K1; clear K; (have K := K1); clear K1)
      | ((with_reducible show wpList _ _ _ _ _ _); refine kgAlloc (by rfl) 24 (by rfl) (some 2) (by rfl) [.int .i64 0, .int .i64 0] (fun _ => by kernel_rfl) K ?_; intro g2 V1 K1; clear K; (have K := K1); clear K1)
      | ((with_reducible show wpList _ _ _ _ _ _); refine kgAlloc (by rfl) 24 (by rfl) (some 3) (by rfl) [.int .i64 0, .int .i64 0] (fun _ => by kernel_rfl) K ?_; intro g3 V1 K1; clear K; (have K := K1); clear K1)
      | ((with_reducible show wpList _ _ _ _ _ _); refine kgLoadA (by rfl) 24 _ (by rfl) 2 _ Tryz.underlying24 rfl (by kernel_rfl) K (by rfl) (by repeat (first | exact List.mem_cons_self | refine List.mem_cons_of_mem _ ?_)) (part := [_, _]) (by rfl) (by rfl) ?_)
      | (go_at_call 61; (with_reducible refine (dCmp_any _ _ _ _ _).mono ?_); rintro e W3 ⟨rfl, hb⟩; rw [HZ.out]; (have K2 := hid (K.out.later hb)); clear hb K; (have K := K2); clear K2))
    obtain ⟨J, hJ⟩ : ∃ J : (Nat → Bool) → World → Prop, J = fun b W => Hid (KG w W [⟨g3, 24, if b 5 then [.int .i64 al, .int .i64 aa] else [.int .i64 0, .int .i64 0]⟩, ⟨g2, 24, if b 4 then [.int .i64 fl, .int .i64 fa] else [.int .i64 0, .int .i64 0]⟩, ⟨g1, 26, [.slice A n c, .int .i64 al, .int .i64 aa, .int .i64 fl, .int .i64 fa, .int .i64 on, .int .i64 off]⟩] []) := ⟨_, rfl⟩
    replace hJ := hid hJ
    refine wp_drawn_det [.pointer (some ⟨g1, 3, none⟩), .agg #[.int .i64 fl, .int .i64 fa], .pointer (some ⟨g1, 1, none⟩), .agg #[.int .i64 al, .int .i64 aa], undef, undef] (by kernel_rfl) (by kernel_rfl) rfl J (by rw [hJ.out]; exact hid (K.out.quiet ⟨1, rfl⟩)) ?step ?fin
    case step =>
      clear K
      intro i o b W ho hb hw K
      rw [hJ.out] at K
      simp only [drFrame, List.setIfInBounds_toArray, List.set_cons_succ, List.set_cons_zero]
      rcases i with _ | i
      · obtain rfl := Option.some.inj ho
        clear ho hb hw
        go_wp2_with (first
          | fail)
        refine ⟨rfl, rfl, ?_⟩
        rw [hJ.out]
        exact K
      rcases i with _ | i
      · obtain rfl := Option.some.inj ho
        clear ho hb hw
        go_wp2_with (first
          | go_big_skip
          | ((with_reducible show wpList _ _ _ _ _ _); refine kgLoadA (by rfl) 24 _ (by rfl) 2 _ Tryz.underlying24 rfl (by kernel_rfl) K (by rfl) (by repeat (first | exact List.mem_cons_self | refine List.mem_cons_of_mem _ ?_)) (part := [_, _]) (by rfl) (by rfl) ?_))
        refine ⟨rfl, rfl, ?_⟩
        rw [hJ.out]
        exact K
      rcases i with _ | i
      · obtain rfl := Option.some.inj ho
        clear ho hb hw
        go_wp2_with (first
          | fail)
        refine ⟨rfl, rfl, ?_⟩
        rw [hJ.out]
        exact K
      rcases i with _ | i
      · obtain rfl := Option.some.inj ho
        clear ho hb hw
        go_wp2_with (first
          | go_big_skip
          | ((with_reducible show wpList _ _ _ _ _ _); refine kgLoadA (by rfl) 24 _ (by rfl) 2 _ Tryz.underlying24 rfl (by kernel_rfl) K (by rfl) (by repeat (first | exact List.mem_cons_self | refine List.mem_cons_of_mem _ ?_)) (part := [_, _]) (by rfl) (by rfl) ?_))
        refine ⟨rfl, rfl, ?_⟩
        rw [hJ.out]
        exact K
      rcases i with _ | i
      · obtain rfl := Option.some.inj ho
        replace hb : b 4 = false := hb
        simp only [hb, Bool.false_eq_true, if_false] at K
        clear ho hb hw
        go_wp2_with (first
          | go_big_skip
          | ((with_reducible show wpList _ _ _ _ _ _); refine kgStore (by rfl) 24 (.tmp 2) _ (by rfl) 2 (by kernel_rfl) [_] (by exact K) (by rfl) (by rfl) [_, _] (by rfl) (by rfl) (by simp) (by simp [Value.oneCell']) (cs := [_, _]) (by rfl) ?_; intro V2 K1; (dsimp only [List.cons_append, List.nil_append] at K1); clear K; (have K := K1); clear K1))
        refine ⟨rfl, trivial, ?_⟩
        rw [hJ.out]
        exact K
      rcases i with _ | i
      · obtain rfl := Option.some.inj ho
        replace hb : b 5 = false := hb
        simp only [hb, Bool.false_eq_true, if_false] at K
        clear ho hb hw
        go_wp2_with (first
          | go_big_skip
          | ((with_reducible show wpList _ _ _ _ _ _); refine kgStore (by rfl) 24 (.tmp 3) _ (by rfl) 2 (by kernel_rfl) [] (by exact K) (by rfl) (by rfl) [_, _] (by rfl) (by rfl) (by simp) (by simp [Value.oneCell']) (cs := [_, _]) (by rfl) ?_; intro V2 K1; (dsimp only [List.cons_append, List.nil_append] at K1); clear K; (have K := K1); clear K1))
        refine ⟨rfl, trivial, ?_⟩
        rw [hJ.out]
        exact K
      · cases ho
    case fin =>
      clear K
      intro b W hb K
      rw [hJ.out] at K
      simp only [drFrame, List.setIfInBounds_toArray, List.set_cons_succ, List.set_cons_zero]
      have b4 := hb 4 (by decide)
      have b5 := hb 5 (by decide)
      simp only [b4, b5, if_true] at K
      clear b4 b5
      clear hb hJ
      go_wp2_with (first
        | fail)
      refine bodyPost_ret (results_cc Tryz.results39 (by rfl) (K.out.loadA (off := 0) (n := 2) (by repeat (first | exact List.mem_cons_self | refine List.mem_cons_of_mem _ ?_)) Tryz.underlying24 rfl (by kernel_rfl) (part := [_, _]) (by rfl) (by rfl)) (by rfl) (K.out.loadA (off := 0) (n := 2) (by repeat (first | exact List.mem_cons_self | refine List.mem_cons_of_mem _ ?_)) Tryz.underlying24 rfl (by kernel_rfl) (part := [_, _]) (by rfl) (by rfl))) rfl ?_
      exact ⟨rfl, K.out.b⟩
  · rw [decide_eq_false h0]
    go_enter Tryz.func39, Tryz.ntmps39
    go_upto_region 3 with (first
      | go_big_skip
      | ((with_reducible show wpList _ _ _ _ _ _); refine kgBox (by rfl) 26 _ (by rfl) (some 1) (by rfl) (by rfl) [_, _, _, _, _, _, _] (by rfl) K ?_; intro g1 V1 K1; clear K; (have K := K1); clear K1)
      | ((with_reducible show wpList _ _ _ _ _ _); refine kgAlloc (by rfl) 24 (by rfl) (some 2) (by rfl) [.int .i64 0, .int .i64 0] (fun _ => by kernel_rfl) K ?_; intro g2 V1 K1; clear K; (have K := K1); clear K1)
      | ((with_reducible show wpList _ _ _ _ _ _); refine kgAlloc (by rfl) 24 (by rfl) (some 3) (by rfl) [.int .i64 0, .int .i64 0] (fun _ => by kernel_rfl) K ?_; intro g3 V1 K1; clear K; (have K := K1); clear K1)
      | ((with_reducible show wpList _ _ _ _ _ _); refine kgLoadA (by rfl) 24 _ (by rfl) 2 _ Tryz.underlying24 rfl (by kernel_rfl) K (by rfl) (by repeat (first | exact List.mem_cons_self | refine List.mem_cons_of_mem _ ?_)) (part := [_, _]) (by rfl) (by rfl) ?_)
      | (go_at_call 61; (with_reducible refine (dCmp_any _ _ _ _ _).mono ?_); rintro e W3 ⟨rfl, hb⟩; rw [HZ.out]; (have K2 := hid (K.out.later hb)); clear hb K; (have K := K2); clear K2))
    obtain ⟨J, hJ⟩ : ∃ J : (Nat → Bool) → World → Prop, J = fun b W => Hid (KG w W [⟨g3, 24, if b 5 then [.int .i64 fl, .int .i64 fa] else [.int .i64 0, .int .i64 0]⟩, ⟨g2, 24, if b 4 then [.int .i64 al, .int .i64 aa] else [.int .i64 0, .int .i64 0]⟩, ⟨g1, 26, [.slice A n c, .int .i64 al, .int .i64 aa, .int .i64 fl, .int .i64 fa, .int .i64 on, .int .i64 off]⟩] []) := ⟨_, rfl⟩
    replace hJ := hid hJ
    refine wp_drawn_det [.pointer (some ⟨g1, 1, none⟩), .agg #[.int .i64 al, .int .i64 aa], .pointer (some ⟨g1, 3, none⟩), .agg #[.int .i64 fl, .int .i64 fa], undef, undef] (by kernel_rfl) (by kernel_rfl) rfl J (by rw [hJ.out]; exact hid (K.out.quiet ⟨1, rfl⟩)) ?step ?fin
    case step =>
      clear K
      intro i o b W ho hb hw K
      rw [hJ.out] at K
      simp only [drFrame, List.setIfInBounds_toArray, List.set_cons_succ, List.set_cons_zero]
      rcases i with _ | i
      · obtain rfl := Option.some.inj ho
        clear ho hb hw
        go_wp2_with (first
          | fail)
        refine ⟨rfl, rfl, ?_⟩
        rw [hJ.out]
        exact K
      rcases i with _ | i
      · obtain rfl := Option.some.inj ho
        clear ho hb hw
        go_wp2_with (first
          | go_big_skip
          | ((with_reducible show wpList _ _ _ _ _ _); refine kgLoadA (by rfl) 24 _ (by rfl) 2 _ Tryz.underlying24 rfl (by kernel_rfl) K (by rfl) (by repeat (first | exact List.mem_cons_self | refine List.mem_cons_of_mem _ ?_)) (part := [_, _]) (by rfl) (by rfl) ?_))
        refine ⟨rfl, rfl, ?_⟩
        rw [hJ.out]
        exact K
      rcases i with _ | i
      · obtain rfl := Option.some.inj ho
        clear ho hb hw
        go_wp2_with (first
          | fail)
        refine ⟨rfl, rfl, ?_⟩
        rw [hJ.out]
        exact K
      rcases i with _ | i
      · obtain rfl := Option.some.inj ho
        clear ho hb hw
        go_wp2_with (first
          | go_big_skip
          | ((with_reducible show wpList _ _ _ _ _ _); refine kgLoadA (by rfl) 24 _ (by rfl) 2 _ Tryz.underlying24 rfl (by kernel_rfl) K (by rfl) (by repeat (first | exact List.mem_cons_self | refine List.mem_cons_of_mem _ ?_)) (part := [_, _]) (by rfl) (by rfl) ?_))
        refine ⟨rfl, rfl, ?_⟩
        rw [hJ.out]
        exact K
      rcases i with _ | i
      · obtain rfl := Option.some.inj ho
        replace hb : b 4 = false := hb
        simp only [hb, Bool.false_eq_true, if_false] at K
        clear ho hb hw
        go_wp2_with (first
          | go_big_skip
          | ((with_reducible show wpList _ _ _ _ _ _); refine kgStore (by rfl) 24 (.tmp 2) _ (by rfl) 2 (by kernel_rfl) [_] (by exact K) (by rfl) (by rfl) [_, _] (by rfl) (by rfl) (by simp) (by simp [Value.oneCell']) (cs := [_, _]) (by rfl) ?_; intro V2 K1; (dsimp only [List.cons_append, List.nil_append] at K1); clear K; (have K := K1); clear K1))
        refine ⟨rfl, trivial, ?_⟩
        rw [hJ.out]
        exact K
      rcases i with _ | i
      · obtain rfl := Option.some.inj ho
        replace hb : b 5 = false := hb
        simp only [hb, Bool.false_eq_true, if_false] at K
        clear ho hb hw
        go_wp2_with (first
          | go_big_skip
          | ((with_reducible show wpList _ _ _ _ _ _); refine kgStore (by rfl) 24 (.tmp 3) _ (by rfl) 2 (by kernel_rfl) [] (by exact K) (by rfl) (by rfl) [_, _] (by rfl) (by rfl) (by simp) (by simp [Value.oneCell']) (cs := [_, _]) (by rfl) ?_; intro V2 K1; (dsimp only [List.cons_append, List.nil_append] at K1); clear K; (have K := K1); clear K1))
        refine ⟨rfl, trivial, ?_⟩
        rw [hJ.out]
        exact K
      · cases ho
    case fin =>
      clear K
      intro b W hb K
      rw [hJ.out] at K
      simp only [drFrame, List.setIfInBounds_toArray, List.set_cons_succ, List.set_cons_zero]
      have b4 := hb 4 (by decide)
      have b5 := hb 5 (by decide)
      simp only [b4, b5, if_true] at K
      clear b4 b5
      clear hb hJ
      go_wp2_with (first
        | fail)
      refine bodyPost_ret (results_cc Tryz.results39 (by rfl) (K.out.loadA (off := 0) (n := 2) (by repeat (first | exact List.mem_cons_self | refine List.mem_cons_of_mem _ ?_)) Tryz.underlying24 rfl (by kernel_rfl) (part := [_, _]) (by rfl) (by rfl)) (by rfl) (K.out.loadA (off := 0) (n := 2) (by repeat (first | exact List.mem_cons_self | refine List.mem_cons_of_mem _ ?_)) Tryz.underlying24 rfl (by kernel_rfl) (part := [_, _]) (by rfl) (by rfl))) rfl ?_
      exact ⟨rfl, K.out.b⟩
end Go.Proofs.YtblbfoniimnkcaaGreatDoor
