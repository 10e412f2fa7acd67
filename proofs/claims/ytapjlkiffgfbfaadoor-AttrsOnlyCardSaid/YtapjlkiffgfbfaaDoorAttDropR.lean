/- The walk of the reference's Drop. -/
import Derived.Test.YtapjlkiffgfbfaaDoorAttDrop
import Derived.Deep.RegionHeld3
import Derived.Lib.AppendZeros
import Derived.RegionTactic
import Derived.BigRegion
import Derived.Deep.RegionWith
namespace Go.Proofs.YtapjlkiffgfbfaaDoor
open Go.RowKit Go.Lib

/-- 'append(v, ys...)' at a step of a region that draws its order. -/
theorem step_app3 {P : Program} {α : Type} {enc : α → List Value} {sz : Nat} {e : TypeId} {ops : Array Oper} {o : Oper} {a : Act} {K : Act → World → Prop} {Q : Exit → Act → World → Prop} {E : Prop} {w : World} (ok : ElemOk P enc sz e) (hgd : o.guard = none) (s x : Operand) (t : TypeId)
    (ho : o.op = .call { callee := .builtin .append, args := #[s, x], argTypes := #[t, t] }) (ht : P.underlying t = some (.slice e)) (base : Nat) (v : Value) (xs : List α) (hs : a.eval s = v) (hown : Own enc sz e w base v xs)
    (B : Nat) (A : Option Addr) (ys : List α) (c : Nat) (hx : a.eval x = .slice A ys.length c) (hsrc : SlAt enc sz w B A ys) (hlen : xs.length + ys.length ≤ 1000000000000) (hbase : base ≤ w.heap.size)
    (h : ∀ v' w', Own enc sz e w' base v' (xs ++ ys) → w.grownBy w' v.ownBlock → K (a.put o.dst v') w') :
    if Region.wanted o (yielded ops a.tmps) = true then Oper.wp P o a w K Q else E := by
  have hw : Region.wanted o (yielded ops a.tmps) = true := by simp [Region.wanted, hgd]
  rw [if_pos hw]
  obtain ⟨v', w', hr, h2, h3, _⟩ := run_append_slice ok t o.type ht w base v xs hown B A ys c hsrc hlen hbase
  exact Lib.wp_append_run w s x t t ho _ _ hs hx v' w' hr (h v' w' h2 h3)

set_option maxRecDepth 100000 in
set_option maxHeartbeats 4000000 in
theorem refDrop_any (A : Option Addr) (cs : List At) (n c B : Nat) (hn : n = cs.length) (m : ByteArray) (w : World) (hA : SlAt encA 2 w B A cs) (hl : cs.length ≤ 300000000) (hc : cs.length ≤ c) :
    Calls Tryd.prog 49 #[.slice A n c, .string m] w (AnsA w (dropL cs m) (dropE cs m)) := by
  subst hn
  have hS := (hA.live (fun _ => by rw [encA_len]; omega))
  have HS := hid hS
  have hl9 : cs.length ≤ 1000000000 := by omega
  cases hf : findN cs m with
  | none =>
    have HK := hid (findK_no hf)
    have E1 := hid (show dropL cs m = [] by unfold dropL; rw [hf])
    have E2 := hid (show dropE cs m = 2 by unfold dropE; rw [hf])
    clear hf hA hS
    go_enter Tryd.func49, Tryd.ntmps49
    go_wp2_with (go_at_call 46; refine (refFindA_any A cs _ c _ rfl m _ HS.out hl9).mono ?_; rintro e w1 ⟨rfl, rfl⟩; rw [HK.out])
    go_ret2
    exact ansA_mk E1.out.symm E2.out.symm Own.nil (Below.refl _ _)
  | some F =>
    have HK := hid (findK_some hf)
    have E1 := hid (show dropL cs m = cs.take F ++ cs.drop (F + 1) by unfold dropL; rw [hf])
    have E2 := hid (show dropE cs m = 0 by unfold dropE; rw [hf])
    have hFn := findN_lt hf
    have hFc : F ≤ c := by omega
    have hTc : F + 1 ≤ c := by omega
    have k1 : IntKind.i64.wrap (F : Int) = (F : Int) := IntWalk.i64_in _ (by omega)
    have k2 : IntKind.i64.wrap ((F : Int) + 1) = (F : Int) + 1 := IntWalk.i64_in _ (by omega)
    have k3 : (0 : Int) ≤ (F : Int) := by omega
    have k4 : (0 : Int) ≤ (F : Int) + 1 := by omega
    have k5 : (F : Int) ≤ (c : Int) := by omega
    have k6 : (F : Int) + 1 ≤ (cs.length : Int) := by omega
    have k7 : ((F : Int) + 1).toNat = F + 1 := by omega
    have hX := hS.cut (k := F + 1) hc
    have hlenF : (cs.take F).length = F := by simp; omega
    have hlenD : (cs.drop (F + 1)).length = cs.length - (F + 1) := by simp
    have HL := hid hlenF
    have HD := hid hlenD
    clear hA hlenF hlenD hf
    by_cases hcT : c = F + 1
    · rw [if_pos hcT] at hX
      have HX := hid hX
      have hl0 : cs.length = F + 1 := by omega
      subst hcT
      have h0 := hid (show cs.length - (F + 1) = 0 by omega)
      have k8 : (F : Int) ≤ (F : Int) + 1 := by omega
      have k9 : F ≤ F + 1 := by omega
      clear hX hl0
      go_enter Tryd.func49, Tryd.ntmps49
      go_wp2_with (go_at_call 46; refine (refFindA_any A cs _ _ _ rfl m _ HS.out hl9).mono ?_; rintro e w1 ⟨rfl, rfl⟩; rw [HK.out])
      go_region_held3 (fun _ => True) (first | trivial) (first
        | (go_at_call 45; refine (refOwnA_any A (cs.take F) F (F + 1) _ HL.out.symm w.drew (HS.out.take F).drew (by have := HL.out; omega)).mono ?_; rintro e W1 ⟨v1, rfl, ho1, hb1⟩)
        | (refine step_app3 Tryd.okA rfl (.tmp 15) (.tmp 19) 39 rfl Tryd.underlying39 w.heap.size v1 (cs.take F) rfl ho1 _ _ (cs.drop (F + 1)) _ (by first | rfl | (rw [HD.out]; first | rfl | (rw [h0.out]; rfl))) (HX.out.drew.below hb1) (by have := HL.out; have := HD.out; omega) hb1.size ?_; intro v2 w2 ho2 hg2))
      all_goals
        go_wp2
        go_ret2
        exact ansA_mk E1.out.symm E2.out.symm ho2 (((Below.refl _ w).drew.trans hb1).grown hg2 hb1.size fun g hg => (ho1.lt g hg).1)
    · rw [if_neg hcT] at hX
      have h0 := hcT
      have HX := hid hX
      clear hX
      go_enter Tryd.func49, Tryd.ntmps49
      go_wp2_with (go_at_call 46; refine (refFindA_any A cs _ _ _ rfl m _ HS.out hl9).mono ?_; rintro e w1 ⟨rfl, rfl⟩; rw [HK.out])
      go_region_held3 (fun _ => True) (first | trivial) (first
        | (go_at_call 45; refine (refOwnA_any A (cs.take F) F c _ HL.out.symm w.drew (HS.out.take F).drew (by have := HL.out; omega)).mono ?_; rintro e W1 ⟨v1, rfl, ho1, hb1⟩)
        | (refine step_app3 Tryd.okA rfl (.tmp 15) (.tmp 19) 39 rfl Tryd.underlying39 w.heap.size v1 (cs.take F) rfl ho1 _ _ (cs.drop (F + 1)) _ (by first | rfl | (rw [HD.out]; rfl)) (HX.out.drew.below hb1) (by have := HL.out; have := HD.out; omega) hb1.size ?_; intro v2 w2 ho2 hg2))
      all_goals
        go_wp2
        go_ret2
        exact ansA_mk E1.out.symm E2.out.symm ho2 (((Below.refl _ w).drew.trans hb1).grown hg2 hb1.size fun g hg => (ho1.lt g hg).1)
end Go.Proofs.YtapjlkiffgfbfaaDoor
