/- The walk of doc.Own. (Printed by wip/bldoc.py.) -/
import Derived.Test.YtblbfoniimnkcaaGreatDoorBgKg
import Derived.Test.YtblbfoniimnkcaaGreatDoorLnOwn
import Derived.Test.YtblbfoniimnkcaaGreatDoorLnBaseA
import Derived.BigQuiet
import Derived.Deep.QuietTactic
namespace Go.Proofs.YtblbfoniimnkcaaGreatDoor
open Go.RowKit Go.Lib

theorem Tryz.okH : ElemOk Tryz.prog encH 4 46 := ElemOk.mk' (z := .agg #[.int .i64 0, .slice none 0 0, .int .i64 0, .slice none 0 0]) (bytes := 64) encH_len encH_one (by omega) (by kernel_rfl) rfl (by omega)
theorem lnsOf_snoc {hs rs : List Hd} {k : Nat} {x y : Hd} (h : lnsOf rs = (lnsOf hs).take k) (hx : hs[k]? = some x) (hy : y.l = x.l) : lnsOf (rs ++ [y]) = (lnsOf hs).take (k + 1) := by
  unfold lnsOf at h ⊢
  rw [List.map_append, h, List.take_add_one, List.getElem?_map, hx]; simp [hy]
set_option maxRecDepth 100000 in
set_option maxHeartbeats 4000000 in
theorem dOwn_any (hs : List Hd) (A : Option Addr) (n c C : Nat) (hn : n = hs.length) (w : World) (hd : DocAt w C A hs) (h1 : hs.length ≤ 1000) (h2 : ∀ h ∈ hs, h.l.ls.length ≤ 1000000 ∧ h.l.cs.length ≤ 1000000) :
    Calls Tryz.prog 65 #[.slice A n c] w (RetDoc (lnsOf hs) w) := by
  subst hn
  have D0 := hid h2
  have L0 := hid h1
  have HD := hid hd.live
  clear hd h2
  go_enter Tryz.func65, Tryz.ntmps65
  go_wp2_with fail
  go_loopw [3, 8] (fun v i wr => ∃ (k : Nat) (rs : List Hd), k ≤ hs.length ∧ i = .int .i64 k ∧ Hid (lnsOf rs = (lnsOf hs).take k) ∧ Hid (Own encH 4 46 wr w.heap.size v rs) ∧ Hid (∀ x ∈ rs, HdW wr w.heap.size x) ∧ (∃ A' n' c', v = .slice A' n' c') ∧ Hid (Below w.heap.size w wr)) (fun _ i _ => hs.length - (intOf i).toNat)
  case atStart => exact ⟨0, [], Nat.zero_le _, rfl, rfl, hid Own.nil, hid (fun _ h => by cases h), ⟨_, _, _, rfl⟩, hid (Below.refl _ _)⟩
  case round =>
    obtain ⟨k, rs, hk, rfl, HR, HO, HL, ⟨A', n', c', rfl⟩, HB⟩ := hrel
    have HW := hid (HD.out.belowM HB.out (Nat.le_refl _))
    have K := hid (KG.start wr [⟨hs, A, false⟩] (by simpa using HW.out.live))
    by_cases hlt : k < hs.length
    · obtain ⟨ad, x, rfl, -, hx, -⟩ := HW.out.row.atH hlt
      have hi1 : (k : Int) < (hs.length : Int) := by omega
      have XL : Hid (x.l.ls.length ≤ 1000000000) := hid (by have := (D0.out x (List.mem_of_getElem? hx)).1; omega)
      have XC : Hid (x.l.cs.length ≤ 1000000000) := hid (by have := (D0.out x (List.mem_of_getElem? hx)).2; omega)
      have LE : Hid (rs.length + 1 ≤ 1000000000000) := hid (by have e := congrArg List.length HR.out; rw [lnsOf_len, List.length_take, lnsOf_len] at e; have := L0.out; omega)
      have HX := hid hx
      clear hx HW
      go_wp2_with (first
        | go_big_skip
        | ((with_reducible show wpList _ _ _ _ _ _); refine kgElem (by rfl) 46 _ (by rfl) _ Tryz.underlying46 rfl (by kernel_rfl) K (by rfl) (by repeat (first | exact List.mem_cons_self | refine List.mem_cons_of_mem _ ?_)) HX.out ?_)
        | ((with_reducible show wpList _ _ _ _ _ _); refine kgAlloc (by rfl) 46 (by rfl) (some 5) (by rfl) [.int .i64 0, .slice none 0 0, .int .i64 0, .slice none 0 0] (fun _ => by kernel_rfl) K ?_; intro g5 V1 K1; clear K; (have K := K1); clear K1)
        | ((with_reducible show wpList _ _ _ _ _ _); refine kgStore (by rfl) 46 (.tmp 5) _ (by rfl) 4 (by kernel_rfl) [] (by exact K) (by rfl) (by rfl) [_, _, _, _] (by rfl) (by rfl) (by simp) (by simp [Value.oneCell']) (cs := [_, _, _, _]) (by rfl) ?_; intro V2 K1; (dsimp only [List.cons_append, List.nil_append] at K1); clear K; (have K := K1); clear K1)
        | ((with_reducible show wpList _ _ _ _ _ _); refine kgLoadA (by rfl) 46 _ (by rfl) 4 _ Tryz.underlying46 rfl (by kernel_rfl) K (by rfl) (by repeat (first | exact List.mem_cons_self | refine List.mem_cons_of_mem _ ?_)) (part := [_, _, _, _]) (by rfl) (by rfl) ?_)
        | (go_at_call 66; (with_reducible refine (lOwn_any x.l x.A _ x.c x.B _ x.d _ rfl rfl _ ((K.out.at_ (d := ⟨hs, some ad, false⟩) (by simp)).ln HX.out) XL.out XC.out).mono ?_); rintro e W3 ⟨A3, c3, B3, d3, rfl, ho, hb3⟩; (have HN : Hid (HdW W3 w.heap.size (⟨x.l, A3, c3, B3, d3⟩ : Hd)) := hid ⟨ho.wr.based (Nat.le_trans HB.out.size K.out.b.size), ho.caps.1, ho.caps.2⟩); clear ho; simp only [lnV]; (have BW := hid (K.out.b.trans (hb3.mono K.out.b.size))); (have HO3 := hid (HO.out.later BW.out)); clear hb3 K)
        | (at_builtin; refine wpList_app1g Tryz.okH rfl (.tmp 12) (.tmp 15) 22 rfl Tryz.underlying22 w.heap.size _ rs rfl HO3.out (⟨x.l, A3, c3, B3, d3⟩ : Hd) rfl _ rfl rfl LE.out (Nat.le_trans HB.out.size BW.out.size) ?_; intro v' w1 hown' hb' hg'; (have HG := hid hg'); (have HOA := hid hown'); (have HBA := hid hb'); clear hg' hown' hb'))
      obtain ⟨A4, n4, c4, rfl, -⟩ := HOA.out.shape
      go_wp2_with fail
      go_roundw
      case rel =>
        refine ⟨k + 1, rs ++ [⟨x.l, A3, c3, B3, d3⟩], by omega, by go_num, hid (lnsOf_snoc HR.out HX.out rfl), HOA, hid (fun y hy => ?_), ⟨_, _, _, rfl⟩, hid ((HB.out.trans (BW.out.mono HB.out.size)).trans HBA.out)⟩
        have al : Below W3.heap.size W3 (W3.alloc (.cells #[.int .i64 x.l.q, .slice A3 x.l.ls.length c3, .int .i64 x.l.k, .slice B3 x.l.cs.length d3] 46)) := (Below.refl _ _).alloc (Nat.le_refl _) _
        refine HdW.grown ?_ (HO3.out.alloc _) HG.out
        rcases List.mem_append.1 hy with hy | hy
        · exact ((HL.out y hy).later BW.out).later al
        · rw [List.mem_singleton.1 hy]
          exact HN.out.later al
      case measure => simp [intOf]; omega
    · obtain rfl : k = hs.length := by omega
      have HR2 : Hid (lnsOf rs = lnsOf hs) := hid (HR.out.trans (List.take_of_length_le (by rw [lnsOf_len]; exact Nat.le_refl _)))
      go_wp2_with fail
      go_ret
      exact RetDoc.mk' HO.out HL.out HR2.out HB.out
end Go.Proofs.YtblbfoniimnkcaaGreatDoor
