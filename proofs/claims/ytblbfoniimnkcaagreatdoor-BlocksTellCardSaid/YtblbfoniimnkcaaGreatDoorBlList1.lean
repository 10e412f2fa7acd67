/- What is selected, as a list; the walk of blocks.listed. (Printed by wip/bldoc.py.) -/
import Derived.Test.YtblbfoniimnkcaaGreatDoorBlEach
import Derived.BigQuiet
import Derived.Deep.QuietTactic
namespace Go.Proofs.YtblbfoniimnkcaaGreatDoor
open Go.RowKit Go.Lib Go.Shelf
attribute [local go_sem] Oper.semAt_some

theorem sel_its (s : Stt) (hs : List Hd) (hd : s.d = lnsOf hs) (f cnt : Nat) (h1 : (fromS s).l = f) (h2 : (toS s).l + 1 = ((f + cnt : Nat) : Int)) (h3 : f + cnt ≤ hs.length) (h4 : 0 ≤ (toS s).l) : (itsF hs f cnt).map (fun x => x.h.l) = sel s := by
  unfold sel
  rw [hd, show (fromS s).l.toNat = f from by omega]
  apply List.ext_getElem?
  intro k
  by_cases hk : k < cnt
  · rw [selF_get _ (show f + k ≤ (toS s).l.toNat by omega), List.getElem?_map]
    have key : ∀ n, k < n → n ≤ cnt → (itsF hs f n)[k]? = (hs[f + k]?).map fun h => ⟨f + k, h⟩ := by
      intro n
      induction n with
      | zero => intro h; omega
      | succ n ih =>
        intro hn hc
        have hx : hs[f + n]? = some (hs[f + n]'(by omega)) := List.getElem?_eq_getElem (by omega)
        rw [itsF_step hx]
        by_cases e : k < n
        · rw [List.getElem?_append_left (by rw [itsF_len n (by omega)]; exact e)]
          exact ih e (by omega)
        · obtain rfl : k = n := by omega
          rw [List.getElem?_append_right (by rw [itsF_len k (by omega)]; exact Nat.le_refl _), itsF_len k (by omega), hx]
          simp
    rw [key cnt hk (Nat.le_refl _)]
    unfold lnsOf
    rw [List.getElem?_map]
    cases hs[f + k]? <;> rfl
  · rw [List.getElem?_eq_none (by rw [List.length_map, itsF_len cnt h3]; omega), List.getElem?_eq_none (by rw [selF_len _ _ _ (by rw [lnsOf_len]; omega)]; omega)]
set_option maxRecDepth 100000 in
set_option maxHeartbeats 4000000 in
theorem listed_any (l : Ln) (A : Option Addr) (n c : Nat) (B : Option Addr) (m d C : Nat) (kind : Int) (hn : n = l.ls.length) (w : World) (hl : LnAt w C l A B) (h1 : l.ls.length ≤ 1000000000) (hm : m = l.cs.length) :
    Calls Tryz.prog 25 #[.agg #[.int .i64 l.q, .slice A n c, .int .i64 l.k, .slice B m d], .int .i64 kind] w (IsBool (listedL kind l) w) := by
  subst hm
  have K := hid (KG.start w [] (by simp))
  unfold listedL
  cases n with
  | zero =>
    have h0 : l.ls.length = 0 := hn.symm
    have M := hid (show (decide (0 < l.ls.length) && decide (lastI l.ls = kind)) = false by rw [h0]; rfl)
    rw [M.out]
    clear hn h0 M hl
    go_enter Tryz.func25, Tryz.ntmps25
    go_wp2_with (first
      | go_big_skip
      | ((with_reducible show wpList _ _ _ _ _ _); refine kgBox (by rfl) 46 _ (by rfl) (some 2) (by rfl) (by rfl) [_, _, _, _] (by rfl) K ?_; intro g2 V1 K1; clear K; (have K := K1); clear K1)
      | ((with_reducible show wpList _ _ _ _ _ _); refine kgLoad1 (by rfl) 43 _ (by rfl) _ Tryz.underlying43 rfl K (by rfl) (by repeat (first | exact List.mem_cons_self | refine List.mem_cons_of_mem _ ?_)) (by rfl) ?_))
    go_ret
    exact ⟨rfl, K.out.b⟩
  | succ n =>
    obtain ⟨ad, x, rfl, had, hx, x0⟩ := hl.live.ls.atI (show n < l.ls.length by omega)
    have HX0 : Hid (∀ W, Below w.heap.size w W → W.cell? (ad.add n) = some (.int .i64 x)) := hid (fun W hb => (hb.cell (by rw [block_add]; exact had)).trans x0)
    have e : lastI l.ls = x := lastI_at hx hn
    have hp : 0 < l.ls.length := by omega
    rw [decide_eq_true hp, Bool.true_and, e]
    have hi : (n : Int) < ((n + 1 : Nat) : Int) := by omega
    have hb1 : n < 1000000000 := by omega
    have k1 : (0 : Int) < ((n + 1 : Nat) : Int) := by omega
    have M : Hid (decide (x = kind) = (x == kind)) := hid (by rw [Bool.eq_iff_iff]; simp)
    rw [M.out]
    obtain ⟨z, hz⟩ : ∃ z, (x == kind) = z := ⟨_, rfl⟩
    rw [hz]
    have HZ := hid hz
    clear hn hx x0 e hp had hl M hz h1
    go_enter Tryz.func25, Tryz.ntmps25
    go_wp2_with (first
      | go_big_skip
      | ((with_reducible show wpList _ _ _ _ _ _); refine kgBox (by rfl) 46 _ (by rfl) (some 2) (by rfl) (by rfl) [_, _, _, _] (by rfl) K ?_; intro g2 V1 K1; clear K; (have K := K1); clear K1)
      | ((with_reducible show wpList _ _ _ _ _ _); refine kgLoad1 (by rfl) 43 _ (by rfl) _ Tryz.underlying43 rfl K (by rfl) (by repeat (first | exact List.mem_cons_self | refine List.mem_cons_of_mem _ ?_)) (by rfl) ?_)
      | ((with_reducible show wpList _ _ _ _ _ _); refine wpList_loadV (by rfl) 3 (.tmp 16) (by rfl) (by rfl) (run_loadVar_one _ _ 3 (.int .i64 x) _ (HX0.out _ K.out.b) Tryz.underlying3 rfl) ?_))
    go_ret
    exact ⟨by rw [← HZ.out] <;> rfl, K.out.b⟩
end Go.Proofs.YtblbfoniimnkcaaGreatDoor
