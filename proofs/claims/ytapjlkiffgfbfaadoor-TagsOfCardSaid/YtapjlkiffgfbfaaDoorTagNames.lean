/- The walk of tags.names: the map of all names. -/
import Derived.Test.YtapjlkiffgfbfaaDoorTagOf
import Derived.Maps.Own
import Derived.Maps.OwnSet
import Derived.Maps.Views
import Derived.Carry
namespace Go.Proofs.YtapjlkiffgfbfaaDoor
open Go.RowKit Go.WideMaps Go.Maps

theorem lawS : Keyed Tryd.prog 9 := string_keyed Tryd.underlying9
/-- The map of these names, as a datum. -/
def mapT (l : List (List UInt8 × Nat)) : DataW Unit := l.foldl (fun m p => m.put (.string p.1) (.lit (.int .i64 p.2))) (.map [])
theorem mapT_snoc (l : List (List UInt8 × Nat)) (p : List UInt8 × Nat) : mapT (l ++ [p]) = (mapT l).put (.string p.1) (.lit (.int .i64 p.2)) := by
  unfold mapT; rw [List.foldl_append]; rfl
theorem pairs_succ (t : Nat) : pairsT (t + 1) = pairsT t ++ (namesT t).map fun s => (s, t) := by
  unfold pairsT; rw [List.range_succ, List.flatMap_append]; simp
theorem nmS_list (s : List UInt8) : (nmS s).data.toList = s := by simp [nmS]
theorem names_short {t j : Nat} {s : List UInt8} (h : (namesT t)[j]? = some s) : (nmS s).size ≤ maxLen := by
  have : ∀ t, t ≤ 16 → ∀ s ∈ namesT t, s.length ≤ 20 := by decide
  have h2 := this t (names_lt h).2 s (List.mem_of_getElem? h)
  have : (nmS s).size = s.length := by show s.toArray.size = _; simp
  unfold maxLen; omega
theorem _root_.Go.World.ownsMap.below {H : Type} {w w' : World} {P : Program} {k : TypeId} {R : Value → Option (DataW H × List MemPlace)} {b n : Nat} {D : DataW H} {B : Nat} (h : w.ownsMap P k R b n D) (hb : Below B w w') (hB : b < B) : w'.ownsMap P k R b n D := by
  obtain ⟨es, clock, hh, rest⟩ := h
  exact ⟨es, clock, (hb.block b hB).trans hh, rest⟩
theorem NamesAt.alloc {w : World} {b : Nat} (h : NamesAt w b) (o : Obj) : NamesAt (w.alloc o) b := fun t j s hs => by
  have := h t j s hs
  rw [World.cell?_alloc_lt w o _ (block_lt_of_cell this)]; exact this
theorem NamesAt.grown {w w' : World} {b B : Nat} (h : NamesAt w b) (hg : w.grownBy w' (some B)) (hB : B < b) : NamesAt w' b := fun t j s hs => by
  have := h t j s hs
  exact (World.cell?_of_block (hg.block (b + t) (block_lt_of_cell this) (fun e => by simp at e; omega))).trans this
theorem pairs_one : pairsT 0 = pairsT 1 := rfl
def NamesPost (w : World) (e : Ending) (w' : World) : Prop :=
  e = .returned (.map (some w.heap.size)) ∧ (∃ n, w'.ownsMap Tryd.prog 9 (plainElem Tryd.prog 3) w.heap.size n (mapT (pairsT 17))) ∧ Below w.heap.size w w'
def pre (t j : Nat) : List (List UInt8 × Nat) := pairsT t ++ ((namesT t).take j).map fun s => (s, t)
theorem pre_zero (t : Nat) : pre t 0 = pairsT t := by simp [pre]
theorem pre_end {t j : Nat} (h : (namesT t).length ≤ j) : pre t j = pairsT (t + 1) := by rw [pairs_succ]; unfold pre; rw [List.take_of_length_le h]
theorem pre_step {t j : Nat} {s : List UInt8} (h : (namesT t)[j]? = some s) : mapT (pre t (j + 1)) = (mapT (pre t j)).put (.string (nmS s).data.toList) (.lit (.int .i64 t)) := by
  rw [nmS_list]
  have : pre t (j + 1) = pre t j ++ [(s, t)] := by
    unfold pre
    rw [List.take_add_one, h, List.map_append, List.append_assoc]
    rfl
  rw [this, mapT_snoc]

set_option maxRecDepth 100000 in
set_option maxHeartbeats 4000000 in
theorem names_any (w : World) : Calls Tryd.prog 53 #[] w (NamesPost w) := by
  have hmm := @run_makeMap Tryd.prog
  go_enter Tryd.func53, Tryd.ntmps53
  go_wp2_with (go_at_call 58; refine (table_any _).mono ?_; rintro e w1 ⟨rfl, hn1, hb1⟩; rw [World.size_alloc] at hn1 hb1 ⊢; (have N1 := hid hn1); (have B1 := hid hb1); clear hn1 hb1)
  go_loopw [8] (fun i wr => ∃ t : Nat, t ≤ 17 ∧ i = .int .i64 t ∧ NamesAt wr (w.heap.size + 1) ∧ (∃ n, n ≤ 3 * t ∧ wr.ownsMap Tryd.prog 9 (plainElem Tryd.prog 3) w.heap.size n (mapT (pairsT t))) ∧ Below w.heap.size w wr) (fun i _ => 17 - (intOf i).toNat)
  case atStart =>
    have b1 := B1.out
    have hm := (World.ownsMap_made (H := Unit) w Tryd.prog 9 (plainElem Tryd.prog 3))
    exact ⟨0, by omega, rfl, N1.out, ⟨0, by omega, hm.below b1 (by simp)⟩, ((Below.refl _ w).alloc (Nat.le_refl _) _).trans (b1.mono (by omega))⟩
  case round =>
    obtain ⟨t, ht, rfl, hn, ⟨n, hn3, hown⟩, hbw⟩ := hrel
    by_cases hlt : t < 17
    · have hi : ∀ W, (Instr.index 67 (.agg (tabC (w.heap.size + 1)).toArray) (.int .i64 (t : Nat))).run Tryd.prog W = .ok (.agg #[rowV (w.heap.size + 1) t, .int .i64 (classN t)]) W := fun W => index_tab _ W t (by omega)
      by_cases h0 : t = 0
      · subst h0
        have Hn := hid hn
        have Ho := hid hown
        have Hb := hid hbw
        clear hn hown hbw
        have e0 : rowV (w.heap.size + 1) 0 = .slice none 0 0 := rfl
        rw [e0] at hi
        have hi0 : ∀ W, (Instr.index 67 (.agg (tabC (w.heap.size + 1)).toArray) (.int .i64 0)).run Tryd.prog W = .ok (.agg #[.slice none 0 0, .int .i64 (classN 0)]) W := hi
        clear e0 hi
        go_wp2
        refine wp_loop_rounds 1 ?_
        rw [rounds_succ]
        go_wp2
        go_roundw
        case rel => exact ⟨1, by omega, by go_num, Hn.out.alloc _, ⟨n, by omega, (pairs_one ▸ Ho.out).alloc _⟩, Hb.out.alloc Hb.out.size _⟩
        case measure => simp [intOf]
      · have e0 : rowV (w.heap.size + 1) t = .slice (some ⟨w.heap.size + 1 + t, 0, none⟩) (namesT t).length (namesT t).length := by
          unfold rowV
          rw [if_neg]
          have : ∀ t, t ≤ 16 → ¬ t = 0 → ¬ namesT t = [] := by decide
          exact this t (by omega) h0
        rw [e0] at hi
        clear e0
        have hsl : (namesT t).length ≤ 3 := by
          have : ∀ t, t ≤ 16 → (namesT t).length ≤ 3 := by decide
          exact this t (by omega)
        obtain ⟨L, hL⟩ : ∃ L, (namesT t).length = L := ⟨_, rfl⟩
        rw [hL] at hi hsl
        have HL := hid hL
        have Hn := hid hn
        have Ho := hid hown
        have Hb := hid hbw
        have hlw := hown.lt
        have hd : decide ((t : Int) < 17) = true := decide_eq_true (by omega)
        clear hn hown hbw hL
        go_wp2
        go_loopw [15] (fun i wr => ∃ j : Nat, j ≤ L ∧ i = .int .i64 j ∧ NamesAt wr (w.heap.size + 1) ∧ (∃ n, n ≤ 3 * t + j ∧ wr.ownsMap Tryd.prog 9 (plainElem Tryd.prog 3) w.heap.size n (mapT (pre t j))) ∧ Below w.heap.size w wr) (fun i _ => L - (intOf i).toNat)
        case atStart => exact ⟨0, by omega, rfl, Hn.out.alloc _, ⟨n, by omega, (pre_zero t).symm ▸ Ho.out.alloc _⟩, Hb.out.alloc Hb.out.size _⟩
        case round =>
          obtain ⟨j, hj, rfl, hn, ⟨m, hm3, hown⟩, hbw⟩ := hrel
          clear Hn Ho Hb hi hlw
          by_cases hjl : j < L
          · obtain ⟨s, hs⟩ : ∃ s, (namesT t)[j]? = some s := ⟨_, List.getElem?_eq_getElem (by rw [HL.out]; exact hjl)⟩
            have hc := hn t j s hs
            have hkey := keyOf_string_mk (s := nmS s) Tryd.underlying9 (names_short hs)
            have HS := hid hs
            have Hn := hid hn
            have Hb := hid hbw
            have hstep := hid (pre_step hs)
            clear hs hn hbw
            go_wp2_with (at_mapUpdate; refine wpList_mapUpdate_own _ rfl _ _ _ 58 rfl 9 3 lawS Tryd.underlying58 _ w.heap.size m _ rfl hown (by unfold maxLen; omega) _ _ _ rfl rfl hkey _ [] (plainElem_int Tryd.underlying3 (WalkArith.wf_i64 (by omega))) ?_)
            intro w1 hown1 hgrow1
            have R1 := hid (hstep.out.symm ▸ hown1)
            have Hn1 := hid (Hn.out.grown hgrow1 (by omega))
            have Hb1 := hid (Hb.out.grown hgrow1 Hb.out.size (fun j hj => by cases hj; exact Nat.le_refl _))
            clear hown1 hgrow1 hown hstep hc hkey Hn Hb
            go_wp2
            go_roundw
            case rel => exact ⟨j + 1, by omega, by go_num, Hn1.out, ⟨m + 1, by omega, R1.out⟩, Hb1.out⟩
            case measure => simp [intOf]; omega
          · obtain rfl : j = L := by omega
            have Hn := hid hn
            have Ho := hid hown
            have Hb := hid hbw
            clear hn hown hbw
            go_wp2
            go_roundw
            case rel => exact ⟨t + 1, by omega, by go_num, Hn.out, ⟨m, by omega, (pre_end (Nat.le_of_eq HL.out)) ▸ Ho.out⟩, Hb.out⟩
            case measure => simp [intOf]; omega
    · obtain rfl : t = 17 := by omega
      have Hn := hid hn
      have Ho := hid hown
      have Hb := hid hbw
      clear hn hown hbw
      go_wp2
      go_ret
      exact ⟨rfl, ⟨n, Ho.out⟩, Hb.out⟩
end Go.Proofs.YtapjlkiffgfbfaaDoor
