/- The walk of tags.table: seventeen rows, their names in new blocks. -/
import Derived.Test.YtapjlkiffgfbfaaDoorLib
import Derived.Test.YtapjlkiffgfbfaaDoorLow
import Derived.Test.YtapjlkiffgfbfaaDoorProg
import Derived.WalkKit
import Derived.Handy
import Derived.Deep.MidRow
import Derived.Deep.WholeRow
namespace Go.Proofs.YtapjlkiffgfbfaaDoor
open Go.RowKit

/-- Blocks laid one behind the other. -/
def allocs (w : World) : List Obj → World
  | [] => w
  | o :: os => allocs (w.alloc o) os
theorem allocs_size : ∀ (os : List Obj) (w : World), (allocs w os).heap.size = w.heap.size + os.length
  | [], _ => rfl
  | o :: os, w => by rw [allocs, allocs_size os]; simp; omega
theorem allocs_cell : ∀ (os : List Obj) (w : World) (a : Addr), a.block < w.heap.size → (allocs w os).cell? a = w.cell? a
  | [], _, _, _ => rfl
  | o :: os, w, a, h => by rw [allocs, allocs_cell os _ a (by simp; omega), World.cell?_alloc_lt w o a h]
theorem allocs_there : ∀ (os : List Obj) (w : World) (b o n : Nat), w.there b o n → (allocs w os).there b o n
  | [], _, _, _, _, h => h
  | x :: os, _, b, o, n, h => allocs_there os _ b o n (World.there_alloc h x)
theorem allocs_below : ∀ (os : List Obj) (w0 w : World) (B : Nat), Below B w0 w → B ≤ w.heap.size → Below B w0 (allocs w os)
  | [], _, _, _, h, _ => h
  | o :: os, w0, _, B, h, hB => allocs_below os w0 _ B (h.alloc hB o) (by simp; omega)
theorem allocs_new : ∀ (os : List Obj) (w : World) (i : Nat) (cs : Array Value) (t : TypeId) (j : Nat) (v : Value), os[i]? = some (.cells cs t) → cs[j]? = some v → (allocs w os).cell? ⟨w.heap.size + i, j, none⟩ = some v
  | [], _, _, _, _, _, _, h, _ => by simp at h
  | o :: os, w, 0, cs, t, j, v, h, hv => by
    simp at h
    subst h
    rw [allocs, allocs_cell os _ _ (by simp)]
    exact (cell_of_row (w.alloc (.cells cs t)) w.heap.size j cs t (0, 0) (heap_alloc_new w (.cells cs t))).trans hv
  | o :: os, w, i + 1, cs, t, j, v, h, hv => by
    have := allocs_new os (w.alloc o) i cs t j v (by simpa using h) hv
    rw [World.size_alloc] at this
    rw [allocs, show w.heap.size + (i + 1) = w.heap.size + 1 + i from by omega]
    exact this
theorem below_setCells {B : Nat} {w0 : World} : ∀ (vs : List Value) (b o : Nat) (w : World), Below B w0 w → B ≤ b → Below B w0 (w.setCells b o vs)
  | [], _, _, _, h, _ => h
  | v :: vs, b, o, _, h, hB => below_setCells vs b (o + 1) _ (h.setCell hB v) hB

/-- The blocks that the table's text lays. -/
def objT (t : Nat) : Obj := if t = 0 then .cells (((List.range 17).flatMap fun _ => [Value.slice none 0 0, Value.int .i64 0]).toArray) 67 else .cells (((namesT t).map fun s => Value.string (nmS s)).toArray) 9
def restT : List Obj := (List.range 16).map fun i => objT (i + 1)
def objsT : List Obj := objT 0 :: restT
theorem tabC_len (b : Nat) : (tabC b).length = 34 := rfl
def zerosT : Array Value := ((List.range 17).flatMap fun _ => [Value.slice none 0 0, Value.int .i64 0]).toArray
theorem there_zeros (w : World) : (w.alloc (objT 0)).there w.heap.size 0 34 := fun j hj => by
  have e : objT 0 = .cells zerosT 67 := rfl
  have hs : zerosT.size = 34 := rfl
  rw [e]
  refine ⟨?_, World.frozen?_alloc_new w _ _ _⟩
  rw [cell_of_row (w.alloc (.cells zerosT 67)) w.heap.size (0 + j) zerosT _ (0, 0) (heap_alloc_new w _), Array.getElem?_eq_getElem (by omega)]
  rfl
theorem names_lt {t j : Nat} {s : List UInt8} (h : (namesT t)[j]? = some s) : 1 ≤ t ∧ t ≤ 16 := by
  refine ⟨?_, ?_⟩
  · rcases Nat.eq_zero_or_pos t with rfl | h0
    · simp [namesT] at h
    · exact h0
  · rcases Nat.lt_or_ge 16 t with h0 | h0
    · obtain ⟨k, rfl⟩ : ∃ k, t = k + 17 := ⟨t - 17, by omega⟩
      simp [namesT] at h
    · exact h0
theorem names_allocs (w : World) (vs : List Value) : NamesAt ((allocs w objsT).setCells w.heap.size 0 vs) w.heap.size := fun t j s h => by
  obtain ⟨h1, h2⟩ := names_lt h
  rw [World.cell?_setCells_out w.heap.size vs 0 _ _ (fun hb _ => by simp at hb; omega)]
  refine allocs_new objsT w t (((namesT t).map fun s => Value.string (nmS s)).toArray) 9 j _ ?_ ?_
  · obtain ⟨k, rfl⟩ : ∃ k, t = k + 1 := ⟨t - 1, by omega⟩
    show restT[k]? = _
    unfold restT
    rw [List.getElem?_map, List.getElem?_range (by omega)]
    rfl
  · simp [h]
theorem there_table (w : World) : (allocs w objsT).there w.heap.size 0 34 := by
  unfold objsT
  rw [allocs]
  exact allocs_there restT (w.alloc (objT 0)) _ _ _ (there_zeros w)
theorem table_world (w : World) (vs : List Value) (hv : vs.length = 34) : ((allocs w objsT).setCells w.heap.size 0 vs).rangeAt w.heap.size 0 vs ∧ NamesAt ((allocs w objsT).setCells w.heap.size 0 vs) w.heap.size ∧ Below w.heap.size w ((allocs w objsT).setCells w.heap.size 0 vs) := by
  refine ⟨World.rangeAt_setCells_same _ _ _ _ ?_, names_allocs w vs, below_setCells vs _ _ _ (allocs_below _ _ _ _ (Below.refl _ _) (Nat.le_refl _)) (Nat.le_refl _)⟩
  rw [hv]
  exact there_table w

theorem results_cell1 {fn : Func} {p : Tmp} {ty : TypeId} (h : fn.results = #[.cell p ty]) (tmps : Array Value) (P : Program) (w : World) {a : Addr} (ha : tmps.getD p undef = .pointer (some a)) {v : Value} {w' : World} (hl : (loadVar ty a).run P w = .ok v w') :
    (results fn tmps).run P w = .ok v w' := by
  simp only [results, h]
  rw [Array.getD_eq_getD_getElem?] at ha
  have : (asAddr (.pointer (some a))).run P w = .ok a w := rfl
  simp [Sem.run_bind, ha, hl, this]

set_option maxRecDepth 100000 in
set_option maxHeartbeats 16000000 in
theorem table_any (w : World) :
    Calls Tryd.prog 58 #[] w (fun e w' => e = .returned (.agg (tabC w.heap.size).toArray) ∧ NamesAt w' w.heap.size ∧ Below w.heap.size w w') := by
  go_enter Tryd.func58, Tryd.ntmps58
  go_wp2_with (with_reducible refine wpList_store_mid rfl 67 (.tmp 0) (.tmp 34) rfl w.heap.size 0 ?cells ?hx ?hy ?ht ?hi ?h1 ?h)
  case hx => rfl
  case hy => rfl
  case hi => kernel_rfl
  case h1 => kernel_rfl
  case ht =>
    generalize hW : World.alloc _ _ = W
    have hW' : allocs w objsT = W := hW
    rw [← hW']
    exact there_table w
  case h =>
    generalize hW : World.alloc _ _ = W
    have hW' : allocs w objsT = W := hW
    clear hW
    obtain ⟨hr, hn, hb⟩ := table_world w (tabC w.heap.size) rfl
    rw [hW'] at hr hn hb
    clear hW'
    have hl := run_loadVar_mid (P := Tryd.prog) _ w.heap.size 0 67 (tabC w.heap.size) _ hr Tryd.underlying67 rfl (by kernel_rfl)
    refine bodyPost_ret (v := .agg (tabC w.heap.size).toArray) (results_cell1 (a := ⟨w.heap.size, 0, none⟩) (p := 0) (ty := 67) rfl _ _ _ ?_ ?_) ?_ ?_
    · trace "1"; rfl
    · trace "2"; exact hl
    · trace "3"; rfl
    · trace "4"; exact ⟨rfl, hn, hb⟩
end Go.Proofs.YtapjlkiffgfbfaaDoor
