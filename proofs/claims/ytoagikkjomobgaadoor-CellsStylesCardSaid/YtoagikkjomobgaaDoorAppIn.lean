/- append of one element under a fence: what is owned; which boxes of one element stay. Over any program. -/
import Derived.Test.YtoagikkjomobgaaDoorApp
import Derived.OwnWalkIn
import Derived.RangeFuncBox
namespace Go.Proofs.YtoagikkjomobgaaDoor
open Go.RowKit

section
variable {P : Program} {α : Type} {enc : α → List Value} {sz : Nat} {e : TypeId}
theorem append_keeps_one (ok : ElemOk P enc sz e) (t ty : TypeId) (ht : P.underlying t = some (.slice e)) (w : World) (base : Nat) (v : Value) (xs : List α) (hown : Own enc sz e w base v xs) (hnil : xs = [] → v = .slice none 0 0)
    (ad : Addr) (y : α) (hcells : ∀ j u, (enc y)[j]? = some u → w.cell? (ad.add j) = some u) (hlen : xs.length + 1 ≤ 1000000000000) {v' : Value} {w' : World}
    (hr : (Builtin.append_ #[t, t] ty #[v, .slice (some ad) 1 1]).run P w = .ok v' w') (hg : w.grownBy w' v.ownBlock) :
    ∀ (k : Nat) (c : Array Value), w.heap[k]? = some (.cells c e (0, 0)) → c.size = sz → w'.heap[k]? = some (.cells c e (0, 0)) := by
  intro k c hk hc
  have hlt : k < w.heap.size := (Array.getElem?_eq_some_iff.1 hk).1
  rcases hown.2 with ⟨rfl, _⟩ | ⟨g, cap, cur, rfl, _, hgg, hnc, _, hsz, _⟩
  · rw [hg.block k hlt (by simp [Value.ownBlock])]; exact hk
  · by_cases hkg : k = g
    · subst hkg
      rw [hk] at hgg
      injection hgg with hgg
      injection hgg with h1 _ _
      subst h1
      have hcap : cap = 1 := by
        have hp := ok.pos
        rw [hc] at hsz
        have : cap * sz = 1 * sz := by omega
        exact Nat.eq_of_mul_eq_mul_right hp this
      have hx : 1 ≤ xs.length := by
        cases xs with
        | nil => have := hnil rfl; cases this
        | cons x xs => simp
      obtain ⟨i, z, bytes, hi, hz, hsize, hby, hzs, hb128⟩ := ok.info
      have hbytes : (xs.length + 1) * bytes ≤ 140737488355328 := Nat.le_trans (Nat.mul_le_mul hlen hb128) (by omega)
      have hrun := run_append_grow (P := P) w t ty e i z ht hi hz ⟨k, 0, none⟩ xs.length cap (xs.flatMap enc) (by rw [length_flat ok.len, hsize]) (World.ownsRow.cells hown rfl) ad 1 1 (enc y) (by rw [ok.len, hsize]; omega) hcells (by omega) (by omega) (by rw [hby]; exact growslice_fits (by omega) hbytes)
      rw [hr] at hrun
      injection hrun with _ hw
      rw [hw]
      exact (Below.heap_alloc _ _ k hlt).trans hk
    · rw [hg.block k hlt (by simp [Value.ownBlock]; omega)]; exact hk

theorem wpListIn_app1 {F : Fence} {n : Nat} {ops : Array Oper} {rest : List Oper} {o : Oper} {a : Act} {Q : Exit → Act → World → Prop} {w : World} {cs : Array Value} {e' : TypeId} (ok : ElemOk P enc sz e) (hgd : o.guard = none) (s x : Operand) (t : TypeId)
    (ho : o.op = .call { callee := .builtin .append, args := #[s, x], argTypes := #[t, t] }) (ht : P.underlying t = some (.slice e)) (base : Nat) (v : Value) (xs : List α) (hs : a.eval s = v) (hown : Own enc sz e w base v xs) (hnil : xs = [] → v = .slice none 0 0)
    (y : α) (hcs : cs.toList = enc y) (hx : a.eval x = .slice (some ⟨w.heap.size, 0, none⟩) 1 1) (hlen : xs.length + 1 ≤ 1000000000000) (hbase : base ≤ w.heap.size)
    (h : ∀ v' w', Own enc sz e w' base v' (xs ++ [y]) → (w.alloc (.cells cs e')).grownBy w' v.ownBlock → (∀ (k : Nat) (c : Array Value), w.heap[k]? = some (.cells c e (0, 0)) → c.size = sz → w'.heap[k]? = some (.cells c e (0, 0))) → v' ≠ .slice none 0 0 → wpListIn F n P ops Q rest (a.put o.dst v') w') : wpListIn F n P ops Q (o :: rest) a (w.alloc (.cells cs e')) := by
  refine wpListIn_plain hgd fun K hK' => ?_
  have hsl := slAt_new (sz := sz) w cs e' y hcs
  obtain ⟨v', w', hrun, r1, r2, _, r4, _⟩ := run_append_slice ok t o.type ht (w.alloc (.cells cs e')) base v xs (hown.alloc _) (w.heap.size + 1) _ [y] 1 hsl hlen (by simp; omega)
  have hkeep := append_keeps_one ok t o.type ht (w.alloc (.cells cs e')) base v xs (hown.alloc _) hnil ⟨w.heap.size, 0, none⟩ y (fun j u hu => by
    obtain ⟨ad, e1, _, hc⟩ := hsl (by simp)
    injection e1 with e1
    subst e1
    have := hc 0 y rfl j u hu
    rwa [Nat.zero_mul, add_zero'] at this) hlen hrun r2
  unfold Oper.wpIn
  refine ⟨?_, ?_⟩
  · simp [Oper.about, ho, resolve, Target.leads, Sem.run_pure]
  · rw [Oper.semAt_plain F _ _ (by rw [ho]; intro c hc'; cases hc')]
    simp only [List.length_cons, List.length_nil, Nat.zero_add] at hrun
    simp [execOp, ho, resolve, invoke, builtin, hs, hx, hrun, Result.andThen]
    exact hK' _ _ (h v' w' r1 r2 (fun k c hk hc => hkeep k c ((Below.heap_alloc w _ k (Array.getElem?_eq_some_iff.1 hk).1).trans hk) hc) (r4 (by simp)))
end
end Go.Proofs.YtoagikkjomobgaaDoor
