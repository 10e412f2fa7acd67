/- append onto a row of the call's own, said of lists: one element from a new block; a whole slice. Over any program. -/
import Derived.Test.YtoagikkjomobgaaDoorLib
import Derived.Maps.AppendAt
namespace Go.Proofs.YtoagikkjomobgaaDoor
open Go.RowKit

/-- A type's row of the table: its cells, its zero, its bytes. -/
structure ElemOk (P : Program) {α : Type} (enc : α → List Value) (sz : Nat) (e : TypeId) : Prop where
  len : ∀ x, (enc x).length = sz
  one : ∀ x, ∀ u ∈ enc x, u.oneCell' = true
  pos : 0 < sz
  info : ∃ i z bytes, P.info? e = some i ∧ i.zero = some z ∧ i.size = sz ∧ i.bytes = bytes ∧ z.cells.size = sz ∧ bytes ≤ 128

theorem ElemOk.mk' {P : Program} {α : Type} {enc : α → List Value} {sz : Nat} {e : TypeId} {z : Value} {bytes : Nat} (hl : ∀ x, (enc x).length = sz) (ho : ∀ x, ∀ u ∈ enc x, u.oneCell' = true) (hp : 0 < sz)
    (h : (P.info? e).map (fun i => (i.zero, i.size, i.bytes)) = some (some z, sz, bytes)) (hz : z.cells.size = sz) (hb : bytes ≤ 128) : ElemOk P enc sz e :=
  ⟨hl, ho, hp, by obtain ⟨i, a, b, c, d⟩ := info_parts h; exact ⟨i, z, bytes, a, b, c, d, hz, hb⟩⟩

section
variable {P : Program} {α : Type} {enc : α → List Value} {sz : Nat} {e : TypeId}

theorem run_append_slice (ok : ElemOk P enc sz e) (t ty : TypeId) (ht : P.underlying t = some (.slice e)) (w : World) (base : Nat) (v : Value) (xs : List α) (hown : Own enc sz e w base v xs)
    (B : Nat) (A : Option Addr) (ys : List α) (c : Nat) (hsrc : SlAt enc sz w B A ys) (hlen : xs.length + ys.length ≤ 1000000000000) (hbase : base ≤ w.heap.size) :
    ∃ v' w', (Builtin.append_ #[t, t] ty #[v, .slice A ys.length c]).run P w = .ok v' w' ∧ Own enc sz e w' base v' (xs ++ ys) ∧ w.grownBy w' v.ownBlock ∧ (v'.ownBlock = v.ownBlock ∨ v'.ownBlock = some w.heap.size) ∧ (ys ≠ [] → v' ≠ .slice none 0 0) ∧ (v ≠ .slice none 0 0 → v' ≠ .slice none 0 0) := by
  obtain ⟨i, z, bytes, hi, hz, hsize, hby, hzs, hb128⟩ := ok.info
  have hbytes : (xs.length + ys.length) * bytes ≤ 140737488355328 := Nat.le_trans (Nat.mul_le_mul hlen hb128) (by omega)
  have nilcase : ys = [] → A = none → ∃ v' w', (Builtin.append_ #[t, t] ty #[v, .slice A ys.length c]).run P w = .ok v' w' ∧ Own enc sz e w' base v' (xs ++ ys) ∧ w.grownBy w' v.ownBlock ∧ (v'.ownBlock = v.ownBlock ∨ v'.ownBlock = some w.heap.size) ∧ (ys ≠ [] → v' ≠ .slice none 0 0) ∧ (v ≠ .slice none 0 0 → v' ≠ .slice none 0 0) := by
    rintro rfl rfl
    refine ⟨v, w, ?_, by simpa using hown, World.grownBy.refl w _, .inl rfl, fun h => absurd rfl h, fun h => h⟩
    rcases hown.2 with ⟨rfl, _⟩ | ⟨g, cap, cur, rfl, _, _, hnc, _⟩
    · simp [Builtin.append_, run_underlying ht, sizeOf, typeInfo, hi, Builtin.lenOf, Builtin.firstCells]
    · simp [Builtin.append_, run_underlying ht, sizeOf, typeInfo, hi, Builtin.lenOf, Builtin.firstCells, hnc, storeCells]
  have some_ : ∀ ad, A = some ad → (∀ j u, (ys.flatMap enc)[j]? = some u → w.cell? (ad.add j) = some u) → ∃ v' w', (Builtin.append_ #[t, t] ty #[v, .slice A ys.length c]).run P w = .ok v' w' ∧ Own enc sz e w' base v' (xs ++ ys) ∧ w.grownBy w' v.ownBlock ∧ (v'.ownBlock = v.ownBlock ∨ v'.ownBlock = some w.heap.size) ∧ (ys ≠ [] → v' ≠ .slice none 0 0) ∧ (v ≠ .slice none 0 0 → v' ≠ .slice none 0 0) := by
    rintro ad rfl hcells
    obtain ⟨v', w', hrun, h2, h3, h4, h5⟩ := run_append_own_at (P := P) w base t ty e i z sz bytes ht hi hz hsize hby hzs ok.pos v xs.length (xs.flatMap enc) hown ad ys.length c (ys.flatMap enc) (length_flat ok.len ys) hcells
      (fun u hu => by obtain ⟨x, _, hx⟩ := List.mem_flatMap.1 hu; exact ok.one x u hx) (by unfold maxLen; omega) hbytes hbase
    refine ⟨v', w', hrun, ?_, h3, h5, ?_, ?_⟩
    · unfold Own
      rw [List.length_append, List.flatMap_append]
      exact h2
    · intro hne he
      have h6 := (h4.1 he).2
      cases ys with
      | nil => exact hne rfl
      | cons y ys => simp at h6
    · exact fun hne he => hne (h4.1 he).1
  rcases A with _ | ad
  · cases ys with
    | nil => exact nilcase rfl rfl
    | cons y ys =>
      obtain ⟨ad, h, _⟩ := hsrc (by simp)
      cases h
  · refine some_ ad rfl ?_
    cases ys with
    | nil => intro j u h; simp at h
    | cons y ys =>
      obtain ⟨ad', h, _, hc⟩ := hsrc (by simp)
      injection h with h
      subst h
      intro j u hu
      have hjl : j < ((y :: ys).flatMap enc).length := (List.getElem?_eq_some_iff.1 hu).1
      rw [length_flat ok.len] at hjl
      have hp := ok.pos
      have hk : j / sz < (y :: ys).length := Nat.div_lt_of_lt_mul (by rw [Nat.mul_comm]; exact hjl)
      have hm : j % sz < sz := Nat.mod_lt _ hp
      have hx : (y :: ys)[j / sz]? = some (y :: ys)[j / sz] := List.getElem?_eq_getElem hk
      have hl : j % sz < (enc (y :: ys)[j / sz]).length := by rw [ok.len]; exact hm
      have hu2 : (enc (y :: ys)[j / sz])[j % sz]? = some (enc (y :: ys)[j / sz])[j % sz] := List.getElem?_eq_getElem hl
      have e1 := getElem?_flat ok.len (y :: ys) (j / sz) _ (j % sz) _ hx hu2
      have e2 : j / sz * sz + j % sz = j := by rw [Nat.mul_comm]; exact Nat.div_add_mod j sz
      rw [e2, hu] at e1
      injection e1 with e1
      have e3 := hc (j / sz) _ hx (j % sz) _ hu2
      rw [add_add', e2, ← e1] at e3
      exact e3

/-- 'append(v, ys...)' in a plain region. -/
theorem wpList_appS {ops : Array Oper} {rest : List Oper} {o : Oper} {a : Act} {Q : Exit → Act → World → Prop} {w : World} (ok : ElemOk P enc sz e) (hgd : o.guard = none) (s x : Operand) (t : TypeId)
    (ho : o.op = .call { callee := .builtin .append, args := #[s, x], argTypes := #[t, t] }) (ht : P.underlying t = some (.slice e)) (base : Nat) (v : Value) (xs : List α) (hs : a.eval s = v) (hown : Own enc sz e w base v xs)
    (B : Nat) (A : Option Addr) (ys : List α) (c : Nat) (hx : a.eval x = .slice A ys.length c) (hsrc : SlAt enc sz w B A ys) (hlen : xs.length + ys.length ≤ 1000000000000) (hbase : base ≤ w.heap.size)
    (h : ∀ v' w', Own enc sz e w' base v' (xs ++ ys) → w.grownBy w' v.ownBlock → (v'.ownBlock = v.ownBlock ∨ v'.ownBlock = some w.heap.size) → (v ≠ .slice none 0 0 → v' ≠ .slice none 0 0) → wpList P ops Q rest (a.put o.dst v') w') : wpList P ops Q (o :: rest) a w :=
  wpList_plain hgd fun K hK => by
    obtain ⟨v', w', hr, h2, h3, h4, _, h5⟩ := run_append_slice ok t o.type ht w base v xs hown B A ys c hsrc hlen hbase
    unfold Oper.wp execOp
    simp only [ho, resolve, invoke, builtin, Sem.run_bind, Sem.run_pure, Result.andThen_ok, List.map_toArray, List.map_cons, List.map_nil, hs, hx, hr]
    exact hK _ _ (h v' w' h2 h3 h4 h5)

theorem slAt_new (w : World) (cs : Array Value) (e' : TypeId) (y : α) (hcs : cs.toList = enc y) : SlAt enc sz (w.alloc (.cells cs e')) (w.heap.size + 1) (some ⟨w.heap.size, 0, none⟩) [y] := fun _ => by
  refine ⟨_, rfl, by simp, fun k x hx j u hu => ?_⟩
  cases k with
  | succ k => simp at hx
  | zero =>
    simp at hx
    subst hx
    rw [add_add', Nat.zero_mul, Nat.zero_add]
    have hadd : (⟨w.heap.size, 0, none⟩ : Addr).add j = ⟨w.heap.size, j, none⟩ := by unfold Addr.add; split <;> simp_all
    rw [hadd, cell_of_row _ _ j cs e' (0, 0) (heap_alloc_new w _), ← hu, ← hcs]
    simp

/-- 'append(v, y)' in a plain region: y lies in a block that has just been laid. -/
theorem wpList_app1 {ops : Array Oper} {rest : List Oper} {o : Oper} {a : Act} {Q : Exit → Act → World → Prop} {w : World} {cs : Array Value} {e' : TypeId} (ok : ElemOk P enc sz e) (hgd : o.guard = none) (s x : Operand) (t : TypeId)
    (ho : o.op = .call { callee := .builtin .append, args := #[s, x], argTypes := #[t, t] }) (ht : P.underlying t = some (.slice e)) (base : Nat) (v : Value) (xs : List α) (hs : a.eval s = v) (hown : Own enc sz e w base v xs)
    (y : α) (hcs : cs.toList = enc y) (hx : a.eval x = .slice (some ⟨w.heap.size, 0, none⟩) 1 1) (hlen : xs.length + 1 ≤ 1000000000000) (hbase : base ≤ w.heap.size)
    (h : ∀ v' w', Own enc sz e w' base v' (xs ++ [y]) → Below base w w' → (w.alloc (.cells cs e')).grownBy w' v.ownBlock → wpList P ops Q rest (a.put o.dst v') w') : wpList P ops Q (o :: rest) a (w.alloc (.cells cs e')) :=
  wpList_appS ok hgd s x t ho ht base v xs hs (hown.alloc _) (w.heap.size + 1) _ [y] 1 hx (slAt_new w cs e' y hcs) hlen (by simp; omega) fun v' w' h1 h2 _ _ =>
    h v' w' h1 (((Below.refl base w).alloc hbase _).grown h2 (by simp; omega) fun k hk => (hown.lt k hk).1) h2
/-- The same, the new block's number spelled in the walk's way. -/
theorem wpList_app1g {ops : Array Oper} {rest : List Oper} {o : Oper} {a : Act} {Q : Exit → Act → World → Prop} {w : World} {cs : Array Value} {e' : TypeId} (ok : ElemOk P enc sz e) (hgd : o.guard = none) (s x : Operand) (t : TypeId)
    (ho : o.op = .call { callee := .builtin .append, args := #[s, x], argTypes := #[t, t] }) (ht : P.underlying t = some (.slice e)) (base : Nat) (v : Value) (xs : List α) (hs : a.eval s = v) (hown : Own enc sz e w base v xs)
    (y : α) (hcs : cs.toList = enc y) (g : Nat) (hx : a.eval x = .slice (some ⟨g, 0, none⟩) 1 1) (hg : g = w.heap.size) (hlen : xs.length + 1 ≤ 1000000000000) (hbase : base ≤ w.heap.size)
    (h : ∀ v' w', Own enc sz e w' base v' (xs ++ [y]) → Below base w w' → (w.alloc (.cells cs e')).grownBy w' v.ownBlock → wpList P ops Q rest (a.put o.dst v') w') : wpList P ops Q (o :: rest) a (w.alloc (.cells cs e')) :=
  wpList_app1 ok hgd s x t ho ht base v xs hs hown y hcs (by rw [hx, hg]) hlen hbase h
end
end Go.Proofs.YtoagikkjomobgaaDoor
