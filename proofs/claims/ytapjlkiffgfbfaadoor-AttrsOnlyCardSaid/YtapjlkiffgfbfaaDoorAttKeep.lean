/- What is kept of the rows of one's own while a law of layer 3 goes on; the plain parts of the laws AttrsPut, AttrsOnly. -/
import Derived.Test.YtapjlkiffgfbfaaDoorAttLaw1
namespace Go.Proofs.YtapjlkiffgfbfaaDoor
open Go.RowKit Go.Lib

structure Kp (w : World) (O : List (Value × List At)) (W : World) : Prop where
  b : Below w.heap.size w W
  o : ∀ t ∈ O, Own encA 2 52 W w.heap.size t.1 t.2
  d : O.Pairwise fun s t => ∀ g, s.1.ownBlock = some g → t.1.ownBlock ≠ some g
theorem Kp.start (w : World) : Kp w [] w := ⟨Below.refl _ _, (fun _ h => by cases h), List.Pairwise.nil⟩
theorem Kp.later {w W W' : World} {O : List (Value × List At)} (k : Kp w O W) (h : Below W.heap.size W W') : Kp w O W' := ⟨k.b.trans (h.mono k.b.size), fun t ht => (k.o t ht).later h, k.d⟩
theorem Kp.quiet {w W W' : World} {O : List (Value × List At)} (k : Kp w O W) (h : ∃ q, W' = W.drewN q) : Kp w O W' := k.later (quiet_below (Below.refl _ W) h)
theorem Kp.alloc {w W : World} {O : List (Value × List At)} (k : Kp w O W) (o : Obj) : Kp w O (W.alloc o) := k.later ((Below.refl _ W).alloc (Nat.le_refl _) o)
theorem Kp.add {w W W' : World} {O : List (Value × List At)} {v : Value} {ys : List At} (k : Kp w O W) (h : Below W.heap.size W W') (ho : Own encA 2 52 W' W.heap.size v ys) : Kp w ((v, ys) :: O) W' := by
  refine ⟨k.b.trans (h.mono k.b.size), fun t ht => ?_, List.Pairwise.cons (fun t ht g hg e => ?_) k.d⟩
  · rcases List.mem_cons.1 ht with rfl | ht
    · exact ho.based k.b.size
    · exact (k.o t ht).later h
  · have h1 := (ho.lt g hg).1
    have h2 := ((k.o t ht).lt g e).2
    omega
theorem Kp.sl {w W : World} {O : List (Value × List At)} {A : Option Addr} {n c : Nat} {ys : List At} (k : Kp w O W) (h : (Value.slice A n c, ys) ∈ O) : SlAt encA 2 W W.heap.size A ys := (k.o _ h).sl encA_len
theorem Kp.sub {w W : World} {O O' : List (Value × List At)} (k : Kp w O W) (h : O'.Sublist O) : Kp w O' W := ⟨k.b, fun t ht => k.o t (h.subset ht), k.d.sublist h⟩
theorem Kp.spoil {w W W' : World} {O1 O2 : List (Value × List At)} {t : Value × List At} (k : Kp w (O1 ++ t :: O2) W) (h : W.grownBy W' t.1.ownBlock) : Kp w (O1 ++ O2) W' := by
  have ht := k.o t (by simp)
  have hd := List.pairwise_append.1 k.d
  have hd2 := List.pairwise_cons.1 hd.2.1
  refine ⟨k.b.grown h k.b.size fun g hg => (ht.lt g hg).1, fun s hs => World.ownsRow.kept (k.o s (by
    rcases List.mem_append.1 hs with h | h
    · exact List.mem_append.2 (.inl h)
    · exact List.mem_append.2 (.inr (List.mem_cons_of_mem _ h)))) h ?_, k.d.sublist (List.Sublist.append (List.Sublist.refl _) (List.sublist_cons_self _ _))⟩
  cases hb : s.1.ownBlock with
  | none => exact .inl rfl
  | some g =>
    refine .inr fun e => ?_
    rcases List.mem_append.1 hs with h | h
    · exact hd.2.2 s h t (by simp) g hb e.symm
    · exact hd2.1 s h g e.symm hb

/-! ### what a put gives -/
theorem findN_set {xs : List At} {m : ByteArray} {i : Nat} (h : findN xs m = some i) (v : ByteArray) : findN (xs.set i ⟨m, v⟩) m = some i := by
  obtain ⟨x, hx, hxn, hno⟩ := findN_spec h
  have hlt := findN_lt h
  refine findN_at (x := ⟨m, v⟩) (by simp [hlt]) rfl fun j y hj hy => ?_
  rw [List.getElem?_set_ne (by omega)] at hy
  exact hno j y hj hy
theorem findN_set_ne {xs : List At} {m o : ByteArray} {i : Nat} {x : At} (hx : xs[i]? = some x) (hn : x.n = m) (v : ByteArray) (hne : o ≠ m) : findN (xs.set i ⟨m, v⟩) o = findN xs o := by
  have hlt := (List.getElem?_eq_some_iff.1 hx).1
  have hkey : ∀ k, NotIn (xs.set i ⟨m, v⟩) o k ↔ NotIn xs o k := fun k => by
    constructor <;> intro h j y hj hy
    · by_cases e : j = i
      · subst e
        rw [hx] at hy; injection hy with hy; subst hy
        rw [hn]; exact fun e => hne e.symm
      · exact h j y hj (by rw [List.getElem?_set_ne (by omega)]; exact hy)
    · by_cases e : j = i
      · subst e
        rw [List.getElem?_set_self hlt] at hy; injection hy with hy; subst hy
        exact fun e => hne e.symm
      · rw [List.getElem?_set_ne (by omega)] at hy
        exact h j y hj hy
  cases hf : findN xs o with
  | none =>
    have : NotIn xs o xs.length := fun j y hj hy e => by
      have h1 : findN xs o ≠ none := by
        unfold findN
        rw [Ne, List.findIdx?_eq_none_iff]
        intro hall
        have := hall y (List.mem_of_getElem? hy)
        rw [decide_eq_true e] at this; cases this
      exact h1 hf
    refine findN_none ?_
    rw [List.length_set]
    exact (hkey _).2 this
  | some k =>
    obtain ⟨y, hy, hyn, hno⟩ := findN_spec hf
    have hki : k ≠ i := fun e => by
      subst e
      rw [hx] at hy; injection hy with hy; subst hy
      exact hne (hyn.symm.trans hn)
    exact findN_at (x := y) (by rw [List.getElem?_set_ne (by omega)]; exact hy) hyn ((hkey k).2 hno)
theorem findN_notin {xs : List At} {o : ByteArray} (hf : findN xs o = none) : NotIn xs o xs.length := fun j y hj hy e => by
  have h1 : findN xs o ≠ none := by
    unfold findN
    rw [Ne, List.findIdx?_eq_none_iff]
    intro hall
    have := hall y (List.mem_of_getElem? hy)
    rw [decide_eq_true e] at this; cases this
  exact h1 hf
theorem findN_app {xs : List At} {m : ByteArray} (h : findN xs m = none) (v : ByteArray) : findN (xs ++ [⟨m, v⟩]) m = some xs.length := by
  refine findN_at (x := ⟨m, v⟩) (by simp) rfl fun j y hj hy => ?_
  rw [List.getElem?_append_left (by omega)] at hy
  exact findN_notin h j y hj hy
theorem findN_app_ne {xs : List At} {m o : ByteArray} (v : ByteArray) (hne : o ≠ m) : findN (xs ++ [⟨m, v⟩]) o = findN xs o := by
  unfold findN
  rw [List.findIdx?_append]
  cases List.findIdx? (fun a => decide (a.n = o)) xs with
  | some i => rfl
  | none =>
    simp only [Option.none_or, List.findIdx?_cons, List.findIdx?_nil]
    rw [decide_eq_false (fun e => hne e.symm)]; rfl

def okP (m v : ByteArray) : Prop := nameB m.data.toList = true ∧ valueB v = true
theorem putL_none {xs : List At} {m v : ByteArray} (ok : okP m v) (h : findN xs m = none) : putL xs m v = xs ++ [⟨m, v⟩] := by unfold putL; rw [ok.1, ok.2, h]; rfl
theorem putL_some {xs : List At} {m v : ByteArray} {i : Nat} (ok : okP m v) (h : findN xs m = some i) : putL xs m v = xs.set i ⟨m, v⟩ := by unfold putL; rw [ok.1, ok.2, h]; rfl
theorem put_get {xs : List At} {m v : ByteArray} (ok : okP m v) : getV (putL xs m v) m = v ∧ getB (putL xs m v) m = true := by
  cases h : findN xs m with
  | none =>
    rw [putL_none ok h]
    unfold getV getB
    rw [findN_app h]
    simp
  | some i =>
    rw [putL_some ok h]
    have hlt := findN_lt h
    unfold getV getB
    rw [findN_set h]
    simp [hlt]
theorem put_other {xs : List At} {m v o : ByteArray} (ok : okP m v) (hne : o ≠ m) : getV (putL xs m v) o = getV xs o ∧ getB (putL xs m v) o = getB xs o := by
  cases h : findN xs m with
  | none =>
    rw [putL_none ok h]
    unfold getV getB
    rw [findN_app_ne v hne]
    refine ⟨?_, rfl⟩
    cases hf : findN xs o with
    | none => rfl
    | some k =>
      have hk := findN_lt hf
      simp only [List.getElem?_append_left hk]
  | some i =>
    obtain ⟨x, hx, hxn, hno⟩ := findN_spec h
    rw [putL_some ok h]
    unfold getV getB
    rw [findN_set_ne hx hxn v hne]
    refine ⟨?_, rfl⟩
    cases hf : findN xs o with
    | none => rfl
    | some k =>
      have hk := findN_lt hf
      obtain ⟨y, hy, hyn, _⟩ := findN_spec hf
      have hki : k ≠ i := fun e => by
        subst e
        rw [hx] at hy; injection hy with hy; subst hy
        exact hne (hyn.symm.trans hxn)
      simp only [List.getElem?_set_ne (Ne.symm hki)]
theorem mayL_iff {xs : List At} : mayL xs = true ↔ ∀ j x, xs[j]? = some x → nameB x.n.data.toList = true ∧ valueB x.v = true ∧ findN xs x.n = some j := by
  constructor
  · intro h j x hx
    cases hm : mayAt xs j x with
    | false => rw [mayL_no hx hm] at h; cases h
    | true =>
      unfold mayAt at hm
      simp only [Bool.and_eq_true, decide_eq_true_eq] at hm
      refine ⟨hm.1, hm.2.1, ?_⟩
      have h2 := hm.2.2
      unfold findK at h2
      cases hf : findN xs x.n with
      | none => rw [hf] at h2; simp only at h2; omega
      | some k => rw [hf] at h2; simp only at h2; rw [show k = j by omega]
  · intro h
    refine mayL_yes fun j x _ hx => ?_
    obtain ⟨h1, h2, h3⟩ := h j x hx
    unfold mayAt findK
    rw [h1, h2, h3]
    simp
theorem put_may {xs : List At} {m v : ByteArray} (ok : okP m v) (h : mayL xs = true) : mayL (putL xs m v) = true := by
  rw [mayL_iff] at h ⊢
  cases hf : findN xs m with
  | none =>
    rw [putL_none ok hf]
    intro j x hx
    by_cases hj : j < xs.length
    · rw [List.getElem?_append_left hj] at hx
      obtain ⟨h1, h2, h3⟩ := h j x hx
      refine ⟨h1, h2, ?_⟩
      rw [findN_app_ne v, h3]
      intro e
      rw [e, hf] at h3; cases h3
    · have hj2 := (List.getElem?_eq_some_iff.1 hx).1
      simp at hj2
      obtain rfl : j = xs.length := by omega
      simp at hx
      subst hx
      exact ⟨ok.1, ok.2, findN_app hf v⟩
  | some i =>
    obtain ⟨y, hy, hyn, hno⟩ := findN_spec hf
    rw [putL_some ok hf]
    intro j x hx
    by_cases hj : j = i
    · subst hj
      have hlt := findN_lt hf
      rw [List.getElem?_set_self hlt] at hx
      injection hx with hx
      subst hx
      exact ⟨ok.1, ok.2, findN_set hf v⟩
    · rw [List.getElem?_set_ne (by omega)] at hx
      obtain ⟨h1, h2, h3⟩ := h j x hx
      refine ⟨h1, h2, ?_⟩
      rw [findN_set_ne hy hyn v, h3]
      intro e
      rw [e, hf] at h3
      injection h3 with h3
      exact hj h3.symm
theorem put_drop {xs : List At} {m v : ByteArray} (ok : okP m v) : dropE (putL xs m v) m = 0 ∧ (dropL (putL xs m v) m).length = (putL xs m v).length - 1 ∧ 0 < (putL xs m v).length := by
  have hk : ∃ k, findN (putL xs m v) m = some k := by
    cases h : findN xs m with
    | none => exact ⟨_, by rw [putL_none ok h]; exact findN_app h v⟩
    | some i => exact ⟨_, by rw [putL_some ok h]; exact findN_set h v⟩
  obtain ⟨k, hk⟩ := hk
  have hlt := findN_lt hk
  unfold dropE dropL
  rw [hk]
  refine ⟨rfl, ?_, by omega⟩
  simp
  omega
theorem put_back {xs : List At} {m v : ByteArray} (ok : okP m v) (h : findN xs m = none) : dropL (putL xs m v) m = xs := by
  unfold dropL
  rw [putL_none ok h, findN_app h]
  simp
theorem putL_len {xs : List At} {m v : ByteArray} : (putL xs m v).length ≤ xs.length + 1 := by
  unfold putL
  split
  · split
    · simp
    · simp
  · simp
theorem dropL_len {xs : List At} {m : ByteArray} : (dropL xs m).length ≤ xs.length := by
  unfold dropL
  split
  · simp; omega
  · simp
theorem onlyL_len {xs : List At} {ns : List ByteArray} : (onlyL xs ns).length ≤ xs.length := List.length_filter_le _ _
theorem putL_small {xs : List At} {m v : ByteArray} (h : Small xs) (hm : m.size ≤ 1000000000) (hv : v.size ≤ 1000000000) : Small (putL xs m v) := by
  intro x hx
  unfold putL at hx
  split at hx
  · split at hx
    · rcases List.mem_or_eq_of_mem_set hx with hx | rfl
      · exact h x hx
      · exact ⟨hm, hv⟩
    · rcases List.mem_append.1 hx with hx | hx
      · exact h x hx
      · simp at hx; subst hx; exact ⟨hm, hv⟩
  · cases hx

/-! ### those of some names -/
theorem only_at {xs : List At} {ns : List ByteArray} {k : Nat} {x : At} (hx : xs[k]? = some x) (h : inB ns x.n = true) : (onlyL xs ns)[(onlyL (xs.take k) ns).length]? = some x := by
  have e : xs = xs.take k ++ (x :: xs.drop (k + 1)) := by
    have := List.take_append_drop (k + 1) xs
    rw [take_snoc3 hx, List.append_assoc] at this
    exact this.symm
  have e2 : onlyL xs ns = onlyL (xs.take k) ns ++ (x :: onlyL (xs.drop (k + 1)) ns) := by
    conv => lhs; rw [e]
    unfold onlyL
    rw [List.filter_append, List.filter_cons, h]; rfl
  rw [e2]
  simp
theorem only_nil (xs : List At) : onlyL xs [] = [] := by
  unfold onlyL
  rw [List.filter_eq_nil_iff]
  intro x _
  have : inB [] x.n = false := by
    cases h : inB [] x.n with
    | false => rfl
    | true => unfold inB at h; rw [containsS_iff] at h; cases h
  rw [this]; simp
theorem only_one {xs : List At} {a : ByteArray} (h : mayL xs = true) : (onlyL xs [a]).length ≤ 1 := by
  rw [mayL_iff] at h
  have key : ∀ n, n ≤ xs.length → (onlyL (xs.take n) [a]).length ≤ 1 ∧ ((onlyL (xs.take n) [a]).length = 1 → ∃ k, k < n ∧ findN xs a = some k) := by
    intro n
    induction n with
    | zero => intro _; simp [onlyL]
    | succ n ih =>
      intro hn
      have hx : xs[n]? = some xs[n] := List.getElem?_eq_getElem (by omega)
      obtain ⟨i1, i2⟩ := ih (by omega)
      cases hb : inB [a] xs[n].n with
      | false =>
        rw [only_no hx hb]
        exact ⟨i1, fun e => by obtain ⟨k, hk, hf⟩ := i2 e; exact ⟨k, by omega, hf⟩⟩
      | true =>
        have e : xs[n].n = a := by unfold inB at hb; rw [containsS_iff] at hb; simpa using hb
        have hf := (h n _ hx).2.2
        rw [e] at hf
        have h0 : (onlyL (xs.take n) [a]).length = 0 := by
          rcases Nat.lt_or_ge 0 (onlyL (xs.take n) [a]).length with h1 | h1
          · obtain ⟨k, hk, hf2⟩ := i2 (by omega)
            rw [hf] at hf2; injection hf2 with hf2; omega
          · omega
        rw [only_yes hx hb, List.length_append, h0]
        exact ⟨by simp, fun _ => ⟨n, by omega, hf⟩⟩
  have := (key xs.length (Nat.le_refl _)).1
  rwa [List.take_of_length_le (Nat.le_refl _)] at this
end Go.Proofs.YtapjlkiffgfbfaaDoor
