/- Texts on cells and lines, put together: Drawn, Drawn2. -/
import Derived.Orders
import Derived.StillTail
import Derived.WalkKit
/- A region that leaves its order open, by ONE walk of each of its operations: each is walked in the frame in which all that it looks at stands; what holds is said by what is done already. Over any program. -/
namespace Go.Proofs.YtblbfoniimnkcaaGreatDoor
open Go.RowKit

/-- Operation i waits for operation j. -/
def drWaits (ops : Array Oper) (i j : Nat) : Bool := match ops[i]? with
  | some o => o.after.any fun e => Region.binds .any e && e.on == j
  | none => false
/-- Each edge leads to an earlier operation; an operation looks at what it waits for alone, or at what no operation yields; each yields to a slot of its own. -/
def drawnOk (ops : Array Oper) (n : Nat) : Bool := (List.range ops.size).all fun i => match ops[i]? with
  | none => false
  | some o =>
    (o.after.all fun e => !Region.binds .any e || decide (e.on < i)) &&
    (match o.op with | .select _ _ => false | .defer _ => false | _ => true) &&
    (match o.dst with | some d => decide (d < n) | none => true) &&
    ((List.range ops.size).all fun j => match ops[j]? with
      | none => false
      | some oj => match oj.dst with
        | none => true
        | some d => (decide (i = j) || o.dst != some d) && (drWaits ops i j || !(o.looksAt ops).contains d)) &&
    (match o.guard with | none => true | some (g, _) => drWaits ops i g && decide (g < ops.size))
section
variable {ops : Array Oper} {n : Nat}
structure DrOk (ops : Array Oper) (n i : Nat) (o : Oper) : Prop where
  down : ∀ e ∈ o.after, Region.binds .any e = true → e.on < i
  sel : ∀ cs b, o.op ≠ .select cs b
  defer : ∀ c, o.op ≠ .defer c
  lt : ∀ d, o.dst = some d → d < n
  apart : ∀ (j : Nat) (oj : Oper) (d : Nat), ops[j]? = some oj → oj.dst = some d → i ≠ j → o.dst ≠ some d
  looks : ∀ (j : Nat) (oj : Oper) (d : Nat), ops[j]? = some oj → oj.dst = some d → d ∈ o.looksAt ops → drWaits ops i j = true
theorem drawnOk_at (h : drawnOk ops n = true) {i : Nat} {o : Oper} (ho : ops[i]? = some o) : DrOk ops n i o := by
  have hi := (Array.getElem?_eq_some_iff.1 ho).1
  have h1 := List.all_eq_true.1 h i (List.mem_range.2 hi)
  rw [ho] at h1
  simp only [Bool.and_eq_true] at h1
  obtain ⟨⟨⟨⟨a1, a2⟩, a3⟩, a4⟩, a5⟩ := h1
  have key : ∀ j oj d, ops[j]? = some oj → oj.dst = some d → (i = j ∨ o.dst ≠ some d) ∧ (drWaits ops i j = true ∨ d ∉ o.looksAt ops) := fun j oj d hj hd => by
    have hjl := (Array.getElem?_eq_some_iff.1 hj).1
    have h2 := List.all_eq_true.1 a4 j (List.mem_range.2 hjl)
    rw [hj] at h2
    simp only [hd, Bool.and_eq_true, Bool.or_eq_true, decide_eq_true_eq, bne_iff_ne, Bool.not_eq_true', ] at h2
    refine ⟨h2.1, h2.2.imp id fun h3 => ?_⟩
    intro hm
    rw [List.contains_iff_mem.2 hm] at h3
    cases h3
  refine ⟨fun e he hb => ?_, fun cs b e => ?_, fun c e => ?_, fun d hd => ?_, fun j oj d hj hd hne => ?_, fun j oj d hj hd hm => ?_⟩
  · obtain ⟨k, hk, rfl⟩ := Array.getElem_of_mem he
    have := Array.all_eq_true.1 a1 k hk
    rw [hb] at this
    simpa using this
  · rw [e] at a2; cases a2
  · rw [e] at a2; cases a2
  · rw [hd] at a3; simpa using a3
  · exact (key j oj d hj hd).1.resolve_left hne
  · exact (key j oj d hj hd).2.resolve_right fun h => h hm
theorem drReady {b : Array Bool} {i : Nat} (h : i ∈ Region.ready .any ops b) : i < ops.size ∧ b.getD i true = false ∧ ∀ j, drWaits ops i j = true → b.getD j false = true := by
  unfold Region.ready at h
  rw [List.mem_filter] at h
  have hi := List.mem_range.1 h.1
  have h2 := h.2
  rw [Array.getElem?_eq_getElem hi] at h2
  simp only [Bool.and_eq_true, Option.map_some, Option.getD_some, Bool.not_eq_true', Array.all_eq_true] at h2
  refine ⟨hi, h2.1, fun j hj => ?_⟩
  unfold drWaits at hj
  rw [Array.getElem?_eq_getElem hi] at hj
  simp only [Array.any_eq_true, Bool.and_eq_true, beq_iff_eq] at hj
  obtain ⟨k, hk, e1, e2⟩ := hj
  have := h2.2 k hk
  rw [e1, e2] at this
  simpa using this
theorem drDone (h : drawnOk ops n = true) {b : Array Bool} (hr : Region.ready .any ops b = []) (hs : b.size = ops.size) : ∀ m i, i < m → i < ops.size → b.getD i false = true := by
  intro m
  induction m with
  | zero => intro i hi; omega
  | succ m ih =>
    intro i hi hlt
    by_cases him : i < m
    · exact ih i him hlt
    · obtain rfl : i = m := by omega
      cases hb : b.getD i false with
      | true => rfl
      | false =>
        exfalso
        have hmem : i ∈ Region.ready .any ops b := by
          unfold Region.ready
          rw [List.mem_filter]
          refine ⟨List.mem_range.2 hlt, ?_⟩
          have hb' : b.getD i true = false := by
            simp only [Array.getD_eq_getD_getElem?] at hb ⊢
            rw [Array.getElem?_eq_getElem (by omega)] at hb ⊢
            simpa using hb
          simp only [Bool.and_eq_true, hb', Bool.not_false, true_and, Array.getElem?_eq_getElem hlt, Option.map_some, Option.getD_some]
          rw [Array.all_eq_true]
          intro k hk
          cases hbn : Region.binds .any ops[i].after[k] with
          | false => rfl
          | true =>
            have := (drawnOk_at h (Array.getElem?_eq_getElem hlt)).down _ (Array.getElem_mem hk) hbn
            rw [ih _ this (by omega)]; rfl
        rw [hr] at hmem
        cases hmem
end
theorem dr_count {b : Array Bool} {i : Nat} (h : b.getD i true = false) : (b.setIfInBounds i true).toList.count false + 1 = b.toList.count false := by
  have hi : i < b.size := by
    by_cases hi : i < b.size
    · exact hi
    · simp [Array.getD, hi] at h
  have hb : b.toList[i]'(by simpa using hi) = false := by
    simp [Array.getD, hi] at h
    simpa using h
  rw [Array.toList_setIfInBounds, List.count_set (by simpa using hi), hb]
  have : 0 < b.toList.count false := List.count_pos_iff.2 (hb ▸ List.getElem_mem _)
  simp only [beq_self_eq_true, if_true, show ((true : Bool) == false) = false from rfl, Bool.false_eq_true, if_false]
  omega
theorem drAny {P : Program} {ops : Array Oper} {Q : Exit → Act → World → Prop} (I : Array Bool → Act → World → Prop) (hstep : ∀ b a w i, I b a w → i ∈ Region.ready .any ops b → wpOp P ops Q i (I (b.setIfInBounds i true)) a w) (hend : ∀ b a w, I b a w → Region.ready .any ops b = [] → Q .normal a w) :
    ∀ fuel b a w, I b a w → b.toList.count false ≤ fuel → wpAny P .any ops Q fuel b a w := by
  intro fuel
  induction fuel with
  | zero =>
    intro b a w h hc
    have hr : Region.ready .any ops b = [] := by
      apply List.eq_nil_iff_forall_not_mem.2
      intro i hi
      have := dr_count (drReady hi).2.1
      omega
    exact ⟨hr, hend b a w h hr⟩
  | succ fuel ih =>
    intro b a w h hc
    exact ⟨hend b a w h, fun i hi => wpOp_mono (fun a' w' h' => ih _ _ _ h' (by have := dr_count (drReady hi).2.1; omega)) (hstep b a w i h hi)⟩
/-- The bits, one more set. -/
def bitUp (b : Nat → Bool) (i : Nat) : Nat → Bool := fun k => if k = i then true else b k
def valUp (v : Nat → Value) (i : Nat) (u : Value) : Nat → Value := fun k => if k = i then u else v k
/-- What an operation has left in its slot. -/
def dstVal (o : Oper) (a : Act) : Value := match o.dst with | some d => a.tmps.getD d undef | none => undef
/-- How an operation's own walk ends. -/
def drPost (ds : List Deferred) (R : Act → World → Prop) : Exit → Act → World → Prop
  | .normal, a, w => a.defers = ds ∧ R a w
  | _, _, _ => False
/-- A frame in which what the operations yielded stands, where they are done. -/
structure DrFr (ops : Array Oper) (T : Array Value) (b : Nat → Bool) (v : Nat → Value) (U : Array Value) : Prop where
  size : U.size = T.size
  old : ∀ k, (∀ (j : Nat) (oj : Oper), ops[j]? = some oj → oj.dst ≠ some k) → U.getD k undef = T.getD k undef
  new : ∀ (j : Nat) (oj : Oper) (d : Nat), ops[j]? = some oj → oj.dst = some d → b j = true → U.getD d undef = v j
section
variable {P : Program} {ops : Array Oper} {T : Array Value} {b : Nat → Bool} {v : Nat → Value} {U V : Array Value} {ds : List Deferred}
theorem DrFr.at_look (h : DrFr ops T b v U) (k : DrFr ops T b v V) (hok : drawnOk ops T.size = true) {i : Nat} {o : Oper} (ho : ops[i]? = some o) (hw : ∀ j, drWaits ops i j = true → b j = true) {t : Nat} (ht : t ∈ o.looksAt ops) : U.getD t undef = V.getD t undef := by
  by_cases hd : ∃ (j : Nat) (oj : Oper), ops[j]? = some oj ∧ oj.dst = some t
  · obtain ⟨j, oj, h1, h2⟩ := hd
    have hj := hw j ((drawnOk_at hok ho).looks j oj t h1 h2 ht)
    rw [h.new j oj t h1 h2 hj, k.new j oj t h1 h2 hj]
  · have hn : ∀ (j : Nat) (oj : Oper), ops[j]? = some oj → oj.dst ≠ some t := fun j oj h1 h2 => hd ⟨j, oj, h1, h2⟩
    rw [h.old t hn, k.old t hn]
theorem DrFr.eval (h : DrFr ops T b v U) (k : DrFr ops T b v V) (hok : drawnOk ops T.size = true) {i : Nat} {o : Oper} (ho : ops[i]? = some o) (hw : ∀ j, drWaits ops i j = true → b j = true) (x : Operand) (hx : x ∈ o.op.operands) : (⟨U, ds⟩ : Act).eval x = (⟨V, ds⟩ : Act).eval x := by
  cases x with
  | tmp t => exact h.at_look k hok ho hw (List.mem_append_left _ (List.mem_filterMap.2 ⟨.tmp t, by simpa using hx, rfl⟩))
  | _ => rfl
theorem DrFr.wanted (h : DrFr ops T b v U) (k : DrFr ops T b v V) (hok : drawnOk ops T.size = true) {i : Nat} {o : Oper} (ho : ops[i]? = some o) (hw : ∀ j, drWaits ops i j = true → b j = true) : Region.wanted o (yielded ops U) = Region.wanted o (yielded ops V) := by
  unfold Region.wanted
  cases hg : o.guard with
  | none => rfl
  | some gw =>
    obtain ⟨g, want⟩ := gw
    have hy : yielded ops U g = yielded ops V g := by
      unfold yielded
      cases hd : (ops[g]?).bind (·.dst) with
      | none => rfl
      | some t =>
        have e := h.at_look k hok ho hw (t := t) (by unfold Oper.looksAt; rw [hg]; simp [hd])
        simp only [Option.bind_some]
        by_cases hlt : t < U.size
        · have hlt' : t < V.size := by rw [k.size, ← h.size]; exact hlt
          rw [Array.getD_eq_getD_getElem?, Array.getD_eq_getD_getElem?, Array.getElem?_eq_getElem hlt, Array.getElem?_eq_getElem hlt'] at e
          rw [Array.getElem?_eq_getElem hlt, Array.getElem?_eq_getElem hlt']
          simp only [Option.getD_some] at e
          rw [e]
        · have e1 : U.size ≤ t := Nat.le_of_not_lt hlt
          have e2 : V.size ≤ t := by rw [k.size, ← h.size]; exact e1
          rw [Array.getElem?_eq_none e1, Array.getElem?_eq_none e2]
    simp only [hy]
theorem dr_getD_set {T : Array Value} {s k : Nat} {x : Value} (hs : s < T.size) : (T.setIfInBounds s x).getD k undef = if k = s then x else T.getD k undef := by
  simp only [Array.getD_eq_getD_getElem?, Array.getElem?_setIfInBounds]
  by_cases h : k = s
  · subst h; simp [hs]
  · rw [if_neg (fun e => h e.symm), if_neg h]
theorem DrFr.put (h : DrFr ops T b v U) (hok : drawnOk ops T.size = true) {i : Nat} {o : Oper} (ho : ops[i]? = some o) (x : Value) : DrFr ops T (bitUp b i) (valUp v i (dstVal o ((⟨U, ds⟩ : Act).put o.dst x))) ((⟨U, ds⟩ : Act).put o.dst x).tmps := by
  cases hd : o.dst with
  | none =>
    refine ⟨h.size, h.old, fun j oj d h1 h2 h3 => ?_⟩
    have hne : j ≠ i := fun e => by subst e; rw [ho] at h1; injection h1 with h1; subst h1; rw [hd] at h2; cases h2
    have hb : b j = true := by unfold bitUp at h3; rwa [if_neg hne] at h3
    show U.getD d undef = valUp v i _ j
    unfold valUp
    rw [if_neg hne]
    exact h.new j oj d h1 h2 hb
  | some s =>
    have hs : s < U.size := by rw [h.size]; exact (drawnOk_at hok ho).lt s hd
    have hv : dstVal o (⟨U.setIfInBounds s x, ds⟩ : Act) = x := by
      unfold dstVal
      rw [hd]
      show (U.setIfInBounds s x).getD s undef = x
      rw [dr_getD_set hs, if_pos rfl]
    show DrFr ops T (bitUp b i) (valUp v i (dstVal o (⟨U.setIfInBounds s x, ds⟩ : Act))) (U.setIfInBounds s x)
    rw [hv]
    refine ⟨by rw [Array.size_setIfInBounds]; exact h.size, fun k hk => ?_, fun j oj d h1 h2 h3 => ?_⟩
    · rw [dr_getD_set hs, if_neg (fun e => hk i o ho (by rw [hd, e]))]
      exact h.old k hk
    · rw [dr_getD_set hs]
      by_cases hji : j = i
      · subst hji
        rw [ho] at h1; injection h1 with h1; subst h1
        rw [hd] at h2; injection h2 with h2
        unfold valUp
        rw [if_pos h2.symm, if_pos rfl]
      · have hb : b j = true := by unfold bitUp at h3; rwa [if_neg hji] at h3
        have hne : d ≠ s := fun e => (drawnOk_at hok ho).apart j oj d h1 h2 (fun e => hji e.symm) (by rw [hd, e])
        rw [if_neg hne]
        unfold valUp
        rw [if_neg hji]
        exact h.new j oj d h1 h2 hb
end
/-- THE LAW. v, J: what has been yielded, what holds, by what is done (b). An operation is walked by itself, in whatever frame (U) shows what is done. -/
theorem wp_drawn {P : Program} {ds : List Deferred} {ops : Array Oper} {Q : Exit → Act → World → Prop} {id : Nat} {T : Array Value} {w : World} (hm : P.follows .mixedOrders = true) (hok : drawnOk ops T.size = true)
    (J : (Nat → Bool) → (Nat → Value) → World → Prop) (v0 : Nat → Value) (h0 : J (fun _ => false) v0 w.drew)
    (hstep : ∀ i o b v w', ops[i]? = some o → b i = false → (∀ j, drWaits ops i j = true → b j = true) → J b v w' → ∃ U, DrFr ops T b v U ∧ wpList P ops (drPost ds fun a'' w'' => J (bitUp b i) (valUp v i (dstVal o a'')) w'') [o] ⟨U, ds⟩ w')
    (hend : ∀ b v w', (∀ k, k < ops.size → b k = true) → J b v w' → ∃ U, DrFr ops T b v U ∧ Q .normal ⟨U, ds⟩ w') : (Code.region id ops true).wp P Q ⟨T, ds⟩ w := by
  refine wp_region_any hm ?_
  refine drAny (fun b a w => b.size = ops.size ∧ a.defers = ds ∧ ∃ v, DrFr ops T (fun k => b.getD k false) v a.tmps ∧ J (fun k => b.getD k false) v w) ?step ?fin _ _ _ _ ?start ?fuel
  case fuel => simp
  case start =>
    have e : (fun k => (Array.replicate ops.size false).getD k false) = fun _ => false := funext fun k => by simp [Array.getD]
    refine ⟨by simp, rfl, v0, ?_, ?_⟩
    · rw [e]
      exact ⟨rfl, fun _ _ => rfl, fun _ _ _ _ _ h => by cases h⟩
    · rw [e]; exact h0
  case fin =>
    rintro b ⟨tm, df⟩ w' ⟨hs, hdf, v, hF, hJ⟩ hr
    obtain rfl : ds = df := hdf.symm
    have all : ∀ k, k < ops.size → b.getD k false = true := fun k hk => drDone hok hr hs ops.size k hk hk
    obtain ⟨U, hGv, hq⟩ := hend _ v w' all hJ
    have e : tm = U := by
      apply Array.ext (hF.size.trans hGv.size.symm)
      intro k h1 h2
      have key : tm.getD k undef = U.getD k undef := by
        by_cases hd : ∃ (j : Nat) (oj : Oper), ops[j]? = some oj ∧ oj.dst = some k
        · obtain ⟨j, oj, q1, q2⟩ := hd
          have hb := all j (Array.getElem?_eq_some_iff.1 q1).1
          exact (hF.new j oj k q1 q2 hb).trans (hGv.new j oj k q1 q2 hb).symm
        · have hn : ∀ (j : Nat) (oj : Oper), ops[j]? = some oj → oj.dst ≠ some k := fun j oj q1 q2 => hd ⟨j, oj, q1, q2⟩
          exact (hF.old k hn).trans (hGv.old k hn).symm
      simpa [Array.getD, h1, h2] using key
    rw [e]
    exact hq
  case step =>
    rintro b ⟨tm, df⟩ w' i ⟨hs, hdf, v, hF, hJ⟩ hi
    obtain rfl : ds = df := hdf.symm
    obtain ⟨hlt, hoff, hwt⟩ := drReady hi
    obtain ⟨o, ho⟩ : ∃ o, ops[i]? = some o := ⟨_, Array.getElem?_eq_getElem hlt⟩
    have hoff' : b.getD i false = false := by
      simp only [Array.getD_eq_getD_getElem?] at hoff ⊢
      rw [Array.getElem?_eq_getElem (by omega)] at hoff ⊢
      simpa using hoff
    obtain ⟨U, hGv, hst⟩ := hstep i o _ v w' ho hoff' hwt hJ
    have hup : (fun k => (b.setIfInBounds i true).getD k false) = bitUp (fun k => b.getD k false) i := funext fun k => by
      unfold bitUp
      simp only [Array.getD_eq_getD_getElem?, Array.getElem?_setIfInBounds]
      by_cases e : k = i
      · subst e; simp [hs, hlt]
      · rw [if_neg (fun h => e h.symm), if_neg e]
    have hwant := hF.wanted hGv hok ho hwt
    have hev := execOp_congr (ρ := (⟨tm, ds⟩ : Act).eval) (ρ' := (⟨U, ds⟩ : Act).eval) o (drawnOk_at hok ho).sel (hF.eval hGv hok ho hwt)
    have next : ∀ x w2, J (bitUp (fun k => b.getD k false) i) (valUp v i (dstVal o ((⟨U, ds⟩ : Act).put o.dst x))) w2 → (fun a w => (b.setIfInBounds i true).size = ops.size ∧ a.defers = ds ∧ ∃ v, DrFr ops T (fun k => (b.setIfInBounds i true).getD k false) v a.tmps ∧ J (fun k => (b.setIfInBounds i true).getD k false) v w) ((⟨tm, ds⟩ : Act).put o.dst x) w2 := fun x w2 hJ2 => by
      refine ⟨by rw [Array.size_setIfInBounds]; exact hs, by cases o.dst <;> rfl, valUp v i (dstVal o ((⟨U, ds⟩ : Act).put o.dst x)), ?_, ?_⟩
      · rw [hup]
        have := hF.put (ds := ds) hok ho x
        have e2 : dstVal o ((⟨tm, ds⟩ : Act).put o.dst x) = dstVal o ((⟨U, ds⟩ : Act).put o.dst x) := by
          unfold dstVal
          cases hd : o.dst with
          | none => rfl
          | some s =>
            have l1 := (drawnOk_at hok ho).lt s hd
            show (tm.setIfInBounds s x).getD s undef = (U.setIfInBounds s x).getD s undef
            rw [dr_getD_set (by rw [hF.size]; exact l1), dr_getD_set (by rw [hGv.size]; exact l1), if_pos rfl, if_pos rfl]
        rw [e2] at this
        exact this
      · rw [hup]; exact hJ2
    unfold wpOp
    simp only [ho]
    rw [hwant]
    cases hw2 : Region.wanted o (yielded ops U) with
    | false =>
      simp only [wpList, hw2] at hst
      exact next undef w' hst.2
    | true =>
      simp only [wpList, hw2, if_true] at hst
      refine .inl ?_
      replace hst := hst.resolve_right fun ⟨_, _, _, h⟩ => h
      unfold Oper.wp at hst ⊢
      rw [hev]
      generalize (execOp (⟨U, ds⟩ : Act).eval o).run P w' = r at hst
      cases r with
      | ok n w2 =>
        cases n <;> simp only [Oper.upon] at hst ⊢
        case value x => exact next x w2 hst.2
        case skip => exact next undef w2 hst.2
        case enter f args =>
          refine Calls.mono hst fun e w3 he => ?_
          cases e with
          | returned x => exact next x w3 he.2
          | panicked c => exact he.elim
          | outgrown => obtain ⟨_, _, h⟩ := he; exact h.elim
        case defer d =>
          have := hst.1
          cases hd : o.dst <;> rw [hd] at this <;> exact absurd (congrArg List.length this) (by simp [Act.put])
        case row rw args => exact Rows.mono hst fun x w3 he => next x w3 he.2
      | halt x w2 => cases x <;> simp only [Oper.upon] at hst ⊢ <;> exact hst.elim
theorem wpList_post {P : Program} {ops : Array Oper} {Q Q' : Exit → Act → World → Prop} (hq : ∀ e a w, Q e a w → Q' e a w) : ∀ (l : List Oper) (a : Act) (w : World), wpList P ops Q l a w → wpList P ops Q' l a w
  | [], a, w, h => hq _ _ _ h
  | o :: l, a, w, h => by
    have ih := wpList_post (P := P) (ops := ops) hq l
    simp only [wpList] at h ⊢
    cases hw : Region.wanted o (yielded ops a.tmps) with
    | false =>
      simp only [hw] at h ⊢
      exact ih _ _ h
    | true =>
      simp only [hw, if_true] at h ⊢
      rcases h with h | ⟨h1, a2, w2, h2⟩
      · refine .inl ?_
        unfold Oper.wp at h ⊢
        generalize (execOp a.eval o).run P w = r at h
        cases r with
        | ok n w2 =>
          cases n <;> simp only [Oper.upon] at h ⊢
          case value x => exact ih _ _ h
          case skip => exact ih _ _ h
          case defer d => exact ih _ _ h
          case enter f args =>
            refine Calls.mono h fun e w3 he => ?_
            cases e with
            | returned x => exact ih _ _ he
            | panicked c => exact hq _ _ _ he
            | outgrown => obtain ⟨a2, w2, h⟩ := he; exact ⟨a2, w2, hq _ _ _ h⟩
          case row rw args => exact Rows.mono h fun x w3 he => ih _ _ he
        | halt x w2 =>
          cases x <;> simp only [Oper.upon] at h ⊢
          exact hq _ _ _ h
      · exact .inr ⟨h1, a2, w2, hq _ _ _ h2⟩
/-- The frame behind a region whose operations yield vs. -/
def drFrame (T : Array Value) : List Oper → List Value → Array Value
  | o :: os, x :: xs => drFrame (match o.dst with | some d => T.setIfInBounds d x | none => T) os xs
  | _, _ => T
theorem drFrame_size : ∀ (os : List Oper) (xs : List Value) (T : Array Value), (drFrame T os xs).size = T.size
  | [], xs, T => by cases xs <;> rfl
  | o :: os, [], T => rfl
  | o :: os, x :: xs, T => by
    show (drFrame _ os xs).size = _
    rw [drFrame_size os xs]
    cases o.dst with
    | none => rfl
    | some d => exact Array.size_setIfInBounds
theorem drFrame_old : ∀ (os : List Oper) (xs : List Value) (T : Array Value) (k : Nat), (∀ o ∈ os, o.dst ≠ some k) → (drFrame T os xs).getD k undef = T.getD k undef
  | [], xs, T, k, _ => by cases xs <;> rfl
  | o :: os, [], T, k, _ => rfl
  | o :: os, x :: xs, T, k, h => by
    show (drFrame _ os xs).getD k undef = _
    rw [drFrame_old os xs _ k fun o ho => h o (List.mem_cons_of_mem _ ho)]
    have h1 := h o List.mem_cons_self
    cases hd : o.dst with
    | none => rfl
    | some d =>
      rw [hd] at h1
      show (T.setIfInBounds d x).getD k undef = _
      simp only [Array.getD_eq_getD_getElem?]
      rw [Array.getElem?_setIfInBounds_ne (fun e => h1 (by rw [e]))]
theorem drFrame_new : ∀ (os : List Oper) (xs : List Value) (T : Array Value), xs.length = os.length → (∀ o ∈ os, ∀ d, o.dst = some d → d < T.size) → (os.Pairwise fun o o' => ∀ d, o.dst = some d → o'.dst ≠ some d) → ∀ (j : Nat) (o : Oper) (d : Nat), os[j]? = some o → o.dst = some d → (drFrame T os xs).getD d undef = xs.getD j undef
  | [], xs, T, _, _, _, j, o, d, h, _ => by simp at h
  | o :: os, [], T, hl, _, _, _, _, _, _, _ => by simp at hl
  | o :: os, x :: xs, T, hl, hlt, hp, j, o', d, h, hd => by
    rw [List.pairwise_cons] at hp
    show (drFrame _ os xs).getD d undef = _
    cases j with
    | zero =>
      simp at h
      subst h
      rw [drFrame_old os xs _ d fun o2 ho2 => hp.1 o2 ho2 d hd, hd]
      exact (dr_getD_set (hlt o List.mem_cons_self d hd)).trans (by simp)
    | succ j =>
      simp only [List.getElem?_cons_succ] at h
      rw [List.getD_cons_succ]
      refine drFrame_new os xs _ (by simpa using hl) (fun o2 ho2 d2 hd2 => ?_) hp.2 j o' d h hd
      have := hlt o2 (List.mem_cons_of_mem _ ho2) d2 hd2
      cases o.dst with
      | none => exact this
      | some s => show d2 < (T.setIfInBounds s x).size; rw [Array.size_setIfInBounds]; exact this
/-- What the operation yielded is u. -/
def drGot (o : Oper) (a : Act) (u : Value) : Prop := match o.dst with | some d => a.tmps.getD d undef = u | none => True
theorem drFr_of {ops : List Oper} {T : Array Value} {vs : List Value} {b : Nat → Bool} {v : Nat → Value} (hok : drawnOk ops.toArray T.size = true) (hl : vs.length = ops.length) (h : ∀ (i : Nat) (o : Oper) (d : Nat), ops[i]? = some o → o.dst = some d → b i = true → v i = vs.getD i undef) : DrFr ops.toArray T b v (drFrame T ops vs) := by
  refine ⟨drFrame_size _ _ _, fun k hk => drFrame_old _ _ _ k fun o ho => ?_, fun j oj d h1 h2 h3 => ?_⟩
  · obtain ⟨j, hj, rfl⟩ := List.getElem_of_mem ho
    exact hk j _ (by simp)
  · have h1' : ops[j]? = some oj := by simpa using h1
    rw [h j oj d h1' h2 h3]
    refine drFrame_new ops vs T hl (fun o ho d hd => ?_) ?_ j oj d h1' h2
    · obtain ⟨i, hi, rfl⟩ := List.getElem_of_mem ho
      exact (drawnOk_at hok (i := i) (by simp)).lt d hd
    · rw [List.pairwise_iff_getElem]
      intro i j hi hj hij d hd
      exact fun hd2 => (drawnOk_at hok (i := j) (o := ops[j]) (by simp)).apart i ops[i] d (by simp) hd (by omega) hd2
/-- THE LAW, where what each operation yields is known ahead. -/
theorem wp_drawn_det {P : Program} {ds : List Deferred} {ops : List Oper} {Q : Exit → Act → World → Prop} {id : Nat} {T : Array Value} {w : World} (vs : List Value) (hm : P.follows .mixedOrders = true) (hok : drawnOk ops.toArray T.size = true) (hl : vs.length = ops.length)
    (J : (Nat → Bool) → World → Prop) (h0 : J (fun _ => false) w.drew)
    (hstep : ∀ i o b w', ops[i]? = some o → b i = false → (∀ j, drWaits ops.toArray i j = true → b j = true) → J b w' → wpList P ops.toArray (drPost ds fun a'' w'' => drGot o a'' (vs.getD i undef) ∧ J (bitUp b i) w'') [o] ⟨drFrame T ops vs, ds⟩ w')
    (hend : ∀ b w', (∀ k, k < ops.length → b k = true) → J b w' → Q .normal ⟨drFrame T ops vs, ds⟩ w') : (Code.region id ops.toArray true).wp P Q ⟨T, ds⟩ w := by
  refine wp_drawn hm hok (fun b v W => (∀ (i : Nat) (o : Oper) (d : Nat), ops[i]? = some o → o.dst = some d → b i = true → v i = vs.getD i undef) ∧ J b W) (fun _ => undef) ⟨(fun _ _ _ _ _ h => by cases h), h0⟩ ?_ (fun b v W hb h => ⟨_, drFr_of hok hl h.1, hend b W (by simpa using hb) h.2⟩)
  intro i o b v W ho hb hw ⟨hv, hJ⟩
  have ho' : ops[i]? = some o := by simpa using ho
  refine ⟨_, drFr_of hok hl hv, wpList_post ?_ _ _ _ (hstep i o b W ho' hb hw hJ)⟩
  intro e a w' h
  cases e <;> try exact h
  obtain ⟨h1, h2, h3⟩ := h
  refine ⟨h1, fun j oj d hj hd hbj => ?_, h3⟩
  unfold valUp
  by_cases e : j = i
  · subst e
    rw [ho'] at hj
    injection hj with hj
    subst hj
    rw [if_pos rfl]
    unfold dstVal drGot at *
    rw [hd] at h2 ⊢
    exact h2
  · rw [if_neg e]
    unfold bitUp at hbj
    rw [if_neg e] at hbj
    exact hv j oj d hj hd hbj
/-- THE LAW, where what the operations yield hangs on what calls hand back (x). -/
theorem wp_drawn_dep {P : Program} {ds : List Deferred} {ops : List Oper} {Q : Exit → Act → World → Prop} {id : Nat} {T : Array Value} {w : World} {X : Type} (vs : X → List Value) (hm : P.follows .mixedOrders = true) (hok : drawnOk ops.toArray T.size = true) (hl : ∀ x, (vs x).length = ops.length)
    (J : X → (Nat → Bool) → World → Prop) (x0 : X) (h0 : J x0 (fun _ => false) w.drew)
    (hstep : ∀ i o x b w', ops[i]? = some o → b i = false → (∀ j, drWaits ops.toArray i j = true → b j = true) → (∀ j k, drWaits ops.toArray j k = true → b j = true → b k = true) → J x b w' →
      wpList P ops.toArray (drPost ds fun a'' w'' => ∃ x', drGot o a'' ((vs x').getD i undef) ∧ (∀ j, b j = true → (vs x').getD j undef = (vs x).getD j undef) ∧ J x' (bitUp b i) w'') [o] ⟨drFrame T ops (vs x), ds⟩ w')
    (hend : ∀ x b w', (∀ k, k < ops.length → b k = true) → J x b w' → Q .normal ⟨drFrame T ops (vs x), ds⟩ w') : (Code.region id ops.toArray true).wp P Q ⟨T, ds⟩ w := by
  refine wp_drawn hm hok (fun b v W => ∃ x, (∀ (i : Nat) (o : Oper) (d : Nat), ops[i]? = some o → o.dst = some d → b i = true → v i = (vs x).getD i undef) ∧ (∀ j k, drWaits ops.toArray j k = true → b j = true → b k = true) ∧ J x b W) (fun _ => undef) ⟨x0, (fun _ _ _ _ _ h => by cases h), (fun _ _ _ h => by cases h), h0⟩ ?_ (fun b v W hb ⟨x, hv, _, hJ⟩ => ⟨_, drFr_of hok (hl x) hv, hend x b W (by simpa using hb) hJ⟩)
  intro i o b v W ho hb hw ⟨x, hv, hc, hJ⟩
  have ho' : ops[i]? = some o := by simpa using ho
  refine ⟨_, drFr_of hok (hl x) hv, wpList_post ?_ _ _ _ (hstep i o x b W ho' hb hw hc hJ)⟩
  intro e a w' h
  cases e <;> try exact h
  obtain ⟨h1, x', h2, hx, h3⟩ := h
  refine ⟨h1, x', fun j oj d hj hd hbj => ?_, fun j k hjk hbj => ?_, h3⟩
  · unfold valUp
    by_cases e : j = i
    · subst e
      rw [ho'] at hj
      injection hj with hj
      subst hj
      rw [if_pos rfl]
      unfold dstVal drGot at *
      rw [hd] at h2 ⊢
      exact h2
    · rw [if_neg e]
      unfold bitUp at hbj
      rw [if_neg e] at hbj
      rw [hv j oj d hj hd hbj, hx j hbj]
  · unfold bitUp at hbj ⊢
    by_cases e : k = i
    · rw [if_pos e]
    · rw [if_neg e]
      by_cases e2 : j = i
      · subst e2; exact hw k hjk
      · rw [if_neg e2] at hbj
        exact hc j k hjk hbj
end Go.Proofs.YtblbfoniimnkcaaGreatDoor

/- A region that leaves its order open, as in Drawn: here an operation is walked in the frame that the operations ahead of it in the text leave; so it may look at a slot that a later one writes, if that one waits for it. Over any program. -/
namespace Go.Proofs.YtblbfoniimnkcaaGreatDoor
open Go.RowKit

/-- Operation j waits for operation i, through others. -/
def drReach (ops : Array Oper) : Nat → Nat → Nat → Bool
  | 0, _, _ => false
  | n + 1, j, i => drWaits ops j i || (List.range ops.size).any fun k => drWaits ops j k && drReach ops n k i
def drawnOk2 (ops : Array Oper) (n : Nat) : Bool := (List.range ops.size).all fun i => match ops[i]? with
  | none => false
  | some o =>
    (o.after.all fun e => !Region.binds .any e || decide (e.on < i)) &&
    (match o.op with | .select _ _ => false | .defer _ => false | _ => true) &&
    (match o.dst with | some d => decide (d < n) | none => true) &&
    ((List.range ops.size).all fun j => match ops[j]? with
      | none => false
      | some oj => match oj.dst with
        | none => true
        | some d => (decide (i = j) || o.dst != some d) && (drWaits ops i j || !(o.looksAt ops).contains d || (decide (i < j) && drReach ops ops.size j i)))
section
variable {ops : Array Oper} {n : Nat}
structure DrOk2 (ops : Array Oper) (n i : Nat) (o : Oper) : Prop where
  down : ∀ e ∈ o.after, Region.binds .any e = true → e.on < i
  sel : ∀ cs b, o.op ≠ .select cs b
  defer : ∀ c, o.op ≠ .defer c
  lt : ∀ d, o.dst = some d → d < n
  apart : ∀ (j : Nat) (oj : Oper) (d : Nat), ops[j]? = some oj → oj.dst = some d → i ≠ j → o.dst ≠ some d
  looks : ∀ (j : Nat) (oj : Oper) (d : Nat), ops[j]? = some oj → oj.dst = some d → d ∈ o.looksAt ops → drWaits ops i j = true ∨ (i < j ∧ drReach ops ops.size j i = true)
theorem drawnOk2_at (h : drawnOk2 ops n = true) {i : Nat} {o : Oper} (ho : ops[i]? = some o) : DrOk2 ops n i o := by
  have hi := (Array.getElem?_eq_some_iff.1 ho).1
  have h1 := List.all_eq_true.1 h i (List.mem_range.2 hi)
  rw [ho] at h1
  simp only [Bool.and_eq_true] at h1
  obtain ⟨⟨⟨a1, a2⟩, a3⟩, a4⟩ := h1
  have key : ∀ j oj d, ops[j]? = some oj → oj.dst = some d → (i = j ∨ o.dst ≠ some d) ∧ (d ∈ o.looksAt ops → drWaits ops i j = true ∨ (i < j ∧ drReach ops ops.size j i = true)) := fun j oj d hj hd => by
    have hjl := (Array.getElem?_eq_some_iff.1 hj).1
    have h2 := List.all_eq_true.1 a4 j (List.mem_range.2 hjl)
    rw [hj] at h2
    simp only [hd, Bool.and_eq_true, Bool.or_eq_true, decide_eq_true_eq, bne_iff_ne, Bool.not_eq_true', ] at h2
    refine ⟨h2.1, fun hm => ?_⟩
    rcases h2.2 with (h3 | h3) | h3
    · exact .inl h3
    · rw [List.contains_iff_mem.2 hm] at h3
      cases h3
    · exact .inr h3
  refine ⟨fun e he hb => ?_, fun cs b e => ?_, fun c e => ?_, fun d hd => ?_, fun j oj d hj hd hne => ?_, fun j oj d hj hd hm => ?_⟩
  · obtain ⟨k, hk, rfl⟩ := Array.getElem_of_mem he
    have := Array.all_eq_true.1 a1 k hk
    rw [hb] at this
    simpa using this
  · rw [e] at a2; cases a2
  · rw [e] at a2; cases a2
  · rw [hd] at a3; simpa using a3
  · exact (key j oj d hj hd).1.resolve_left hne
  · exact (key j oj d hj hd).2 hm
theorem drWaits_lt (h : drawnOk2 ops n = true) {i j : Nat} (hw : drWaits ops i j = true) : j < i := by
  unfold drWaits at hw
  cases ho : ops[i]? with
  | none => rw [ho] at hw; cases hw
  | some o =>
    rw [ho] at hw
    simp only [Array.any_eq_true, Bool.and_eq_true, beq_iff_eq] at hw
    obtain ⟨k, hk, e1, e2⟩ := hw
    have := (drawnOk2_at h ho).down _ (Array.getElem_mem hk) e1
    omega
theorem drReach_done {b : Nat → Bool} (hc : ∀ j k, drWaits ops j k = true → b j = true → b k = true) : ∀ (n j i : Nat), drReach ops n j i = true → b j = true → b i = true := by
  intro n
  induction n with
  | zero => intro j i h; cases h
  | succ n ih =>
    intro j i h hb
    unfold drReach at h
    rw [Bool.or_eq_true, List.any_eq_true] at h
    rcases h with h | ⟨k, _, h⟩
    · exact hc j i h hb
    · rw [Bool.and_eq_true] at h
      exact ih k i h.2 (hc j k h.1 hb)
theorem drDone2 (h : drawnOk2 ops n = true) {b : Array Bool} (hr : Region.ready .any ops b = []) (hs : b.size = ops.size) : ∀ m i, i < m → i < ops.size → b.getD i false = true := by
  intro m
  induction m with
  | zero => intro i hi; omega
  | succ m ih =>
    intro i hi hlt
    by_cases him : i < m
    · exact ih i him hlt
    · obtain rfl : i = m := by omega
      cases hb : b.getD i false with
      | true => rfl
      | false =>
        exfalso
        have hmem : i ∈ Region.ready .any ops b := by
          unfold Region.ready
          rw [List.mem_filter]
          refine ⟨List.mem_range.2 hlt, ?_⟩
          have hb' : b.getD i true = false := by
            simp only [Array.getD_eq_getD_getElem?] at hb ⊢
            rw [Array.getElem?_eq_getElem (by omega)] at hb ⊢
            simpa using hb
          simp only [Bool.and_eq_true, hb', Bool.not_false, true_and, Array.getElem?_eq_getElem hlt, Option.map_some, Option.getD_some]
          rw [Array.all_eq_true]
          intro k hk
          cases hbn : Region.binds .any ops[i].after[k] with
          | false => rfl
          | true =>
            have := (drawnOk2_at h (Array.getElem?_eq_getElem hlt)).down _ (Array.getElem_mem hk) hbn
            rw [ih _ this (by omega)]; rfl
        rw [hr] at hmem
        cases hmem
end
/-- A frame in which what is done stands, and no more. -/
structure DrFr2 (ops : Array Oper) (T : Array Value) (b : Nat → Bool) (v : Nat → Value) (U : Array Value) : Prop where
  size : U.size = T.size
  old : ∀ k, (∀ (j : Nat) (oj : Oper), ops[j]? = some oj → oj.dst = some k → b j = false) → U.getD k undef = T.getD k undef
  new : ∀ (j : Nat) (oj : Oper) (d : Nat), ops[j]? = some oj → oj.dst = some d → b j = true → U.getD d undef = v j
section
variable {P : Program} {ops : Array Oper} {T : Array Value} {b : Nat → Bool} {v : Nat → Value} {U V : Array Value} {ds : List Deferred}
theorem look_eval {o : Oper} (h : ∀ t ∈ o.looksAt ops, U.getD t undef = V.getD t undef) (x : Operand) (hx : x ∈ o.op.operands) : (⟨U, ds⟩ : Act).eval x = (⟨V, ds⟩ : Act).eval x := by
  cases x with
  | tmp t => exact h t (List.mem_append_left _ (List.mem_filterMap.2 ⟨.tmp t, by simpa using hx, rfl⟩))
  | _ => rfl
theorem look_wanted {o : Oper} (hz : U.size = V.size) (h : ∀ t ∈ o.looksAt ops, U.getD t undef = V.getD t undef) : Region.wanted o (yielded ops U) = Region.wanted o (yielded ops V) := by
  unfold Region.wanted
  cases hg : o.guard with
  | none => rfl
  | some gw =>
    obtain ⟨g, want⟩ := gw
    have hy : yielded ops U g = yielded ops V g := by
      unfold yielded
      cases hd : (ops[g]?).bind (·.dst) with
      | none => rfl
      | some t =>
        have e := h t (by unfold Oper.looksAt; rw [hg]; simp [hd])
        simp only [Option.bind_some]
        by_cases hlt : t < U.size
        · have hlt' : t < V.size := by rw [← hz]; exact hlt
          rw [Array.getD_eq_getD_getElem?, Array.getD_eq_getD_getElem?, Array.getElem?_eq_getElem hlt, Array.getElem?_eq_getElem hlt'] at e
          rw [Array.getElem?_eq_getElem hlt, Array.getElem?_eq_getElem hlt']
          simp only [Option.getD_some] at e
          rw [e]
        · have e1 : U.size ≤ t := Nat.le_of_not_lt hlt
          have e2 : V.size ≤ t := by rw [← hz]; exact e1
          rw [Array.getElem?_eq_none e1, Array.getElem?_eq_none e2]
    simp only [hy]
theorem DrFr2.put (h : DrFr2 ops T b v U) (hok : drawnOk2 ops T.size = true) {i : Nat} {o : Oper} (ho : ops[i]? = some o) (x : Value) : DrFr2 ops T (bitUp b i) (valUp v i (dstVal o ((⟨U, ds⟩ : Act).put o.dst x))) ((⟨U, ds⟩ : Act).put o.dst x).tmps := by
  have low : ∀ j, bitUp b i j = false → j ≠ i ∧ b j = false := fun j hj => by
    unfold bitUp at hj
    by_cases e : j = i
    · rw [if_pos e] at hj; cases hj
    · rw [if_neg e] at hj; exact ⟨e, hj⟩
  cases hd : o.dst with
  | none =>
    refine ⟨h.size, fun k hk => h.old k fun j oj h1 h2 => (low j (hk j oj h1 h2)).2, fun j oj d h1 h2 h3 => ?_⟩
    have hne : j ≠ i := fun e => by subst e; rw [ho] at h1; injection h1 with h1; subst h1; rw [hd] at h2; cases h2
    have hb : b j = true := by unfold bitUp at h3; rwa [if_neg hne] at h3
    show U.getD d undef = valUp v i _ j
    unfold valUp
    rw [if_neg hne]
    exact h.new j oj d h1 h2 hb
  | some s =>
    have hs : s < U.size := by rw [h.size]; exact (drawnOk2_at hok ho).lt s hd
    have hv : dstVal o (⟨U.setIfInBounds s x, ds⟩ : Act) = x := by
      unfold dstVal
      rw [hd]
      show (U.setIfInBounds s x).getD s undef = x
      rw [dr_getD_set hs, if_pos rfl]
    show DrFr2 ops T (bitUp b i) (valUp v i (dstVal o (⟨U.setIfInBounds s x, ds⟩ : Act))) (U.setIfInBounds s x)
    rw [hv]
    refine ⟨by rw [Array.size_setIfInBounds]; exact h.size, fun k hk => ?_, fun j oj d h1 h2 h3 => ?_⟩
    · rw [dr_getD_set hs, if_neg (fun e => (low i (hk i o ho (by rw [hd, e]))).1 rfl)]
      exact h.old k fun j oj h1 h2 => (low j (hk j oj h1 h2)).2
    · rw [dr_getD_set hs]
      by_cases hji : j = i
      · subst hji
        rw [ho] at h1; injection h1 with h1; subst h1
        rw [hd] at h2; injection h2 with h2
        unfold valUp
        rw [if_pos h2.symm, if_pos rfl]
      · have hb : b j = true := by unfold bitUp at h3; rwa [if_neg hji] at h3
        have hne : d ≠ s := fun e => (drawnOk2_at hok ho).apart j oj d h1 h2 (fun e => hji e.symm) (by rw [hd, e])
        rw [if_neg hne]
        unfold valUp
        rw [if_neg hji]
        exact h.new j oj d h1 h2 hb
end
/-- THE LAW. -/
theorem wp_drawn2 {P : Program} {ds : List Deferred} {ops : Array Oper} {Q : Exit → Act → World → Prop} {id : Nat} {T : Array Value} {w : World} (hm : P.follows .mixedOrders = true) (hok : drawnOk2 ops T.size = true)
    (J : (Nat → Bool) → (Nat → Value) → World → Prop) (v0 : Nat → Value) (h0 : J (fun _ => false) v0 w.drew)
    (hstep : ∀ i o b v w', ops[i]? = some o → b i = false → (∀ j, drWaits ops i j = true → b j = true) → (∀ j k, drWaits ops j k = true → b j = true → b k = true) → J b v w' →
      ∃ U, U.size = T.size ∧ (∀ F, DrFr2 ops T b v F → ∀ t ∈ o.looksAt ops, F.getD t undef = U.getD t undef) ∧ wpList P ops (drPost ds fun a'' w'' => J (bitUp b i) (valUp v i (dstVal o a'')) w'') [o] ⟨U, ds⟩ w')
    (hend : ∀ b v w', (∀ k, k < ops.size → b k = true) → J b v w' → ∃ U, DrFr2 ops T b v U ∧ Q .normal ⟨U, ds⟩ w') : (Code.region id ops true).wp P Q ⟨T, ds⟩ w := by
  refine wp_region_any hm ?_
  refine drAny (fun b a w => b.size = ops.size ∧ a.defers = ds ∧ (∀ j k, drWaits ops j k = true → b.getD j false = true → b.getD k false = true) ∧ ∃ v, DrFr2 ops T (fun k => b.getD k false) v a.tmps ∧ J (fun k => b.getD k false) v w) ?step ?fin _ _ _ _ ?start ?fuel
  case fuel => simp
  case start =>
    have e : (fun k => (Array.replicate ops.size false).getD k false) = fun _ => false := funext fun k => by simp [Array.getD]
    have e' : ∀ k, (Array.replicate ops.size false).getD k false = false := fun k => congrFun e k
    refine ⟨by simp, rfl, fun j k _ h => (by rw [e'] at h; cases h), v0, ?_, ?_⟩
    · rw [e]
      exact ⟨rfl, fun _ _ => rfl, fun _ _ _ _ _ h => by cases h⟩
    · rw [e]; exact h0
  case fin =>
    rintro b ⟨tm, df⟩ w' ⟨hs, hdf, _, v, hF, hJ⟩ hr
    obtain rfl : ds = df := hdf.symm
    have all : ∀ k, k < ops.size → b.getD k false = true := fun k hk => drDone2 hok hr hs ops.size k hk hk
    obtain ⟨U, hGv, hq⟩ := hend _ v w' all hJ
    have e : tm = U := by
      apply Array.ext (hF.size.trans hGv.size.symm)
      intro k h1 h2
      have key : tm.getD k undef = U.getD k undef := by
        by_cases hd : ∃ (j : Nat) (oj : Oper), ops[j]? = some oj ∧ oj.dst = some k
        · obtain ⟨j, oj, q1, q2⟩ := hd
          have hb := all j (Array.getElem?_eq_some_iff.1 q1).1
          exact (hF.new j oj k q1 q2 hb).trans (hGv.new j oj k q1 q2 hb).symm
        · have hn : ∀ (j : Nat) (oj : Oper), ops[j]? = some oj → oj.dst = some k → b.getD j false = false := fun j oj q1 q2 => absurd ⟨j, oj, q1, q2⟩ hd
          exact (hF.old k hn).trans (hGv.old k hn).symm
      simpa [Array.getD, h1, h2] using key
    rw [e]
    exact hq
  case step =>
    rintro b ⟨tm, df⟩ w' i ⟨hs, hdf, hcl, v, hF, hJ⟩ hi
    obtain rfl : ds = df := hdf.symm
    obtain ⟨hlt, hoff, hwt⟩ := drReady hi
    obtain ⟨o, ho⟩ : ∃ o, ops[i]? = some o := ⟨_, Array.getElem?_eq_getElem hlt⟩
    have hoff' : b.getD i false = false := by
      simp only [Array.getD_eq_getD_getElem?] at hoff ⊢
      rw [Array.getElem?_eq_getElem (by omega)] at hoff ⊢
      simpa using hoff
    obtain ⟨U, hUz, hUl, hst⟩ := hstep i o _ v w' ho hoff' hwt hcl hJ
    have hlook := hUl tm hF
    have hup : (fun k => (b.setIfInBounds i true).getD k false) = bitUp (fun k => b.getD k false) i := funext fun k => by
      unfold bitUp
      simp only [Array.getD_eq_getD_getElem?, Array.getElem?_setIfInBounds]
      by_cases e : k = i
      · subst e; simp [hs, hlt]
      · rw [if_neg (fun h => e h.symm), if_neg e]
    have hwant := look_wanted (ops := ops) (hF.size.trans hUz.symm) hlook
    have hev := execOp_congr (ρ := (⟨tm, ds⟩ : Act).eval) (ρ' := (⟨U, ds⟩ : Act).eval) o (drawnOk2_at hok ho).sel (look_eval hlook)
    have next : ∀ x w2, J (bitUp (fun k => b.getD k false) i) (valUp v i (dstVal o ((⟨U, ds⟩ : Act).put o.dst x))) w2 → (fun a w => (b.setIfInBounds i true).size = ops.size ∧ a.defers = ds ∧ (∀ j k, drWaits ops j k = true → (b.setIfInBounds i true).getD j false = true → (b.setIfInBounds i true).getD k false = true) ∧ ∃ v, DrFr2 ops T (fun k => (b.setIfInBounds i true).getD k false) v a.tmps ∧ J (fun k => (b.setIfInBounds i true).getD k false) v w) ((⟨tm, ds⟩ : Act).put o.dst x) w2 := fun x w2 hJ2 => by
      refine ⟨by rw [Array.size_setIfInBounds]; exact hs, by cases o.dst <;> rfl, fun j k hjk hbj => ?_, valUp v i (dstVal o ((⟨U, ds⟩ : Act).put o.dst x)), ?_, ?_⟩
      · have hj2 : bitUp (fun k => b.getD k false) i j = true := (congrFun hup j) ▸ hbj
        have hk2 : bitUp (fun k => b.getD k false) i k = true := by
          unfold bitUp at hj2 ⊢
          by_cases ek : k = i
          · rw [if_pos ek]
          · rw [if_neg ek]
            by_cases ej : j = i
            · subst ej; exact hwt k hjk
            · rw [if_neg ej] at hj2
              exact hcl j k hjk hj2
        exact (congrFun hup k).symm ▸ hk2
      · rw [hup]
        have := hF.put (ds := ds) hok ho x
        have e2 : dstVal o ((⟨tm, ds⟩ : Act).put o.dst x) = dstVal o ((⟨U, ds⟩ : Act).put o.dst x) := by
          unfold dstVal
          cases hd : o.dst with
          | none => rfl
          | some s =>
            have l1 := (drawnOk2_at hok ho).lt s hd
            show (tm.setIfInBounds s x).getD s undef = (U.setIfInBounds s x).getD s undef
            rw [dr_getD_set (by rw [hF.size]; exact l1), dr_getD_set (by rw [hUz]; exact l1), if_pos rfl, if_pos rfl]
        rw [e2] at this
        exact this
      · rw [hup]; exact hJ2
    unfold wpOp
    simp only [ho]
    rw [hwant]
    cases hw2 : Region.wanted o (yielded ops U) with
    | false =>
      simp only [wpList, hw2] at hst
      exact next undef w' hst.2
    | true =>
      simp only [wpList, hw2, if_true] at hst
      refine .inl ?_
      replace hst := hst.resolve_right fun ⟨_, _, _, h⟩ => h
      unfold Oper.wp at hst ⊢
      rw [hev]
      generalize (execOp (⟨U, ds⟩ : Act).eval o).run P w' = r at hst
      cases r with
      | ok n w2 =>
        cases n <;> simp only [Oper.upon] at hst ⊢
        case value x => exact next x w2 hst.2
        case skip => exact next undef w2 hst.2
        case enter f args =>
          refine Calls.mono hst fun e w3 he => ?_
          cases e with
          | returned x => exact next x w3 he.2
          | panicked c => exact he.elim
          | outgrown => obtain ⟨_, _, h⟩ := he; exact h.elim
        case defer d =>
          have := hst.1
          cases hd : o.dst <;> rw [hd] at this <;> exact absurd (congrArg List.length this) (by simp [Act.put])
        case row rw args => exact Rows.mono hst fun x w3 he => next x w3 he.2
      | halt x w2 => cases x <;> simp only [Oper.upon] at hst ⊢ <;> exact hst.elim
theorem frame_take {ops : List Oper} {T : Array Value} {vs : List Value} {b : Nat → Bool} {v : Nat → Value} (hok : drawnOk2 ops.toArray T.size = true) (hl : vs.length = ops.length) (hv : ∀ (i : Nat) (o : Oper) (d : Nat), ops[i]? = some o → o.dst = some d → b i = true → v i = vs.getD i undef)
    {i : Nat} {o : Oper} (ho : ops[i]? = some o) (hi : b i = false) (hw : ∀ j, drWaits ops.toArray i j = true → b j = true) (hc : ∀ j k, drWaits ops.toArray j k = true → b j = true → b k = true) {F : Array Value} (hF : DrFr2 ops.toArray T b v F) :
    ∀ t ∈ o.looksAt ops.toArray, F.getD t undef = (drFrame T (ops.take i) (vs.take i)).getD t undef := by
  intro t ht
  have ho' : ops.toArray[i]? = some o := by simpa using ho
  have hlt : ∀ o ∈ ops.take i, ∀ d, o.dst = some d → d < T.size := fun o1 ho1 d hd => by
    obtain ⟨k, hk, rfl⟩ := List.getElem_of_mem (List.mem_of_mem_take ho1)
    exact (drawnOk2_at hok (i := k) (by simp)).lt d hd
  have hpw : (ops.take i).Pairwise fun o o' => ∀ d, o.dst = some d → o'.dst ≠ some d := by
    refine List.Pairwise.sublist (List.take_sublist i ops) ?_
    rw [List.pairwise_iff_getElem]
    intro i1 j1 hi1 hj1 hij d hd
    exact fun hd2 => (drawnOk2_at hok (i := j1) (o := ops[j1]) (by simp)).apart i1 ops[i1] d (by simp) hd (by omega) hd2
  by_cases hd : ∃ (j : Nat) (oj : Oper), ops[j]? = some oj ∧ oj.dst = some t
  · obtain ⟨j, oj, h1, h2⟩ := hd
    have h1' : ops.toArray[j]? = some oj := by simpa using h1
    have hlk := (drawnOk2_at hok ho').looks j oj t h1' h2 ht
    cases hb : b j with
    | true =>
      have hji : j < i := by
        rcases hlk with h3 | ⟨_, h3⟩
        · exact drWaits_lt hok h3
        · rw [drReach_done hc _ _ _ h3 hb] at hi; cases hi
      rw [hF.new j oj t h1' h2 hb, hv j oj t h1 h2 hb]
      rw [drFrame_new (ops.take i) (vs.take i) T (by simp [hl]) hlt hpw j oj t (by rw [List.getElem?_take, if_pos hji]; exact h1) h2]
      rw [List.getD_eq_getElem?_getD, List.getD_eq_getElem?_getD, List.getElem?_take, if_pos hji]
    | false =>
      have hij : i ≤ j := by
        rcases hlk with h3 | ⟨h3, _⟩
        · rw [hw j h3] at hb; cases hb
        · omega
      have only : ∀ (j' : Nat) (oj' : Oper), ops[j']? = some oj' → oj'.dst = some t → j' = j := fun j' oj' q1 q2 => by
        by_cases e : j' = j
        · exact e
        · exact absurd q2 ((drawnOk2_at hok (i := j') (o := oj') (by simpa using q1)).apart j oj t h1' h2 e)
      rw [hF.old t fun j' oj' q1 q2 => by rw [only j' oj' (by simpa using q1) q2]; exact hb]
      rw [drFrame_old (ops.take i) (vs.take i) T t fun o1 ho1 e => ?_]
      obtain ⟨k, hk, rfl⟩ := List.getElem_of_mem ho1
      have hki : k < i := by rw [List.length_take] at hk; omega
      have hk2 : k < ops.length := by rw [List.length_take] at hk; omega
      rw [List.getElem_take] at e
      have := only k _ (List.getElem?_eq_getElem hk2) e
      omega
  · rw [hF.old t fun j' oj' q1 q2 => absurd ⟨j', oj', by simpa using q1, q2⟩ hd]
    rw [drFrame_old (ops.take i) (vs.take i) T t fun o1 ho1 e => ?_]
    obtain ⟨k, hk, rfl⟩ := List.getElem_of_mem (List.mem_of_mem_take ho1)
    exact hd ⟨k, _, List.getElem?_eq_getElem hk, e⟩
/-- THE LAW, where what each operation yields is known ahead. -/
theorem wp_drawn2_det {P : Program} {ds : List Deferred} {ops : List Oper} {Q : Exit → Act → World → Prop} {id : Nat} {T : Array Value} {w : World} (vs : List Value) (hm : P.follows .mixedOrders = true) (hok : drawnOk2 ops.toArray T.size = true) (hl : vs.length = ops.length)
    (J : (Nat → Bool) → World → Prop) (h0 : J (fun _ => false) w.drew)
    (hstep : ∀ i o b w', ops[i]? = some o → b i = false → (∀ j, drWaits ops.toArray i j = true → b j = true) → J b w' → wpList P ops.toArray (drPost ds fun a'' w'' => drGot o a'' (vs.getD i undef) ∧ J (bitUp b i) w'') [o] ⟨drFrame T (ops.take i) (vs.take i), ds⟩ w')
    (hend : ∀ b w', (∀ k, k < ops.length → b k = true) → J b w' → Q .normal ⟨drFrame T ops vs, ds⟩ w') : (Code.region id ops.toArray true).wp P Q ⟨T, ds⟩ w := by
  have pw : ops.Pairwise fun o o' => ∀ d, o.dst = some d → o'.dst ≠ some d := by
    rw [List.pairwise_iff_getElem]
    intro i1 j1 hi1 hj1 hij d hd
    exact fun hd2 => (drawnOk2_at hok (i := j1) (o := ops[j1]) (by simp)).apart i1 ops[i1] d (by simp) hd (by omega) hd2
  refine wp_drawn2 hm hok (fun b v W => (∀ (i : Nat) (o : Oper) (d : Nat), ops[i]? = some o → o.dst = some d → b i = true → v i = vs.getD i undef) ∧ J b W) (fun _ => undef) ⟨(fun _ _ _ _ _ h => by cases h), h0⟩ ?_ ?_
  · intro i o b v W ho hb hw hc ⟨hv, hJ⟩
    have ho' : ops[i]? = some o := by simpa using ho
    refine ⟨_, drFrame_size _ _ _, fun F hF => frame_take hok hl hv ho' hb hw hc hF, wpList_post ?_ _ _ _ (hstep i o b W ho' hb hw hJ)⟩
    intro e a w' h
    cases e <;> try exact h
    obtain ⟨h1, h2, h3⟩ := h
    refine ⟨h1, fun j oj d hj hd hbj => ?_, h3⟩
    unfold valUp
    by_cases e : j = i
    · subst e
      rw [ho'] at hj
      injection hj with hj
      subst hj
      rw [if_pos rfl]
      unfold dstVal drGot at *
      rw [hd] at h2 ⊢
      exact h2
    · rw [if_neg e]
      unfold bitUp at hbj
      rw [if_neg e] at hbj
      exact hv j oj d hj hd hbj
  · intro b v W hb ⟨hv, hJ⟩
    refine ⟨_, ⟨drFrame_size _ _ _, fun k hk => drFrame_old _ _ _ k fun o ho e => ?_, fun j oj d h1 h2 h3 => ?_⟩, hend b W (by simpa using hb) hJ⟩
    · obtain ⟨j, hj, rfl⟩ := List.getElem_of_mem ho
      have := hk j _ (by simp) e
      rw [hb j (by simpa using hj)] at this
      cases this
    · have h1' : ops[j]? = some oj := by simpa using h1
      rw [hv j oj d h1' h2 h3]
      refine drFrame_new ops vs T hl (fun o ho d hd => ?_) pw j oj d h1' h2
      obtain ⟨i, hi, rfl⟩ := List.getElem_of_mem ho
      exact (drawnOk2_at hok (i := i) (by simp)).lt d hd
end Go.Proofs.YtblbfoniimnkcaaGreatDoor
