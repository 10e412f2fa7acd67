/- Texts on cells and lines, put together: BlPlain, BlOk, BlLawP. -/
import Derived.Test.YtblbfoniimnkcaaGreatDoorBgKg
import Derived.Test.YtblbfoniimnkcaaGreatDoorLnLaws
import Derived.Test.YtblbfoniimnkcaaGreatDoorDocLong
import Derived.Test.YtblbfoniimnkcaaGreatDoorBgOpen
/- What the laws of blocks say of documents and states, said of lists. No program in sight. -/
namespace Go.Proofs.YtblbfoniimnkcaaGreatDoor
open Go.RowKit Go.Lib

def csD (d : List Ln) : List (List Cl) := d.map (·.cs)
theorem csD_len {d d' : List Ln} (h : csD d' = csD d) : d'.length = d.length := by have := congrArg List.length h; simpa [csD] using this
theorem csD_get {d d' : List Ln} (h : csD d' = csD d) {k : Nat} {l : Ln} (hl : d[k]? = some l) : ∃ m, d'[k]? = some m ∧ m.cs = l.cs := by
  have h1 : (csD d')[k]? = (csD d)[k]? := by rw [h]
  unfold csD at h1
  rw [List.getElem?_map, List.getElem?_map, hl] at h1
  cases hd : d'[k]? with
  | none => rw [hd] at h1; cases h1
  | some m => rw [hd] at h1; exact ⟨m, rfl, Option.some.inj h1⟩
theorem csD_size {d d' : List Ln} (h : csD d' = csD d) : sizeD d' = sizeD d := by
  have e : ∀ x : List Ln, sizeD x = ((csD x).map List.length).sum := fun x => by unfold sizeD csD; rw [List.map_map]; rfl
  rw [e, e, h]
theorem csD_is {d d' : List Ln} (h : csD d' = csD d) (p : Ps) : isD d' p = isD d p := by
  unfold isD
  rw [csD_len h]
  have h1 : (csD d')[p.l.toNat]? = (csD d)[p.l.toNat]? := by rw [h]
  unfold csD at h1
  rw [List.getElem?_map, List.getElem?_map] at h1
  cases hd : d'[p.l.toNat]? with
  | none =>
    rw [hd] at h1
    cases hd2 : d[p.l.toNat]? with
    | none => rfl
    | some m => rw [hd2] at h1; cases h1
  | some m' =>
    rw [hd] at h1
    cases hd2 : d[p.l.toNat]? with
    | none => rw [hd2] at h1; cases h1
    | some m =>
      rw [hd2] at h1
      have e : m'.cs = m.cs := Option.some.inj h1
      simp only [e]
theorem csD_mem {d d' : List Ln} (h : csD d' = csD d) {m : Ln} (hm : m ∈ d') : ∃ l ∈ d, l.cs = m.cs := by
  have : m.cs ∈ csD d' := List.mem_map_of_mem hm
  rw [h] at this
  obtain ⟨l, hl, e⟩ := List.mem_map.1 this
  exact ⟨l, hl, e⟩
section
variable {f : Ln → Ln × Int} (hf : ∀ l, Stays l (f l))
include hf
theorem stays_cs {l : Ln} (h : (f l).2 = 0) : (f l).1.cs = l.cs ∧ mayL (f l).1 = true ∧ (f l).1 ≠ l := by
  rcases hf l with h1 | h1 | h1
  · exact ⟨h1.2.2.2, h1.2.2.1, h1.2.1⟩
  · rw [h1] at h; cases h
  · rw [h1] at h; cases h
theorem turnAt_cs (d : List Ln) (k : Nat) : csD (turnAt f d k) = csD d := by
  unfold turnAt
  cases hk : d[k]? with
  | none => rfl
  | some l =>
    dsimp only
    split
    · rename_i h0
      unfold csD
      rw [List.map_set, (stays_cs hf h0).1]
      apply List.ext_getElem?
      intro j
      rw [List.getElem?_set]
      split
      · rename_i e
        subst e
        have hlt := (List.getElem?_eq_some_iff.1 hk).1
        rw [if_pos (by simpa using hlt), List.getElem?_map, hk]
        rfl
      · rfl
    · rfl
theorem turnsN_cs (d : List Ln) (i n : Nat) : csD (turnsN f d i n) = csD d := by
  induction n with
  | zero => rfl
  | succ n ih => show csD (turnAt f (turnsN f d i n) (i + n)) = _; rw [turnAt_cs hf, ih]
theorem turnAt_may {d : List Ln} (h : ∀ x ∈ d, mayL x = true) (k : Nat) : ∀ x ∈ turnAt f d k, mayL x = true := by
  unfold turnAt
  cases hk : d[k]? with
  | none => exact h
  | some l =>
    dsimp only
    split
    · rename_i h0
      intro x hx
      rcases List.mem_or_eq_of_mem_set hx with hx | rfl
      · exact h x hx
      · exact (stays_cs hf h0).2.1
    · exact h
theorem turnsN_may {d : List Ln} (h : ∀ x ∈ d, mayL x = true) (i n : Nat) : ∀ x ∈ turnsN f d i n, mayL x = true := by
  induction n with
  | zero => exact h
  | succ n ih => exact turnAt_may hf ih (i + n)
theorem mayD_turns {d : List Ln} (h : mayD d = true) (i n : Nat) : mayD (turnsN f d i n) = true := by
  unfold mayD at h ⊢
  rw [csD_len (turnsN_cs hf d i n), csD_size (turnsN_cs hf d i n)]
  simp only [Bool.and_eq_true, List.all_eq_true] at h ⊢
  exact ⟨h.1, h.2.1, h.2.2.1, turnsN_may hf h.2.2.2 i n⟩
theorem mayS_turns {s : Stt} (h : mayS s = true) (i n : Nat) : mayS ⟨turnsN f s.d i n, s.a, s.f, 0, 0⟩ = true := by
  unfold mayS at h ⊢
  dsimp only
  rw [csD_is (turnsN_cs hf s.d i n), csD_is (turnsN_cs hf s.d i n)]
  simp only [Bool.and_eq_true] at h ⊢
  exact ⟨mayD_turns hf h.1 i n, h.2.1, h.2.2.1, by decide +kernel⟩
theorem mayS_turnsK {s : Stt} (h : mayS s = true) (i n : Nat) : mayS ⟨turnsN f s.d i n, s.a, s.f, s.on, s.off⟩ = true := by
  unfold mayS at h ⊢
  dsimp only
  rw [csD_is (turnsN_cs hf s.d i n), csD_is (turnsN_cs hf s.d i n)]
  simp only [Bool.and_eq_true] at h ⊢
  exact ⟨mayD_turns hf h.1 i n, h.2.1, h.2.2.1, h.2.2.2⟩
end
theorem someN_iff (f : Ln → Ln × Int) (d : List Ln) (i : Nat) : ∀ n, someN f d i n = true ↔ ∃ k l, i ≤ k ∧ k < i + n ∧ d[k]? = some l ∧ (f l).2 = 0 := by
  intro n
  induction n with
  | zero => constructor
            · intro h; cases h
            · rintro ⟨k, l, h1, h2, _⟩; omega
  | succ n ih =>
    show (someN f d i n || turnedAt f d (i + n)) = true ↔ _
    rw [Bool.or_eq_true, ih]
    constructor
    · rintro (⟨k, l, h1, h2, h3, h4⟩ | h)
      · exact ⟨k, l, h1, by omega, h3, h4⟩
      · unfold turnedAt at h
        cases hk : d[i + n]? with
        | none => rw [hk] at h; cases h
        | some l => rw [hk] at h; exact ⟨i + n, l, by omega, by omega, hk, by simpa using h⟩
    · rintro ⟨k, l, h1, h2, h3, h4⟩
      by_cases e : k = i + n
      · subst e
        right
        unfold turnedAt
        rw [h3]
        simpa using h4
      · exact .inl ⟨k, l, h1, by omega, h3, h4⟩
theorem turnsN_ne {f : Ln → Ln × Int} (hf : ∀ l, Stays l (f l)) {d : List Ln} {i n : Nat} (h : someN f d i n = true) : turnsN f d i n ≠ d := by
  obtain ⟨k, l, h1, h2, h3, h4⟩ := (someN_iff f d i n).1 h
  intro e
  have h5 := turnsN_at f d i n h3 h1 h2
  rw [e, h3, if_pos h4] at h5
  exact (stays_cs hf h4).2.2 (Option.some.inj h5).symm
theorem turnsN_no_any {f : Ln → Ln × Int} {d : List Ln} (h : ∀ l, (f l).2 ≠ 0) (i n : Nat) : turnsN f d i n = d ∧ someN f d i n = false := by
  induction n with
  | zero => exact ⟨rfl, rfl⟩
  | succ n ih =>
    constructor
    · show turnAt f (turnsN f d i n) (i + n) = d
      rw [ih.1]
      unfold turnAt
      split
      · rw [if_neg (h _)]
      · rfl
    · show (someN f d i n || turnedAt f d (i + n)) = false
      rw [ih.2]
      unfold turnedAt
      split
      · simpa using h _
      · rfl

/-- How many lines of a state that may be are selected. -/
def selN (s : Stt) : Nat := (toS s).l.toNat + 1 - (fromS s).l.toNat
theorem eachS_may (f : Ln → Ln × Int) {s : Stt} (h : mayS s = true) : eachS f s = if someN f s.d (fromS s).l.toNat (selN s) then (⟨turnsN f s.d (fromS s).l.toNat (selN s), s.a, s.f, 0, 0⟩, 0) else (zS, 7) := by
  unfold eachS
  rw [if_pos h]
  rfl
/-- One of the calls. -/
def turnS (s : Stt) (k kind : Int) : Stt × Int :=
  if k = 0 then formatS s kind else if k = 1 then eachS indentL s else if k = 2 then eachS outdentL s else listS s kind
theorem turnS_form (do_ kind : Int) (s : Stt) : turnS s do_ kind = (zS, 1) ∨ ∃ f : Ln → Ln × Int, (∀ l, Stays l (f l)) ∧ turnS s do_ kind = eachS f s := by
  unfold turnS
  split
  · unfold formatS
    split
    · exact .inr ⟨_, fun l => stays_format, rfl⟩
    · exact .inl rfl
  · split
    · exact .inr ⟨_, fun l => stays_indent, rfl⟩
    · split
      · exact .inr ⟨_, fun l => stays_outdent, rfl⟩
      · unfold listS
        split
        · split
          · exact .inr ⟨_, fun l => stays_outdent, rfl⟩
          · exact .inr ⟨_, fun l => stays_list, rfl⟩
        · exact .inl rfl
/-- What is not a list's call, of every state: lines, each by itself. -/
theorem turnS_each (do_ kind : Int) (h3 : do_ = 0 ∨ do_ = 1 ∨ do_ = 2) : ∃ f : Ln → Ln × Int, (∀ l, Stays l (f l)) ∧ ((∀ s, turnS s do_ kind = eachS f s) ∨ ((∀ s, turnS s do_ kind = (zS, 1)) ∧ ∀ l, (f l).2 ≠ 0)) := by
  rcases h3 with rfl | rfl | rfl
  · refine ⟨(formatL · kind), fun l => stays_format, ?_⟩
    by_cases hk : 0 ≤ kind ∧ kind ≤ 3
    · left
      intro s
      unfold turnS formatS
      rw [if_pos rfl, if_pos hk]
    · right
      refine ⟨fun s => ?_, fun l => ?_⟩
      · unfold turnS formatS
        rw [if_pos rfl, if_neg hk]
      · show (formatL l kind).2 ≠ 0
        unfold formatL
        rw [if_neg (fun h => hk h.1)]
        decide
  · exact ⟨_, fun l => stays_indent, .inl fun s => by unfold turnS; rw [if_neg (by decide), if_pos rfl]⟩
  · exact ⟨_, fun l => stays_outdent, .inl fun s => by unfold turnS; rw [if_neg (by decide), if_neg (by decide), if_pos rfl]⟩
/-- Whatever is done: there is nothing to do, or the lines that are selected are others, may be, and have their cells. -/
theorem turnS_stay {t : Stt} (hm : mayS t = true) (do_ kind : Int) : turnS t do_ kind = (zS, 1) ∨ turnS t do_ kind = (zS, 7) ∨
    ((turnS t do_ kind).2 = 0 ∧ mayS (turnS t do_ kind).1 = true ∧ (turnS t do_ kind).1.a = t.a ∧ (turnS t do_ kind).1.f = t.f ∧ csD (turnS t do_ kind).1.d = csD t.d ∧ (turnS t do_ kind).1.d ≠ t.d ∧
      ∀ k : Nat, ((k : Int) < (fromS t).l ∨ (toS t).l < k) → (turnS t do_ kind).1.d[k]? = t.d[k]?) := by
  rcases turnS_form do_ kind t with h | ⟨f, hf, h⟩
  · exact .inl h
  · rw [h, eachS_may f hm]
    obtain ⟨b1, b2, b3, -⟩ := mayS_in hm
    cases hs : someN f t.d (fromS t).l.toNat (selN t) with
    | false => exact .inr (.inl rfl)
    | true =>
      right; right
      refine ⟨rfl, mayS_turns hf hm _ _, rfl, rfl, turnsN_cs hf _ _ _, turnsN_ne hf hs, fun k hk => turnsN_out f _ _ _ k ?_⟩
      unfold selN
      omega
theorem span_same {s t : Stt} (ha : t.a = s.a) (hf : t.f = s.f) : fromS t = fromS s ∧ toS t = toS s := by
  unfold fromS toS
  rw [ha, hf]
  exact ⟨rfl, rfl⟩

/-! ### one line at a time -/
theorem isD_line {d : List Ln} {k : Nat} (hk : k < d.length) : isD d ⟨(k : Int), 0⟩ = true := by
  unfold isD
  simp only [Bool.and_eq_true, decide_eq_true_eq, Int.toNat_natCast]
  refine ⟨by omega, by omega, by omega, ?_⟩
  rw [List.getElem?_eq_getElem hk]
  simp
theorem one_span (d : List Ln) (p : Ps) (on off : Int) : fromS ⟨d, p, p, on, off⟩ = p ∧ toS ⟨d, p, p, on, off⟩ = p := by
  unfold fromS toS
  split <;> exact ⟨rfl, rfl⟩
/-- In the document that the first lines were turned in, the next line alone is selected. -/
theorem one_select {f : Ln → Ln × Int} (hf : ∀ l, Stays l (f l)) {s : Stt} (hm : mayS s = true) (i j k : Nat) (hk : k < s.d.length) :
    selS ⟨turnsN f s.d i j, s.a, s.f, s.on, s.off⟩ ⟨(k : Int), 0⟩ ⟨(k : Int), 0⟩ = (⟨turnsN f s.d i j, ⟨(k : Int), 0⟩, ⟨(k : Int), 0⟩, 0, 0⟩, 0) ∧ mayS ⟨turnsN f s.d i j, ⟨(k : Int), 0⟩, ⟨(k : Int), 0⟩, 0, 0⟩ = true := by
  have h1 := mayS_turnsK hf hm i j
  have h2 : isD (turnsN f s.d i j) ⟨(k : Int), 0⟩ = true := isD_line (by rw [turnsN_len]; exact hk)
  refine ⟨if_pos ⟨h1, h2, h2⟩, ?_⟩
  have h3 := mayD_turns hf (d := s.d) (by unfold mayS at hm; simp only [Bool.and_eq_true] at hm; exact hm.1) i j
  unfold mayS
  simp only [Bool.and_eq_true]
  exact ⟨h3, h2, h2, by decide +kernel⟩
/-- .. turned there, it is as turned one more of all. -/
theorem one_turn {f : Ln → Ln × Int} (hf : ∀ l, Stays l (f l)) {s : Stt} (hm : mayS s = true) (i j : Nat) {l : Ln} (hl : s.d[i + j]? = some l) :
    eachS f ⟨turnsN f s.d i j, ⟨((i + j : Nat) : Int), 0⟩, ⟨((i + j : Nat) : Int), 0⟩, 0, 0⟩ = if (f l).2 = 0 then (⟨turnsN f s.d i (j + 1), ⟨((i + j : Nat) : Int), 0⟩, ⟨((i + j : Nat) : Int), 0⟩, 0, 0⟩, 0) else (zS, 7) := by
  have hk := (List.getElem?_eq_some_iff.1 hl).1
  have h1 := (one_select hf hm i j (i + j) hk).2
  have hd : (turnsN f s.d i j)[i + j]? = some l := (turnsN_out f s.d i j (i + j) (.inr (Nat.le_refl _))).trans hl
  rw [eachS_may f h1]
  unfold selN
  rw [(one_span _ _ _ _).1, (one_span _ _ _ _).2]
  simp only [Int.toNat_natCast]
  rw [show i + j + 1 - (i + j) = 1 by omega]
  have e : someN f (turnsN f s.d i j) (i + j) 1 = decide ((f l).2 = 0) := by
    show (false || turnedAt f (turnsN f s.d i j) (i + j + 0)) = _
    unfold turnedAt
    rw [Nat.add_zero, hd]
    simp
  rw [e]
  by_cases h0 : (f l).2 = 0
  · rw [if_pos (by simpa using h0), if_pos h0]
    have e2 : turnsN f (turnsN f s.d i j) (i + j) 1 = turnsN f s.d i (j + 1) := by
      show turnAt f (turnsN f s.d i j) (i + j + 0) = turnAt f (turnsN f s.d i j) (i + j)
      rw [Nat.add_zero]
    rw [e2]
  · rw [if_neg (by simpa using h0), if_neg h0]
/-- One of the lines that are selected is told of, if one of them is asked of. -/
theorem someN_step (f : Ln → Ln × Int) (d : List Ln) (i j : Nat) {l : Ln} (hl : d[i + j]? = some l) : someN f d i (j + 1) = (someN f d i j || decide ((f l).2 = 0)) := by
  show (someN f d i j || turnedAt f d (i + j)) = _
  unfold turnedAt
  rw [hl]
theorem turnsN_still (f : Ln → Ln × Int) (d : List Ln) (i j : Nat) {l : Ln} (hl : d[i + j]? = some l) (h0 : (f l).2 ≠ 0) : turnsN f d i (j + 1) = turnsN f d i j := (turnsN_no f d i j hl h0).1

/-! ### back -/
theorem sel_line {s : Stt} (hm : mayS s = true) {k : Nat} (h1 : (fromS s).l.toNat ≤ k) (h2 : k < (fromS s).l.toNat + selN s) : ∃ l, s.d[k]? = some l ∧ mayL l = true := by
  obtain ⟨b1, b2, b3, -⟩ := mayS_in hm
  unfold selN at h2
  have hk : k < s.d.length := by omega
  refine ⟨_, List.getElem?_eq_getElem hk, ?_⟩
  unfold mayS mayD at hm
  simp only [Bool.and_eq_true, List.all_eq_true] at hm
  exact hm.1.2.2.2 _ (List.getElem_mem hk)
theorem sel_some {s : Stt} (hm : mayS s = true) : 0 < selN s := by
  obtain ⟨b1, b2, b3, -⟩ := mayS_in hm
  unfold selN
  omega
theorem sel_all {s : Stt} (hm : mayS s = true) (p : Ln → Bool) : (sel s).all p = true ↔ ∀ (k : Nat) (l : Ln), (fromS s).l.toNat ≤ k → k < (fromS s).l.toNat + selN s → s.d[k]? = some l → p l = true := by
  obtain ⟨b1, b2, b3, -⟩ := mayS_in hm
  unfold selN
  rw [List.all_eq_true]
  unfold sel
  constructor
  · intro h k l h1 h2 hl
    apply h
    apply List.mem_of_getElem? (i := k - (fromS s).l.toNat)
    rw [selF_get _ (by omega), show (fromS s).l.toNat + (k - (fromS s).l.toNat) = k by omega]
    exact hl
  · intro h l hl
    obtain ⟨j, hj, e⟩ := List.getElem_of_mem hl
    rw [selF_len _ _ _ (by omega)] at hj
    have h2 := selF_get s.d (i := (fromS s).l.toNat) (j := (toS s).l.toNat) (k := j) (by omega)
    rw [List.getElem?_eq_getElem (by rw [selF_len _ _ _ (by omega)]; exact hj), e] at h2
    exact h ((fromS s).l.toNat + j) l (by omega) (by omega) h2.symm
theorem listS_may {s : Stt} (hm : mayS s = true) (kind : Int) : (listedS s kind).1 = (sel s).all (listedL kind) := by
  unfold listedS
  rw [if_pos hm]
theorem back_all {s : Stt} (hm : mayS s = true) (h : (eachS indentL s).2 = 0) : mayS (eachS indentL s).1 = true ∧ (eachS outdentL (eachS indentL s).1).2 = 0 ∧
    ((∀ (k : Nat) (l : Ln), (fromS s).l.toNat ≤ k → k < (fromS s).l.toNat + selN s → s.d[k]? = some l → (eachS indentL s).1.d[k]? ≠ some l) → (eachS outdentL (eachS indentL s).1).1.d = s.d) ∧ csD (eachS indentL s).1.d = csD s.d ∧ csD (eachS outdentL (eachS indentL s).1).1.d = csD s.d := by
  have hi : ∀ l, Stays l (indentL l) := fun l => stays_indent
  have ho : ∀ l, Stays l (outdentL l) := fun l => stays_outdent
  rw [eachS_may indentL hm] at h ⊢
  cases hs : someN indentL s.d (fromS s).l.toNat (selN s) with
  | false => rw [hs] at h; cases h
  | true =>
    rw [if_pos rfl]
    dsimp only
    have hm2 := mayS_turns hi hm (fromS s).l.toNat (selN s)
    have e1 : fromS ⟨turnsN indentL s.d (fromS s).l.toNat (selN s), s.a, s.f, 0, 0⟩ = fromS s := rfl
    have e2 : selN ⟨turnsN indentL s.d (fromS s).l.toNat (selN s), s.a, s.f, 0, 0⟩ = selN s := rfl
    rw [eachS_may outdentL hm2, e1, e2]
    dsimp only
    have hs2 : someN outdentL (turnsN indentL s.d (fromS s).l.toNat (selN s)) (fromS s).l.toNat (selN s) = true := by
      obtain ⟨k, l, h1, h2, h3, h4⟩ := (someN_iff _ _ _ _).1 hs
      refine (someN_iff _ _ _ _).2 ⟨k, _, h1, h2, turnsN_at _ _ _ _ h3 h1 h2, ?_⟩
      rw [if_pos h4, (indent_outdent (l := l) (m := (indentL l).1) (Prod.ext rfl h4)).1]
    rw [hs2, if_pos rfl]
    dsimp only
    refine ⟨hm2, rfl, fun hall => ?_, turnsN_cs hi _ _ _, (turnsN_cs ho _ _ _).trans (turnsN_cs hi _ _ _)⟩
    apply List.ext_getElem?
    intro k
    by_cases hk : (fromS s).l.toNat ≤ k ∧ k < (fromS s).l.toNat + selN s
    · obtain ⟨l, hl, _⟩ := sel_line hm hk.1 hk.2
      have h1 := turnsN_at indentL s.d (fromS s).l.toNat (selN s) hl hk.1 hk.2
      have h2 := hall k l hk.1 hk.2 hl
      rw [h1] at h2
      have h0 : (indentL l).2 = 0 := by
        by_cases h0 : (indentL l).2 = 0
        · exact h0
        · rw [if_neg h0] at h2
          exact absurd rfl h2
      rw [if_pos h0] at h1
      rw [turnsN_at outdentL _ _ _ h1 hk.1 hk.2, (indent_outdent (l := l) (m := (indentL l).1) (Prod.ext rfl h0)).1, hl]
      rfl
    · rw [turnsN_out outdentL _ _ _ k (by omega), turnsN_out indentL _ _ _ k (by omega)]
/-- Behind List all are of that list, or none that was is. -/
theorem list_ends {s : Stt} (hm : mayS s = true) {kind : Int} (hk : kind = 0 ∨ kind = 1) : (listS s kind).2 = 0 ∧ mayS (listS s kind).1 = true ∧ csD (listS s kind).1.d = csD s.d ∧
    ((listedS s kind).1 = false → (listedS (listS s kind).1 kind).1 = true) ∧
    ((listedS s kind).1 = true → ∀ (k : Nat) (l : Ln), (fromS s).l.toNat ≤ k → k < (fromS s).l.toNat + selN s → s.d[k]? = some l → ∃ m, (listS s kind).1.d[k]? = some m ∧ m.ls.length + 1 = l.ls.length) := by
  have ho : ∀ l, Stays l (outdentL l) := fun l => stays_outdent
  have hl : ∀ l, Stays l (listL l kind) := fun l => stays_list
  unfold listS
  rw [if_pos hk]
  cases hw : (listedS s kind).1 with
  | true =>
    simp only [if_true]
    rw [listS_may hm, sel_all hm] at hw
    have hlst : ∀ (k : Nat) (l : Ln), (fromS s).l.toNat ≤ k → k < (fromS s).l.toNat + selN s → s.d[k]? = some l → (outdentL l).2 = 0 ∧ (outdentL l).1.ls.length + 1 = l.ls.length := fun k l h1 h2 h3 => by
      have h4 := hw k l h1 h2 h3
      obtain ⟨l', h5, h6⟩ := sel_line hm h1 h2
      rw [h3] at h5
      obtain rfl := Option.some.inj h5
      unfold listedL at h4
      simp only [Bool.and_eq_true, decide_eq_true_eq] at h4
      unfold outdentL
      rw [if_pos h6, if_neg (List.ne_nil_of_length_pos h4.1)]
      refine ⟨rfl, ?_⟩
      show l.ls.dropLast.length + 1 = _
      rw [List.length_dropLast]
      omega
    have hs : someN outdentL s.d (fromS s).l.toNat (selN s) = true := by
      have h0 := sel_some hm
      obtain ⟨l, h1, h2⟩ := sel_line hm (Nat.le_refl (fromS s).l.toNat) (by omega)
      exact (someN_iff _ _ _ _).2 ⟨_, l, Nat.le_refl _, by omega, h1, (hlst _ l (Nat.le_refl _) (by omega) h1).1⟩
    rw [eachS_may outdentL hm, hs, if_pos rfl]
    refine ⟨rfl, mayS_turns ho hm _ _, turnsN_cs ho _ _ _, (fun h => by cases h), fun _ k l h1 h2 h3 => ⟨_, turnsN_at _ _ _ _ h3 h1 h2, ?_⟩⟩
    rw [if_pos (hlst k l h1 h2 h3).1]
    exact (hlst k l h1 h2 h3).2
  | false =>
    simp only [Bool.false_eq_true, if_false]
    have hbase : ∀ (k : Nat) (l : Ln), (fromS s).l.toNat ≤ k → k < (fromS s).l.toNat + selN s → s.d[k]? = some l → (listedL kind l = true ∧ (listL l kind).2 ≠ 0) ∨ ((listL l kind).2 = 0 ∧ listedL kind (listL l kind).1 = true) := fun k l h1 h2 h3 => by
      obtain ⟨l', h5, h6⟩ := sel_line hm h1 h2
      rw [h3] at h5
      obtain rfl := Option.some.inj h5
      unfold listL listedL
      rw [if_pos ⟨hk, h6⟩]
      by_cases hn : l.ls = []
      · right
        rw [if_pos hn]
        refine ⟨rfl, ?_⟩
        simp [lastI]
      · have hlen := List.length_pos_iff.2 hn
        rw [if_neg hn]
        by_cases h7 : lastI l.ls = kind
        · left
          rw [if_pos h7]
          refine ⟨by simp [hlen, h7], by decide⟩
        · right
          rw [if_neg h7]
          refine ⟨rfl, ?_⟩
          simp [lastI]
    have hs : someN (listL · kind) s.d (fromS s).l.toNat (selN s) = true := by
      cases hs : someN (listL · kind) s.d (fromS s).l.toNat (selN s) with
      | true => rfl
      | false =>
        exfalso
        have : (listedS s kind).1 = true := by
          rw [listS_may hm, sel_all hm]
          intro k l h1 h2 h3
          rcases hbase k l h1 h2 h3 with h | h
          · exact h.1
          · have := (someN_iff (listL · kind) s.d (fromS s).l.toNat (selN s)).2 ⟨k, l, h1, h2, h3, h.1⟩
            rw [hs] at this
            cases this
        rw [hw] at this
        cases this
    rw [eachS_may (listL · kind) hm, hs, if_pos rfl]
    have hm2 := mayS_turns hl hm (fromS s).l.toNat (selN s)
    refine ⟨rfl, hm2, turnsN_cs hl _ _ _, fun _ => ?_, (fun h => by cases h)⟩
    have e1 : fromS ⟨turnsN (listL · kind) s.d (fromS s).l.toNat (selN s), s.a, s.f, 0, 0⟩ = fromS s := rfl
    have e2 : selN ⟨turnsN (listL · kind) s.d (fromS s).l.toNat (selN s), s.a, s.f, 0, 0⟩ = selN s := rfl
    show (listedS ⟨turnsN (listL · kind) s.d (fromS s).l.toNat (selN s), s.a, s.f, 0, 0⟩ kind).1 = true
    rw [listS_may hm2, sel_all hm2, e1, e2]
    intro k m h1 h2 h3
    obtain ⟨l, hl1, _⟩ := sel_line hm h1 h2
    have h4 := turnsN_at (listL · kind) s.d (fromS s).l.toNat (selN s) hl1 h1 h2
    dsimp only at h3
    rw [h3] at h4
    obtain rfl := Option.some.inj h4
    rcases hbase k l h1 h2 hl1 with h | h
    · rw [if_neg h.2]; exact h.1
    · rw [if_pos h.1]; exact h.2
end Go.Proofs.YtblbfoniimnkcaaGreatDoor

/- What a document among a law's arguments has, and keeps. No program in sight. -/
namespace Go.Proofs.YtblbfoniimnkcaaGreatDoor
open Go.RowKit Go.Lib

/-- A document that the walks may be asked of. -/
structure OkD (d : List Ln) : Prop where
  len : d.length ≤ 1000
  lines : ∀ l ∈ d, l.ls.length ≤ 1000000 ∧ l.cs.length ≤ 1000000
  fine : ∀ l ∈ d, FineC l.cs
theorem okD_nil : OkD [] := ⟨by simp, (fun _ h => by cases h), (fun _ h => by cases h)⟩
theorem OkD.hs {hs : List Hd} {d : List Ln} (h : lnsOf hs = d) (k : OkD d) : hs.length ≤ 1000 ∧ (∀ x ∈ hs, x.l.ls.length ≤ 1000000 ∧ x.l.cs.length ≤ 1000000) ∧ ∀ x ∈ hs, FineC x.l.cs := by
  subst h
  have hm : ∀ x ∈ hs, x.l ∈ lnsOf hs := fun x hx => List.mem_map_of_mem hx
  exact ⟨by have := k.len; rwa [lnsOf_len] at this, fun x hx => k.lines _ (hm x hx), fun x hx => k.fine _ (hm x hx)⟩
theorem OkD.turned {d d' : List Ln} (k : OkD d) (hm : mayD d' = true) (hc : csD d' = csD d) : OkD d' := by
  refine ⟨by rw [csD_len hc]; exact k.len, fun l hl => ?_, fun l hl => ?_⟩
  · obtain ⟨m, hm1, e⟩ := csD_mem hc hl
    unfold mayD at hm
    simp only [Bool.and_eq_true, List.all_eq_true] at hm
    have h6 := (mayL_parts (hm.2.2.2 l hl)).2.2.1
    have := (k.lines m hm1).2
    rw [e] at this
    exact ⟨by omega, this⟩
  · obtain ⟨m, hm1, e⟩ := csD_mem hc hl
    rw [← e]
    exact k.fine m hm1
theorem OkD.turnedS {s t : Stt} (k : OkD s.d) (hm : mayS t = true) (hc : csD t.d = csD s.d) : OkD t.d := by
  refine k.turned ?_ hc
  unfold mayS at hm
  simp only [Bool.and_eq_true] at hm
  exact hm.1
/-- A state that came in, and is not too long. -/
theorem StateIn.ok {w : World} {hs : List Hd} {a f : Ps} {on off : Int} {A : Option Addr} {n c : Nat} (h : StateIn w ⟨lnsOf hs, a, f, on, off⟩ hs A n c) (hl : longD (lnsOf hs) = false) : OkD (lnsOf hs) ∧ sizeD (lnsOf hs) ≤ 20000 := by
  obtain ⟨h1, h2, h3⟩ := notLongD hl
  refine ⟨⟨by omega, fun l hl => ?_, fun l hl x hx => ?_⟩, h2⟩
  · have := h3 l hl
    exact ⟨by omega, by omega⟩
  · have h4 := (h3 l hl).2.2 x hx
    obtain ⟨y, hy, rfl⟩ := List.mem_map.1 hl
    obtain ⟨a1, a2, _⟩ := (h.doc.lines y hy).wf x hx
    exact ⟨by omega, by omega, by omega⟩
/-- What the walk of long wants. -/
theorem StateIn.big {w : World} {s : Stt} {hs : List Hd} {A : Option Addr} {n c : Nat} (h : StateIn w s hs A n c) : hs.length ≤ 1000000000000000 ∧ ∀ x ∈ hs, x.l.ls.length ≤ 1000000000000000 ∧ x.l.cs.length ≤ 1000000000000000 ∧ ∀ y ∈ x.l.cs, y.h.size ≤ 1000000000000000 :=
  ⟨h.doc.le, fun x hx => ⟨(h.doc.lines x hx).lsle, (h.doc.lines x hx).csle, (h.doc.lines x hx).size⟩⟩
end Go.Proofs.YtblbfoniimnkcaaGreatDoor

/- What the laws of blocks want of the plain functions, as their walks use it. No program in sight. -/
namespace Go.Proofs.YtblbfoniimnkcaaGreatDoor
open Go.RowKit Go.Lib

/-- The selected lines' bounds, as numbers. -/
theorem span_nat {s : Stt} (hm : mayS s = true) : ∃ f t : Nat, ∃ pa qa : Int, fromS s = ⟨(f : Int), pa⟩ ∧ toS s = ⟨(t : Int), qa⟩ ∧ f ≤ t ∧ t < s.d.length ∧ s.d.length ≤ 200 ∧ (fromS s).l.toNat = f ∧ selN s = t + 1 - f := by
  obtain ⟨b1, b2, b3, b4⟩ := mayS_in hm
  unfold selN
  obtain ⟨⟨pl, pa⟩, hp⟩ : ∃ p, fromS s = p := ⟨_, rfl⟩
  obtain ⟨⟨ql, qa⟩, hq⟩ : ∃ p, toS s = p := ⟨_, rfl⟩
  rw [hp] at b1 b2
  rw [hq] at b2 b3
  rw [hp, hq]
  dsimp only at *
  obtain ⟨f, rfl⟩ := Int.eq_ofNat_of_zero_le b1
  obtain ⟨t, rfl⟩ := Int.eq_ofNat_of_zero_le (Int.le_trans b1 b2)
  exact ⟨f, t, pa, qa, rfl, rfl, by omega, by omega, b4, by simp, by simp⟩
/-- What is known, one line behind the other. -/
def EachStep (f : Ln → Ln × Int) (d : List Ln) (i : Nat) (do_ kind : Int) (k : Nat) : Prop :=
  (turnS ⟨turnsN f d i (k - i), ⟨(k : Int), 0⟩, ⟨(k : Int), 0⟩, 0, 0⟩ do_ kind = (⟨turnsN f d i (k + 1 - i), ⟨(k : Int), 0⟩, ⟨(k : Int), 0⟩, 0, 0⟩, 0) ∧ someN f d i (k + 1 - i) = true) ∨
  ((turnS ⟨turnsN f d i (k - i), ⟨(k : Int), 0⟩, ⟨(k : Int), 0⟩, 0, 0⟩ do_ kind = (zS, 7) ∨ turnS ⟨turnsN f d i (k - i), ⟨(k : Int), 0⟩, ⟨(k : Int), 0⟩, 0, 0⟩ do_ kind = (zS, 1)) ∧ turnsN f d i (k + 1 - i) = turnsN f d i (k - i) ∧ someN f d i (k + 1 - i) = someN f d i (k - i))
theorem each_plain {s : Stt} (hm : mayS s = true) (do_ kind : Int) (h3 : do_ = 0 ∨ do_ = 1 ∨ do_ = 2) (i : Nat) (hi : (fromS s).l.toNat = i) : ∃ f : Ln → Ln × Int, (∀ l, Stays l (f l)) ∧
    (∀ (k : Nat) (l : Ln), i ≤ k → s.d[k]? = some l → EachStep f s.d i do_ kind k) ∧
    (someN f s.d i (selN s) = true → turnS s do_ kind = (⟨turnsN f s.d i (selN s), s.a, s.f, 0, 0⟩, 0)) ∧
    (someN f s.d i (selN s) = false → turnS s do_ kind = (zS, 7) ∨ turnS s do_ kind = (zS, 1)) := by
  subst hi
  obtain ⟨f, hf, h⟩ := turnS_each do_ kind h3
  refine ⟨f, hf, ?_, ?_, ?_⟩
  · intro k l hk hl
    obtain ⟨j, rfl⟩ : ∃ j, k = (fromS s).l.toNat + j := ⟨k - (fromS s).l.toNat, by omega⟩
    unfold EachStep
    rw [show (fromS s).l.toNat + j - (fromS s).l.toNat = j by omega, show (fromS s).l.toNat + j + 1 - (fromS s).l.toNat = j + 1 by omega]
    rcases h with h | ⟨h, hn⟩
    · rw [h, one_turn hf hm _ j hl]
      by_cases h0 : (f l).2 = 0
      · left
        rw [if_pos h0]
        exact ⟨rfl, by rw [someN_step f _ _ j hl, decide_eq_true h0, Bool.or_true]⟩
      · right
        rw [if_neg h0]
        exact ⟨.inl rfl, turnsN_still f _ _ j hl h0, by rw [someN_step f _ _ j hl, decide_eq_false h0, Bool.or_false]⟩
    · right
      exact ⟨.inr (h _), turnsN_still f _ _ j hl (hn l), by rw [someN_step f _ _ j hl, decide_eq_false (hn l), Bool.or_false]⟩
  · intro hs
    rcases h with h | ⟨h, hn⟩
    · rw [h, eachS_may f hm, if_pos hs]
    · rw [(turnsN_no_any hn _ _).2] at hs
      cases hs
  · intro hs
    rcases h with h | ⟨h, hn⟩
    · left
      rw [h, eachS_may f hm, if_neg (by rw [hs]; decide)]
    · exact .inr (h s)
theorem one_sel {f : Ln → Ln × Int} (hf : ∀ l, Stays l (f l)) {s : Stt} (hm : mayS s = true) (i j k : Nat) (hk : k < s.d.length) :
    selS ⟨turnsN f s.d i j, s.a, s.f, s.on, s.off⟩ ⟨(k : Int), 0⟩ ⟨(k : Int), 0⟩ = (⟨turnsN f s.d i j, ⟨(k : Int), 0⟩, ⟨(k : Int), 0⟩, 0, 0⟩, 0) := (one_select hf hm i j k hk).1
theorem mayD_of {s : Stt} (h : mayS s = true) : mayD s.d = true := by
  unfold mayS at h
  simp only [Bool.and_eq_true] at h
  exact h.1
theorem okD_turns {f : Ln → Ln × Int} (hf : ∀ l, Stays l (f l)) {d : List Ln} (k : OkD d) (h : mayD d = true) (i j : Nat) : OkD (turnsN f d i j) := k.turned (mayD_turns hf h i j) (turnsN_cs hf d i j)
theorem okD_z : OkD zS.d := okD_nil
theorem back_cases {s : Stt} (hm : mayS s = true) (i : Nat) (hi : (fromS s).l.toNat = i) : eachS indentL s = (zS, 7) ∨ ∃ D D2, eachS indentL s = (⟨D, s.a, s.f, 0, 0⟩, 0) ∧ mayS ⟨D, s.a, s.f, 0, 0⟩ = true ∧ csD D = csD s.d ∧ eachS outdentL ⟨D, s.a, s.f, 0, 0⟩ = (⟨D2, s.a, s.f, 0, 0⟩, 0) ∧ csD D2 = csD s.d ∧ mayD D2 = true ∧
    ((∀ (k : Nat) (l : Ln), i ≤ k → k < i + selN s → s.d[k]? = some l → D[k]? ≠ some l) → D2 = s.d) := by
  subst hi
  cases hs : someN indentL s.d (fromS s).l.toNat (selN s) with
  | false =>
    left
    rw [eachS_may indentL hm, hs]
    rfl
  | true =>
    have e : eachS indentL s = (⟨turnsN indentL s.d (fromS s).l.toNat (selN s), s.a, s.f, 0, 0⟩, 0) := by rw [eachS_may indentL hm, hs]; rfl
    obtain ⟨h1, h2, h3, h4, h5⟩ := back_all hm (by rw [e])
    rw [e] at h1 h2 h3 h4 h5
    dsimp only at h1 h2 h3 h4 h5
    right
    have e2 := eachS_may outdentL h1
    cases hs2 : someN outdentL (turnsN indentL s.d (fromS s).l.toNat (selN s)) (fromS ⟨turnsN indentL s.d (fromS s).l.toNat (selN s), s.a, s.f, 0, 0⟩).l.toNat (selN ⟨turnsN indentL s.d (fromS s).l.toNat (selN s), s.a, s.f, 0, 0⟩) with
    | false =>
      dsimp only at e2
      rw [hs2] at e2
      rw [e2] at h2
      cases h2
    | true =>
      dsimp only at e2
      rw [hs2, if_pos rfl] at e2
      rw [e2] at h3 h5
      exact ⟨_, _, e, h1, h4, e2, h5, mayD_turns (fun l => stays_outdent) (mayD_of h1) _ _, h3⟩
theorem list_cases {s : Stt} (hm : mayS s = true) {kind : Int} (hk : kind = 0 ∨ kind = 1) (i : Nat) (hi : (fromS s).l.toNat = i) : ∃ D b, listS s kind = (⟨D, s.a, s.f, 0, 0⟩, 0) ∧ mayS ⟨D, s.a, s.f, 0, 0⟩ = true ∧ csD D = csD s.d ∧ (listedS s kind).1 = b ∧ (b = false → (listedS ⟨D, s.a, s.f, 0, 0⟩ kind).1 = true) ∧
    (b = true → ∀ (k : Nat) (l : Ln), i ≤ k → k < i + selN s → s.d[k]? = some l → ∃ m, D[k]? = some m ∧ m.ls.length + 1 = l.ls.length) := by
  subst hi
  obtain ⟨h1, h2, h3, h4, h5⟩ := list_ends hm hk
  have hform : ∃ f, listS s kind = eachS f s := by
    unfold listS
    rw [if_pos hk]
    split
    · exact ⟨_, rfl⟩
    · exact ⟨_, rfl⟩
  obtain ⟨f, hf⟩ := hform
  cases hs : someN f s.d (fromS s).l.toNat (selN s) with
  | false =>
    rw [hf, eachS_may f hm, hs] at h1
    cases h1
  | true =>
    have e : listS s kind = (⟨turnsN f s.d (fromS s).l.toNat (selN s), s.a, s.f, 0, 0⟩, 0) := by rw [hf, eachS_may f hm, hs]; rfl
    rw [e] at h2 h3 h4 h5
    exact ⟨_, _, e, h2, h3, rfl, h4, h5⟩
end Go.Proofs.YtblbfoniimnkcaaGreatDoor
