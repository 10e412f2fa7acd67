/- What the packages cells and quillworkref05 compute, said of lists. No program in sight. -/
import Derived.Test.YtoagikkjomobgaaDoorCell
namespace Go.Proofs.YtoagikkjomobgaaDoor
open Go.RowKit

/-- How much a row is for the laws: its cells, and an eighth of its links' bytes. -/
def heft (cs : List Cl) : Nat := cs.length + (cs.map fun c => c.h.size / 8).sum
theorem heft_take (cs : List Cl) (k : Nat) (c : Cl) (h : cs[k]? = some c) : ((cs.take (k + 1)).map fun c => c.h.size / 8).sum = ((cs.take k).map fun c => c.h.size / 8).sum + c.h.size / 8 := by
  rw [take_snoc' h, List.map_append, List.sum_append]; simp
theorem sum_take_le (l : List Nat) (k : Nat) : (l.take k).sum ≤ l.sum := by
  have h := congrArg List.sum (List.take_append_drop k l)
  rw [List.sum_append] at h
  omega
theorem heft_take_le (cs : List Cl) (k : Nat) : ((cs.take k).map fun c => c.h.size / 8).sum ≤ (cs.map fun c => c.h.size / 8).sum := by
  rw [List.map_take]; exact sum_take_le _ _

/-- The place in a row of n that is meant by at. -/
def place (n : Nat) (at_ : Int) : Nat := min at_.toNat n
theorem place_le (n : Nat) (a : Int) : place n a ≤ n := Nat.min_le_right _ _
/-- The link of the cell behind, if there is one; that of the cell ahead, if it has one, first. -/
def hrefAt (cs : List Cl) (k : Nat) : ByteArray := match cs[k]? with | some c => c.h | none => .empty
def linkAt (cs : List Cl) (p : Nat) : ByteArray := if 0 < p ∧ hrefAt cs (p - 1) ≠ .empty then hrefAt cs (p - 1) else hrefAt cs p
/-- Back from k over the cells of link h. -/
def backTo (cs : List Cl) (h : ByteArray) : Nat → Nat
  | 0 => 0
  | k + 1 => if hrefAt cs k = h then backTo cs h k else k + 1
/-- On over the cells of link h, b of them at most. -/
def onTo (cs : List Cl) (h : ByteArray) : Nat → Nat → Nat
  | 0, k => k
  | b + 1, k => if k < cs.length ∧ hrefAt cs k = h then onTo cs h b (k + 1) else k
def withinL (cs : List Cl) (at_ : Int) : Nat × Nat :=
  let p := place cs.length at_
  let h := linkAt cs p
  if h = .empty then (p, p) else (backTo cs h p, onTo cs h cs.length p)
theorem onTo_stop (cs : List Cl) (h : ByteArray) (k : Nat) (hk : ¬ (k < cs.length ∧ hrefAt cs k = h)) : ∀ b, onTo cs h b k = k := by
  intro b; cases b with
  | zero => rfl
  | succ b => rw [onTo, if_neg hk]
theorem onTo_fuel (cs : List Cl) (h : ByteArray) : ∀ b b' k, cs.length ≤ k + b → cs.length ≤ k + b' → onTo cs h b k = onTo cs h b' k := by
  intro b
  induction b with
  | zero => intro b' k h1 h2; rw [onTo_stop cs h k (by omega), onTo_stop cs h k (by omega)]
  | succ b ih =>
    intro b' k h1 h2
    by_cases hk : k < cs.length ∧ hrefAt cs k = h
    · cases b' with
      | zero => omega
      | succ b' => rw [onTo, onTo, if_pos hk, if_pos hk]; exact ih b' (k + 1) (by omega) (by omega)
    · rw [onTo_stop cs h k hk, onTo_stop cs h k hk]
theorem onTo_step (cs : List Cl) (h : ByteArray) (k : Nat) (hk : k < cs.length) (he : hrefAt cs k = h) : onTo cs h cs.length k = onTo cs h cs.length (k + 1) := by
  obtain ⟨n, hn⟩ : ∃ n, cs.length = n + 1 := ⟨cs.length - 1, by omega⟩
  rw [onTo_fuel cs h cs.length (n + 1) k (by omega) (by omega), onTo, if_pos ⟨hk, he⟩]
  exact onTo_fuel cs h _ _ _ (by omega) (by omega)
theorem hrefAt_some {cs : List Cl} {k : Nat} {c : Cl} (h : cs[k]? = some c) : hrefAt cs k = c.h := by unfold hrefAt; rw [h]

/-- Where a run that begins at k ends: i cells of it are known. -/
structure Rn where
  f : Int
  t : Int
  b : Int
  h : ByteArray
  k : Int
theorem Rn.ext' {x y : Rn} (h1 : x.f = y.f) (h2 : x.t = y.t) (h3 : x.b = y.b) (h4 : x.h = y.h) (h5 : x.k = y.k) : x = y := by
  cases x; cases y; cases h1; cases h2; cases h3; cases h4; cases h5; rfl
def encN (x : Rn) : List Value := [.int .i64 x.f, .int .i64 x.t, .int .i64 x.b, .string x.h, .int .i64 x.k]
theorem encN_len (c : Rn) : (encN c).length = 5 := rfl
theorem encN_one : ∀ c, ∀ u ∈ encN c, u.oneCell' = true := by
  intro c u h
  simp [encN] at h
  rcases h with rfl | rfl | rfl | rfl | rfl <;> rfl
/-- On over the cells alike c, b of them at most. -/
def runTo (cs : List Cl) (c : Cl) : Nat → Nat → Nat
  | 0, k => k
  | b + 1, k => match cs[k]? with
    | some x => if x.r ≠ 10 ∧ x.b = c.b ∧ x.h = c.h then runTo cs c b (k + 1) else k
    | none => k
def runAt (cs : List Cl) (c : Cl) (k : Nat) : Rn := if c.r = 10 then ⟨k, k + 1, c.b, c.h, 1⟩ else ⟨k, runTo cs c cs.length (k + 1), c.b, c.h, 0⟩
theorem runTo_ge (cs : List Cl) (c : Cl) : ∀ b k, k ≤ runTo cs c b k := by
  intro b
  induction b with
  | zero => intro k; exact Nat.le_refl _
  | succ b ih =>
    intro k
    rw [runTo]
    split
    · split
      · exact Nat.le_trans (Nat.le_succ k) (ih (k + 1))
      · exact Nat.le_refl _
    · exact Nat.le_refl _
theorem runTo_le (cs : List Cl) (c : Cl) : ∀ b k, k ≤ cs.length → runTo cs c b k ≤ cs.length := by
  intro b
  induction b with
  | zero => intro k hk; exact hk
  | succ b ih =>
    intro k hk
    rw [runTo]
    split
    · rename_i x hx
      split
      · exact ih (k + 1) ((List.getElem?_eq_some_iff.1 hx).1)
      · exact hk
    · exact hk
theorem runTo_fuel (cs : List Cl) (c : Cl) : ∀ b b' k, cs.length ≤ k + b → cs.length ≤ k + b' → runTo cs c b k = runTo cs c b' k := by
  intro b
  induction b with
  | zero =>
    intro b' k h1 h2
    cases b' with
    | zero => rfl
    | succ b' => rw [runTo, runTo, List.getElem?_eq_none (by omega)]
  | succ b ih =>
    intro b' k h1 h2
    cases b' with
    | zero => rw [runTo, runTo, List.getElem?_eq_none (by omega)]
    | succ b' =>
      rw [runTo, runTo]
      split
      · rw [ih b' (k + 1) (by omega) (by omega)]
      · rfl
theorem runTo_step (cs : List Cl) (c x : Cl) (k : Nat) (hx : cs[k]? = some x) (h : x.r ≠ 10 ∧ x.b = c.b ∧ x.h = c.h) : runTo cs c cs.length k = runTo cs c cs.length (k + 1) := by
  have hk := (List.getElem?_eq_some_iff.1 hx).1
  rw [runTo_fuel cs c cs.length (cs.length + 1) k (by omega) (by omega), runTo, hx]
  simp only
  rw [if_pos h]
theorem runTo_stop (cs : List Cl) (c : Cl) (k : Nat) (h : ∀ x, cs[k]? = some x → ¬ (x.r ≠ 10 ∧ x.b = c.b ∧ x.h = c.h)) : ∀ b, runTo cs c b k = k := by
  intro b
  cases b with
  | zero => rfl
  | succ b =>
    rw [runTo]
    split
    · rename_i x hx; rw [if_neg (h x hx)]
    · rfl
/-- The runs of a row from cell k on. -/
def runsFrom (cs : List Cl) : Nat → Nat → List Rn
  | 0, _ => []
  | b + 1, k => match cs[k]? with
    | some c => runAt cs c k :: runsFrom cs b (if c.r = 10 then k + 1 else runTo cs c cs.length (k + 1))
    | none => []
def runsL (cs : List Cl) : List Rn := runsFrom cs cs.length 0
theorem runsFrom_fuel (cs : List Cl) : ∀ b b' k, cs.length ≤ k + b → cs.length ≤ k + b' → runsFrom cs b k = runsFrom cs b' k := by
  intro b
  induction b with
  | zero =>
    intro b' k h1 h2
    cases b' with
    | zero => rfl
    | succ b' => rw [runsFrom, runsFrom, List.getElem?_eq_none (by omega)]
  | succ b ih =>
    intro b' k h1 h2
    cases b' with
    | zero => rw [runsFrom, runsFrom, List.getElem?_eq_none (by omega)]
    | succ b' =>
      rw [runsFrom, runsFrom]
      split
      · rename_i c hc
        congr 1
        have := runTo_ge cs c cs.length (k + 1)
        split
        · exact ih b' _ (by omega) (by omega)
        · exact ih b' _ (by omega) (by omega)
      · rfl
def nextRun (cs : List Cl) (c : Cl) (k : Nat) : Nat := if c.r = 10 then k + 1 else runTo cs c cs.length (k + 1)
theorem nextRun_gt (cs : List Cl) (c : Cl) (k : Nat) : k < nextRun cs c k := by
  unfold nextRun
  have := runTo_ge cs c cs.length (k + 1)
  split <;> omega
theorem nextRun_le (cs : List Cl) (c : Cl) (k : Nat) (hk : k < cs.length) : nextRun cs c k ≤ cs.length := by
  unfold nextRun
  have := runTo_le cs c cs.length (k + 1) (by omega)
  split <;> omega
theorem runsFrom_step (cs : List Cl) (c : Cl) (k : Nat) (hc : cs[k]? = some c) : runsFrom cs cs.length k = runAt cs c k :: runsFrom cs cs.length (nextRun cs c k) := by
  have hk := (List.getElem?_eq_some_iff.1 hc).1
  have hg := nextRun_gt cs c k
  rw [runsFrom_fuel cs cs.length (cs.length + 1) k (by omega) (by omega), runsFrom, hc]
  rfl
theorem runsFrom_end (cs : List Cl) (k : Nat) (hk : cs.length ≤ k) : ∀ b, runsFrom cs b k = [] := by
  intro b
  cases b with
  | zero => rfl
  | succ b => rw [runsFrom, List.getElem?_eq_none hk]
theorem length_runsFrom (cs : List Cl) : ∀ b k, (runsFrom cs b k).length ≤ cs.length - k := by
  intro b
  induction b with
  | zero => intro k; simp [runsFrom]
  | succ b ih =>
    intro k
    rw [runsFrom]
    split
    · rename_i c hc
      have hk := (List.getElem?_eq_some_iff.1 hc).1
      have hg := nextRun_gt cs c k
      have hl := nextRun_le cs c k hk
      have := ih (nextRun cs c k)
      show (runsFrom cs b (nextRun cs c k)).length + 1 ≤ _
      omega
    · simp

/-- The text of a row. -/
def textL (cs : List Cl) : ByteArray := runesBytes (cs.map (·.r))
def spanOk (n : Nat) (f t : Int) : Prop := 0 ≤ f ∧ f ≤ t ∧ t ≤ n
instance (n : Nat) (f t : Int) : Decidable (spanOk n f t) := inferInstanceAs (Decidable (_ ∧ _ ∧ _))
end Go.Proofs.YtoagikkjomobgaaDoor
