/- Texts on cells and lines, put together: LnLong, LnPlain, LnLaw. -/
import Derived.Test.YtblbfoniimnkcaaGreatDoorLnTurnP
import Derived.Test.YtblbfoniimnkcaaGreatDoorLnKit
import Derived.BigQuiet
import Derived.Deep.QuietTactic
/- The walk of law06's long. -/
namespace Go.Proofs.YtblbfoniimnkcaaGreatDoor
open Go.RowKit Go.Lib

def hrefs (cs : List Cl) : Nat := (cs.map fun c => c.h.size).sum
theorem hrefs_take (cs : List Cl) (k : Nat) (c : Cl) (h : cs[k]? = some c) : hrefs (cs.take (k + 1)) = hrefs (cs.take k) + c.h.size := by
  unfold hrefs
  rw [List.take_add_one, h]
  simp
theorem hrefs_take_le (cs : List Cl) (k : Nat) : hrefs (cs.take k) ≤ hrefs cs := by
  unfold hrefs
  conv => rhs; rw [← List.take_append_drop k cs, List.map_append, List.sum_append]
  omega
theorem hrefs_mem {cs : List Cl} {x : Cl} (h : x ∈ cs) : x.h.size ≤ hrefs cs := by
  unfold hrefs
  induction cs with
  | nil => simp at h
  | cons y ys ih =>
    rw [List.map_cons, List.sum_cons]
    rcases List.mem_cons.1 h with rfl | h
    · omega
    · have := ih h; omega
def longL (l : Ln) : Bool := decide (20000 < l.cs.length ∨ 1000 < l.ls.length ∨ 200000 < hrefs l.cs)
end Go.Proofs.YtblbfoniimnkcaaGreatDoor

/- What the lines' laws say of the plain answers. No program in sight. -/
namespace Go.Proofs.YtblbfoniimnkcaaGreatDoor
open Go.RowKit Go.Lib

theorem mayCs_take {cs : List Cl} (h : mayCs cs = true) (n : Nat) : mayCs (cs.take n) = true := by
  unfold mayCs at *
  rw [List.all_eq_true] at *
  exact fun x hx => h x (List.mem_of_mem_take hx)
theorem mayCs_drop {cs : List Cl} (h : mayCs cs = true) (n : Nat) : mayCs (cs.drop n) = true := by
  unfold mayCs at *
  rw [List.all_eq_true] at *
  exact fun x hx => h x (List.mem_of_mem_drop hx)
theorem mayCs_app {a b : List Cl} (h : mayCs a = true) (k : mayCs b = true) : mayCs (a ++ b) = true := by
  unfold mayCs at *
  rw [List.all_append, h, k]; rfl
theorem inL_parts {l : Ln} {a : Int} (h : inL l a = true) : mayL l = true ∧ 0 ≤ a ∧ a ≤ l.cs.length := by
  unfold inL at h
  simp only [Bool.and_eq_true, Bool.not_eq_true', decide_eq_false_iff_not] at h
  exact ⟨h.1, by omega, by omega⟩
theorem split_join {l : Ln} {a : Int} (h : splitE l a = 0) : joinL (splitA l a) (splitB l a) = (l, 0) ∧ mayL (splitB l a) = true := by
  unfold splitE at h
  by_cases hi : inL l a = true
  · obtain ⟨hm, h0, hle⟩ := inL_parts hi
    obtain ⟨p1, p2, p3, p4, p5, p6, p7, p8⟩ := mayL_parts hm
    have hA : splitA l a = ⟨l.q, l.ls, l.k, l.cs.take a.toNat⟩ := by unfold splitA; rw [if_pos hi]
    have hB : splitB l a = ⟨l.q, l.ls, if a = l.cs.length then 0 else l.k, l.cs.drop a.toNat⟩ := by unfold splitB; rw [if_pos hi]
    have mA : mayL (splitA l a) = true := by rw [hA]; exact mayL_of p1 p2 p3 p4 p5 p6 p7 (mayCs_take p8 _)
    have mB : mayL (splitB l a) = true := by
      rw [hB]
      refine mayL_of p1 p2 p3 ?_ ?_ ?_ p7 (mayCs_drop p8 _)
      · show 0 ≤ (if a = l.cs.length then 0 else l.k); split <;> omega
      · show (if a = l.cs.length then 0 else l.k) ≤ 3; split <;> omega
      · intro hn
        show (if a = l.cs.length then 0 else l.k) = 0
        split
        · rfl
        · exact p6 hn
    refine ⟨?_, mB⟩
    unfold joinL
    rw [mA, mB, hA, hB]
    simp only [Bool.and_self, if_true, List.take_append_drop]
  · rw [if_neg hi] at h
    cases h
theorem indent_outdent {l m : Ln} (h : indentL l = (m, 0)) : outdentL m = (l, 0) ∧ mayL m = true ∧ m.cs = l.cs := by
  unfold indentL at h
  by_cases hm : mayL l = true
  · obtain ⟨p1, p2, p3, p4, p5, p6, p7, p8⟩ := mayL_parts hm
    rw [if_pos hm] at h
    by_cases hl : l.ls = []
    · rw [if_pos hl] at h
      by_cases hq : l.q < 6
      · rw [if_pos hq] at h
        injection h with h1 h2
        subst h1
        have mm : mayL ⟨l.q + 1, l.ls, l.k, l.cs⟩ = true := mayL_of (by show 0 ≤ l.q + 1; omega) (by show l.q + 1 ≤ 6; omega) p3 p4 p5 p6 p7 p8
        refine ⟨?_, mm, rfl⟩
        unfold outdentL
        rw [if_pos mm, if_pos hl, if_pos (by show 0 < l.q + 1; omega)]
        exact congrArg (·, 0) (Ln.ext' (by show l.q + 1 - 1 = l.q; omega) rfl rfl rfl)
      · rw [if_neg hq] at h
        injection h with _ h2
        cases h2
    · rw [if_neg hl] at h
      by_cases hq : l.ls.length < 6
      · rw [if_pos hq] at h
        injection h with h1 h2
        subst h1
        have mm : mayL ⟨l.q, l.ls ++ [lastI l.ls], l.k, l.cs⟩ = true := mayL_of p1 p2 (by show (l.ls ++ [lastI l.ls]).length ≤ 6; simp; omega) p4 p5 (fun _ => p6 hl) (fun x hx => by
          rcases List.mem_append.1 hx with hx | hx
          · exact p7 x hx
          · rw [List.mem_singleton.1 hx]; exact p7 _ (lastI_mem hl)) p8
        refine ⟨?_, mm, rfl⟩
        unfold outdentL
        rw [if_pos mm, if_neg (by simp)]
        exact congrArg (·, 0) (Ln.ext' rfl (by simp) rfl rfl)
      · rw [if_neg hq] at h
        injection h with _ h2
        cases h2
  · rw [if_neg hm] at h
    injection h with _ h2
    cases h2
/-- How often a line can be freed. -/
def mu (l : Ln) : Nat := l.ls.length + l.q.toNat + if 0 < l.k then 1 else 0
theorem free_step {l : Ln} (hm : mayL l = true) (h : 0 < mu l) : (freeL l).2 = 0 ∧ mayL (freeL l).1 = true ∧ mu (freeL l).1 + 1 = mu l ∧ (freeL l).1.cs = l.cs := by
  obtain ⟨p1, p2, p3, p4, p5, p6, p7, p8⟩ := mayL_parts hm
  unfold freeL
  rw [if_pos hm]
  by_cases hl : l.ls = []
  · rw [if_pos hl]
    by_cases hk : 0 < l.k
    · rw [if_pos hk]
      exact ⟨rfl, mayL_of p1 p2 p3 (by show (0 : Int) ≤ 0; omega) (by show (0 : Int) ≤ 3; omega) (fun _ => rfl) p7 p8, by unfold mu; simp [hk], rfl⟩
    · rw [if_neg hk]
      by_cases hq : 0 < l.q
      · rw [if_pos hq]
        exact ⟨rfl, mayL_of (by show 0 ≤ l.q - 1; omega) (by show l.q - 1 ≤ 6; omega) p3 p4 p5 p6 p7 p8, by unfold mu; simp [hk]; omega, rfl⟩
      · exfalso
        unfold mu at h
        rw [hl, if_neg hk] at h
        simp at h
        omega
  · rw [if_neg hl]
    have hlen : 0 < l.ls.length := List.length_pos_iff.2 hl
    exact ⟨rfl, mayL_of p1 p2 (by show l.ls.dropLast.length ≤ 6; simp; omega) p4 p5 (fun _ => p6 hl) (fun x hx => p7 x (List.dropLast_subset _ hx)) p8, by unfold mu; simp; omega, rfl⟩
theorem free_end {l : Ln} (hm : mayL l = true) (h : mu l = 0) : freeL l = (zL, 7) ∧ l.q = 0 ∧ l.ls = [] ∧ l.k = 0 := by
  obtain ⟨p1, p2, p3, p4, p5, p6, p7, p8⟩ := mayL_parts hm
  unfold mu at h
  have hl : l.ls = [] := List.eq_nil_of_length_eq_zero (by omega)
  have hk : ¬ 0 < l.k := fun hk => by rw [if_pos hk] at h; omega
  have hq : ¬ 0 < l.q := by omega
  refine ⟨?_, by omega, hl, by omega⟩
  unfold freeL
  rw [if_pos hm, if_pos hl, if_neg hk, if_neg hq]
/-- A line indented i times. -/
def indN (l : Ln) (i : Nat) : Ln := if l.ls = [] then ⟨l.q + i, l.ls, l.k, l.cs⟩ else ⟨l.q, l.ls ++ List.replicate i (lastI l.ls), l.k, l.cs⟩
def nInd (l : Ln) : Int := if l.ls = [] then 6 - l.q else 6 - l.ls.length
theorem indN_zero (l : Ln) : indN l 0 = l := by
  unfold indN
  split
  · exact Ln.ext' (by simp) rfl rfl rfl
  · exact Ln.ext' rfl (by simp) rfl rfl
theorem lastI_rep {xs : List Int} {i : Nat} : lastI (xs ++ List.replicate i (lastI xs)) = lastI xs := by
  cases i with
  | zero => simp
  | succ i =>
    rw [List.replicate_succ', ← List.append_assoc]
    unfold lastI
    simp
theorem indN_may {l : Ln} (hm : mayL l = true) {i : Nat} (h : (i : Int) ≤ nInd l) : mayL (indN l i) = true := by
  obtain ⟨p1, p2, p3, p4, p5, p6, p7, p8⟩ := mayL_parts hm
  unfold nInd at h
  unfold indN
  by_cases hl : l.ls = []
  · rw [if_pos hl] at h ⊢
    exact mayL_of (by show 0 ≤ l.q + i; omega) (by show l.q + i ≤ 6; omega) p3 p4 p5 p6 p7 p8
  · rw [if_neg hl] at h ⊢
    exact mayL_of p1 p2 (by show (l.ls ++ List.replicate i (lastI l.ls)).length ≤ 6; simp; omega) p4 p5 (fun _ => p6 hl) (fun x hx => by
      rcases List.mem_append.1 hx with hx | hx
      · exact p7 x hx
      · rw [List.eq_of_mem_replicate hx]; exact p7 _ (lastI_mem hl)) p8
theorem indN_step {l : Ln} (hm : mayL l = true) {i : Nat} (h : (i : Int) < nInd l) : indentL (indN l i) = (indN l (i + 1), 0) := by
  have hmi := indN_may hm (Int.le_of_lt h)
  unfold indentL
  rw [if_pos hmi]
  unfold nInd at h
  unfold indN
  by_cases hl : l.ls = []
  · simp only [hl, if_true] at h ⊢
    rw [if_pos (by omega)]
    exact congrArg (·, 0) (Ln.ext' (by show l.q + i + 1 = l.q + ((i + 1 : Nat) : Int); omega) rfl rfl rfl)
  · simp only [hl, if_false] at h ⊢
    rw [if_neg (by simp [hl]), if_pos (by simp; omega)]
    exact congrArg (·, 0) (Ln.ext' rfl (by show _ ++ [lastI _] = _; rw [lastI_rep, List.replicate_succ', List.append_assoc]) rfl rfl)
theorem indN_full {l : Ln} (hm : mayL l = true) {i : Nat} (h : (i : Int) = nInd l) : indentL (indN l i) = (zL, 7) := by
  have hmi := indN_may hm (Int.le_of_eq h)
  unfold indentL
  rw [if_pos hmi]
  unfold nInd at h
  unfold indN
  by_cases hl : l.ls = []
  · simp only [hl, if_true] at h ⊢
    rw [if_neg (by omega)]
  · simp only [hl, if_false] at h ⊢
    rw [if_neg (by simp [hl]), if_neg (by simp; omega)]
theorem indN_back {l : Ln} (hm : mayL l = true) {i : Nat} (h : (i : Int) < nInd l) : outdentL (indN l (i + 1)) = (indN l i, 0) := (indent_outdent (indN_step hm h)).1
theorem indN_cs (l : Ln) (i : Nat) : (indN l i).cs = l.cs := by unfold indN; split <;> rfl
theorem nInd_nonneg {l : Ln} (hm : mayL l = true) : 0 ≤ nInd l ∧ nInd l ≤ 6 := by
  obtain ⟨p1, p2, p3, _⟩ := mayL_parts hm
  unfold nInd
  split <;> constructor <;> omega
/-- What one of the calls makes of a line. -/
def turnL (l : Ln) (do_ kind : Int) : Ln × Int :=
  let k := do_ % 8
  if k = 0 then indentL l else if k = 1 then outdentL l else if k = 2 then listL l kind else if k = 3 then formatL l kind else freeL l
def Stays (l : Ln) (r : Ln × Int) : Prop := (r.2 = 0 ∧ r.1 ≠ l ∧ mayL r.1 = true ∧ r.1.cs = l.cs) ∨ r = (zL, 1) ∨ r = (zL, 7)
theorem dropLast_ne {ls : List Int} (h : ls ≠ []) : ls.dropLast ≠ ls := fun e => by
  have h1 := congrArg List.length e
  rw [List.length_dropLast] at h1
  have := List.length_pos_iff.2 h
  omega
theorem stays_indent {l : Ln} : Stays l (indentL l) := by
  by_cases h : (indentL l).2 = 0
  · obtain ⟨h1, h2, h3⟩ := indent_outdent (l := l) (m := (indentL l).1) (Prod.ext rfl h)
    refine .inl ⟨h, fun e => ?_, h2, h3⟩
    rw [e] at h1
    unfold outdentL at h1
    split at h1
    · split at h1
      · split at h1
        · injection h1 with h1 _
          have := congrArg Ln.q h1
          simp at this
          omega
        · injection h1 with _ h1; cases h1
      · injection h1 with h1 _
        exact dropLast_ne (by assumption) (congrArg Ln.ls h1)
    · injection h1 with _ h1; cases h1
  · right
    unfold indentL at h ⊢
    repeat' split
    all_goals first | exact .inl rfl | exact .inr rfl | skip
    all_goals simp_all
theorem stays_drop {l : Ln} (hm : mayL l = true) (hl : l.ls ≠ []) : Stays l (⟨l.q, l.ls.dropLast, l.k, l.cs⟩, 0) := by
  obtain ⟨p1, p2, p3, p4, p5, p6, p7, p8⟩ := mayL_parts hm
  exact .inl ⟨rfl, fun e => dropLast_ne hl (congrArg Ln.ls e), mayL_of p1 p2 (by show l.ls.dropLast.length ≤ 6; simp; omega) p4 p5 (fun _ => p6 hl) (fun x hx => p7 x (List.dropLast_subset _ hx)) p8, rfl⟩
theorem stays_less {l : Ln} (hm : mayL l = true) (hq : 0 < l.q) : Stays l (⟨l.q - 1, l.ls, l.k, l.cs⟩, 0) := by
  obtain ⟨p1, p2, p3, p4, p5, p6, p7, p8⟩ := mayL_parts hm
  exact .inl ⟨rfl, fun e => by have := congrArg Ln.q e; simp at this; omega, mayL_of (by show 0 ≤ l.q - 1; omega) (by show l.q - 1 ≤ 6; omega) p3 p4 p5 p6 p7 p8, rfl⟩
theorem stays_outdent {l : Ln} : Stays l (outdentL l) := by
  unfold outdentL
  split
  · split
    · split
      · exact stays_less (by assumption) (by assumption)
      · exact .inr (.inr rfl)
    · exact stays_drop (by assumption) (by assumption)
  · exact .inr (.inl rfl)
theorem stays_free {l : Ln} : Stays l (freeL l) := by
  unfold freeL
  split
  · rename_i hm
    split
    · rename_i hl
      split
      · rename_i hk
        obtain ⟨p1, p2, p3, p4, p5, p6, p7, p8⟩ := mayL_parts hm
        exact .inl ⟨rfl, fun e => by have := congrArg Ln.k e; simp at this; omega, mayL_of p1 p2 p3 (by show (0 : Int) ≤ 0; omega) (by show (0 : Int) ≤ 3; omega) (fun _ => rfl) p7 p8, rfl⟩
      · split
        · exact stays_less hm (by assumption)
        · exact .inr (.inr rfl)
    · exact stays_drop hm (by assumption)
  · exact .inr (.inl rfl)
theorem stays_list {l : Ln} {kind : Int} : Stays l (listL l kind) := by
  unfold listL
  split
  · rename_i hk
    obtain ⟨hk, hm⟩ := hk
    obtain ⟨p1, p2, p3, p4, p5, p6, p7, p8⟩ := mayL_parts hm
    split
    · rename_i hl
      exact .inl ⟨rfl, (fun e => by have := congrArg Ln.ls e; rw [hl] at this; cases this), mayL_of p1 p2 (by show 1 ≤ 6; omega) (by show (0 : Int) ≤ 0; omega) (by show (0 : Int) ≤ 3; omega) (fun _ => rfl) (fun x hx => by rw [List.mem_singleton.1 hx]; exact hk) p8, rfl⟩
    · rename_i hl
      split
      · exact .inr (.inr rfl)
      · rename_i hn
        have hlen : 0 < l.ls.length := List.length_pos_iff.2 hl
        refine .inl ⟨rfl, fun e => hn ?_, mayL_of p1 p2 (by show (l.ls.dropLast ++ [kind]).length ≤ 6; simp; omega) p4 p5 (fun _ => p6 hl) (fun x hx => ?_) p8, rfl⟩
        · have h1 : l.ls.dropLast ++ [kind] = l.ls := congrArg Ln.ls e
          rw [← h1]
          unfold lastI
          simp
        · rcases List.mem_append.1 hx with hx | hx
          · exact p7 x (List.dropLast_subset _ hx)
          · rw [List.mem_singleton.1 hx]; exact hk
  · exact .inr (.inl rfl)
theorem stays_format {l : Ln} {kind : Int} : Stays l (formatL l kind) := by
  unfold formatL
  split
  · rename_i hk
    obtain ⟨⟨hk1, hk2⟩, hm⟩ := hk
    obtain ⟨p1, p2, p3, p4, p5, p6, p7, p8⟩ := mayL_parts hm
    split
    · rename_i hl
      exact .inl ⟨rfl, fun e => hl.2 (congrArg Ln.k e).symm, mayL_of p1 p2 p3 hk1 hk2 (fun hn => absurd hl.1 hn) p7 p8, rfl⟩
    · exact .inr (.inr rfl)
  · exact .inr (.inl rfl)
theorem stays_turn (l : Ln) (d kind : Int) : Stays l (turnL l d kind) := by
  unfold turnL
  simp only
  split
  · exact stays_indent
  · split
    · exact stays_outdent
    · split
      · exact stays_list
      · split
        · exact stays_format
        · exact stays_free
end Go.Proofs.YtblbfoniimnkcaaGreatDoor

/- What the laws of lines ask of a line that is not long. (Printed by wip/lnlaw.py.) -/
namespace Go.Proofs.YtblbfoniimnkcaaGreatDoor
open Go.RowKit Go.Lib

theorem notLong {l : Ln} (h : longL l = false) (hw : ∀ x ∈ l.cs, WfC x) : l.ls.length ≤ 1000 ∧ l.cs.length ≤ 20000 ∧ FineC l.cs := by
  unfold longL at h
  have h := of_decide_eq_false h
  refine ⟨by omega, by omega, fun x hx => ?_⟩
  have h1 := hw x hx
  have h2 := hrefs_mem hx
  obtain ⟨a, b, _⟩ := h1
  exact ⟨by omega, by omega, by omega⟩
theorem indN_len {l : Ln} (hm : mayL l = true) {i : Nat} (h : (i : Int) ≤ nInd l) : (indN l i).ls.length ≤ 1000000000 := by
  have := (mayL_parts (indN_may hm h)).2.2.1
  omega
end Go.Proofs.YtblbfoniimnkcaaGreatDoor
