/- What the runs of a row are, said of lists. No program in sight. -/
import Derived.Test.YtgpccjmkghpiiaaCellPlain
namespace Go.Proofs.Ytgpccjmkghpiiaa
open Go.RowKit

/-- The runs xs are the row from at on; prev is the run ahead. -/
def RunsOk (cs : List Cl) : Nat → Option Rn → List Rn → Prop
  | a, _, [] => a = cs.length
  | a, prev, x :: xs => ∃ t kz : Nat, x.f = (a : Int) ∧ x.t = (t : Int) ∧ x.k = (kz : Int) ∧ a < t ∧ t ≤ cs.length ∧ (kz = 1 ∧ t = a + 1 ∨ kz = 0) ∧
      (∀ k, a ≤ k → k < t → ∃ c, cs[k]? = some c ∧ c.b = x.b ∧ c.h = x.h ∧ (c.r = 10 ↔ kz = 1)) ∧
      (∀ p, prev = some p → kz = 0 → p.k = 0 → ¬ (x.b = p.b ∧ x.h = p.h)) ∧ RunsOk cs t (some x) xs

theorem runTo_all (cs : List Cl) (c : Cl) : ∀ b k i, k ≤ i → i < runTo cs c b k → ∃ x, cs[i]? = some x ∧ x.b = c.b ∧ x.h = c.h ∧ x.r ≠ 10 := by
  intro b
  induction b with
  | zero => intro k i h1 h2; rw [runTo] at h2; omega
  | succ b ih =>
    intro k i h1 h2
    rw [runTo] at h2
    split at h2
    · rename_i x hx
      split at h2
      · rename_i he
        by_cases hk : i = k
        · subst hk; exact ⟨x, hx, he.2.1, he.2.2, he.1⟩
        · exact ih (k + 1) i (by omega) h2
      · omega
    · omega
theorem runTo_edge (cs : List Cl) (c : Cl) : ∀ b k, k ≤ cs.length → cs.length ≤ k + b → ∀ x, cs[runTo cs c b k]? = some x → ¬ (x.r ≠ 10 ∧ x.b = c.b ∧ x.h = c.h) := by
  intro b
  induction b with
  | zero => intro k h1 h2 x hx; rw [runTo] at hx; have := (List.getElem?_eq_some_iff.1 hx).1; omega
  | succ b ih =>
    intro k h1 h2 x hx
    rw [runTo] at hx
    split at hx
    · rename_i y hy
      split at hx
      · exact ih (k + 1) ((List.getElem?_eq_some_iff.1 hy).1) (by omega) x hx
      · rename_i he
        rw [hy] at hx
        injection hx with hx
        subst hx
        exact he
    · rename_i hn
      rw [hn] at hx
      cases hx
/-- What a run ahead of place a must have been, for the next to be unlike it. -/
def PrevOk (cs : List Cl) (a : Nat) (prev : Option Rn) : Prop := ∀ p, prev = some p → p.k = 0 → ∀ x, cs[a]? = some x → ¬ (x.r ≠ 10 ∧ x.b = p.b ∧ x.h = p.h)
theorem runsOk_from (cs : List Cl) : ∀ b a prev, a ≤ cs.length → cs.length ≤ a + b → PrevOk cs a prev → RunsOk cs a prev (runsFrom cs b a) := by
  intro b
  induction b with
  | zero => intro a prev h1 h2 _; exact show a = cs.length by omega
  | succ b ih =>
    intro a prev h1 h2 hp
    rw [runsFrom]
    split
    · rename_i c hc
      have ha := (List.getElem?_eq_some_iff.1 hc).1
      by_cases h10 : c.r = 10
      · rw [if_pos h10]
        unfold runAt
        rw [if_pos h10]
        refine ⟨a + 1, 1, rfl, by simp, rfl, by omega, by omega, .inl ⟨rfl, rfl⟩, fun k k1 k2 => ?_, fun p _ h0 => by omega, ih (a + 1) _ (by omega) (by omega) ?_⟩
        · obtain rfl : k = a := by omega
          exact ⟨c, hc, rfl, rfl, by simp [h10]⟩
        · intro p hp0 hk
          injection hp0 with hp0
          subst hp0
          exact absurd (show (1 : Int) = 0 from hk) (by decide)
      · rw [if_neg h10]
        unfold runAt
        rw [if_neg h10]
        have hg := runTo_ge cs c cs.length (a + 1)
        have hl := runTo_le cs c cs.length (a + 1) (by omega)
        refine ⟨runTo cs c cs.length (a + 1), 0, rfl, rfl, rfl, by omega, hl, .inr rfl, fun k k1 k2 => ?_, fun p hp0 _ hk => ?_, ih _ _ hl (by omega) ?_⟩
        · by_cases hka : k = a
          · subst hka; exact ⟨c, hc, rfl, rfl, by simp [h10]⟩
          · obtain ⟨x, hx, e1, e2, e3⟩ := runTo_all cs c _ (a + 1) k (by omega) k2
            exact ⟨x, hx, e1, e2, by simp [e3]⟩
        · intro he
          exact hp p hp0 hk c hc ⟨h10, he.1, he.2⟩
        · intro p hp0 _ x hx
          injection hp0 with hp0
          subst hp0
          exact runTo_edge cs c _ (a + 1) (by omega) (by omega) x hx
    · rename_i hn
      have := List.getElem?_eq_none_iff.1 hn
      exact show a = cs.length by omega
theorem runsOk (cs : List Cl) : RunsOk cs 0 none (runsL cs) := runsOk_from cs _ 0 none (Nat.zero_le _) (by omega) (fun p h => by cases h)
theorem length_runsL (cs : List Cl) : (runsL cs).length ≤ cs.length := by have := length_runsFrom cs cs.length 0; unfold runsL; omega
theorem SlAt.atN {w : World} {B : Nat} {A : Option Addr} {xs : List Rn} (h : SlAt encN 5 w B A xs) {k : Nat} (hk : k < xs.length) :
    ∃ ad x, A = some ad ∧ ad.block < B ∧ xs[k]? = some x ∧ w.cell? (ad.add (k * 5)) = some (.int .i64 x.f) ∧ w.cell? ⟨(ad.add (k * 5)).block, (ad.add (k * 5)).off + 1, none⟩ = some (.int .i64 x.t) ∧ w.cell? ⟨(ad.add (k * 5)).block, (ad.add (k * 5)).off + 2, none⟩ = some (.int .i64 x.b) ∧ w.cell? ⟨(ad.add (k * 5)).block, (ad.add (k * 5)).off + 3, none⟩ = some (.string x.h) ∧ w.cell? ⟨(ad.add (k * 5)).block, (ad.add (k * 5)).off + 4, none⟩ = some (.int .i64 x.k) := by
  obtain ⟨ad, x, e, hb, hx, hc⟩ := h.at_ hk
  refine ⟨ad, x, e, hb, hx, ?_, hc 1 _ rfl, hc 2 _ rfl, hc 3 _ rfl, hc 4 _ rfl⟩
  have := hc 0 _ rfl
  rwa [add_zero'] at this
end Go.Proofs.Ytgpccjmkghpiiaa
