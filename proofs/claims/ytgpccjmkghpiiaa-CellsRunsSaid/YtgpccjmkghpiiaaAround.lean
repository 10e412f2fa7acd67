/- The walks of Around, of cells and of its reference. -/
import Derived.Test.YtgpccjmkghpiiaaCells3
namespace Go.Proofs.Ytgpccjmkghpiiaa
open Go.RowKit

def aroundL (cs : List Cl) (at_ : Int) : Int × ByteArray :=
  let p := place cs.length at_
  ((match (if 0 < p then cs[p - 1]? else cs[0]?) with | some c => c.b | none => 0), if 0 < p ∧ p < cs.length ∧ hrefAt cs (p - 1) = hrefAt cs p then hrefAt cs p else .empty)

/-- The ways that Around can go, each with what memory holds. -/
def AroundWays (w : World) (A : Option Addr) (cs : List Cl) (p : Nat) (b : Int) (h : ByteArray) : Prop :=
  (p = 0 ∧ cs.length = 0 ∧ b = 0 ∧ h = .empty) ∨
  (p = 0 ∧ 0 < cs.length ∧ h = .empty ∧ ∃ ad, A = some ad ∧ w.cell? ⟨ad.block, ad.off + 1, none⟩ = some (.int .i64 b)) ∨
  (∃ j ad, p = j + 1 ∧ A = some ad ∧ w.cell? ⟨(ad.add (j * 3)).block, (ad.add (j * 3)).off + 1, none⟩ = some (.int .i64 b) ∧
    (p = cs.length ∧ h = .empty ∨
     ∃ hx hy, p < cs.length ∧ w.cell? ⟨(ad.add (j * 3)).block, (ad.add (j * 3)).off + 2, none⟩ = some (.string hx) ∧ w.cell? ⟨(ad.add (p * 3)).block, (ad.add (p * 3)).off + 2, none⟩ = some (.string hy) ∧
       (hx = hy ∧ h = hy ∨ (hx.toList == hy.toList) = false ∧ h = .empty)))
theorem aroundWays {w : World} {A : Option Addr} {cs : List Cl} {B : Nat} (at_ : Int) (hA : SlAt encC 3 w B A cs) : ∃ b h, aroundL cs at_ = (b, h) ∧ AroundWays w A cs (place cs.length at_) b h := by
  have hple := place_le cs.length at_
  refine ⟨_, _, rfl, ?_⟩
  generalize place cs.length at_ = p at *
  cases p with
  | zero =>
    simp only [Nat.lt_irrefl, if_false, false_and]
    by_cases hp : 0 < cs.length
    · obtain ⟨ad, x, rfl, -, hx, -, x1, -⟩ := hA.atC hp
      rw [Nat.zero_mul, add_zero'] at x1
      exact .inr (.inl ⟨rfl, hp, rfl, ad, rfl, by rw [hx]; exact x1⟩)
    · exact .inl ⟨rfl, by omega, by rw [List.getElem?_eq_none (by omega)], rfl⟩
  | succ j =>
    obtain ⟨ad, x, rfl, -, hx, -, x1, x2⟩ := hA.atC (show j < cs.length by omega)
    rw [if_pos (by omega), show j + 1 - 1 = j by omega, hx]
    refine .inr (.inr ⟨j, ad, rfl, rfl, x1, ?_⟩)
    by_cases hp : j + 1 < cs.length
    · obtain ⟨ad', y, e', -, hy, -, -, y2⟩ := hA.atC hp
      injection e' with e'
      subst e'
      rw [hrefAt_some hx, hrefAt_some hy]
      refine .inr ⟨x.h, y.h, hp, x2, y2, ?_⟩
      by_cases he : x.h = y.h
      · exact .inl ⟨he, if_pos ⟨by omega, hp, he⟩⟩
      · exact .inr ⟨beq_eq_false_iff_ne.2 fun e => he (toList_inj e), if_neg fun h => he h.2.2⟩
    · exact .inl ⟨by omega, if_neg fun h => hp h.2.1⟩
theorem ret_bh {p q : Int} {r s : ByteArray} (h1 : p = q) (h2 : r = s) : Ending.returned (.tuple #[.int .i64 p, .string r]) = .returned (.tuple #[.int .i64 q, .string s]) := by rw [h1, h2]

set_option maxHeartbeats 4000000 in
theorem around_any (A : Option Addr) (cs : List Cl) (n c B : Nat) (hn : n = cs.length) (at_ : Int) (w : World) (hA : SlAt encC 3 w B A cs) (hl : cs.length ≤ 1000000000) :
    Calls Try.prog 25 #[.slice A n c, .int .i64 at_] w (RetQuiet (.tuple #[.int .i64 (aroundL cs at_).1, .string (aroundL cs at_).2]) w) := by
  subst hn
  obtain ⟨b, h, e, hw⟩ := aroundWays at_ hA
  rw [e]
  have hsd := sides_any A cs.length c at_ w hl (fun h => by obtain ⟨ad, _, e, _⟩ := hA.at_ h; exact ⟨ad, e⟩)
  clear e hA
  generalize place cs.length at_ = p at *
  rcases hw with ⟨rfl, hn, rfl, rfl⟩ | ⟨rfl, hp, rfl, ad, rfl, hb⟩ | ⟨j, ad, rfl, rfl, hb, ⟨hp, rfl⟩ | ⟨hx, hy, hp, x2, y2, ⟨rfl, rfl⟩ | ⟨hne, rfl⟩⟩⟩
  · have e1 : aheadP A 0 = none := by simp [aheadP]
    have e2 : behindP A cs.length 0 = none := by simp [behindP, hn]
    rw [e1, e2] at hsd
    have HS := hid hsd
    clear hsd e1 e2 hn
    go_enter Try.func25, Try.ntmps25
    go_wp2_with (go_at_call 34; refine HS.out.mono ?_; rintro e w' ⟨rfl, rfl⟩)
    go_quiet (fail)
    go_wp2
    go_ret2
    exact ⟨rfl, _, rfl⟩
  · have e1 : aheadP (some ad) 0 = none := by simp [aheadP]
    have e2 : behindP (some ad) cs.length 0 = some ad := by simp [behindP, hp, add_zero']
    rw [e1, e2] at hsd
    have HS := hid hsd
    clear hsd e1 e2
    go_enter Try.func25, Try.ntmps25
    go_wp2_with (go_at_call 34; refine HS.out.mono ?_; rintro e w' ⟨rfl, rfl⟩)
    go_quiet (fail)
    go_wp2
    go_ret2
    exact ⟨rfl, _, rfl⟩
  · have e1 : aheadP (some ad) (j + 1) = some (ad.add (j * 3)) := by simp [aheadP]
    have e2 : behindP (some ad) cs.length (j + 1) = none := by simp [behindP, hp]
    rw [e1, e2] at hsd
    have HS := hid hsd
    clear hsd e1 e2 hp
    go_enter Try.func25, Try.ntmps25
    go_wp2_with (go_at_call 34; refine HS.out.mono ?_; rintro e w' ⟨rfl, rfl⟩)
    go_quiet (fail)
    go_wp2
    go_ret2
    exact ⟨rfl, _, rfl⟩
  · have e1 : aheadP (some ad) (j + 1) = some (ad.add (j * 3)) := by simp [aheadP]
    have e2 : behindP (some ad) cs.length (j + 1) = some (ad.add ((j + 1) * 3)) := by simp [behindP, hp]
    rw [e1, e2] at hsd
    have HS := hid hsd
    clear hsd e1 e2
    go_enter Try.func25, Try.ntmps25
    go_wp2_with (go_at_call 34; refine HS.out.mono ?_; rintro e w' ⟨rfl, rfl⟩)
    go_quiet (fail)
    go_wp2
    go_ret2
    exact ⟨rfl, _, rfl⟩
  · have e1 : aheadP (some ad) (j + 1) = some (ad.add (j * 3)) := by simp [aheadP]
    have e2 : behindP (some ad) cs.length (j + 1) = some (ad.add ((j + 1) * 3)) := by simp [behindP, hp]
    rw [e1, e2] at hsd
    have HS := hid hsd
    clear hsd e1 e2
    go_enter Try.func25, Try.ntmps25
    go_wp2_with (go_at_call 34; refine HS.out.mono ?_; rintro e w' ⟨rfl, rfl⟩)
    go_quiet (fail)
    go_wp2
    go_ret2
    exact ⟨rfl, _, rfl⟩

set_option maxHeartbeats 4000000 in
theorem refAround_any (A : Option Addr) (cs : List Cl) (n c B : Nat) (hn : n = cs.length) (at_ : Int) (w : World) (hA : SlAt encC 3 w B A cs) (hl : cs.length ≤ 1000000000) :
    Calls Try.prog 26 #[.slice A n c, .int .i64 at_] w (RetQuiet (.tuple #[.int .i64 (aroundL cs at_).1, .string (aroundL cs at_).2]) w) := by
  subst hn
  obtain ⟨b, h, e, hw⟩ := aroundWays at_ hA
  rw [e]
  have hsd := refPlace_any A cs.length c at_ w hl
  clear e hA
  generalize place cs.length at_ = p at *
  have HS := hid hsd
  clear hsd
  have hg0 : decide ((0 : Int) < (0 : Int)) = false := by decide
  rcases hw with ⟨rfl, hn, rfl, rfl⟩ | ⟨rfl, hp, rfl, ad, rfl, hb⟩ | ⟨j, ad, rfl, rfl, hb, ⟨hp, rfl⟩ | ⟨hx, hy, hp, x2, y2, ⟨rfl, rfl⟩ | ⟨hne, rfl⟩⟩⟩
  · have h1 : ¬ ((0 : Int) < (cs.length : Int)) := by omega
    have HN := hid hn
    clear hn
    go_enter Try.func26, Try.ntmps26
    go_wp2_with (go_at_call 40; refine HS.out.mono ?_; rintro e w' ⟨rfl, rfl⟩)
    go_quiet (fail)
    go_wp2
    go_ret2
    exact ⟨rfl, _, rfl⟩
  · have h1 : (0 : Int) < (cs.length : Int) := by omega
    go_enter Try.func26, Try.ntmps26
    go_wp2_with (go_at_call 40; refine HS.out.mono ?_; rintro e w' ⟨rfl, rfl⟩)
    go_quiet (fail)
    go_wp2
    go_ret2
    exact ⟨rfl, _, rfl⟩
  · have h1 : decide ((j : Int) + 1 < (cs.length : Int)) = false := decide_eq_false (by omega)
    have h2 : decide ((0 : Int) < (j : Int) + 1) = true := decide_eq_true (by omega)
    have h3 : (j : Int) < (cs.length : Int) := by omega
    have HN := hid hp
    clear hp
    go_enter Try.func26, Try.ntmps26
    go_wp2_with (go_at_call 40; refine HS.out.mono ?_; rintro e w' ⟨rfl, rfl⟩)
    go_quiet (fail)
    go_wp2
    go_ret2
    exact ⟨rfl, _, rfl⟩
  · have h1 : (j : Int) + 1 < (cs.length : Int) := by omega
    have h2 : decide ((0 : Int) < (j : Int) + 1) = true := decide_eq_true (by omega)
    have h3 : (j : Int) < (cs.length : Int) := by omega
    go_enter Try.func26, Try.ntmps26
    go_wp2_with (go_at_call 40; refine HS.out.mono ?_; rintro e w' ⟨rfl, rfl⟩)
    go_quiet (fail)
    go_wp2
    go_ret2
    exact ⟨rfl, _, rfl⟩
  · have h1 : (j : Int) + 1 < (cs.length : Int) := by omega
    have h2 : decide ((0 : Int) < (j : Int) + 1) = true := decide_eq_true (by omega)
    have h3 : (j : Int) < (cs.length : Int) := by omega
    go_enter Try.func26, Try.ntmps26
    go_wp2_with (go_at_call 40; refine HS.out.mono ?_; rintro e w' ⟨rfl, rfl⟩)
    go_quiet (fail)
    go_wp2
    go_ret2
    exact ⟨rfl, _, rfl⟩
end Go.Proofs.Ytgpccjmkghpiiaa
