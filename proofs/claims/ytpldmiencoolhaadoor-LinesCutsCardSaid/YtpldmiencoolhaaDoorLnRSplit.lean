/- The walk of the reference's Split. (Printed by wip/lnrsplit.py.) -/
import Derived.Test.YtpldmiencoolhaaDoorLnTwos
import Derived.Test.YtpldmiencoolhaaDoorLnKit
import Derived.Test.YtpldmiencoolhaaDoorLnRFrm
import Derived.Test.YtpldmiencoolhaaDoorLnMayR
import Derived.Test.YtpldmiencoolhaaDoorCells5
import Derived.BigQuiet
import Derived.BigRegion
import Derived.Deep.QuietTactic
namespace Go.Proofs.YtpldmiencoolhaaDoor
open Go.RowKit Go.Lib

theorem SlAt.dropA {w : World} {C : Nat} {A : Option Addr} {xs : List Cl} (h : SlAt encC 3 w C A xs) {k cap : Nat} (hc : xs.length ≤ cap) : SlAt encC 3 w C (if cap = k then A else A.map fun x => x.add (k * 3)) (xs.drop k) := fun hn => by
  have hlt : k < xs.length := by
    rcases Nat.lt_or_ge k xs.length with h1 | h1
    · exact h1
    · exact absurd (List.drop_eq_nil_of_le h1) hn
  obtain ⟨a, rfl, hb, hcell⟩ := h (fun e => by rw [e] at hlt; simp at hlt)
  rw [if_neg (by omega)]
  refine ⟨a.add (k * 3), rfl, by unfold Addr.add; split <;> exact hb, fun i x hx j u hu => ?_⟩
  rw [List.getElem?_drop] at hx
  have := hcell (k + i) x hx j u hu
  rw [add_add'] at this ⊢
  rw [add_add']
  rw [show k * 3 + (i * 3 + j) = (k + i) * 3 + j from by omega]
  exact this
theorem rows_apart {w : World} {base : Nat} {l m : Ln} {A1 X1 A2 X2 : Option Addr} (h1 : LnWr w base l A1 X1) (h2 : LnWr w base m A2 X2) (ai : ∀ g j, (∃ o, A1 = some ⟨g, o, none⟩ ∧ o ≤ j ∧ j < o + l.ls.length) → ¬ ∃ o, A2 = some ⟨g, o, none⟩ ∧ o ≤ j ∧ j < o + m.ls.length)
    (ac : ∀ g j, (∃ o, X1 = some ⟨g, o, none⟩ ∧ o ≤ j ∧ j < o + l.cs.length * 3) → ¬ ∃ o, X2 = some ⟨g, o, none⟩ ∧ o ≤ j ∧ j < o + m.cs.length * 3) : ∀ g j, RL l A1 X1 g j → ¬ RL m A2 X2 g j := by
  have cross : ∀ {l m : Ln} {A X : Option Addr} {g j o o' : Nat}, Wr encI 1 3 w base A l.ls → Wr encC 3 44 w base X m.cs → A = some ⟨g, o, none⟩ → o ≤ j → j < o + l.ls.length → X = some ⟨g, o', none⟩ → o' ≤ j → j < o' + m.cs.length * 3 → False := by
    intro l m A X g j o o' hi hc hA a1 a2 hX b1 b2
    obtain ⟨g1, p1, cur1, e1, _, k1, _⟩ := hi (fun e => by rw [e] at a2; simp at a2; omega)
    obtain ⟨g2, p2, cur2, e2, _, k2, _⟩ := hc (fun e => by rw [e] at b2; simp at b2; omega)
    rw [hA] at e1
    rw [hX] at e2
    injection e1 with e1
    injection e1 with e1 _ _
    injection e2 with e2
    injection e2 with e2 _ _
    subst e1 e2
    rw [k1] at k2
    injection k2 with k2
    injection k2 with _ k2 _
    exact absurd k2 (by decide)
  intro g j r1 r2
  rcases r1 with r1 | r1
  · rcases r2 with r2 | r2
    · exact ai g j r1 r2
    · obtain ⟨o, hA, a1, a2⟩ := r1
      obtain ⟨o', hX, b1, b2⟩ := r2
      exact cross h1.ls h2.cs hA a1 a2 hX b1 b2
  · rcases r2 with r2 | r2
    · obtain ⟨o, hX, a1, a2⟩ := r1
      obtain ⟨o', hA, b1, b2⟩ := r2
      exact cross h2.ls h1.cs hA b1 b2 hX a1 a2
    · exact ac g j r1 r2
/-- What the reference's Split hands back. -/
def RetSplitR (l m : Ln) (er : Int) (w : World) (e : Ending) (w' : World) : Prop := ∃ A c B d A' c' B' d', e = .returned (.tuple #[lnV l A c B d, lnV m A' c' B' d', .int .i64 er]) ∧ LnWr w' w.heap.size l A B ∧ LnWr w' w.heap.size m A' B' ∧ (∀ g j, RL l A B g j → ¬ RL m A' B' g j) ∧ Below w.heap.size w w'
set_option maxRecDepth 100000 in
set_option maxHeartbeats 8000000 in
theorem refLSplit_any (l : Ln) (A : Option Addr) (n c : Nat) (B : Option Addr) (m d C : Nat) (hn : n = l.ls.length) (hm : m = l.cs.length) (w : World) (hl : LnAt w C l A B) (h1 : l.ls.length ≤ 1000000000) (h2 : l.cs.length ≤ 1000000000) (hf : FineC l.cs) (hcd : m ≤ d) (at_ : Int) :
    Calls Tryd.prog 13 #[.agg #[.int .i64 l.q, .slice A n c, .int .i64 l.k, .slice B m d], .int .i64 at_] w (RetSplitR (splitA l at_) (splitB l at_) (splitE l at_) w) := by
  subst hn hm
  have FI := hid hf
  have B9 := hid h1
  have C9 := hid h2
  have K := hid (KL.start w [⟨l, A, B⟩] (by simpa using hl.live))
  have CAP := hid hcd
  clear hl hf h1 h2 hcd
  cases hb : mayL l with
  | false =>
    have MB := hid hb
    have SA := hid (show splitA l at_ = zL by unfold splitA; rw [if_neg (by unfold inL; simp [hb])])
    have SB := hid (show splitB l at_ = zL by unfold splitB; rw [if_neg (by unfold inL; simp [hb])])
    have SE := hid (show splitE l at_ = 1 by unfold splitE; rw [if_neg (by unfold inL; simp [hb])])
    clear hb
    go_enter Tryd.func13, Tryd.ntmps13
    go_wp2_with (first
      | ((with_reducible show wpList _ _ _ _ _ _); refine Tryd.klBox (by rfl) _ (by rfl) (some 2) (by rfl) (by rfl) K ?_; intro g1 V1 K1; clear K; (have K := K1); clear K1)
      | ((with_reducible show wpList _ _ _ _ _ _); refine Tryd.klAlloc (by rfl) (by rfl) (some 4) (by rfl) K ?_; intro g3 V1 K1; clear K; (have K := K1); clear K1)
      | ((with_reducible show wpList _ _ _ _ _ _); refine Tryd.klAlloc (by rfl) (by rfl) (some 5) (by rfl) K ?_; intro g4 V1 K1; clear K; (have K := K1); clear K1)
      | ((with_reducible show wpList _ _ _ _ _ _); refine Tryd.klLoad (by rfl) _ (by rfl) K (by rfl) (by repeat (first | exact List.mem_cons_self | refine List.mem_cons_of_mem _ ?_)) ?_)
      | (go_at_call 19; (with_reducible refine (refLMay_any l A _ c B _ d _ rfl rfl _ (K.out.at_ (r := ⟨l, A, B⟩) (by simp)) B9.out C9.out FI.out).mono ?_); rintro e W2 ⟨rfl, hb⟩; rw [MB.out]; (have K2 := hid (K.out.later hb)); clear hb K; (have K := K2); clear K2; obtain ⟨⟨_, _, _, _⟩, _, _, _, _⟩ := K.out.cellsOf (g := g1) (by repeat (first | exact List.mem_cons_self | refine List.mem_cons_of_mem _ ?_)))
      | ((with_reducible show wpList _ _ _ _ _ _); refine Tryd.klStore (by rfl) (.tmp 4) _ (by rfl) [_] (by exact K) (by rfl) (by rfl) (by exact ⟨rfl, rfl, rfl, rfl⟩) ?_; intro V2 K1; (dsimp only [List.cons_append, List.nil_append] at K1); clear K; (have K := K1); clear K1)
      | ((with_reducible show wpList _ _ _ _ _ _); refine Tryd.klStore (by rfl) (.tmp 5) _ (by rfl) [] (by exact K) (by rfl) (by rfl) (by exact ⟨rfl, rfl, rfl, rfl⟩) ?_; intro V2 K1; (dsimp only [List.cons_append, List.nil_append] at K1); clear K; (have K := K1); clear K1))
    (try simp only [Exit.inBlock, Exit.then])
    rw [SA.out, SB.out, SE.out]
    refine Tryd.ret_line2E Tryd.results13 rfl g3 g4 _ _ _ _ _ _ _ _ _ rfl rfl rfl (K.out.bx ⟨g3, _, _, _, _⟩ (by repeat (first | exact List.mem_cons_self | refine List.mem_cons_of_mem _ ?_))).2 (K.out.bx ⟨g4, _, _, _, _⟩ (by repeat (first | exact List.mem_cons_self | refine List.mem_cons_of_mem _ ?_))).2 ?_
    exact ⟨none, 0, none, 0, none, 0, none, 0, rfl, LnWr.zero, LnWr.zero, (fun g j h => by rcases h with ⟨o, h, _⟩ | ⟨o, h, _⟩ <;> cases h), K.out.b⟩
  | true =>
    have MB := hid hb
    by_cases h0 : at_ < 0
    · skip
      have SA := hid (show splitA l at_ = zL by unfold splitA; rw [if_neg (by unfold inL; simp [hb, h0])])
      have SB := hid (show splitB l at_ = zL by unfold splitB; rw [if_neg (by unfold inL; simp [hb, h0])])
      have SE := hid (show splitE l at_ = 1 by unfold splitE; rw [if_neg (by unfold inL; simp [hb, h0])])
      have e0 : decide (at_ < 0) = true := decide_eq_true h0
      clear hb h0
      go_enter Tryd.func13, Tryd.ntmps13
      go_wp2_with (first
        | ((with_reducible show wpList _ _ _ _ _ _); refine Tryd.klBox (by rfl) _ (by rfl) (some 2) (by rfl) (by rfl) K ?_; intro g1 V1 K1; clear K; (have K := K1); clear K1)
        | ((with_reducible show wpList _ _ _ _ _ _); refine Tryd.klAlloc (by rfl) (by rfl) (some 4) (by rfl) K ?_; intro g3 V1 K1; clear K; (have K := K1); clear K1)
        | ((with_reducible show wpList _ _ _ _ _ _); refine Tryd.klAlloc (by rfl) (by rfl) (some 5) (by rfl) K ?_; intro g4 V1 K1; clear K; (have K := K1); clear K1)
        | ((with_reducible show wpList _ _ _ _ _ _); refine Tryd.klLoad (by rfl) _ (by rfl) K (by rfl) (by repeat (first | exact List.mem_cons_self | refine List.mem_cons_of_mem _ ?_)) ?_)
        | (go_at_call 19; (with_reducible refine (refLMay_any l A _ c B _ d _ rfl rfl _ (K.out.at_ (r := ⟨l, A, B⟩) (by simp)) B9.out C9.out FI.out).mono ?_); rintro e W2 ⟨rfl, hb⟩; rw [MB.out]; (have K2 := hid (K.out.later hb)); clear hb K; (have K := K2); clear K2; obtain ⟨⟨_, _, _, _⟩, _, _, _, _⟩ := K.out.cellsOf (g := g1) (by repeat (first | exact List.mem_cons_self | refine List.mem_cons_of_mem _ ?_)))
        | ((with_reducible show wpList _ _ _ _ _ _); refine Tryd.klStore (by rfl) (.tmp 4) _ (by rfl) [_] (by exact K) (by rfl) (by rfl) (by exact ⟨rfl, rfl, rfl, rfl⟩) ?_; intro V2 K1; (dsimp only [List.cons_append, List.nil_append] at K1); clear K; (have K := K1); clear K1)
        | ((with_reducible show wpList _ _ _ _ _ _); refine Tryd.klStore (by rfl) (.tmp 5) _ (by rfl) [] (by exact K) (by rfl) (by rfl) (by exact ⟨rfl, rfl, rfl, rfl⟩) ?_; intro V2 K1; (dsimp only [List.cons_append, List.nil_append] at K1); clear K; (have K := K1); clear K1))
      (try simp only [Exit.inBlock, Exit.then])
      rw [SA.out, SB.out, SE.out]
      refine Tryd.ret_line2E Tryd.results13 rfl g3 g4 _ _ _ _ _ _ _ _ _ rfl rfl rfl (K.out.bx ⟨g3, _, _, _, _⟩ (by repeat (first | exact List.mem_cons_self | refine List.mem_cons_of_mem _ ?_))).2 (K.out.bx ⟨g4, _, _, _, _⟩ (by repeat (first | exact List.mem_cons_self | refine List.mem_cons_of_mem _ ?_))).2 ?_
      exact ⟨none, 0, none, 0, none, 0, none, 0, rfl, LnWr.zero, LnWr.zero, (fun g j h => by rcases h with ⟨o, h, _⟩ | ⟨o, h, _⟩ <;> cases h), K.out.b⟩
    · by_cases hN : (l.cs.length : Int) < at_
      · skip
        have SA := hid (show splitA l at_ = zL by unfold splitA; rw [if_neg (by unfold inL; simp [hb, h0, hN])])
        have SB := hid (show splitB l at_ = zL by unfold splitB; rw [if_neg (by unfold inL; simp [hb, h0, hN])])
        have SE := hid (show splitE l at_ = 1 by unfold splitE; rw [if_neg (by unfold inL; simp [hb, h0, hN])])
        have e0 : decide (at_ < 0) = false := decide_eq_false h0
        have e1 : decide ((l.cs.length : Int) < at_) = true := decide_eq_true hN
        clear hb h0 hN
        go_enter Tryd.func13, Tryd.ntmps13
        go_wp2_with (first
          | ((with_reducible show wpList _ _ _ _ _ _); refine Tryd.klBox (by rfl) _ (by rfl) (some 2) (by rfl) (by rfl) K ?_; intro g1 V1 K1; clear K; (have K := K1); clear K1)
          | ((with_reducible show wpList _ _ _ _ _ _); refine Tryd.klAlloc (by rfl) (by rfl) (some 4) (by rfl) K ?_; intro g3 V1 K1; clear K; (have K := K1); clear K1)
          | ((with_reducible show wpList _ _ _ _ _ _); refine Tryd.klAlloc (by rfl) (by rfl) (some 5) (by rfl) K ?_; intro g4 V1 K1; clear K; (have K := K1); clear K1)
          | ((with_reducible show wpList _ _ _ _ _ _); refine Tryd.klLoad (by rfl) _ (by rfl) K (by rfl) (by repeat (first | exact List.mem_cons_self | refine List.mem_cons_of_mem _ ?_)) ?_)
          | (go_at_call 19; (with_reducible refine (refLMay_any l A _ c B _ d _ rfl rfl _ (K.out.at_ (r := ⟨l, A, B⟩) (by simp)) B9.out C9.out FI.out).mono ?_); rintro e W2 ⟨rfl, hb⟩; rw [MB.out]; (have K2 := hid (K.out.later hb)); clear hb K; (have K := K2); clear K2; obtain ⟨⟨_, _, _, _⟩, _, _, _, _⟩ := K.out.cellsOf (g := g1) (by repeat (first | exact List.mem_cons_self | refine List.mem_cons_of_mem _ ?_)))
          | ((with_reducible show wpList _ _ _ _ _ _); refine Tryd.klStore (by rfl) (.tmp 4) _ (by rfl) [_] (by exact K) (by rfl) (by rfl) (by exact ⟨rfl, rfl, rfl, rfl⟩) ?_; intro V2 K1; (dsimp only [List.cons_append, List.nil_append] at K1); clear K; (have K := K1); clear K1)
          | ((with_reducible show wpList _ _ _ _ _ _); refine Tryd.klStore (by rfl) (.tmp 5) _ (by rfl) [] (by exact K) (by rfl) (by rfl) (by exact ⟨rfl, rfl, rfl, rfl⟩) ?_; intro V2 K1; (dsimp only [List.cons_append, List.nil_append] at K1); clear K; (have K := K1); clear K1))
        (try simp only [Exit.inBlock, Exit.then])
        rw [SA.out, SB.out, SE.out]
        refine Tryd.ret_line2E Tryd.results13 rfl g3 g4 _ _ _ _ _ _ _ _ _ rfl rfl rfl (K.out.bx ⟨g3, _, _, _, _⟩ (by repeat (first | exact List.mem_cons_self | refine List.mem_cons_of_mem _ ?_))).2 (K.out.bx ⟨g4, _, _, _, _⟩ (by repeat (first | exact List.mem_cons_self | refine List.mem_cons_of_mem _ ?_))).2 ?_
        exact ⟨none, 0, none, 0, none, 0, none, 0, rfl, LnWr.zero, LnWr.zero, (fun g j h => by rcases h with ⟨o, h, _⟩ | ⟨o, h, _⟩ <;> cases h), K.out.b⟩
      · skip
        have e0 : decide (at_ < 0) = false := decide_eq_false h0
        have e1 : decide ((l.cs.length : Int) < at_) = false := decide_eq_false hN
        obtain ⟨N, rfl⟩ : ∃ N : Nat, at_ = (N : Int) := ⟨at_.toNat, by omega⟩
        have hN2 : N ≤ l.cs.length := by omega
        have HI := hid (show inL l N = true by unfold inL; simp [hb, h0, hN])
        clear hb h0 hN
        go_enter Tryd.func13, Tryd.ntmps13
        go_upto_region 3 with (first
          | ((with_reducible show wpList _ _ _ _ _ _); refine Tryd.klBox (by rfl) _ (by rfl) (some 2) (by rfl) (by rfl) K ?_; intro g1 V1 K1; clear K; (have K := K1); clear K1)
          | ((with_reducible show wpList _ _ _ _ _ _); refine Tryd.klAlloc (by rfl) (by rfl) (some 4) (by rfl) K ?_; intro g3 V1 K1; clear K; (have K := K1); clear K1)
          | ((with_reducible show wpList _ _ _ _ _ _); refine Tryd.klAlloc (by rfl) (by rfl) (some 5) (by rfl) K ?_; intro g4 V1 K1; clear K; (have K := K1); clear K1)
          | ((with_reducible show wpList _ _ _ _ _ _); refine Tryd.klLoad (by rfl) _ (by rfl) K (by rfl) (by repeat (first | exact List.mem_cons_self | refine List.mem_cons_of_mem _ ?_)) ?_)
          | (go_at_call 19; (with_reducible refine (refLMay_any l A _ c B _ d _ rfl rfl _ (K.out.at_ (r := ⟨l, A, B⟩) (by simp)) B9.out C9.out FI.out).mono ?_); rintro e W2 ⟨rfl, hb⟩; rw [MB.out]; (have K2 := hid (K.out.later hb)); clear hb K; (have K := K2); clear K2; obtain ⟨⟨_, _, _, _⟩, _, _, _, _⟩ := K.out.cellsOf (g := g1) (by repeat (first | exact List.mem_cons_self | refine List.mem_cons_of_mem _ ?_))))
        refine Tryd.two_callsT (l := l) (A := A) (c := c) (B := B) (d := d) (g1 := g1) (m1 := ⟨l.q, l.ls, l.k, []⟩) (m2 := ⟨l.q, l.ls, l.k, []⟩) ⟨rfl, rfl, rfl⟩ ⟨rfl, rfl, rfl⟩ ⟨rfl, rfl, rfl⟩ ⟨rfl, rfl, rfl⟩ ⟨rfl, rfl, rfl⟩ ⟨rfl, rfl, rfl⟩ ⟨rfl, rfl, rfl⟩ ⟨rfl, rfl, rfl⟩ (by simp) rfl (by decide +kernel) (by decide +kernel) K.out (by repeat (first | exact List.mem_cons_self | refine List.mem_cons_of_mem _ ?_)) (by simp) (fun W h => refLFrame_any l A _ c B _ d _ rfl rfl W h B9.out C9.out) (fun _ _ => by kernel_rfl) (fun W h => refLFrame_any l A _ c B _ d _ rfl rfl W h B9.out C9.out) (fun _ _ => by kernel_rfl) ?_
        intro g7 g8 A1 c1 B1 d1 A2 c2 B2 d2 V _ K1 o1 o2 ap
        have AP := hid ap
        clear ap
        clear K
        have K := hid K1
        have O1 := hid o1
        have O2 := hid o2
        clear K1 o1 o2
        simp only [upd6, List.setIfInBounds_toArray, List.set_cons_succ, List.set_cons_zero, lnV]
        have HN2 := hid hN2
        have HLT : Hid (N = (l.cs.take N).length) := hid (by rw [List.length_take]; omega)
        have HLD : Hid (l.cs.length - N = (l.cs.drop N).length) := hid (by rw [List.length_drop])
        have k1 : (0 : Int) ≤ (N : Int) := by omega
        have k2 : (N : Int) ≤ (l.cs.length : Int) := by omega
        have k3 : (N : Int) ≤ (d : Int) := by have := CAP.out; omega
        clear hN2
        obtain ⟨⟨_, _, _, _⟩, _, _, _, _⟩ := K.out.cellsOf (g := g1) (by repeat (first | exact List.mem_cons_self | refine List.mem_cons_of_mem _ ?_))
        by_cases hE : N = l.cs.length
        · have z1 : ((N : Int) == (l.cs.length : Int)) = true := by rw [beq_iff_eq]; omega
          have HE := hid hE
          clear hE
          go_upto_region 8 with (first
            | (go_at_call 36; (with_reducible refine (refOwn_any B (l.cs.take N) _ d _ HLT.out _ ((K.out.at_ (r := ⟨l, A, B⟩) (by simp)).cs.take N) (by have := HLT.out; have := C9.out; have := HN2.out; omega)).mono ?_); rintro e W2 ⟨v, rfl, ho, hb⟩; obtain ⟨X1, n1, e1, rfl, hn1⟩ := ho.shape; (have P1 : Hid (LnOw W2 w.heap.size ⟨l.q, l.ls, l.k, l.cs.take N⟩ A1 c1 X1 e1) := hid ⟨O1.out.ls.later hb, by rw [← hn1.out]; exact ho.based K.out.b.size⟩); (have P2 := hid (O2.out.later hb)); clear O1 O2; (have O1 := P1); (have O2 := P2); clear P1 P2 ho; (have K2 := hid (K.out.later hb)); clear hb K; (have K := K2); clear K2)
            | ((with_reducible show wpList _ _ _ _ _ _); refine Tryd.klStoreF (by rfl) 23 (by kernel_rfl) (.tmp 34) _ (by rfl) [_] (by exact K) 3 (by rfl) (by decide) (v := .slice _ _ _) (by rfl) (by rfl) ⟨_, _, _, _, _⟩ (by rfl) ?_; intro V2 X1 G1 K1; (dsimp only [List.cons_append, List.nil_append] at K1 X1 G1); clear K; (have K := K1); clear K1; (have O9 := hid (O1.out.og G1.out X1.out)); clear O1; (have O1 := O9); clear O9; (have O9 := hid (O2.out.og G1.out X1.out)); clear O2; (have O2 := O9); clear O9; clear X1 G1; obtain ⟨⟨_, _, _, _⟩, _, _, _, _⟩ := K.out.cellsOf (g := g1) (by repeat (first | exact List.mem_cons_self | refine List.mem_cons_of_mem _ ?_)))
            | (go_at_call 36; (with_reducible refine (refOwn_any (if d = N then B else Option.map (fun x => x.add (N * 3)) B) (l.cs.drop N) _ (d - N) _ HLD.out _ ((K.out.at_ (r := ⟨l, A, B⟩) (by simp)).cs.dropA CAP.out) (by have := HLD.out; have := C9.out; omega)).mono ?_); rintro e W2 ⟨v, rfl, ho, hb⟩; obtain ⟨X2, n2, e2, rfl, hn2⟩ := ho.shape; (have P2 : Hid (LnOw W2 w.heap.size ⟨l.q, l.ls, l.k, l.cs.drop N⟩ A2 c2 X2 e2) := hid ⟨O2.out.ls.later hb, by rw [← hn2.out]; exact ho.based K.out.b.size⟩); (have P1 := hid (O1.out.later hb)); (have XC := hid (fun g j (h1 : ∃ o, X1 = some ⟨g, o, none⟩ ∧ o ≤ j ∧ j < o + (l.cs.take N).length * 3) (h2 : ∃ o, X2 = some ⟨g, o, none⟩ ∧ o ≤ j ∧ j < o + (l.cs.drop N).length * 3) => (show False from by have q1 := (O1.out.wrW (.inr h1)).2; have q2 := (LnWr.rl_low (l := ⟨0, [], 0, l.cs.drop N⟩) (A := none) ⟨Wr.nil, ho.wr⟩ (.inr h2)).1; omega))); clear O1 O2; (have O1 := P1); (have O2 := P2); clear P1 P2 ho; (have K2 := hid (K.out.later hb)); clear hb K; (have K := K2); clear K2)
            | ((with_reducible show wpList _ _ _ _ _ _); refine Tryd.klStoreF (by rfl) 23 (by kernel_rfl) (.tmp 40) _ (by rfl) [] (by exact K) 3 (by rfl) (by decide) (v := .slice _ _ _) (by rfl) (by rfl) ⟨_, _, _, _, _⟩ (by rfl) ?_; intro V2 X1 G1 K1; (dsimp only [List.cons_append, List.nil_append] at K1 X1 G1); clear K; (have K := K1); clear K1; (have O9 := hid (O1.out.og G1.out X1.out)); clear O1; (have O1 := O9); clear O9; (have O9 := hid (O2.out.og G1.out X1.out)); clear O2; (have O2 := O9); clear O9; clear X1 G1; obtain ⟨⟨_, _, _, _⟩, _, _, _, _⟩ := K.out.cellsOf (g := g1) (by repeat (first | exact List.mem_cons_self | refine List.mem_cons_of_mem _ ?_)))
            | ((with_reducible show wpList _ _ _ _ _ _); refine Tryd.klStoreF (by rfl) 3 (by kernel_rfl) (.tmp 46) _ (by rfl) [] (by exact K) 2 (by rfl) (by decide) (v := .int _ _) (by rfl) (by rfl) ⟨_, _, _, _, _⟩ (by rfl) ?_; intro V2 X1 G1 K1; (dsimp only [List.cons_append, List.nil_append] at K1 X1 G1); clear K; (have K := K1); clear K1; (have O9 := hid (O1.out.og G1.out X1.out)); clear O1; (have O1 := O9); clear O9; (have O9 := hid (O2.out.og G1.out X1.out)); clear O2; (have O2 := O9); clear O9; clear X1 G1))
          refine Tryd.two_retsT (x := ⟨g7, .int .i64 l.q, .slice A1 l.ls.length c1, .int .i64 l.k, .slice X1 n1 e1⟩) (y := ⟨g8, .int .i64 l.q, .slice A2 l.ls.length c2, .int .i64 0, .slice X2 n2 e2⟩) (er := .int .i64 0) 4 5 6 47 48 7 8 ⟨rfl, rfl, rfl⟩ ⟨rfl, rfl, rfl⟩ ⟨rfl, rfl, rfl⟩ ⟨rfl, rfl, rfl⟩ ⟨rfl, rfl, rfl⟩ (by decide) (by decide) (by decide) (by simp) (by simp) (by simp) (by decide) rfl rfl rfl rfl (by decide +kernel) (by decide +kernel)
            ((K.out.perm (List.perm_append_comm (l₁ := [_, _]) (l₂ := [_, _, _]))).rows2 (r := ⟨⟨l.q, l.ls, l.k, l.cs.take N⟩, A1, X1⟩) (s := ⟨⟨l.q, l.ls, 0, l.cs.drop N⟩, A2, X2⟩) O1.out.wr ⟨O2.out.wr.ls, O2.out.wr.cs⟩ (rows_apart (m := ⟨l.q, l.ls, 0, l.cs.drop N⟩) O1.out.wr ⟨O2.out.wr.ls, O2.out.wr.cs⟩ (fun g j h1 h2 => AP.out g j (.inl h1) (.inl h2)) XC.out))
            (by repeat (first | exact List.mem_cons_self | refine List.mem_cons_of_mem _ ?_)) (by repeat (first | exact List.mem_cons_self | refine List.mem_cons_of_mem _ ?_)) ⟨rfl, rfl, rfl, rfl⟩ ⟨rfl, rfl, rfl, rfl⟩ ?_
          intro W9 K9 b3 b4
          clear K
          have K := hid K9
          simp only [upd3, List.setIfInBounds_toArray, List.set_cons_succ, List.set_cons_zero]
          repeat go_step
          (try simp only [Exit.inBlock, Exit.then])
          have SA := hid (show splitA l N = ⟨l.q, l.ls, l.k, l.cs.take N⟩ by unfold splitA; rw [if_pos HI.out]; rfl)
          have SB := hid (show splitB l N = ⟨l.q, l.ls, 0, l.cs.drop N⟩ by unfold splitB; rw [if_pos HI.out, if_pos (by have := HE.out; omega)]; rfl)
          have SE := hid (show splitE l N = 0 by unfold splitE; rw [if_pos HI.out])
          rw [SA.out, SB.out, SE.out]
          refine Tryd.ret_line2E Tryd.results13 rfl g3 g4 _ _ _ _ _ _ _ _ _ rfl rfl rfl b3 b4 ?_
          have q1 := hn1.out
          have q2 := hn2.out
          subst q1 q2
          exact ⟨A1, c1, X1, e1, A2, c2, X2, e2, rfl, K.out.wr ⟨⟨l.q, l.ls, l.k, l.cs.take N⟩, A1, X1⟩ (by simp), K.out.wr ⟨⟨l.q, l.ls, 0, l.cs.drop N⟩, A2, X2⟩ (by simp), (List.pairwise_cons.1 K.out.sep).1 ⟨⟨l.q, l.ls, 0, l.cs.drop N⟩, A2, X2⟩ (by simp), K.out.b⟩
        · have z1 : ((N : Int) == (l.cs.length : Int)) = false := by rw [beq_eq_false_iff_ne]; omega
          have HE := hid hE
          clear hE
          go_upto_region 8 with (first
            | (go_at_call 36; (with_reducible refine (refOwn_any B (l.cs.take N) _ d _ HLT.out _ ((K.out.at_ (r := ⟨l, A, B⟩) (by simp)).cs.take N) (by have := HLT.out; have := C9.out; have := HN2.out; omega)).mono ?_); rintro e W2 ⟨v, rfl, ho, hb⟩; obtain ⟨X1, n1, e1, rfl, hn1⟩ := ho.shape; (have P1 : Hid (LnOw W2 w.heap.size ⟨l.q, l.ls, l.k, l.cs.take N⟩ A1 c1 X1 e1) := hid ⟨O1.out.ls.later hb, by rw [← hn1.out]; exact ho.based K.out.b.size⟩); (have P2 := hid (O2.out.later hb)); clear O1 O2; (have O1 := P1); (have O2 := P2); clear P1 P2 ho; (have K2 := hid (K.out.later hb)); clear hb K; (have K := K2); clear K2)
            | ((with_reducible show wpList _ _ _ _ _ _); refine Tryd.klStoreF (by rfl) 23 (by kernel_rfl) (.tmp 34) _ (by rfl) [_] (by exact K) 3 (by rfl) (by decide) (v := .slice _ _ _) (by rfl) (by rfl) ⟨_, _, _, _, _⟩ (by rfl) ?_; intro V2 X1 G1 K1; (dsimp only [List.cons_append, List.nil_append] at K1 X1 G1); clear K; (have K := K1); clear K1; (have O9 := hid (O1.out.og G1.out X1.out)); clear O1; (have O1 := O9); clear O9; (have O9 := hid (O2.out.og G1.out X1.out)); clear O2; (have O2 := O9); clear O9; clear X1 G1; obtain ⟨⟨_, _, _, _⟩, _, _, _, _⟩ := K.out.cellsOf (g := g1) (by repeat (first | exact List.mem_cons_self | refine List.mem_cons_of_mem _ ?_)))
            | (go_at_call 36; (with_reducible refine (refOwn_any (if d = N then B else Option.map (fun x => x.add (N * 3)) B) (l.cs.drop N) _ (d - N) _ HLD.out _ ((K.out.at_ (r := ⟨l, A, B⟩) (by simp)).cs.dropA CAP.out) (by have := HLD.out; have := C9.out; omega)).mono ?_); rintro e W2 ⟨v, rfl, ho, hb⟩; obtain ⟨X2, n2, e2, rfl, hn2⟩ := ho.shape; (have P2 : Hid (LnOw W2 w.heap.size ⟨l.q, l.ls, l.k, l.cs.drop N⟩ A2 c2 X2 e2) := hid ⟨O2.out.ls.later hb, by rw [← hn2.out]; exact ho.based K.out.b.size⟩); (have P1 := hid (O1.out.later hb)); (have XC := hid (fun g j (h1 : ∃ o, X1 = some ⟨g, o, none⟩ ∧ o ≤ j ∧ j < o + (l.cs.take N).length * 3) (h2 : ∃ o, X2 = some ⟨g, o, none⟩ ∧ o ≤ j ∧ j < o + (l.cs.drop N).length * 3) => (show False from by have q1 := (O1.out.wrW (.inr h1)).2; have q2 := (LnWr.rl_low (l := ⟨0, [], 0, l.cs.drop N⟩) (A := none) ⟨Wr.nil, ho.wr⟩ (.inr h2)).1; omega))); clear O1 O2; (have O1 := P1); (have O2 := P2); clear P1 P2 ho; (have K2 := hid (K.out.later hb)); clear hb K; (have K := K2); clear K2)
            | ((with_reducible show wpList _ _ _ _ _ _); refine Tryd.klStoreF (by rfl) 23 (by kernel_rfl) (.tmp 40) _ (by rfl) [] (by exact K) 3 (by rfl) (by decide) (v := .slice _ _ _) (by rfl) (by rfl) ⟨_, _, _, _, _⟩ (by rfl) ?_; intro V2 X1 G1 K1; (dsimp only [List.cons_append, List.nil_append] at K1 X1 G1); clear K; (have K := K1); clear K1; (have O9 := hid (O1.out.og G1.out X1.out)); clear O1; (have O1 := O9); clear O9; (have O9 := hid (O2.out.og G1.out X1.out)); clear O2; (have O2 := O9); clear O9; clear X1 G1; obtain ⟨⟨_, _, _, _⟩, _, _, _, _⟩ := K.out.cellsOf (g := g1) (by repeat (first | exact List.mem_cons_self | refine List.mem_cons_of_mem _ ?_))))
          refine Tryd.two_retsT (x := ⟨g7, .int .i64 l.q, .slice A1 l.ls.length c1, .int .i64 l.k, .slice X1 n1 e1⟩) (y := ⟨g8, .int .i64 l.q, .slice A2 l.ls.length c2, .int .i64 l.k, .slice X2 n2 e2⟩) (er := .int .i64 0) 4 5 6 47 48 7 8 ⟨rfl, rfl, rfl⟩ ⟨rfl, rfl, rfl⟩ ⟨rfl, rfl, rfl⟩ ⟨rfl, rfl, rfl⟩ ⟨rfl, rfl, rfl⟩ (by decide) (by decide) (by decide) (by simp) (by simp) (by simp) (by decide) rfl rfl rfl rfl (by decide +kernel) (by decide +kernel)
            ((K.out.perm (List.perm_append_comm (l₁ := [_, _]) (l₂ := [_, _, _]))).rows2 (r := ⟨⟨l.q, l.ls, l.k, l.cs.take N⟩, A1, X1⟩) (s := ⟨⟨l.q, l.ls, l.k, l.cs.drop N⟩, A2, X2⟩) O1.out.wr ⟨O2.out.wr.ls, O2.out.wr.cs⟩ (rows_apart (m := ⟨l.q, l.ls, l.k, l.cs.drop N⟩) O1.out.wr ⟨O2.out.wr.ls, O2.out.wr.cs⟩ (fun g j h1 h2 => AP.out g j (.inl h1) (.inl h2)) XC.out))
            (by repeat (first | exact List.mem_cons_self | refine List.mem_cons_of_mem _ ?_)) (by repeat (first | exact List.mem_cons_self | refine List.mem_cons_of_mem _ ?_)) ⟨rfl, rfl, rfl, rfl⟩ ⟨rfl, rfl, rfl, rfl⟩ ?_
          intro W9 K9 b3 b4
          clear K
          have K := hid K9
          simp only [upd3, List.setIfInBounds_toArray, List.set_cons_succ, List.set_cons_zero]
          repeat go_step
          (try simp only [Exit.inBlock, Exit.then])
          have SA := hid (show splitA l N = ⟨l.q, l.ls, l.k, l.cs.take N⟩ by unfold splitA; rw [if_pos HI.out]; rfl)
          have SB := hid (show splitB l N = ⟨l.q, l.ls, l.k, l.cs.drop N⟩ by unfold splitB; rw [if_pos HI.out, if_neg (by have := HE.out; omega)]; rfl)
          have SE := hid (show splitE l N = 0 by unfold splitE; rw [if_pos HI.out])
          rw [SA.out, SB.out, SE.out]
          refine Tryd.ret_line2E Tryd.results13 rfl g3 g4 _ _ _ _ _ _ _ _ _ rfl rfl rfl b3 b4 ?_
          have q1 := hn1.out
          have q2 := hn2.out
          subst q1 q2
          exact ⟨A1, c1, X1, e1, A2, c2, X2, e2, rfl, K.out.wr ⟨⟨l.q, l.ls, l.k, l.cs.take N⟩, A1, X1⟩ (by simp), K.out.wr ⟨⟨l.q, l.ls, l.k, l.cs.drop N⟩, A2, X2⟩ (by simp), (List.pairwise_cons.1 K.out.sep).1 ⟨⟨l.q, l.ls, l.k, l.cs.drop N⟩, A2, X2⟩ (by simp), K.out.b⟩
end Go.Proofs.YtpldmiencoolhaaDoor
