/- The walk of law25's is: it writes over what it was given, and nothing else. (Printed by wip/bldoc.py.) -/
import Derived.Test.YtblbfoniimnkcaaGreatDoorBgR7
import Derived.Test.YtblbfoniimnkcaaGreatDoorBgIt
import Derived.Test.YtblbfoniimnkcaaGreatDoorBgKg
import Derived.BigQuiet
import Derived.Deep.QuietTactic
namespace Go.Proofs.YtblbfoniimnkcaaGreatDoor
open Go.RowKit Go.Lib

/-- Nothing but cells of rows of integers, of characters' cells, in blocks from base on, may be others. -/
structure OutT (base : Nat) (w w' : World) : Prop where
  os : w'.os = w.os
  tape : w'.tape = w.tape
  output : w'.output = w.output
  size : w.heap.size ≤ w'.heap.size
  block : ∀ k, k < w.heap.size → w'.heap[k]? = w.heap[k]? ∨ (base ≤ k ∧ ∃ cur t, w.heap[k]? = some (.cells cur t (0, 0)) ∧ (t = 3 ∨ t = 60))
/-- A row of n elements of a type, in new memory, whatever it holds. -/
def ShR (e : TypeId) (sz : Nat) (w : World) (base : Nat) (A : Option Addr) (n : Nat) : Prop := 0 < n → ∃ g o, ∃ cur : List Value, A = some ⟨g, o, none⟩ ∧ base ≤ g ∧ w.heap[g]? = some (.cells cur.toArray e (0, 0)) ∧ o + n * sz ≤ cur.length
section
variable {base g : Nat} {w w' W W' : World} {bs : List BoxG} {ds : List DocR}
theorem OutT.of (h : Below w.heap.size w w') : OutT base w w' := ⟨h.os, h.tape, h.output, h.size, fun k hk => .inl (h.block k hk)⟩
theorem OutT.onl (h : OutT base w W) (ho : Onl g W W') (hb : base ≤ g) {cur : Array Value} {t : TypeId} (hg : W.heap[g]? = some (.cells cur t (0, 0))) (ht : t = 3 ∨ t = 60) : OutT base w W' :=
  ⟨ho.os.trans h.os, ho.tape.trans h.tape, ho.output.trans h.output, by rw [ho.size]; exact h.size, fun k hk => by
    by_cases e : k = g
    · subst e
      right
      refine ⟨hb, ?_⟩
      rcases h.block k hk with h1 | h1
      · exact ⟨cur, t, h1.symm.trans hg, ht⟩
      · exact h1.2
    · rw [ho.block k e]
      exact h.block k hk⟩
theorem ShR.onl {e t : TypeId} {sz n : Nat} {A : Option Addr} (h : ShR e sz w base A n) (ho : Onl g w w') {cur cur' : List Value} (hg : w.heap[g]? = some (.cells cur.toArray t (0, 0))) (hg' : w'.heap[g]? = some (.cells cur'.toArray t (0, 0))) (hs : cur'.length = cur.length) : ShR e sz w' base A n := fun hn => by
  obtain ⟨g1, o, c1, h1, h2, h3, h4⟩ := h hn
  by_cases e1 : g1 = g
  · subst e1
    rw [h3] at hg
    injection hg with hg
    injection hg with hg1 hg2 _
    subst hg2
    have hl : c1.length = cur.length := by have := congrArg Array.size hg1; simpa using this
    exact ⟨g1, o, cur', h1, h2, hg', by omega⟩
  · exact ⟨g1, o, c1, h1, h2, (ho.block g1 e1).trans h3, h4⟩
theorem Wr.shape {α : Type} {enc : α → List Value} {sz : Nat} {e : TypeId} {A : Option Addr} {xs : List α} (h : Wr enc sz e w base A xs) : ShR e sz w base A xs.length := fun hn => by
  obtain ⟨g, o, cur, h1, h2, h3, h4, _⟩ := h (by rintro rfl; simp at hn)
  exact ⟨g, o, cur.toList, h1, h2, by simpa using h3, by simpa using h4⟩
/-- The world without its memory. -/
def wNil (w : World) : World := { w with heap := #[] }
theorem KG.rebase {w0 : World} (h : KG w0 w bs ds) : KG (wNil w0) w bs [] := ⟨⟨h.b.os, h.b.tape, h.b.output, Nat.zero_le _, fun k hk => by exact absurd hk (Nat.not_lt_zero k)⟩, fun x hx => ⟨Nat.zero_le _, (h.bx x hx).2⟩, h.nd, fun _ h => by cases h⟩
theorem KG.box {w0 : World} (h : KG w0 w bs []) {t : TypeId} {cs : List Value} (hz : w0.heap.size ≤ g) (hx : w.heap[g]? = some (.cells cs.toArray t (0, 0))) (hne : ∀ x ∈ bs, x.t ≠ t) : KG w0 w (⟨g, t, cs⟩ :: bs) [] :=
  ⟨h.b, fun x hm => by
    rcases List.mem_cons.1 hm with rfl | hm
    · exact ⟨hz, hx⟩
    · exact h.bx x hm, List.pairwise_cons.2 ⟨fun x hm e => by
      have e' : g = x.g := e
      have h1 := (h.bx x hm).2
      rw [← e', hx] at h1
      injection h1 with h1
      injection h1 with _ h1 _
      exact hne x hm h1.symm, h.nd⟩, fun _ h => by cases h⟩
theorem KG.wrote {w0 : World} (h : KG w0 w bs ds) (ho : OutT w0.heap.size w w') (hb : ∀ x ∈ bs, x.t ≠ 3 ∧ x.t ≠ 60) {ds' : List DocR} (hd : ∀ d ∈ ds', d.wr = false ∧ DocAt w0 w0.heap.size d.A d.hs) : KG w0 w' bs ds' := by
  have hB : Below w0.heap.size w w' := ⟨ho.os, ho.tape, ho.output, ho.size, fun k hk => (ho.block k (Nat.lt_of_lt_of_le hk h.b.size)).resolve_right fun h2 => by omega⟩
  have hb2 := h.b.trans hB
  refine ⟨hb2, fun x hx => ⟨(h.bx x hx).1, ?_⟩, h.nd, fun d hm => ⟨0, w0.heap.size, ?_, fun x hx => .inr (h.bx x hx).1⟩⟩
  · rcases ho.block x.g (h.lt hx) with h1 | ⟨_, cur, t, h1, h2⟩
    · exact h1.trans (h.bx x hx).2
    · rw [(h.bx x hx).2] at h1
      injection h1 with h1
      injection h1 with _ h1 _
      have := hb x hx
      rcases h2 with h2 | h2
      · exact absurd (h1.trans h2) this.1
      · exact absurd (h1.trans h2) this.2
  · unfold DocR.F
    rw [(hd d hm).1]
    exact ⟨hb2.size, fun w2 h2 => (hd d hm).2.heap fun k hlt => (h2 k (Nat.zero_le _) hlt).trans (hb2.block k hlt)⟩
/-- A cell of the row of lines. -/
theorem hdrCell {cur : List Value} {o k j : Nat} {hs : List Hd} {x : Hd} {v : Value} (hc : (cur.drop o).take (hs.length * 4) = hs.flatMap encH) (hx : hs[k]? = some x) (hj : (encH x)[j]? = some v) : cur[o + k * 4 + j]? = some v := by
  have h1 := getElem?_flat encH_len hs k x j v hx hj
  have hk := (List.getElem?_eq_some_iff.1 hx).1
  have hj4 : j < 4 := by have := (List.getElem?_eq_some_iff.1 hj).1; rwa [encH_len] at this
  rw [← hc, List.getElem?_take, if_pos (by omega), List.getElem?_drop] at h1
  rwa [Nat.add_assoc]
end
set_option maxRecDepth 100000 in
set_option maxHeartbeats 16000000 in
theorem is25_any (hs hy : List Hd) (A Ay : Option Addr) (n c ny cy Cy : Nat) (hn : n = hs.length) (hny : ny = hy.length) (w : World) (base : Nat) (hd : DocW w base A hs) (hdy : DocAt w Cy Ay hy) (h1 : hs.length ≤ 1000) (h2 : ∀ h ∈ hs, h.l.ls.length ≤ 1000000 ∧ h.l.cs.length ≤ 1000000) (al aa fl fa on off er : Int) (heq : lnsOf hs = lnsOf hy) :
    Calls Tryz.prog 14 #[.agg #[.slice A n c, .int .i64 al, .int .i64 aa, .int .i64 fl, .int .i64 fa, .int .i64 on, .int .i64 off], .int .i64 er, .agg #[.slice Ay ny cy, .int .i64 al, .int .i64 aa, .int .i64 fl, .int .i64 fa, .int .i64 on, .int .i64 off], .int .i64 er] w (fun e w' => e = .returned (.bool true) ∧ OutT base w w') := by
  subst hn hny
  have D0 := hid h2
  have L0 := hid h1
  have EQ := hid heq
  have HX0 := hid hd
  have K := hid (KG.start w [⟨hs, A, false⟩, ⟨hy, Ay, false⟩] (by simpa using ⟨hd.at_, hdy.live⟩))
  clear hd hdy h2 heq
  go_enter Tryz.func14, Tryz.ntmps14
  go_wp2_with (first
    | go_big_skip
    | ((with_reducible show wpList _ _ _ _ _ _); refine kgBox (by rfl) 26 _ (by rfl) (some 4) (by rfl) (by rfl) [_, _, _, _, _, _, _] (by rfl) K ?_; intro g4 V1 K1; clear K; (have K := K1); clear K1)
    | ((with_reducible show wpList _ _ _ _ _ _); refine kgBox (by rfl) 26 _ (by rfl) (some 6) (by rfl) (by rfl) [_, _, _, _, _, _, _] (by rfl) K ?_; intro g6 V1 K1; clear K; (have K := K1); clear K1)
    | ((with_reducible show wpList _ _ _ _ _ _); refine kgLoadA (by rfl) 26 _ (by rfl) 7 _ Tryz.underlying26 rfl (by kernel_rfl) K (by rfl) (by repeat (first | exact List.mem_cons_self | refine List.mem_cons_of_mem _ ?_)) (part := [_, _, _, _, _, _, _]) (by rfl) (by rfl) ?_)
    | (go_at_call 19; (with_reducible refine (rSame23_yes hs hy A Ay _ _ c cy _ _ rfl rfl _ (K.out.at_ (d := ⟨hs, A, false⟩) (by simp)) (K.out.at_ (d := ⟨hy, Ay, false⟩) (by simp)) L0.out D0.out al aa fl fa on off EQ.out).mono ?_); rintro e WS ⟨rfl, hb⟩; (have K2 := hid (K.out.later hb)); clear hb K; (have K := K2); clear K2))
  have HXW := hid (HX0.out.later K.out.b)
  have SH0 : Hid (∀ z ∈ hs, ShR 3 1 _ base z.A z.l.ls.length ∧ ShR 60 3 _ base z.B z.l.cs.length) := hid (fun z hz => ⟨(HXW.out.lines z hz).wr.ls.shape, (HXW.out.lines z hz).wr.cs.shape⟩)
  have OU0 : Hid (OutT base w _) := hid (OutT.of K.out.b)
  have RW0 := hid ((HXW.out.based (Nat.zero_le _)).row)
  have KB := hid ((K.out.rebase).less (bs' := [⟨g4, 26, [.slice A hs.length c, .int .i64 al, .int .i64 aa, .int .i64 fl, .int .i64 fa, .int .i64 on, .int .i64 off]⟩]) (by repeat (first | exact List.Sublist.slnil | refine List.Sublist.cons_cons _ ?_ | refine List.Sublist.cons _ ?_)) (ds' := []) (fun _ h => by cases h))
  clear K HXW HX0
  go_loopw [10] (fun i wr => ∃ k : Nat, k ≤ hs.length ∧ i = .int .i64 (k : Int) ∧ Hid (OutT base w wr) ∧ Hid (∀ z ∈ hs, ShR 3 1 wr base z.A z.l.ls.length ∧ ShR 60 3 wr base z.B z.l.cs.length) ∧ Hid (Wr encH 4 46 wr 0 A hs) ∧ Hid (KG (wNil w) wr [⟨g4, 26, [.slice A hs.length c, .int .i64 al, .int .i64 aa, .int .i64 fl, .int .i64 fa, .int .i64 on, .int .i64 off]⟩] [])) (fun i _ => hs.length - (intOf i).toNat)
  case atStart => exact ⟨0, Nat.zero_le _, rfl, OU0, SH0, RW0, KB⟩
  case round =>
    clear SH0 OU0 RW0 KB
    obtain ⟨k, hk, rfl, HO, HS, HR, K⟩ := hrel
    have hk3 : (k : Int) ≤ 1000 := by have := L0.out; omega
    by_cases hlt : k < hs.length
    · have hi1 : (k : Int) < (hs.length : Int) := by omega
      obtain ⟨gr, ro, curA, rfl, -, hr3, hr4, hr5⟩ := HR.out (by rintro rfl; simp at hlt)
      obtain ⟨cur, rfl⟩ : ∃ cur : List Value, curA = cur.toArray := ⟨curA.toList, by simp⟩
      obtain ⟨x, hx⟩ : ∃ x, hs[k]? = some x := ⟨_, List.getElem?_eq_getElem hlt⟩
      have XM := hid (List.mem_of_getElem? hx)
      have HC := hid (show (cur.drop ro).take (hs.length * 4) = hs.flatMap encH by simpa using hr5)
      have HL4 := hid (show ro + hs.length * 4 ≤ cur.length by simpa using hr4)
      have C1 := hid (hdrCell HC.out hx (j := 1) (v := .slice x.A x.l.ls.length x.c) rfl)
      have C3 := hid (hdrCell HC.out hx (j := 3) (v := .slice x.B x.l.cs.length x.d) rfl)
      have KX := hid (K.out.box (Nat.zero_le _) hr3 (by simp))
      have b1 : (x.l.ls.length : Int) ≤ 1000000 := by have := (D0.out x XM.out).1; omega
      have b3 : (x.l.cs.length : Int) ≤ 1000000 := by have := (D0.out x XM.out).2; omega
      have HLT := hid hlt
      clear K hx hr3 hr4 hr5 HR hlt
      have K := KX
      clear KX
      go_wp2_with (first
        | go_big_skip
        | ((with_reducible show wpList _ _ _ _ _ _); refine kgLoad1 (by rfl) 22 _ (by rfl) _ Tryz.underlying22 rfl K (by rfl) (by repeat (first | exact List.mem_cons_self | refine List.mem_cons_of_mem _ ?_)) (by rfl) ?_))
      go_loopw [11] (fun i wr => ∃ j : Nat, j ≤ x.l.cs.length ∧ i = .int .i64 (j : Int) ∧ Hid (OutT base w wr) ∧ Hid (∀ z ∈ hs, ShR 3 1 wr base z.A z.l.ls.length ∧ ShR 60 3 wr base z.B z.l.cs.length) ∧ Hid (KG (wNil w) wr [⟨gr, 46, cur⟩, ⟨g4, 26, [.slice (some ⟨gr, ro, none⟩) hs.length c, .int .i64 al, .int .i64 aa, .int .i64 fl, .int .i64 fa, .int .i64 on, .int .i64 off]⟩] [])) (fun i _ => x.l.cs.length - (intOf i).toNat)
      case atStart => exact ⟨0, Nat.zero_le _, rfl, HO, HS, K⟩
      case round =>
        clear K HO HS
        obtain ⟨j, hj, rfl, HO, HS, K⟩ := hrel
        have hj3 : (j : Int) ≤ 1000000 := by omega
        by_cases hjl : j < x.l.cs.length
        · have hj1 : (j : Int) < (x.l.cs.length : Int) := by omega
          obtain ⟨gb, ob, cb, eB, hb1, hb2, hb3⟩ := (HS.out x XM.out).2 (by omega)
          have EB := hid eB
          have HB1 := hid hb1
          have HB2 := hid hb2
          have HB3 := hid (show ob + j * 3 + 1 ≤ cb.length by omega)
          have KX := hid (K.out.box (Nat.zero_le _) hb2 (by simp))
          have HJL := hid hjl
          clear K eB hb1 hb2 hb3 hjl
          have K := KX
          clear KX
          go_wp2_with (first
            | go_big_skip
            | ((with_reducible show wpList _ _ _ _ _ _); refine kgLoad1 (by rfl) 22 _ (by rfl) _ Tryz.underlying22 rfl K (by rfl) (by repeat (first | exact List.mem_cons_self | refine List.mem_cons_of_mem _ ?_)) (by rfl) ?_)
            | ((with_reducible show wpList _ _ _ _ _ _); refine kgLoad1 (by rfl) 44 _ (by rfl) _ Tryz.underlying44 rfl K (by rfl) (by repeat (first | exact List.mem_cons_self | refine List.mem_cons_of_mem _ ?_)) (v := .slice (some ⟨gb, ob, none⟩) x.l.cs.length x.d) (by rw [← EB.out]; exact C3.out) ?_)
            | ((with_reducible show wpList _ _ _ _ _ _); refine kgStoreT (by rfl) 21 (.tmp 47) _ (by rfl) 1 (by kernel_rfl) [] (by exact K) (off := ob + j * 3) (by rfl) (v := .int .i32 122) (by rfl) [.int .i32 122] (by rfl) (by rfl) HB3.out (by simp [Value.oneCell']) (cs := set2 cb (ob + j * 3) [.int .i32 122]) (by rfl) ?_; intro V2 ON1 K1; (dsimp only [List.cons_append, List.nil_append] at K1); clear K; (have K := K1); clear K1))
          have HN := hid (K.out.bx ⟨gb, 60, set2 cb (ob + j * 3) [.int .i32 122]⟩ (by simp)).2
          go_roundw
          case rel => exact ⟨j + 1, by have := HJL.out; omega, by go_num, hid (HO.out.onl ON1.out HB1.out HB2.out (by decide)), hid (fun z hz => ⟨(HS.out z hz).1.onl ON1.out HB2.out HN.out (set2_len _ _ _), (HS.out z hz).2.onl ON1.out HB2.out HN.out (set2_len _ _ _)⟩), hid (K.out.less (List.sublist_cons_self _ _) (by simp))⟩
          case measure => simp [intOf]; have := HJL.out; omega
        · have hj1 : ¬ (j : Int) < (x.l.cs.length : Int) := by omega
          have hj2 : decide ((j : Int) < (x.l.cs.length : Int)) = false := decide_eq_false hj1
          have hj4 : decide (j < x.l.cs.length) = false := decide_eq_false hjl
          go_wp2_with (first
            | go_big_skip
            | ((with_reducible show wpList _ _ _ _ _ _); refine kgLoad1 (by rfl) 22 _ (by rfl) _ Tryz.underlying22 rfl K (by rfl) (by repeat (first | exact List.mem_cons_self | refine List.mem_cons_of_mem _ ?_)) (by rfl) ?_)
            | ((with_reducible show wpList _ _ _ _ _ _); refine kgLoad1 (by rfl) 44 _ (by rfl) _ Tryz.underlying44 rfl K (by rfl) (by repeat (first | exact List.mem_cons_self | refine List.mem_cons_of_mem _ ?_)) (v := .slice x.B x.l.cs.length x.d) (by exact C3.out) ?_))
          go_loopw [12] (fun i wr => ∃ j : Nat, j ≤ x.l.ls.length ∧ i = .int .i64 (j : Int) ∧ Hid (OutT base w wr) ∧ Hid (∀ z ∈ hs, ShR 3 1 wr base z.A z.l.ls.length ∧ ShR 60 3 wr base z.B z.l.cs.length) ∧ Hid (KG (wNil w) wr [⟨gr, 46, cur⟩, ⟨g4, 26, [.slice (some ⟨gr, ro, none⟩) hs.length c, .int .i64 al, .int .i64 aa, .int .i64 fl, .int .i64 fa, .int .i64 on, .int .i64 off]⟩] [])) (fun i _ => x.l.ls.length - (intOf i).toNat)
          case atStart => exact ⟨0, Nat.zero_le _, rfl, HO, HS, K⟩
          case round =>
            clear K HO HS hj1 hj2 hj4 hj3 hjl
            obtain ⟨j, hj, rfl, HO, HS, K⟩ := hrel
            have hj3 : (j : Int) ≤ 1000000 := by omega
            by_cases hjl : j < x.l.ls.length
            · have hj1 : (j : Int) < (x.l.ls.length : Int) := by omega
              obtain ⟨gb, ob, cb, eB, hb1, hb2, hb3⟩ := (HS.out x XM.out).1 (by omega)
              have EB := hid eB
              have HB1 := hid hb1
              have HB2 := hid hb2
              have HB3 := hid (show ob + j + 1 ≤ cb.length by omega)
              have KX := hid (K.out.box (Nat.zero_le _) hb2 (by simp))
              have HJL := hid hjl
              clear K eB hb1 hb2 hb3 hjl
              have K := KX
              clear KX
              go_wp2_with (first
                | go_big_skip
                | ((with_reducible show wpList _ _ _ _ _ _); refine kgLoad1 (by rfl) 22 _ (by rfl) _ Tryz.underlying22 rfl K (by rfl) (by repeat (first | exact List.mem_cons_self | refine List.mem_cons_of_mem _ ?_)) (by rfl) ?_)
                | ((with_reducible show wpList _ _ _ _ _ _); refine kgLoad1 (by rfl) 43 _ (by rfl) _ Tryz.underlying43 rfl K (by rfl) (by repeat (first | exact List.mem_cons_self | refine List.mem_cons_of_mem _ ?_)) (v := .slice (some ⟨gb, ob, none⟩) x.l.ls.length x.c) (by rw [← EB.out]; exact C1.out) ?_)
                | ((with_reducible show wpList _ _ _ _ _ _); refine kgStoreT (by rfl) 3 (.tmp 66) _ (by rfl) 1 (by kernel_rfl) [] (by exact K) (off := ob + j) (by rfl) (v := .int .i64 7) (by rfl) [.int .i64 7] (by rfl) (by rfl) HB3.out (by simp [Value.oneCell']) (cs := set2 cb (ob + j) [.int .i64 7]) (by rfl) ?_; intro V2 ON1 K1; (dsimp only [List.cons_append, List.nil_append] at K1); clear K; (have K := K1); clear K1))
              have HN := hid (K.out.bx ⟨gb, 3, set2 cb (ob + j) [.int .i64 7]⟩ (by simp)).2
              go_roundw
              case rel => exact ⟨j + 1, by have := HJL.out; omega, by go_num, hid (HO.out.onl ON1.out HB1.out HB2.out (by decide)), hid (fun z hz => ⟨(HS.out z hz).1.onl ON1.out HB2.out HN.out (set2_len _ _ _), (HS.out z hz).2.onl ON1.out HB2.out HN.out (set2_len _ _ _)⟩), hid (K.out.less (List.sublist_cons_self _ _) (by simp))⟩
              case measure => simp [intOf]; have := HJL.out; omega
            · have hj1 : ¬ (j : Int) < (x.l.ls.length : Int) := by omega
              have hj2 : decide ((j : Int) < (x.l.ls.length : Int)) = false := decide_eq_false hj1
              have hj4 : decide (j < x.l.ls.length) = false := decide_eq_false hjl
              go_wp2_with (first
                | go_big_skip
                | ((with_reducible show wpList _ _ _ _ _ _); refine kgLoad1 (by rfl) 22 _ (by rfl) _ Tryz.underlying22 rfl K (by rfl) (by repeat (first | exact List.mem_cons_self | refine List.mem_cons_of_mem _ ?_)) (by rfl) ?_)
                | ((with_reducible show wpList _ _ _ _ _ _); refine kgLoad1 (by rfl) 43 _ (by rfl) _ Tryz.underlying43 rfl K (by rfl) (by repeat (first | exact List.mem_cons_self | refine List.mem_cons_of_mem _ ?_)) (v := .slice x.A x.l.ls.length x.c) (by exact C1.out) ?_))
              go_roundw
              case rel => exact ⟨k + 1, by have := HLT.out; omega, by go_num, HO, HS, hid (K.out.wr (cur := cur) (by simp) HL4.out HC.out), hid (K.out.less (List.sublist_cons_self _ _) (by simp))⟩
              case measure => simp [intOf]; have := HLT.out; omega
    · have hi1 : ¬ (k : Int) < (hs.length : Int) := by omega
      have hi2 : decide ((k : Int) < (hs.length : Int)) = false := decide_eq_false hi1
      go_wp2_with (first
        | go_big_skip
        | ((with_reducible show wpList _ _ _ _ _ _); refine kgLoad1 (by rfl) 22 _ (by rfl) _ Tryz.underlying22 rfl K (by rfl) (by repeat (first | exact List.mem_cons_self | refine List.mem_cons_of_mem _ ?_)) (by rfl) ?_))
      go_ret
      exact ⟨rfl, HO.out⟩
end Go.Proofs.YtblbfoniimnkcaaGreatDoor
