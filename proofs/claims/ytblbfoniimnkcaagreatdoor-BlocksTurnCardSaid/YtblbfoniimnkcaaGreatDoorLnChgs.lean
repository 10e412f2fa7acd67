/- Texts on cells and lines, put together: LnChg, LnChg2, LnChg3, LnChg4, LnChg5, LnChg6. -/
import Derived.Test.YtblbfoniimnkcaaGreatDoorLnTurnP
import Derived.BigQuiet
/- The walks of lines.last, lines.lift and of the changes that lines.turned is given. -/
namespace Go.Proofs.YtblbfoniimnkcaaGreatDoor
open Go.RowKit Go.Lib

set_option maxHeartbeats 1000000 in
theorem last_any (g : Nat) (a : Value) (A : Option Addr) (ls : List Int) (n c : Nat) (k d : Value) (C : Nat) (hn : n = ls.length) (w : World) (hb : Bx w g a (.slice A n c) k d) (hA : SlAt encI 1 w C A ls) (hl : ls.length ≤ 1000000000) :
    Calls Tryz.prog 52 #[.pointer (some ⟨g, 0, none⟩)] w (RetQuiet (.int .i64 (lastI ls)) w) := by
  obtain ⟨⟨c0, c1, c2, c3⟩, -⟩ := hb.cells
  cases n with
  | zero =>
    have h0 : ls = [] := List.eq_nil_of_length_eq_zero hn.symm
    have M := hid (show lastI ls = -1 by rw [h0]; rfl)
    clear hn h0 hb
    go_enter Tryz.func52, Tryz.ntmps52
    go_wp2
    go_ret
    exact ⟨by rw [M.out]; rfl, 0, rfl⟩
  | succ n =>
    obtain ⟨ad, x, rfl, -, hx, x0⟩ := hA.atI (show n < ls.length by omega)
    have M := hid (lastI_at hx hn)
    have hi : (n : Int) < ((n + 1 : Nat) : Int) := by omega
    have hz : ((((n + 1 : Nat) : Int)) == 0) = false := by rw [beq_eq_false_iff_ne]; omega
    have hbn : n < 1000000000 := by omega
    clear hn hb hx hA hl
    go_enter Tryz.func52, Tryz.ntmps52
    go_wp2
    go_quiet (fail)
    go_wp2
    go_ret
    exact ⟨by rw [M.out]; rfl, _, by first | rfl | exact World.drewN_drewN _ _ _⟩

/-- A line with no lists, or its last list away: what lines.lift leaves. -/
theorem lift_no (g : Nat) (a : Value) (A : Option Addr) (c : Nat) (k d : Value) (w : World) (hb : Bx w g a (.slice A 0 c) k d) :
    Calls Tryz.prog 54 #[.pointer (some ⟨g, 0, none⟩)] w (RetQuiet (.bool false) w) := by
  have HB := hid hb
  clear hb
  go_enter Tryz.func54, Tryz.ntmps54
  go_wp2_with (go_at_call 52; refine (last_any g _ A [] 0 c _ _ 0 rfl w HB.out SlAt.nil (by simp)).mono ?_; rintro e w1 ⟨rfl, q1, rfl⟩; rw [show lastI [] = -1 from rfl])
  go_ret
  exact ⟨rfl, _, rfl⟩
set_option maxHeartbeats 1000000 in
theorem lift_yes (g : Nat) (a : Value) (A : Option Addr) (ls : List Int) (n c : Nat) (k d : Value) (C : Nat) (hn : n + 1 = ls.length) (hc : n ≤ c) (w : World) (hb : Bx w g a (.slice A (n + 1) c) k d) (hA : SlAt encI 1 w C A ls) (hl : ls.length ≤ 1000000000) (h0 : 0 ≤ lastI ls) :
    Calls Tryz.prog 54 #[.pointer (some ⟨g, 0, none⟩)] w fun e w' => e = .returned (.bool true) ∧ ∃ q, w' = (w.drewN q).setCell ⟨g, 1, none⟩ (.slice A n n) := by
  obtain ⟨⟨c0, c1, c2, c3⟩, z0, z1, z2, z3⟩ := hb.cells
  have HB := hid hb
  have HA := hid hA
  have HN := hid hn
  have HL := hid hl
  have b0 : decide (lastI ls < 0) = false := decide_eq_false (by omega)
  have hbn : n < 1000000000 := by omega
  have k1 : IntKind.i64.wrap (n : Int) = (n : Int) := IntWalk.i64_in _ (by omega)
  have k3 : (0 : Int) ≤ (n : Int) := by omega
  have k5 : (n : Int) ≤ (c : Int) := by omega
  obtain ⟨r, hr⟩ : ∃ r, lastI ls = r := ⟨_, rfl⟩
  rw [hr] at b0
  have HR := hid hr
  clear hb hA hn hl h0 hr
  go_enter Tryz.func54, Tryz.ntmps54
  go_wp2_with (go_at_call 52; refine (last_any g _ A ls (n + 1) c _ _ _ HN.out w HB.out HA.out HL.out).mono ?_; rintro e w1 ⟨rfl, q1, rfl⟩; rw [HR.out])
  go_ret
  exact ⟨rfl, q1, rfl⟩
end Go.Proofs.YtblbfoniimnkcaaGreatDoor

/- The walks of the changes that lines.turned is given. (Printed by wip/lnchg.py.) -/
namespace Go.Proofs.YtblbfoniimnkcaaGreatDoor
open Go.RowKit Go.Lib

set_option maxHeartbeats 4000000 in
theorem outdent1_any (l : Ln) (A : Option Addr) (n c : Nat) (B : Option Addr) (m d g base : Nat) (hn : n = l.ls.length) (hm : m = l.cs.length) (w : World) (hb : Bx w g (.int .i64 l.q) (.slice A n c) (.int .i64 l.k) (.slice B m d)) (ho : LnOw w base l A c B d) (hg : base ≤ g) (hmay : mayL l = true) :
    Calls Tryz.prog 53 #[.pointer (some ⟨g, 0, none⟩)] w (ChgRet (fOutdent l) g base w) := by
  obtain ⟨q, ls, k, cs⟩ := l
  simp only at hn hm hb ⊢
  obtain ⟨p1, p2, p3, p4, p5, p6, p7, -⟩ := mayL_parts hmay
  simp only at p1 p2 p3 p4 p5 p6 p7
  obtain ⟨⟨c0, c1, c2, c3⟩, z0, z1, z2, z3⟩ := hb.cells
  have HB := hid hb
  have HO := hid ho
  have HM := hid hm
  have HC1 : Hid (ls.length ≤ c) := hid ho.caps.1
  have HC2 : Hid (cs.length ≤ d) := hid ho.caps.2
  have HG := hid hg
  clear hmay hm ho
  cases n with
  | zero =>
    obtain rfl : ls = [] := List.eq_nil_of_length_eq_zero hn.symm
    clear hn hb
    have k1 : IntKind.i64.wrap (q - 1) = q - 1 := IntWalk.i64_in _ (by omega)
    go_enter Tryz.func53, Tryz.ntmps53
    go_wp2_with (first
      | (go_at_call 54; refine (lift_no g _ A c _ _ w HB.out).mono ?_; rintro e w1 ⟨rfl, q1, rfl⟩))
    go_ret
    have E := hid (show (fOutdent ⟨q, [], k, cs⟩).1 = ⟨q - 1, [], k, cs⟩ from rfl)
    refine ChgRet.of HB.out HG.out ?_ A c B d ⟨Wr.nil, by rw [E.out]; exact HO.out.cs.wr⟩ (by rw [E.out]; exact Nat.zero_le _) (by rw [E.out]; exact HC2.out) ?_ (by rw [show fOutdent ⟨q, [], k, cs⟩ = (⟨q - 1, [], k, cs⟩, decide (0 ≤ q - 1)) from rfl] <;> first | rfl | exact decide_eq_decide.2 (by omega))
    · repeat (first | with_reducible exact Og.refl | with_reducible refine Og.set _ _ ?_ | with_reducible refine Og.drewN _ ?_)
    · rw [E.out]
      simp only [← HM.out]
      refine Bo.bx ?_
      repeat (first | with_reducible refine Bo.set3 ?_ | with_reducible refine Bo.set2 ?_ | with_reducible refine Bo.set1 ?_ | with_reducible refine Bo.set0 ?_ | with_reducible refine Bo.set3n ?_ | with_reducible refine Bo.set2n ?_ | with_reducible refine Bo.set1n ?_ | with_reducible refine Bo.set0n ?_ | with_reducible refine Bo.drewN ?_ _)
      exact Bo.of HB.out (by first | exact .inl rfl | exact .inr rfl) (by first | exact .inl rfl | exact .inr rfl) (by first | exact .inl rfl | exact .inr rfl) (by first | exact .inl rfl | exact .inr rfl)
  | succ n =>
    have hne : ls ≠ [] := fun e => by rw [e] at hn; cases hn
    obtain ⟨x, hx, x01⟩ : ∃ x, lastI ls = x ∧ (x = 0 ∨ x = 1) := ⟨_, rfl, p7 _ (lastI_mem hne)⟩
    have HX := hid hx
    have HN := hid hn
    have HE := hid hne
    have x0 : 0 ≤ x := by omega
    have hn6 : n < 6 := by omega
    clear hx hn hne p7 p6 p3 x01 hb
    go_enter Tryz.func53, Tryz.ntmps53
    go_wp2_with (first
      | (go_at_call 54; refine (lift_yes g _ A ls n c _ _ _ HN.out (by have := HC1.out; have := HN.out; omega) w HB.out (HO.out.ls.wr.sl encI_len) (by have := HN.out; omega) (by rw [HX.out]; omega)).mono ?_; rintro e w1 ⟨rfl, q1, rfl⟩))
    go_ret
    have F : fOutdent ⟨q, ls, k, cs⟩ = (⟨q, ls.take n, k, cs⟩, true) := by unfold fOutdent; rw [if_neg HE.out]; simp only [dropLast_at HN.out]
    have T : (ls.take n).length = n := by rw [List.length_take]; have := HN.out; omega
    have E := hid (show (fOutdent ⟨q, ls, k, cs⟩).1 = ⟨q, ls.take n, k, cs⟩ by rw [F])
    refine ChgRet.of HB.out HG.out ?_ A n B d ⟨by rw [E.out]; exact HO.out.ls.wr.take encI_len n, by rw [E.out]; exact HO.out.cs.wr⟩ (by rw [E.out]; exact Nat.le_of_eq T) (by rw [E.out]; exact HC2.out) ?_ (by rw [F])
    · repeat (first | with_reducible exact Og.refl | with_reducible refine Og.set _ _ ?_ | with_reducible refine Og.drewN _ ?_)
    · rw [E.out]
      simp only [← HM.out]
      simp only [T]
      refine Bo.bx ?_
      repeat (first | with_reducible refine Bo.set3 ?_ | with_reducible refine Bo.set2 ?_ | with_reducible refine Bo.set1 ?_ | with_reducible refine Bo.set0 ?_ | with_reducible refine Bo.set3n ?_ | with_reducible refine Bo.set2n ?_ | with_reducible refine Bo.set1n ?_ | with_reducible refine Bo.set0n ?_ | with_reducible refine Bo.drewN ?_ _)
      exact Bo.of HB.out (by first | exact .inl rfl | exact .inr rfl) (by first | exact .inl rfl | exact .inr rfl) (by first | exact .inl rfl | exact .inr rfl) (by first | exact .inl rfl | exact .inr rfl)
end Go.Proofs.YtblbfoniimnkcaaGreatDoor

/- The walks of the changes that lines.turned is given. (Printed by wip/lnchg.py.) -/
namespace Go.Proofs.YtblbfoniimnkcaaGreatDoor
open Go.RowKit Go.Lib

set_option maxHeartbeats 4000000 in
theorem indent1_any (l : Ln) (A : Option Addr) (n c : Nat) (B : Option Addr) (m d g base : Nat) (hn : n = l.ls.length) (hm : m = l.cs.length) (w : World) (hb : Bx w g (.int .i64 l.q) (.slice A n c) (.int .i64 l.k) (.slice B m d)) (ho : LnOw w base l A c B d) (hg : base ≤ g) (hmay : mayL l = true) :
    Calls Tryz.prog 51 #[.pointer (some ⟨g, 0, none⟩)] w (ChgRet (fIndent l) g base w) := by
  obtain ⟨q, ls, k, cs⟩ := l
  simp only at hn hm hb ⊢
  obtain ⟨p1, p2, p3, p4, p5, p6, p7, -⟩ := mayL_parts hmay
  simp only at p1 p2 p3 p4 p5 p6 p7
  obtain ⟨⟨c0, c1, c2, c3⟩, z0, z1, z2, z3⟩ := hb.cells
  have HB := hid hb
  have HO := hid ho
  have HM := hid hm
  have HC1 : Hid (ls.length ≤ c) := hid ho.caps.1
  have HC2 : Hid (cs.length ≤ d) := hid ho.caps.2
  have HG := hid hg
  clear hmay hm ho
  cases n with
  | zero =>
    obtain rfl : ls = [] := List.eq_nil_of_length_eq_zero hn.symm
    clear hn hb
    have k1 : IntKind.i64.wrap (q + 1) = q + 1 := IntWalk.i64_in _ (by omega)
    go_enter Tryz.func51, Tryz.ntmps51
    go_wp2_with (first
      | (go_at_call 52; refine (last_any g _ A [] 0 c _ _ 0 rfl w HB.out SlAt.nil (by simp)).mono ?_; rintro e w1 ⟨rfl, q1, rfl⟩; rw [show lastI [] = -1 from rfl]))
    go_ret
    have E := hid (show (fIndent ⟨q, [], k, cs⟩).1 = ⟨q + 1, [], k, cs⟩ from rfl)
    refine ChgRet.of HB.out HG.out ?_ A c B d ⟨Wr.nil, by rw [E.out]; exact HO.out.cs.wr⟩ (by rw [E.out]; exact Nat.zero_le _) (by rw [E.out]; exact HC2.out) ?_ (by rw [show fIndent ⟨q, [], k, cs⟩ = (⟨q + 1, [], k, cs⟩, decide (q + 1 ≤ 6)) from rfl] <;> first | rfl | exact decide_eq_decide.2 (by omega))
    · repeat (first | with_reducible exact Og.refl | with_reducible refine Og.set _ _ ?_ | with_reducible refine Og.drewN _ ?_)
    · rw [E.out]
      simp only [← HM.out]
      refine Bo.bx ?_
      repeat (first | with_reducible refine Bo.set3 ?_ | with_reducible refine Bo.set2 ?_ | with_reducible refine Bo.set1 ?_ | with_reducible refine Bo.set0 ?_ | with_reducible refine Bo.set3n ?_ | with_reducible refine Bo.set2n ?_ | with_reducible refine Bo.set1n ?_ | with_reducible refine Bo.set0n ?_ | with_reducible refine Bo.drewN ?_ _)
      exact Bo.of HB.out (by first | exact .inl rfl | exact .inr rfl) (by first | exact .inl rfl | exact .inr rfl) (by first | exact .inl rfl | exact .inr rfl) (by first | exact .inl rfl | exact .inr rfl)
  | succ n =>
    have hne : ls ≠ [] := fun e => by rw [e] at hn; cases hn
    obtain ⟨x, hx, x01⟩ : ∃ x, lastI ls = x ∧ (x = 0 ∨ x = 1) := ⟨_, rfl, p7 _ (lastI_mem hne)⟩
    have HX := hid hx
    have HN := hid hn
    have HE := hid hne
    have x0 : 0 ≤ x := by omega
    have hn6 : n < 6 := by omega
    clear hx hn hne p7 p6 p3 x01 hb
    have HS : Hid (Own encI 1 3 w base (.slice A (n + 1) c) ls) := hid (by rw [HN.out]; exact HO.out.ls)
    have HZ : Hid (base ≤ w.heap.size) := hid (Nat.le_of_lt (Nat.lt_of_le_of_lt HG.out HB.out.lt))
    have lenk : ls.length + 1 ≤ 1000000000000 := by have := HN.out; omega
    obtain ⟨b6, hb6⟩ : ∃ b, decide (n + 2 ≤ 6) = b := ⟨_, rfl⟩
    have H6 := hid hb6
    clear hb6
    go_enter Tryz.func51, Tryz.ntmps51
    go_wp2_with (first
      | (go_at_call 52; refine (last_any g _ A ls (n + 1) c _ _ _ HN.out w HB.out (HO.out.ls.wr.sl encI_len) (by have := HN.out; omega)).mono ?_; rintro e w1 ⟨rfl, q1, rfl⟩; rw [HX.out])
      | (at_builtin; refine wpList_app1g Tryz.okI rfl (.tmp 12) (.tmp 14) 43 rfl Tryz.underlying43 base _ ls rfl (HS.out.drewN q1) x rfl w.heap.size rfl (by simp) lenk HZ.out ?_; intro v' w1 hown' hb' hg'; obtain ⟨A', n', c', rfl, hn'⟩ := hown'.shape; (have G1 := hid (grown_line (HS.out.drewN q1) hg')); (have O1 := hid hown'); (have B1 := hid hb'); (have P1 := hid (G1.out.1 _ _ _ _ _ (HB.out.drewN q1))); obtain ⟨⟨_, _, _, _⟩, _, _, _, _⟩ := P1.out.cells; clear hown' hb' hg'))
    go_ret
    have NN : n' = n + 2 := by have := hn'.out; have := HN.out; simp at *; omega
    have F : fIndent ⟨q, ls, k, cs⟩ = (⟨q, ls ++ [x], k, cs⟩, decide (n + 2 ≤ 6)) := by unfold fIndent; rw [if_neg HE.out]; simp only [HX.out, ← HN.out]
    have T : (ls ++ [x]).length = n' := by rw [List.length_append, ← HN.out, NN]; rfl
    have OG : Og g w1 (w1.setCell ⟨g, 1, none⟩ (.slice A' n' c')) := Og.set _ _ Og.refl
    unfold ChgRet
    rw [F]
    simp only [T]
    refine ⟨?_, A', c', B, d, ?_, ?_, HC2.out, ⟨(OG.own P1.out (by decide) O1.out).wr, (OG.own P1.out (by decide) (G1.out.2 _ _ HO.out.cs)).wr⟩, ((below_drewN (Below.refl base w) q1).trans B1.out).trans (OG.below HG.out), fun r a b c d hr h => OG.bx hr (G1.out.1 _ _ _ _ _ (h.drewN q1))⟩
    · exact congrArg (fun b => Ending.returned (Value.bool b)) (decide_eq_decide.2 (by omega) : decide ((n' : Int) ≤ 6) = decide (n + 2 ≤ 6))
    · rw [← HM.out]; exact P1.out.set1 _
    · have := (O1.out.cap_le encI_len).1; rw [T] at this; exact this
end Go.Proofs.YtblbfoniimnkcaaGreatDoor

/- The walks of the changes that lines.turned is given. (Printed by wip/lnchg.py.) -/
namespace Go.Proofs.YtblbfoniimnkcaaGreatDoor
open Go.RowKit Go.Lib

/-- A number of the list's row written over: nothing else of the line was. -/
theorem store_line {w : World} {base gA n c o : Nat} {u : Value} {xs : List Int} (hv : Own encI 1 3 w base (.slice (some ⟨gA, 0, none⟩) n c) xs) :
    (∀ r a b c d, Bx w r a b c d → Bx (w.setCell ⟨gA, o, none⟩ u) r a b c d) ∧ ∀ v ys, Own encC 3 60 w base v ys → Own encC 3 60 (w.setCell ⟨gA, o, none⟩ u) base v ys := by
  have key : ∀ (k : Nat) (cur : Array Value) (e : TypeId), w.heap[k]? = some (Obj.cells cur e (0, 0)) → e ≠ 3 → (w.setCell ⟨gA, o, none⟩ u).heap[k]? = w.heap[k]? := by
    intro k cur e hk he
    refine Below.heap_setCell _ _ _ _ (fun hr => ?_)
    obtain ⟨cur', h'⟩ := hv.ty (k := gA) rfl
    have hr' : k = gA := hr
    rw [← hr', hk] at h'
    injection h' with h'
    injection h' with _ h' _
    exact he h'
  refine ⟨fun r a b c d h => (key r _ _ h (by decide)).trans h, fun v ys h => ?_⟩
  unfold Own World.ownsRow at h ⊢
  refine ⟨h.1, ?_⟩
  rcases h.2 with h | ⟨g', cap, cur, h1, h2, h3, h4⟩
  · exact .inl h
  · exact .inr ⟨g', cap, cur, h1, h2, (key g' _ _ h3 (by decide)).trans h3, h4⟩
theorem set_last {ls : List Int} {n : Nat} (hn : n + 1 = ls.length) (y : Int) : ls.set n y = ls.take n ++ [y] := by
  rw [List.set_eq_take_append_cons_drop, if_pos (by omega), List.drop_eq_nil_of_le (by omega)]
theorem lastI_get {ls : List Int} {n : Nat} {x : Int} (h : lastI ls = x) (hn : n + 1 = ls.length) : ls[n]? = some x := by
  have h1 : ls[n]? = some (ls[n]'(by omega)) := List.getElem?_eq_getElem _
  rw [h1, ← lastI_at h1 hn, h]

set_option maxHeartbeats 4000000 in
theorem list1_any (l : Ln) (kind : Int) (K : Nat) (A : Option Addr) (n c : Nat) (B : Option Addr) (m d g base : Nat) (hn : n = l.ls.length) (hm : m = l.cs.length) (w : World) (hb : Bx w g (.int .i64 l.q) (.slice A n c) (.int .i64 l.k) (.slice B m d)) (ho : LnOw w base l A c B d) (hg : base ≤ g) (hmay : mayL l = true) (_ : kind = 0 ∨ kind = 1 ∨ kind = 2 ∨ kind = 3) (hK : w.cell? ⟨K, 0, none⟩ = some (.int .i64 kind)) (hKb : K < base) :
    Calls Tryz.prog 55 #[.pointer (some ⟨g, 0, none⟩), .pointer (some ⟨K, 0, none⟩)] w (ChgRet (fList kind l) g base w) := by
  obtain ⟨q, ls, k, cs⟩ := l
  simp only at hn hm hb ⊢
  obtain ⟨p1, p2, p3, p4, p5, p6, p7, -⟩ := mayL_parts hmay
  simp only at p1 p2 p3 p4 p5 p6 p7
  obtain ⟨⟨c0, c1, c2, c3⟩, z0, z1, z2, z3⟩ := hb.cells
  have HB := hid hb
  have HO := hid ho
  have HM := hid hm
  have HC1 : Hid (ls.length ≤ c) := hid ho.caps.1
  have HC2 : Hid (cs.length ≤ d) := hid ho.caps.2
  have HG := hid hg
  have hKg : K ≠ g := by omega
  clear hmay hm ho
  cases n with
  | zero =>
    obtain rfl : ls = [] := List.eq_nil_of_length_eq_zero hn.symm
    clear hn hb
    have lt := hid HB.out.lt
    go_enter Tryz.func55, Tryz.ntmps55
    go_wp2_with (first
      | (go_at_call 52; refine (last_any g _ A [] 0 c _ _ 0 rfl w HB.out SlAt.nil (by simp)).mono ?_; rintro e w1 ⟨rfl, q1, rfl⟩; rw [show lastI [] = -1 from rfl]; (have P1 := hid ((HB.out.drewN q1).alloc (.cells #[.int .i64 kind] 3))); obtain ⟨⟨_, _, _, _⟩, _, _, _, _⟩ := P1.out.cells))
    go_ret
    have OG : Og g ((w.drewN q1).alloc (.cells #[.int .i64 kind] 3)) ((((w.drewN q1).alloc (.cells #[.int .i64 kind] 3)).setCell ⟨g, 1, none⟩ (.slice (some ⟨w.heap.size, 0, none⟩) 1 1)).setCell ⟨g, 2, none⟩ (.int .i64 0)) := Og.set _ _ (Og.set _ _ Og.refl)
    have WL : Wr encI 1 3 ((w.drewN q1).alloc (.cells #[.int .i64 kind] 3)) base (some ⟨w.heap.size, 0, none⟩) [kind] := fun _ => ⟨w.heap.size, 0, #[.int .i64 kind], rfl, by have := lt.out; have := HG.out; omega, heap_alloc_new _ _, by simp, rfl⟩
    refine ⟨rfl, some ⟨w.heap.size, 0, none⟩, 1, B, d, ?_, Nat.le_refl _, HC2.out, ⟨OG.wr P1.out (by decide) WL, OG.wr P1.out (by decide) ((HO.out.cs.drewN q1).alloc _).wr⟩, ((below_drewN (Below.refl base w) q1).alloc (by have := lt.out; have := HG.out; show base ≤ w.heap.size; omega) _).trans (OG.below HG.out), fun r a b c d hr h => OG.bx hr ((h.drewN q1).alloc _)⟩
    show Bx _ g (.int .i64 q) (.slice _ 1 1) (.int .i64 0) (.slice B cs.length d)
    rw [← HM.out]
    exact (P1.out.set1 _).set2 _
  | succ n =>
    have hne : ls ≠ [] := fun e => by rw [e] at hn; cases hn
    obtain ⟨x, hx, x01⟩ : ∃ x, lastI ls = x ∧ (x = 0 ∨ x = 1) := ⟨_, rfl, p7 _ (lastI_mem hne)⟩
    have HX := hid hx
    have HN := hid hn
    have HE := hid hne
    have x0 : 0 ≤ x := by omega
    have hn6 : n < 6 := by omega
    clear hx hn hne p7 p6 p3 x01 hb
    obtain ⟨gA, rfl, hgA⟩ : ∃ gA, A = some ⟨gA, 0, none⟩ ∧ base ≤ gA := by
      rcases HO.out.ls.2 with ⟨_, h0⟩ | ⟨g', cap, cur, hv, hb', _⟩
      · have := HN.out; simp only at h0; omega
      · injection hv with hv; exact ⟨g', hv, hb'⟩
    have HS : Hid (Own encI 1 3 w base (.slice (some ⟨gA, 0, none⟩) (n + 1) c) ls) := hid (by rw [HN.out]; exact HO.out.ls)
    have hs0 := HS.out
    unfold Own at hs0
    rw [← HN.out] at hs0
    have hls := lastI_get HX.out HN.out
    have v0 : w.cell? ⟨gA, n, none⟩ = some (.int .i64 x) := (World.ownsRow.cellAt hs0 n (by omega)).trans (by simpa using getElem?_flat encI_len ls n x 0 _ hls rfl)
    have v1 := World.ownsRow.frozenAt hs0 n
    have hfs := flat_setG encI_len ls n x kind 0 (.int .i64 kind) hls (by omega) rfl
    have ST : Hid (Own encI 1 3 (w.setCell ⟨gA, n, none⟩ (.int .i64 kind)) base (.slice (some ⟨gA, 0, none⟩) (n + 1) c) (ls.set n kind)) := hid (by
      have := (World.ownsRow.stored hs0 n (.int .i64 kind)).1
      unfold Own
      rw [List.length_set, hfs, ← HN.out, show n * 1 + 0 = n from by omega]
      exact this)
    have HV := hid hls
    have x1 : ¬ x < 0 := by omega
    have k1 : IntKind.i64.wrap (((n + 1 : Nat) : Int) - 1) = (n : Int) := by rw [show ((n + 1 : Nat) : Int) - 1 = (n : Int) from by omega]; exact IntWalk.i64_in _ (by omega)
    have k3 : (0 : Int) ≤ (n : Int) := by omega
    have k4 : (n : Int) < ((n + 1 : Nat) : Int) := by omega
    have hKA : K ≠ gA := by omega
    have hAK : gA ≠ K := by omega
    have hAg : gA ≠ g := fun e => by subst e; obtain ⟨cur, hcur⟩ := HS.out.ty (k := gA) rfl; have := HB.out; unfold Bx at this; rw [hcur] at this; injection this with this; injection this with _ this _; exact absurd this (by decide)
    have hgA' : g ≠ gA := fun e => hAg e.symm
    clear hs0 hls hfs
    by_cases hkk : x = kind
    · skip
      have b1 : (x != kind) = false := by simp [hkk]
      have HKK := hid hkk
      clear hkk
      go_enter Tryz.func55, Tryz.ntmps55
      go_wp2_with (first
        | (go_at_call 52; refine (last_any g _ (some ⟨gA, 0, none⟩) ls (n + 1) c _ _ _ HN.out w HB.out (HO.out.ls.wr.sl encI_len) (by have := HN.out; omega)).mono ?_; rintro e w1 ⟨rfl, q1, rfl⟩; rw [HX.out]))
      go_region
      go_wp2_with fail
      go_ret
      have F : fList kind ⟨q, ls, k, cs⟩ = (⟨q, ls.dropLast ++ [kind], k, cs⟩, false) := by unfold fList; rw [if_neg HE.out]; simp [HX.out, HKK.out]
      have SLn := store_line (o := n) (u := .int .i64 kind) HS.out
      have LEN : (ls.dropLast ++ [kind]).length = n + 1 := by rw [dropLast_at HN.out, List.length_append, List.length_take]; have := HN.out; simp; omega
      have ST2 : Own encI 1 3 (w.setCell ⟨gA, n, none⟩ (.int .i64 kind)) base (.slice (some ⟨gA, 0, none⟩) (n + 1) c) (ls.dropLast ++ [kind]) := by have := ST.out; rwa [set_last HN.out, ← dropLast_at HN.out] at this
      have WE : ∀ q, (w.drewN q).setCell ⟨gA, n, none⟩ (.int .i64 kind) = (w.setCell ⟨gA, n, none⟩ (.int .i64 kind)).drewN q := fun _ => rfl
      rw [WE]
      unfold ChgRet
      rw [F]
      simp only [LEN]
      exact ⟨rfl, some ⟨gA, 0, none⟩, c, B, d, by rw [← HM.out]; exact (SLn.1 _ _ _ _ _ HB.out).drewN _, by have := HC1.out; have := HN.out; omega, HC2.out, ⟨(ST2.drewN _).wr, ((SLn.2 _ _ HO.out.cs).drewN _).wr⟩, below_drewN ((Below.refl base w).setCell (p := ⟨gA, n, none⟩) hgA _) _, fun r a b c d _ h => (SLn.1 _ _ _ _ _ h).drewN _⟩
    · skip
      have b1 : (x != kind) = true := by simp [hkk]
      have HKK := hid hkk
      clear hkk
      go_enter Tryz.func55, Tryz.ntmps55
      go_wp2_with (first
        | (go_at_call 52; refine (last_any g _ (some ⟨gA, 0, none⟩) ls (n + 1) c _ _ _ HN.out w HB.out (HO.out.ls.wr.sl encI_len) (by have := HN.out; omega)).mono ?_; rintro e w1 ⟨rfl, q1, rfl⟩; rw [HX.out]))
      go_region
      go_wp2_with fail
      go_ret
      have F : fList kind ⟨q, ls, k, cs⟩ = (⟨q, ls.dropLast ++ [kind], k, cs⟩, true) := by unfold fList; rw [if_neg HE.out]; simp [HX.out, HKK.out]
      have SLn := store_line (o := n) (u := .int .i64 kind) HS.out
      have LEN : (ls.dropLast ++ [kind]).length = n + 1 := by rw [dropLast_at HN.out, List.length_append, List.length_take]; have := HN.out; simp; omega
      have ST2 : Own encI 1 3 (w.setCell ⟨gA, n, none⟩ (.int .i64 kind)) base (.slice (some ⟨gA, 0, none⟩) (n + 1) c) (ls.dropLast ++ [kind]) := by have := ST.out; rwa [set_last HN.out, ← dropLast_at HN.out] at this
      have WE : ∀ q, (w.drewN q).setCell ⟨gA, n, none⟩ (.int .i64 kind) = (w.setCell ⟨gA, n, none⟩ (.int .i64 kind)).drewN q := fun _ => rfl
      rw [WE]
      unfold ChgRet
      rw [F]
      simp only [LEN]
      exact ⟨rfl, some ⟨gA, 0, none⟩, c, B, d, by rw [← HM.out]; exact (SLn.1 _ _ _ _ _ HB.out).drewN _, by have := HC1.out; have := HN.out; omega, HC2.out, ⟨(ST2.drewN _).wr, ((SLn.2 _ _ HO.out.cs).drewN _).wr⟩, below_drewN ((Below.refl base w).setCell (p := ⟨gA, n, none⟩) hgA _) _, fun r a b c d _ h => (SLn.1 _ _ _ _ _ h).drewN _⟩
end Go.Proofs.YtblbfoniimnkcaaGreatDoor

/- The walks of the changes that lines.turned is given. (Printed by wip/lnchg.py.) -/
namespace Go.Proofs.YtblbfoniimnkcaaGreatDoor
open Go.RowKit Go.Lib

set_option maxHeartbeats 4000000 in
theorem format1_any (l : Ln) (kind : Int) (K : Nat) (A : Option Addr) (n c : Nat) (B : Option Addr) (m d g base : Nat) (hn : n = l.ls.length) (hm : m = l.cs.length) (w : World) (hb : Bx w g (.int .i64 l.q) (.slice A n c) (.int .i64 l.k) (.slice B m d)) (ho : LnOw w base l A c B d) (hg : base ≤ g) (hmay : mayL l = true) (_ : kind = 0 ∨ kind = 1 ∨ kind = 2 ∨ kind = 3) (hK : w.cell? ⟨K, 0, none⟩ = some (.int .i64 kind)) (hKb : K < base) :
    Calls Tryz.prog 46 #[.pointer (some ⟨g, 0, none⟩), .pointer (some ⟨K, 0, none⟩)] w (ChgRet (fFormat kind l) g base w) := by
  obtain ⟨q, ls, k, cs⟩ := l
  simp only at hn hm hb ⊢
  obtain ⟨p1, p2, p3, p4, p5, p6, p7, -⟩ := mayL_parts hmay
  simp only at p1 p2 p3 p4 p5 p6 p7
  obtain ⟨⟨c0, c1, c2, c3⟩, z0, z1, z2, z3⟩ := hb.cells
  have HB := hid hb
  have HO := hid ho
  have HM := hid hm
  have HC1 : Hid (ls.length ≤ c) := hid ho.caps.1
  have HC2 : Hid (cs.length ≤ d) := hid ho.caps.2
  have HG := hid hg
  have hKg : K ≠ g := by omega
  clear hmay hm ho
  cases n with
  | zero =>
    obtain rfl : ls = [] := List.eq_nil_of_length_eq_zero hn.symm
    clear hn hb
    by_cases hkk : k = kind
    · have b1 : (k != kind) = false := by simp [hkk]
      have HKK := hid hkk
      clear hkk
      go_enter Tryz.func46, Tryz.ntmps46
      go_wp2_with fail
      go_ret
      refine ChgRet.of HB.out HG.out ?_ A c B d ⟨Wr.nil, HO.out.cs.wr⟩ (Nat.zero_le _) HC2.out ?_ ?_
      · repeat (first | with_reducible exact Og.refl | with_reducible refine Og.set _ _ ?_ | with_reducible refine Og.drewN _ ?_)
      · show Bx _ g (.int .i64 q) (.slice A 0 c) (.int .i64 kind) (.slice B cs.length d)
        rw [← HM.out]
        refine Bo.bx ?_
        repeat (first | with_reducible refine Bo.set3 ?_ | with_reducible refine Bo.set2 ?_ | with_reducible refine Bo.set1 ?_ | with_reducible refine Bo.set0 ?_ | with_reducible refine Bo.set3n ?_ | with_reducible refine Bo.set2n ?_ | with_reducible refine Bo.set1n ?_ | with_reducible refine Bo.set0n ?_ | with_reducible refine Bo.drewN ?_ _)
        exact Bo.of HB.out (by first | exact .inl rfl | exact .inr rfl) (by first | exact .inl rfl | exact .inr rfl) (by first | exact .inl rfl | exact .inr rfl) (by first | exact .inl rfl | exact .inr rfl)
      · unfold fFormat; simp [HKK.out]
    · have b1 : (k != kind) = true := by simp [hkk]
      have HKK := hid hkk
      clear hkk
      go_enter Tryz.func46, Tryz.ntmps46
      go_wp2_with fail
      go_ret
      refine ChgRet.of HB.out HG.out ?_ A c B d ⟨Wr.nil, HO.out.cs.wr⟩ (Nat.zero_le _) HC2.out ?_ ?_
      · repeat (first | with_reducible exact Og.refl | with_reducible refine Og.set _ _ ?_ | with_reducible refine Og.drewN _ ?_)
      · show Bx _ g (.int .i64 q) (.slice A 0 c) (.int .i64 kind) (.slice B cs.length d)
        rw [← HM.out]
        refine Bo.bx ?_
        repeat (first | with_reducible refine Bo.set3 ?_ | with_reducible refine Bo.set2 ?_ | with_reducible refine Bo.set1 ?_ | with_reducible refine Bo.set0 ?_ | with_reducible refine Bo.set3n ?_ | with_reducible refine Bo.set2n ?_ | with_reducible refine Bo.set1n ?_ | with_reducible refine Bo.set0n ?_ | with_reducible refine Bo.drewN ?_ _)
        exact Bo.of HB.out (by first | exact .inl rfl | exact .inr rfl) (by first | exact .inl rfl | exact .inr rfl) (by first | exact .inl rfl | exact .inr rfl) (by first | exact .inl rfl | exact .inr rfl)
      · unfold fFormat; simp [HKK.out]
  | succ n =>
    have hne : ls ≠ [] := fun e => by rw [e] at hn; cases hn
    obtain ⟨x, hx, x01⟩ : ∃ x, lastI ls = x ∧ (x = 0 ∨ x = 1) := ⟨_, rfl, p7 _ (lastI_mem hne)⟩
    have HX := hid hx
    have HN := hid hn
    have HE := hid hne
    have x0 : 0 ≤ x := by omega
    have hn6 : n < 6 := by omega
    clear hx hn hne p7 p6 p3 x01 hb
    have z1 : ((((n + 1 : Nat) : Int)) == 0) = false := by rw [beq_eq_false_iff_ne]; omega
    go_enter Tryz.func46, Tryz.ntmps46
    go_wp2_with fail
    go_ret
    refine ChgRet.of HB.out HG.out ?_ A c B d ⟨HO.out.ls.wr, HO.out.cs.wr⟩ HC1.out HC2.out ?_ ?_
    · repeat (first | with_reducible exact Og.refl | with_reducible refine Og.set _ _ ?_ | with_reducible refine Og.drewN _ ?_)
    · show Bx _ g (.int .i64 q) (.slice A ls.length c) (.int .i64 kind) (.slice B cs.length d)
      rw [← HM.out, ← HN.out]
      refine Bo.bx ?_
      repeat (first | with_reducible refine Bo.set3 ?_ | with_reducible refine Bo.set2 ?_ | with_reducible refine Bo.set1 ?_ | with_reducible refine Bo.set0 ?_ | with_reducible refine Bo.set3n ?_ | with_reducible refine Bo.set2n ?_ | with_reducible refine Bo.set1n ?_ | with_reducible refine Bo.set0n ?_ | with_reducible refine Bo.drewN ?_ _)
      exact Bo.of HB.out (by first | exact .inl rfl | exact .inr rfl) (by first | exact .inl rfl | exact .inr rfl) (by first | exact .inl rfl | exact .inr rfl) (by first | exact .inl rfl | exact .inr rfl)
    · unfold fFormat; simp [HE.out]
end Go.Proofs.YtblbfoniimnkcaaGreatDoor

/- The walks of the changes that lines.turned is given. (Printed by wip/lnchg.py.) -/
namespace Go.Proofs.YtblbfoniimnkcaaGreatDoor
open Go.RowKit Go.Lib

end Go.Proofs.YtblbfoniimnkcaaGreatDoor
