/- The law of 'out.Lists = append(out.Lists, l.Lists[n-1])' for all its orders. (Printed by wip/lnrind.py.) -/
import Derived.Test.YtpldmiencoolhaaDoorLnRow
namespace Go.Proofs.YtpldmiencoolhaaDoor
open Go.RowKit Go.Lib Go.Great

structure RindI (T : Array Value) (l : Ln) (ad : Addr) (c : Nat) (n : Nat) (x : Int) (g1 g4 : Nat) (A1 : Option Addr) (c1 : Nat) (B1 : Option Addr) (d1 : Nat) (w0 : World) (bs : List BoxR) (rs : List RowL) (v37 : Value) (A2 : Option Addr) (c2 : Nat) (b : Nat → Bool) (a : Act) (w : World) : Prop where
  sz : a.tmps.size = T.size
  df : a.defers = []
  fr : ∀ k, k ∉ [29, 30, 31, 32, 33, 34, 35, 36, 37, 38, 39] → a.tmps.getD k undef = T.getD k undef
  kl : KL w0 w bs rs []
  e4 : b 11 = false → Bx w g4 (.int .i64 l.q) (.slice A1 l.ls.length c1) (.int .i64 l.k) (.slice B1 l.cs.length d1)
  e5 : ∃ p q r s, Bx w g4 p q r s
  o1 : b 9 = false → LnOw w w0.heap.size l A1 c1 B1 d1
  o2 : Own encC 3 44 w w0.heap.size (.slice B1 l.cs.length d1) l.cs
  f0 : b 0 = true → a.tmps.getD 29 undef = .pointer (some ⟨g4, 1, none⟩)
  f1 : b 1 = true → a.tmps.getD 30 undef = .slice A1 l.ls.length c1
  f2 : b 2 = true → a.tmps.getD 31 undef = .pointer (some ⟨g1, 1, none⟩)
  f3 : b 3 = true → a.tmps.getD 32 undef = .slice (some ad) l.ls.length c
  f4 : b 4 = true → a.tmps.getD 33 undef = .int .i64 (l.ls.length : Int)
  f5 : b 5 = true → a.tmps.getD 34 undef = .int .i64 (n : Int)
  f6 : b 6 = true → a.tmps.getD 35 undef = .pointer (some (ad.add n))
  f7 : b 7 = true → a.tmps.getD 36 undef = .int .i64 x
  f8 : b 8 = true → a.tmps.getD 37 undef = v37 ∧ (∃ g, v37 = .slice (some ⟨g, 0, none⟩) 1 1) ∧ (b 9 = false → Own encI 1 3 w w0.heap.size v37 [x])
  f9 : b 9 = true → a.tmps.getD 38 undef = .slice A2 (l.ls ++ [x]).length c2 ∧ Own encI 1 3 w w0.heap.size (.slice A2 (l.ls ++ [x]).length c2) (l.ls ++ [x])
  f10 : b 10 = true → a.tmps.getD 39 undef = .pointer (some ⟨g4, 1, none⟩)
  f11 : b 11 = true → Bx w g4 (.int .i64 l.q) (.slice A2 (l.ls ++ [x]).length c2) (.int .i64 l.k) (.slice B1 l.cs.length d1)
  w9 : b 9 = true → b 1 = true ∧ b 8 = true
  w11 : b 11 = true → b 9 = true
section
variable {o0 o1 o2 o3 o4 o5 o6 o7 o8 o9 o10 o11 : Oper}
set_option maxHeartbeats 4000000 in
theorem Tryd.rind_reg {id : Nat} {Q : Exit → Act → World → Prop} {T : Array Value} {l : Ln} {ad : Addr} {c : Nat} {B : Option Addr} {d n : Nat} {x : Int} {g1 g4 : Nat} {A1 : Option Addr} {c1 : Nat} {B1 : Option Addr} {d1 : Nat} {w0 w : World} {bs : List BoxR} {rs : List RowL}
    (F0 : o0.op = .fieldAddr 25 (.tmp 4) 1 ∧ o0.dst = some 29 ∧ o0.guard = none)
    (F1 : o1.op = .load 22 (.tmp 29) ∧ o1.dst = some 30 ∧ o1.guard = none)
    (F2 : o2.op = .fieldAddr 25 (.tmp 1) 1 ∧ o2.dst = some 31 ∧ o2.guard = none)
    (F3 : o3.op = .load 22 (.tmp 31) ∧ o3.dst = some 32 ∧ o3.guard = none)
    (F4 : o4.op = .move (.tmp 5) ∧ o4.dst = some 33 ∧ o4.guard = none)
    (F5 : o5.op = .binOp .sub 3 (.tmp 33) (.const (.int .i64 1)) 3 ∧ o5.dst = some 34 ∧ o5.guard = none)
    (F6 : o6.op = .indexAddr 22 (.tmp 32) (.tmp 34) ∧ o6.dst = some 35 ∧ o6.guard = none)
    (F7 : o7.op = .load 3 (.tmp 35) ∧ o7.dst = some 36 ∧ o7.guard = none)
    (F8 : o8.op = .buildSlice 22 1 #[(0, .tmp 36)] ∧ o8.dst = some 37 ∧ o8.guard = none)
    (F9 : o9.op = .call { callee := .builtin .append, args := #[.tmp 30, .tmp 37], argTypes := #[22, 22] } ∧ o9.dst = some 38 ∧ o9.guard = none)
    (F10 : o10.op = .fieldAddr 25 (.tmp 4) 1 ∧ o10.dst = some 39 ∧ o10.guard = none)
    (F11 : o11.op = .store 22 (.tmp 39) (.tmp 38) ∧ o11.dst = none ∧ o11.guard = none)
    (D1 : dep13 o1 0 = true)
    (D3 : dep13 o3 2 = true)
    (D5 : dep13 o5 4 = true)
    (D6 : dep13 o6 3 = true ∧ dep13 o6 5 = true)
    (D7 : dep13 o7 6 = true)
    (D8 : dep13 o8 7 = true)
    (D9 : dep13 o9 1 = true ∧ dep13 o9 8 = true)
    (D11 : dep13 o11 9 = true ∧ dep13 o11 10 = true)
    (down : edgesDown #[o0, o1, o2, o3, o4, o5, o6, o7, o8, o9, o10, o11] = true) (hsz : 39 < T.size) (p1 : T.getD 1 undef = .pointer (some ⟨g1, 0, none⟩)) (p4 : T.getD 4 undef = .pointer (some ⟨g4, 0, none⟩)) (p5 : T.getD 5 undef = .int .i64 (l.ls.length : Int))
    (I5 : ∀ (a : Act) (w : World), a.eval (.tmp 33) = .int .i64 (l.ls.length : Int) → (execOp a.eval o5).run Tryd.prog w = .ok (.value (.int .i64 (n : Int))) w)
    (I6 : ∀ (a : Act) (w : World), a.eval (.tmp 32) = .slice (some ad) l.ls.length c → a.eval (.tmp 34) = .int .i64 (n : Int) → (execOp a.eval o6).run Tryd.prog w = .ok (.value (.pointer (some (ad.add n)))) w)
    (K : KL w0 w (⟨g4, .int .i64 l.q, .slice A1 l.ls.length c1, .int .i64 l.k, .slice B1 l.cs.length d1⟩ :: bs) rs []) (hb1 : (⟨g1, .int .i64 l.q, .slice (some ad) l.ls.length c, .int .i64 l.k, .slice B l.cs.length d⟩ : BoxR) ∈ bs) (hl : (⟨l, some ad, B⟩ : RowL) ∈ rs) (hrs : ∀ r ∈ rs, LnAt w0 w0.heap.size r.l r.A r.B) (O1 : LnOw w w0.heap.size l A1 c1 B1 d1) (hx : l.ls[n]? = some x) (h9 : l.ls.length ≤ 1000000000)
    (hend : ∀ v37 A2 c2 w', KL w0 w' (⟨g4, .int .i64 l.q, .slice A2 (l.ls ++ [x]).length c2, .int .i64 l.k, .slice B1 l.cs.length d1⟩ :: bs) rs [] → LnOw w' w0.heap.size ⟨l.q, l.ls ++ [x], l.k, l.cs⟩ A2 c2 B1 d1 → Q .normal ⟨upds T [(29, .pointer (some ⟨g4, 1, none⟩)), (30, .slice A1 l.ls.length c1), (31, .pointer (some ⟨g1, 1, none⟩)), (32, .slice (some ad) l.ls.length c), (33, .int .i64 (l.ls.length : Int)), (34, .int .i64 (n : Int)), (35, .pointer (some (ad.add n))), (36, .int .i64 x), (37, v37), (38, .slice A2 (l.ls ++ [x]).length c2), (39, .pointer (some ⟨g4, 1, none⟩))], []⟩ w') :
    (Code.region id #[o0, o1, o2, o3, o4, o5, o6, o7, o8, o9, o10, o11] true).wp Tryd.prog Q ⟨T, []⟩ w := by
  have hb4 := K.bx _ (List.mem_cons_self)
  have hg4 : w0.heap.size ≤ g4 := hb4.1
  have out4 : ∀ u ∈ bs, u.g ≠ g4 := fun u hu e => (List.pairwise_cons.1 K.nd).1 u hu e.symm
  refine wp_region_any (by kernel_rfl) ?_
  refine wpAny_inv (fun b a w => b.size = 12 ∧ ∃ v37 A2 c2, RindI T l ad c n x g1 g4 A1 c1 B1 d1 w0 bs rs v37 A2 c2 (fun k => b.getD k false) a w) ?step ?fin _ _ _ _ ?start ?fuel
  case fuel => simp
  case start =>
    refine ⟨by simp, undef, none, 0, ?_⟩
    have no : ∀ k, (Array.replicate (#[o0, o1, o2, o3, o4, o5, o6, o7, o8, o9, o10, o11] : Array Oper).size false).getD k false = true → False := fun k h => by
      simp [Array.getD] at h
    exact { sz := rfl, df := rfl, fr := fun _ _ => rfl, kl := (K.less (by simp) (fun r h => h) (List.Sublist.refl _)).quiet ⟨1, rfl⟩, e4 := fun _ => hb4.2, e5 := ⟨_, _, _, _, hb4.2⟩, o1 := fun _ => O1.drewN 1, o2 := O1.cs.drewN 1, f0 := fun h => (no _ h).elim, f1 := fun h => (no _ h).elim, f2 := fun h => (no _ h).elim, f3 := fun h => (no _ h).elim, f4 := fun h => (no _ h).elim, f5 := fun h => (no _ h).elim, f6 := fun h => (no _ h).elim, f7 := fun h => (no _ h).elim, f8 := fun h => (no _ h).elim, f9 := fun h => (no _ h).elim, f10 := fun h => (no _ h).elim, f11 := fun h => (no _ h).elim, w9 := fun h => (no _ h).elim, w11 := fun h => (no _ h).elim }
  case fin =>
    rintro b a w' ⟨hs, v37, A2, c2, I⟩ hr
    have all : ∀ k, k < 12 → b.getD k false = true := fun k hk => ready_nil down hr hs 12 k hk hk
    have := hend v37 A2 c2 w' (I.kl.push (t := ⟨g4, _, _, _, _⟩) hg4 (I.f11 (all 11 (by decide))) out4) ⟨(I.f9 (all 9 (by decide))).2, I.o2⟩
    have ea : a = ⟨upds T [(29, .pointer (some ⟨g4, 1, none⟩)), (30, .slice A1 l.ls.length c1), (31, .pointer (some ⟨g1, 1, none⟩)), (32, .slice (some ad) l.ls.length c), (33, .int .i64 (l.ls.length : Int)), (34, .int .i64 (n : Int)), (35, .pointer (some (ad.add n))), (36, .int .i64 x), (37, v37), (38, .slice A2 (l.ls ++ [x]).length c2), (39, .pointer (some ⟨g4, 1, none⟩))], []⟩ := by
      obtain ⟨tm, df⟩ := a
      have hd : df = [] := I.df
      subst hd
      refine congrArg (fun z => (⟨z, []⟩ : Act)) (frame_eq [(29, .pointer (some ⟨g4, 1, none⟩)), (30, .slice A1 l.ls.length c1), (31, .pointer (some ⟨g1, 1, none⟩)), (32, .slice (some ad) l.ls.length c), (33, .int .i64 (l.ls.length : Int)), (34, .int .i64 (n : Int)), (35, .pointer (some (ad.add n))), (36, .int .i64 x), (37, v37), (38, .slice A2 (l.ls ++ [x]).length c2), (39, .pointer (some ⟨g4, 1, none⟩))] I.sz ?_ ?_ ?_ I.fr)
      · intro q hq; simp at hq; rcases hq with rfl | rfl | rfl | rfl | rfl | rfl | rfl | rfl | rfl | rfl | rfl <;> simp <;> omega
      · show ([29, 30, 31, 32, 33, 34, 35, 36, 37, 38, 39] : List Nat).Nodup; decide
      · intro q hq
        simp only [List.mem_cons, List.not_mem_nil, or_false] at hq
        rcases hq with rfl | rfl | rfl | rfl | rfl | rfl | rfl | rfl | rfl | rfl | rfl
        · exact (I.f0 (all 0 (by decide)))
        · exact (I.f1 (all 1 (by decide)))
        · exact (I.f2 (all 2 (by decide)))
        · exact (I.f3 (all 3 (by decide)))
        · exact (I.f4 (all 4 (by decide)))
        · exact (I.f5 (all 5 (by decide)))
        · exact (I.f6 (all 6 (by decide)))
        · exact (I.f7 (all 7 (by decide)))
        · exact (I.f8 (all 8 (by decide))).1
        · exact (I.f9 (all 9 (by decide))).1
        · exact (I.f10 (all 10 (by decide)))
    rw [ea]
    exact this
  case step =>
    rintro b a w' i' ⟨hs, v37, A2, c2, I⟩ hi
    have off := ready_mem hi
    have hlt : i' < 12 := by
      unfold Region.ready at hi
      rw [List.mem_filter] at hi
      exact List.mem_range.1 hi.1
    have off' : b.getD i' false = false := by
      simp only [Array.getD_eq_getD_getElem?] at off ⊢
      rw [Array.getElem?_eq_getElem (by omega)] at off ⊢
      simpa using off
    obtain ⟨hbig, hbx⟩ := I.kl.bx _ hb1
    obtain ⟨⟨k0, k1, k2, k3⟩, -⟩ := hbx.cells
    have rowat := I.kl.at_ hl
    have asz := I.sz
    have g1' : a.eval (.tmp 1) = .pointer (some ⟨g1, 0, none⟩) := (I.fr 1 (by decide)).trans p1
    have g4' : a.eval (.tmp 4) = .pointer (some ⟨g4, 0, none⟩) := (I.fr 4 (by decide)).trans p4
    have g5' : a.eval (.tmp 5) = .int .i64 (l.ls.length : Int) := (I.fr 5 (by decide)).trans p5
    have bi : (fun k => (b.setIfInBounds i' true).getD k false) = bitOn (fun k => b.getD k false) i' := bit_set (by omega)
    match i', hlt with
    | 0, _ =>
      refine wpOp_step (o := o0) rfl (fun K' hK => ?_)
      rw [if_pos (by simp [Region.wanted, F0.2.2])]
      refine wp_val (run_field1 F0.1 g4') ?_
      refine hK _ _ ⟨by rw [Array.size_setIfInBounds]; exact hs, v37, A2, c2, ?_⟩
      rw [bi]
      unfold Act.put
      rw [F0.2.1]
      exact { sz := (Array.size_setIfInBounds ..).trans I.sz, df := I.df, fr := fun k hk => (getD_set_ne (fun e => hk (by rw [← e]; decide))).trans (I.fr k hk), kl := I.kl, e4 := fun h => I.e4 (bit_off h), e5 := I.e5, o1 := fun h => I.o1 (bit_off h), o2 := I.o2, f0 := fun _ => getD_set_eq (by rw [asz]; omega), f1 := fun h => (getD_set_ne (by decide)).trans (I.f1 (bit_ne h (by decide))), f2 := fun h => (getD_set_ne (by decide)).trans (I.f2 (bit_ne h (by decide))), f3 := fun h => (getD_set_ne (by decide)).trans (I.f3 (bit_ne h (by decide))), f4 := fun h => (getD_set_ne (by decide)).trans (I.f4 (bit_ne h (by decide))), f5 := fun h => (getD_set_ne (by decide)).trans (I.f5 (bit_ne h (by decide))), f6 := fun h => (getD_set_ne (by decide)).trans (I.f6 (bit_ne h (by decide))), f7 := fun h => (getD_set_ne (by decide)).trans (I.f7 (bit_ne h (by decide))), f8 := fun h => ⟨(getD_set_ne (by decide)).trans ((I.f8 (bit_ne h (by decide))).1), (I.f8 (bit_ne h (by decide))).2.1, fun h9 => (I.f8 (bit_ne h (by decide))).2.2 (bit_off h9)⟩, f9 := fun h => ⟨(getD_set_ne (by decide)).trans ((I.f9 (bit_ne h (by decide))).1), (I.f9 (bit_ne h (by decide))).2⟩, f10 := fun h => (getD_set_ne (by decide)).trans (I.f10 (bit_ne h (by decide))), f11 := fun h => I.f11 (bit_ne h (by decide)), w9 := fun h => ⟨bit_on (I.w9 (bit_ne h (by decide))).1, bit_on (I.w9 (bit_ne h (by decide))).2⟩, w11 := fun h => bit_on (I.w11 (bit_ne h (by decide))) }
    | 1, _ =>
      refine wpOp_step (o := o1) rfl (fun K' hK => ?_)
      rw [if_pos (by simp [Region.wanted, F1.2.2])]
      have h0 := ready_waits hi rfl D1
      have n11 : b.getD 11 false = false := by
        cases hq : b.getD 11 false with
        | false => rfl
        | true => have z9 := I.w11 hq; have z1 := (I.w9 z9).1; exact absurd z1 (by show ¬ b.getD 1 false = true; rw [off']; decide)
      obtain ⟨⟨-, q1, -, -⟩, -⟩ := (I.e4 n11).cells
      refine wp_val (run_loadII F1.1 (I.f0 h0) q1) ?_
      refine hK _ _ ⟨by rw [Array.size_setIfInBounds]; exact hs, v37, A2, c2, ?_⟩
      rw [bi]
      unfold Act.put
      rw [F1.2.1]
      exact { sz := (Array.size_setIfInBounds ..).trans I.sz, df := I.df, fr := fun k hk => (getD_set_ne (fun e => hk (by rw [← e]; decide))).trans (I.fr k hk), kl := I.kl, e4 := fun h => I.e4 (bit_off h), e5 := I.e5, o1 := fun h => I.o1 (bit_off h), o2 := I.o2, f0 := fun h => (getD_set_ne (by decide)).trans (I.f0 (bit_ne h (by decide))), f1 := fun _ => getD_set_eq (by rw [asz]; omega), f2 := fun h => (getD_set_ne (by decide)).trans (I.f2 (bit_ne h (by decide))), f3 := fun h => (getD_set_ne (by decide)).trans (I.f3 (bit_ne h (by decide))), f4 := fun h => (getD_set_ne (by decide)).trans (I.f4 (bit_ne h (by decide))), f5 := fun h => (getD_set_ne (by decide)).trans (I.f5 (bit_ne h (by decide))), f6 := fun h => (getD_set_ne (by decide)).trans (I.f6 (bit_ne h (by decide))), f7 := fun h => (getD_set_ne (by decide)).trans (I.f7 (bit_ne h (by decide))), f8 := fun h => ⟨(getD_set_ne (by decide)).trans ((I.f8 (bit_ne h (by decide))).1), (I.f8 (bit_ne h (by decide))).2.1, fun h9 => (I.f8 (bit_ne h (by decide))).2.2 (bit_off h9)⟩, f9 := fun h => ⟨(getD_set_ne (by decide)).trans ((I.f9 (bit_ne h (by decide))).1), (I.f9 (bit_ne h (by decide))).2⟩, f10 := fun h => (getD_set_ne (by decide)).trans (I.f10 (bit_ne h (by decide))), f11 := fun h => I.f11 (bit_ne h (by decide)), w9 := fun h => ⟨bit_on (I.w9 (bit_ne h (by decide))).1, bit_on (I.w9 (bit_ne h (by decide))).2⟩, w11 := fun h => bit_on (I.w11 (bit_ne h (by decide))) }
    | 2, _ =>
      refine wpOp_step (o := o2) rfl (fun K' hK => ?_)
      rw [if_pos (by simp [Region.wanted, F2.2.2])]
      refine wp_val (run_field1 F2.1 g1') ?_
      refine hK _ _ ⟨by rw [Array.size_setIfInBounds]; exact hs, v37, A2, c2, ?_⟩
      rw [bi]
      unfold Act.put
      rw [F2.2.1]
      exact { sz := (Array.size_setIfInBounds ..).trans I.sz, df := I.df, fr := fun k hk => (getD_set_ne (fun e => hk (by rw [← e]; decide))).trans (I.fr k hk), kl := I.kl, e4 := fun h => I.e4 (bit_off h), e5 := I.e5, o1 := fun h => I.o1 (bit_off h), o2 := I.o2, f0 := fun h => (getD_set_ne (by decide)).trans (I.f0 (bit_ne h (by decide))), f1 := fun h => (getD_set_ne (by decide)).trans (I.f1 (bit_ne h (by decide))), f2 := fun _ => getD_set_eq (by rw [asz]; omega), f3 := fun h => (getD_set_ne (by decide)).trans (I.f3 (bit_ne h (by decide))), f4 := fun h => (getD_set_ne (by decide)).trans (I.f4 (bit_ne h (by decide))), f5 := fun h => (getD_set_ne (by decide)).trans (I.f5 (bit_ne h (by decide))), f6 := fun h => (getD_set_ne (by decide)).trans (I.f6 (bit_ne h (by decide))), f7 := fun h => (getD_set_ne (by decide)).trans (I.f7 (bit_ne h (by decide))), f8 := fun h => ⟨(getD_set_ne (by decide)).trans ((I.f8 (bit_ne h (by decide))).1), (I.f8 (bit_ne h (by decide))).2.1, fun h9 => (I.f8 (bit_ne h (by decide))).2.2 (bit_off h9)⟩, f9 := fun h => ⟨(getD_set_ne (by decide)).trans ((I.f9 (bit_ne h (by decide))).1), (I.f9 (bit_ne h (by decide))).2⟩, f10 := fun h => (getD_set_ne (by decide)).trans (I.f10 (bit_ne h (by decide))), f11 := fun h => I.f11 (bit_ne h (by decide)), w9 := fun h => ⟨bit_on (I.w9 (bit_ne h (by decide))).1, bit_on (I.w9 (bit_ne h (by decide))).2⟩, w11 := fun h => bit_on (I.w11 (bit_ne h (by decide))) }
    | 3, _ =>
      refine wpOp_step (o := o3) rfl (fun K' hK => ?_)
      rw [if_pos (by simp [Region.wanted, F3.2.2])]
      have h2 := ready_waits hi rfl D3
      refine wp_val (run_loadII F3.1 (I.f2 h2) k1) ?_
      refine hK _ _ ⟨by rw [Array.size_setIfInBounds]; exact hs, v37, A2, c2, ?_⟩
      rw [bi]
      unfold Act.put
      rw [F3.2.1]
      exact { sz := (Array.size_setIfInBounds ..).trans I.sz, df := I.df, fr := fun k hk => (getD_set_ne (fun e => hk (by rw [← e]; decide))).trans (I.fr k hk), kl := I.kl, e4 := fun h => I.e4 (bit_off h), e5 := I.e5, o1 := fun h => I.o1 (bit_off h), o2 := I.o2, f0 := fun h => (getD_set_ne (by decide)).trans (I.f0 (bit_ne h (by decide))), f1 := fun h => (getD_set_ne (by decide)).trans (I.f1 (bit_ne h (by decide))), f2 := fun h => (getD_set_ne (by decide)).trans (I.f2 (bit_ne h (by decide))), f3 := fun _ => getD_set_eq (by rw [asz]; omega), f4 := fun h => (getD_set_ne (by decide)).trans (I.f4 (bit_ne h (by decide))), f5 := fun h => (getD_set_ne (by decide)).trans (I.f5 (bit_ne h (by decide))), f6 := fun h => (getD_set_ne (by decide)).trans (I.f6 (bit_ne h (by decide))), f7 := fun h => (getD_set_ne (by decide)).trans (I.f7 (bit_ne h (by decide))), f8 := fun h => ⟨(getD_set_ne (by decide)).trans ((I.f8 (bit_ne h (by decide))).1), (I.f8 (bit_ne h (by decide))).2.1, fun h9 => (I.f8 (bit_ne h (by decide))).2.2 (bit_off h9)⟩, f9 := fun h => ⟨(getD_set_ne (by decide)).trans ((I.f9 (bit_ne h (by decide))).1), (I.f9 (bit_ne h (by decide))).2⟩, f10 := fun h => (getD_set_ne (by decide)).trans (I.f10 (bit_ne h (by decide))), f11 := fun h => I.f11 (bit_ne h (by decide)), w9 := fun h => ⟨bit_on (I.w9 (bit_ne h (by decide))).1, bit_on (I.w9 (bit_ne h (by decide))).2⟩, w11 := fun h => bit_on (I.w11 (bit_ne h (by decide))) }
    | 4, _ =>
      refine wpOp_step (o := o4) rfl (fun K' hK => ?_)
      rw [if_pos (by simp [Region.wanted, F4.2.2])]
      refine wp_val (v := .int .i64 (l.ls.length : Int)) (by unfold execOp; simp only [F4.1, Sem.run_pure, g5']) ?_
      refine hK _ _ ⟨by rw [Array.size_setIfInBounds]; exact hs, v37, A2, c2, ?_⟩
      rw [bi]
      unfold Act.put
      rw [F4.2.1]
      exact { sz := (Array.size_setIfInBounds ..).trans I.sz, df := I.df, fr := fun k hk => (getD_set_ne (fun e => hk (by rw [← e]; decide))).trans (I.fr k hk), kl := I.kl, e4 := fun h => I.e4 (bit_off h), e5 := I.e5, o1 := fun h => I.o1 (bit_off h), o2 := I.o2, f0 := fun h => (getD_set_ne (by decide)).trans (I.f0 (bit_ne h (by decide))), f1 := fun h => (getD_set_ne (by decide)).trans (I.f1 (bit_ne h (by decide))), f2 := fun h => (getD_set_ne (by decide)).trans (I.f2 (bit_ne h (by decide))), f3 := fun h => (getD_set_ne (by decide)).trans (I.f3 (bit_ne h (by decide))), f4 := fun _ => getD_set_eq (by rw [asz]; omega), f5 := fun h => (getD_set_ne (by decide)).trans (I.f5 (bit_ne h (by decide))), f6 := fun h => (getD_set_ne (by decide)).trans (I.f6 (bit_ne h (by decide))), f7 := fun h => (getD_set_ne (by decide)).trans (I.f7 (bit_ne h (by decide))), f8 := fun h => ⟨(getD_set_ne (by decide)).trans ((I.f8 (bit_ne h (by decide))).1), (I.f8 (bit_ne h (by decide))).2.1, fun h9 => (I.f8 (bit_ne h (by decide))).2.2 (bit_off h9)⟩, f9 := fun h => ⟨(getD_set_ne (by decide)).trans ((I.f9 (bit_ne h (by decide))).1), (I.f9 (bit_ne h (by decide))).2⟩, f10 := fun h => (getD_set_ne (by decide)).trans (I.f10 (bit_ne h (by decide))), f11 := fun h => I.f11 (bit_ne h (by decide)), w9 := fun h => ⟨bit_on (I.w9 (bit_ne h (by decide))).1, bit_on (I.w9 (bit_ne h (by decide))).2⟩, w11 := fun h => bit_on (I.w11 (bit_ne h (by decide))) }
    | 5, _ =>
      refine wpOp_step (o := o5) rfl (fun K' hK => ?_)
      rw [if_pos (by simp [Region.wanted, F5.2.2])]
      have h4 := ready_waits hi rfl D5
      refine wp_val (I5 a w' (I.f4 h4)) ?_
      refine hK _ _ ⟨by rw [Array.size_setIfInBounds]; exact hs, v37, A2, c2, ?_⟩
      rw [bi]
      unfold Act.put
      rw [F5.2.1]
      exact { sz := (Array.size_setIfInBounds ..).trans I.sz, df := I.df, fr := fun k hk => (getD_set_ne (fun e => hk (by rw [← e]; decide))).trans (I.fr k hk), kl := I.kl, e4 := fun h => I.e4 (bit_off h), e5 := I.e5, o1 := fun h => I.o1 (bit_off h), o2 := I.o2, f0 := fun h => (getD_set_ne (by decide)).trans (I.f0 (bit_ne h (by decide))), f1 := fun h => (getD_set_ne (by decide)).trans (I.f1 (bit_ne h (by decide))), f2 := fun h => (getD_set_ne (by decide)).trans (I.f2 (bit_ne h (by decide))), f3 := fun h => (getD_set_ne (by decide)).trans (I.f3 (bit_ne h (by decide))), f4 := fun h => (getD_set_ne (by decide)).trans (I.f4 (bit_ne h (by decide))), f5 := fun _ => getD_set_eq (by rw [asz]; omega), f6 := fun h => (getD_set_ne (by decide)).trans (I.f6 (bit_ne h (by decide))), f7 := fun h => (getD_set_ne (by decide)).trans (I.f7 (bit_ne h (by decide))), f8 := fun h => ⟨(getD_set_ne (by decide)).trans ((I.f8 (bit_ne h (by decide))).1), (I.f8 (bit_ne h (by decide))).2.1, fun h9 => (I.f8 (bit_ne h (by decide))).2.2 (bit_off h9)⟩, f9 := fun h => ⟨(getD_set_ne (by decide)).trans ((I.f9 (bit_ne h (by decide))).1), (I.f9 (bit_ne h (by decide))).2⟩, f10 := fun h => (getD_set_ne (by decide)).trans (I.f10 (bit_ne h (by decide))), f11 := fun h => I.f11 (bit_ne h (by decide)), w9 := fun h => ⟨bit_on (I.w9 (bit_ne h (by decide))).1, bit_on (I.w9 (bit_ne h (by decide))).2⟩, w11 := fun h => bit_on (I.w11 (bit_ne h (by decide))) }
    | 6, _ =>
      refine wpOp_step (o := o6) rfl (fun K' hK => ?_)
      rw [if_pos (by simp [Region.wanted, F6.2.2])]
      have h3 := ready_waits hi rfl D6.1
      have h5 := ready_waits hi rfl D6.2
      refine wp_val (I6 a w' (I.f3 h3) (I.f5 h5)) ?_
      refine hK _ _ ⟨by rw [Array.size_setIfInBounds]; exact hs, v37, A2, c2, ?_⟩
      rw [bi]
      unfold Act.put
      rw [F6.2.1]
      exact { sz := (Array.size_setIfInBounds ..).trans I.sz, df := I.df, fr := fun k hk => (getD_set_ne (fun e => hk (by rw [← e]; decide))).trans (I.fr k hk), kl := I.kl, e4 := fun h => I.e4 (bit_off h), e5 := I.e5, o1 := fun h => I.o1 (bit_off h), o2 := I.o2, f0 := fun h => (getD_set_ne (by decide)).trans (I.f0 (bit_ne h (by decide))), f1 := fun h => (getD_set_ne (by decide)).trans (I.f1 (bit_ne h (by decide))), f2 := fun h => (getD_set_ne (by decide)).trans (I.f2 (bit_ne h (by decide))), f3 := fun h => (getD_set_ne (by decide)).trans (I.f3 (bit_ne h (by decide))), f4 := fun h => (getD_set_ne (by decide)).trans (I.f4 (bit_ne h (by decide))), f5 := fun h => (getD_set_ne (by decide)).trans (I.f5 (bit_ne h (by decide))), f6 := fun _ => getD_set_eq (by rw [asz]; omega), f7 := fun h => (getD_set_ne (by decide)).trans (I.f7 (bit_ne h (by decide))), f8 := fun h => ⟨(getD_set_ne (by decide)).trans ((I.f8 (bit_ne h (by decide))).1), (I.f8 (bit_ne h (by decide))).2.1, fun h9 => (I.f8 (bit_ne h (by decide))).2.2 (bit_off h9)⟩, f9 := fun h => ⟨(getD_set_ne (by decide)).trans ((I.f9 (bit_ne h (by decide))).1), (I.f9 (bit_ne h (by decide))).2⟩, f10 := fun h => (getD_set_ne (by decide)).trans (I.f10 (bit_ne h (by decide))), f11 := fun h => I.f11 (bit_ne h (by decide)), w9 := fun h => ⟨bit_on (I.w9 (bit_ne h (by decide))).1, bit_on (I.w9 (bit_ne h (by decide))).2⟩, w11 := fun h => bit_on (I.w11 (bit_ne h (by decide))) }
    | 7, _ =>
      refine wpOp_step (o := o7) rfl (fun K' hK => ?_)
      rw [if_pos (by simp [Region.wanted, F7.2.2])]
      have h6 := ready_waits hi rfl D7
      refine wp_val (run_loadI F7.1 (I.f6 h6) (rowCell rowat.ls hx)) ?_
      refine hK _ _ ⟨by rw [Array.size_setIfInBounds]; exact hs, v37, A2, c2, ?_⟩
      rw [bi]
      unfold Act.put
      rw [F7.2.1]
      exact { sz := (Array.size_setIfInBounds ..).trans I.sz, df := I.df, fr := fun k hk => (getD_set_ne (fun e => hk (by rw [← e]; decide))).trans (I.fr k hk), kl := I.kl, e4 := fun h => I.e4 (bit_off h), e5 := I.e5, o1 := fun h => I.o1 (bit_off h), o2 := I.o2, f0 := fun h => (getD_set_ne (by decide)).trans (I.f0 (bit_ne h (by decide))), f1 := fun h => (getD_set_ne (by decide)).trans (I.f1 (bit_ne h (by decide))), f2 := fun h => (getD_set_ne (by decide)).trans (I.f2 (bit_ne h (by decide))), f3 := fun h => (getD_set_ne (by decide)).trans (I.f3 (bit_ne h (by decide))), f4 := fun h => (getD_set_ne (by decide)).trans (I.f4 (bit_ne h (by decide))), f5 := fun h => (getD_set_ne (by decide)).trans (I.f5 (bit_ne h (by decide))), f6 := fun h => (getD_set_ne (by decide)).trans (I.f6 (bit_ne h (by decide))), f7 := fun _ => getD_set_eq (by rw [asz]; omega), f8 := fun h => ⟨(getD_set_ne (by decide)).trans ((I.f8 (bit_ne h (by decide))).1), (I.f8 (bit_ne h (by decide))).2.1, fun h9 => (I.f8 (bit_ne h (by decide))).2.2 (bit_off h9)⟩, f9 := fun h => ⟨(getD_set_ne (by decide)).trans ((I.f9 (bit_ne h (by decide))).1), (I.f9 (bit_ne h (by decide))).2⟩, f10 := fun h => (getD_set_ne (by decide)).trans (I.f10 (bit_ne h (by decide))), f11 := fun h => I.f11 (bit_ne h (by decide)), w9 := fun h => ⟨bit_on (I.w9 (bit_ne h (by decide))).1, bit_on (I.w9 (bit_ne h (by decide))).2⟩, w11 := fun h => bit_on (I.w11 (bit_ne h (by decide))) }
    | 8, _ =>
      refine wpOp_step (o := o8) rfl (fun K' hK => ?_)
      rw [if_pos (by simp [Region.wanted, F8.2.2])]
      have h7 := ready_waits hi rfl D8
      unfold Oper.wp
      rw [run_lit1 F8.1 (I.f7 h7)]
      have hbw : Below w'.heap.size w' (w'.alloc (.cells #[.int .i64 x] 3)) := (Below.refl _ w').alloc (Nat.le_refl _) _
      refine hK _ _ ⟨by rw [Array.size_setIfInBounds]; exact hs, .slice (some ⟨w'.heap.size, 0, none⟩) 1 1, A2, c2, ?_⟩
      rw [bi]
      unfold Act.put
      rw [F8.2.1]
      exact { sz := (Array.size_setIfInBounds ..).trans I.sz, df := I.df, fr := fun k hk => (getD_set_ne (fun e => hk (by rw [← e]; decide))).trans (I.fr k hk), kl := (I.kl).later hbw, e4 := fun h => (I.e4 (bit_off h)).later hbw, e5 := (by obtain ⟨p, q, r, s, h⟩ := I.e5; exact ⟨p, q, r, s, h.later hbw⟩), o1 := fun h => (I.o1 (bit_off h)).later hbw, o2 := (I.o2).later hbw, f0 := fun h => (getD_set_ne (by decide)).trans (I.f0 (bit_ne h (by decide))), f1 := fun h => (getD_set_ne (by decide)).trans (I.f1 (bit_ne h (by decide))), f2 := fun h => (getD_set_ne (by decide)).trans (I.f2 (bit_ne h (by decide))), f3 := fun h => (getD_set_ne (by decide)).trans (I.f3 (bit_ne h (by decide))), f4 := fun h => (getD_set_ne (by decide)).trans (I.f4 (bit_ne h (by decide))), f5 := fun h => (getD_set_ne (by decide)).trans (I.f5 (bit_ne h (by decide))), f6 := fun h => (getD_set_ne (by decide)).trans (I.f6 (bit_ne h (by decide))), f7 := fun h => (getD_set_ne (by decide)).trans (I.f7 (bit_ne h (by decide))), f8 := fun _ => ⟨getD_set_eq (by rw [asz]; omega), ⟨_, rfl⟩, fun _ => (own_lit1I w' x).based I.kl.b.size⟩, f9 := fun h => ⟨(getD_set_ne (by decide)).trans ((I.f9 (bit_ne h (by decide))).1), ((I.f9 (bit_ne h (by decide))).2).later hbw⟩, f10 := fun h => (getD_set_ne (by decide)).trans (I.f10 (bit_ne h (by decide))), f11 := fun h => (I.f11 (bit_ne h (by decide))).later hbw, w9 := fun h => ⟨bit_on (I.w9 (bit_ne h (by decide))).1, bit_on (I.w9 (bit_ne h (by decide))).2⟩, w11 := fun h => bit_on (I.w11 (bit_ne h (by decide))) }
    | 9, _ =>
      refine wpOp_step (o := o9) rfl (fun K' hK => ?_)
      rw [if_pos (by simp [Region.wanted, F9.2.2])]
      have h1 := ready_waits hi rfl D9.1
      have h8 := ready_waits hi rfl D9.2
      obtain ⟨hv, ⟨gs, rfl⟩, hsrc⟩ := I.f8 h8
      have hsrc := (hsrc off').wr.sl encI_len
      have hown := (I.o1 off').ls
      obtain ⟨v', W2, hr, ho2, hg, _⟩ := run_append_slice Tryd.okI 22 o9.type Tryd.underlying22 w' w0.heap.size (.slice A1 l.ls.length c1) l.ls hown w'.heap.size (some ⟨gs, 0, none⟩) [x] 1 hsrc (by simp; omega) I.kl.b.size
      obtain ⟨A9, n9, c9, rfl, hn9⟩ := ho2.shape
      have hn9 : n9 = (l.ls ++ [x]).length := hn9.out
      subst hn9
      refine Lib.wp_append_run w' (.tmp 30) (.tmp 37) 22 22 F9.1 _ _ (I.f1 h1) hv _ W2 hr ?_
      refine hK _ _ ⟨by rw [Array.size_setIfInBounds]; exact hs, .slice (some ⟨gs, 0, none⟩) 1 1, A9, c9, ?_⟩
      rw [bi]
      unfold Act.put
      rw [F9.2.1]
      exact { sz := (Array.size_setIfInBounds ..).trans I.sz, df := I.df, fr := fun k hk => (getD_set_ne (fun e => hk (by rw [← e]; decide))).trans (I.fr k hk), kl := I.kl.grownI hown hg hrs, e4 := fun h => (I.e4 (bit_off h)).grownI hown hg, e5 := (by obtain ⟨p, q, r, s, h⟩ := I.e5; exact ⟨p, q, r, s, h.grownI hown hg⟩), o1 := fun h => by simp [bitOn] at h, o2 := Own.grownC hown hg I.o2, f0 := fun h => (getD_set_ne (by decide)).trans (I.f0 (bit_ne h (by decide))), f1 := fun h => (getD_set_ne (by decide)).trans (I.f1 (bit_ne h (by decide))), f2 := fun h => (getD_set_ne (by decide)).trans (I.f2 (bit_ne h (by decide))), f3 := fun h => (getD_set_ne (by decide)).trans (I.f3 (bit_ne h (by decide))), f4 := fun h => (getD_set_ne (by decide)).trans (I.f4 (bit_ne h (by decide))), f5 := fun h => (getD_set_ne (by decide)).trans (I.f5 (bit_ne h (by decide))), f6 := fun h => (getD_set_ne (by decide)).trans (I.f6 (bit_ne h (by decide))), f7 := fun h => (getD_set_ne (by decide)).trans (I.f7 (bit_ne h (by decide))), f8 := fun h => ⟨(getD_set_ne (by decide)).trans (I.f8 (bit_ne h (by decide))).1, (I.f8 (bit_ne h (by decide))).2.1, fun h9 => by simp [bitOn] at h9⟩, f9 := fun _ => ⟨getD_set_eq (by rw [asz]; omega), ho2⟩, f10 := fun h => (getD_set_ne (by decide)).trans (I.f10 (bit_ne h (by decide))), f11 := fun h => by have z := bit_ne h (by decide); have y9 := I.w11 z; simp [off'] at y9, w9 := fun _ => ⟨bit_on h1, bit_on h8⟩, w11 := fun h => bit_on (I.w11 (bit_ne h (by decide))) }
    | 10, _ =>
      refine wpOp_step (o := o10) rfl (fun K' hK => ?_)
      rw [if_pos (by simp [Region.wanted, F10.2.2])]
      refine wp_val (run_field1 F10.1 g4') ?_
      refine hK _ _ ⟨by rw [Array.size_setIfInBounds]; exact hs, v37, A2, c2, ?_⟩
      rw [bi]
      unfold Act.put
      rw [F10.2.1]
      exact { sz := (Array.size_setIfInBounds ..).trans I.sz, df := I.df, fr := fun k hk => (getD_set_ne (fun e => hk (by rw [← e]; decide))).trans (I.fr k hk), kl := I.kl, e4 := fun h => I.e4 (bit_off h), e5 := I.e5, o1 := fun h => I.o1 (bit_off h), o2 := I.o2, f0 := fun h => (getD_set_ne (by decide)).trans (I.f0 (bit_ne h (by decide))), f1 := fun h => (getD_set_ne (by decide)).trans (I.f1 (bit_ne h (by decide))), f2 := fun h => (getD_set_ne (by decide)).trans (I.f2 (bit_ne h (by decide))), f3 := fun h => (getD_set_ne (by decide)).trans (I.f3 (bit_ne h (by decide))), f4 := fun h => (getD_set_ne (by decide)).trans (I.f4 (bit_ne h (by decide))), f5 := fun h => (getD_set_ne (by decide)).trans (I.f5 (bit_ne h (by decide))), f6 := fun h => (getD_set_ne (by decide)).trans (I.f6 (bit_ne h (by decide))), f7 := fun h => (getD_set_ne (by decide)).trans (I.f7 (bit_ne h (by decide))), f8 := fun h => ⟨(getD_set_ne (by decide)).trans ((I.f8 (bit_ne h (by decide))).1), (I.f8 (bit_ne h (by decide))).2.1, fun h9 => (I.f8 (bit_ne h (by decide))).2.2 (bit_off h9)⟩, f9 := fun h => ⟨(getD_set_ne (by decide)).trans ((I.f9 (bit_ne h (by decide))).1), (I.f9 (bit_ne h (by decide))).2⟩, f10 := fun _ => getD_set_eq (by rw [asz]; omega), f11 := fun h => I.f11 (bit_ne h (by decide)), w9 := fun h => ⟨bit_on (I.w9 (bit_ne h (by decide))).1, bit_on (I.w9 (bit_ne h (by decide))).2⟩, w11 := fun h => bit_on (I.w11 (bit_ne h (by decide))) }
    | 11, _ =>
      refine wpOp_step (o := o11) rfl (fun K' hK => ?_)
      rw [if_pos (by simp [Region.wanted, F11.2.2])]
      have h9' := ready_waits hi rfl D11.1
      have h10 := ready_waits hi rfl D11.2
      have hold := I.e4 off'
      obtain ⟨⟨c0', c1', c2', c3'⟩, f0', f1', f2', f3'⟩ := hold.cells
      have og : Og g4 w' (w'.setCells g4 1 [.slice A2 (l.ls ++ [x]).length c2]) := Og.set _ _ Og.refl
      have hx4 : Bx (w'.setCells g4 1 [.slice A2 (l.ls ++ [x]).length c2]) g4 (.int .i64 l.q) (.slice A2 (l.ls ++ [x]).length c2) (.int .i64 l.k) (.slice B1 l.cs.length d1) := hold.set1 _
      have e39 : a.eval (.tmp 39) = .pointer (some ⟨g4, 1, none⟩) := I.f10 h10
      have e38 : a.eval (.tmp 38) = .slice A2 (l.ls ++ [x]).length c2 := (I.f9 h9').1
      unfold Oper.wp execOp
      simp only [F11.1, e39, e38, Instr.storeAt, Instr.sureAddr, Sem.run_bind, Sem.run_pure, Result.andThen_ok, run_storeVar_cell (P := Tryd.prog) w' g4 1 22 (.slice A2 (l.ls ++ [x]).length c2) (fun i hi => by
        obtain rfl : i = 0 := by omega
        exact ⟨by rw [c1']; rfl, f1'⟩) (by kernel_rfl) rfl]
      refine hK _ _ ⟨by rw [Array.size_setIfInBounds]; exact hs, v37, A2, c2, ?_⟩
      rw [bi]
      unfold Act.put
      rw [F11.2.1]
      exact { sz := I.sz, df := I.df, fr := fun k hk => I.fr k hk, kl := I.kl.setOut hg4 og hold out4, e4 := fun h => by simp [bitOn] at h, e5 := ⟨_, _, _, _, hx4⟩, o1 := fun h => (I.o1 (bit_off h)).og og hold, o2 := og.own hold (by decide) I.o2, f0 := fun h => I.f0 (bit_ne h (by decide)), f1 := fun h => I.f1 (bit_ne h (by decide)), f2 := fun h => I.f2 (bit_ne h (by decide)), f3 := fun h => I.f3 (bit_ne h (by decide)), f4 := fun h => I.f4 (bit_ne h (by decide)), f5 := fun h => I.f5 (bit_ne h (by decide)), f6 := fun h => I.f6 (bit_ne h (by decide)), f7 := fun h => I.f7 (bit_ne h (by decide)), f8 := fun h => ⟨(I.f8 (bit_ne h (by decide))).1, (I.f8 (bit_ne h (by decide))).2.1, fun h9 => og.own hold (by decide) ((I.f8 (bit_ne h (by decide))).2.2 (bit_off h9))⟩, f9 := fun h => ⟨(I.f9 (bit_ne h (by decide))).1, og.own hold (by decide) (I.f9 (bit_ne h (by decide))).2⟩, f10 := fun h => I.f10 (bit_ne h (by decide)), f11 := fun _ => hx4, w9 := fun h => ⟨bit_on (I.w9 (bit_ne h (by decide))).1, bit_on (I.w9 (bit_ne h (by decide))).2⟩, w11 := fun _ => bit_on h9' }
end
end Go.Proofs.YtpldmiencoolhaaDoor
