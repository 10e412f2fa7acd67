/- The reference's Own: the law of its region for all its orders, and the walk. (Printed by wip/lnown.py.) -/
import Derived.Test.YtblbfoniimnkcaaGreatDoorLnRr
import Derived.Test.YtblbfoniimnkcaaGreatDoorCells5
namespace Go.Proofs.YtblbfoniimnkcaaGreatDoor
open Go.RowKit Go.Lib Go.Great

structure RownI (T : Array Value) (l : Ln) (A : Option Addr) (c : Nat) (B : Option Addr) (d g1 g2 : Nat) (w0 : World) (bs : List BoxR) (rs : List RowL) (v5 : Value) (A1 : Option Addr) (c1 : Nat) (B1 : Option Addr) (d1 : Nat) (b : Nat → Bool) (a : Act) (w : World) : Prop where
  sz : a.tmps.size = T.size
  df : a.defers = []
  fr : ∀ k, k ∉ [3, 4, 5, 6, 7, 8, 9, 10, 11, 12, 13, 14] → a.tmps.getD k undef = T.getD k undef
  kl : KL w0 w bs rs []
  e2 : ∃ p q r s, Bx w g2 p q r s
  f0 : b 0 = true → a.tmps.getD 3 undef = .pointer (some ⟨g1, 0, none⟩)
  f1 : b 1 = true → a.tmps.getD 4 undef = .int .i64 l.q
  f2 : b 2 = true → a.tmps.getD 5 undef = v5 ∧ (b 5 = false → Own encI 1 3 w w0.heap.size v5 ([] : List Int))
  f3 : b 3 = true → a.tmps.getD 6 undef = .pointer (some ⟨g1, 1, none⟩)
  f4 : b 4 = true → a.tmps.getD 7 undef = .slice A l.ls.length c
  f5 : b 5 = true → a.tmps.getD 8 undef = .slice A1 l.ls.length c1 ∧ Own encI 1 3 w w0.heap.size (.slice A1 l.ls.length c1) l.ls
  f6 : b 6 = true → a.tmps.getD 9 undef = .pointer (some ⟨g1, 2, none⟩)
  f7 : b 7 = true → a.tmps.getD 10 undef = .int .i64 l.k
  f8 : b 8 = true → a.tmps.getD 11 undef = .pointer (some ⟨g1, 3, none⟩)
  f9 : b 9 = true → a.tmps.getD 12 undef = .slice B l.cs.length d
  f10 : b 10 = true → a.tmps.getD 13 undef = .slice B1 l.cs.length d1 ∧ Own encC 3 60 w w0.heap.size (.slice B1 l.cs.length d1) l.cs
  f11 : b 11 = true → a.tmps.getD 14 undef = .agg #[.int .i64 l.q, .slice A1 l.ls.length c1, .int .i64 l.k, .slice B1 l.cs.length d1]
  f12 : b 12 = true → Bx w g2 (.int .i64 l.q) (.slice A1 l.ls.length c1) (.int .i64 l.k) (.slice B1 l.cs.length d1)
  w5 : b 5 = true → b 2 = true
  w11 : b 11 = true → b 5 = true ∧ b 10 = true
  w12 : b 12 = true → b 11 = true
section
variable {o0 o1 o2 o3 o4 o5 o6 o7 o8 o9 o10 o11 o12 : Oper}
set_option maxHeartbeats 4000000 in
theorem Tryz.rown_reg {id : Nat} {Q : Exit → Act → World → Prop} {T : Array Value} {l : Ln} {A : Option Addr} {c : Nat} {B : Option Addr} {d g1 g2 : Nat} {w0 w : World} {bs : List BoxR} {rs : List RowL} {p2 q2 r2 s2 : Value} {f : FuncId} {ts : Array TypeId}
    (F0 : o0.op = .fieldAddr 46 (.tmp 1) 0 ∧ o0.dst = some 3 ∧ o0.guard = none)
    (F1 : o1.op = .load 3 (.tmp 3) ∧ o1.dst = some 4 ∧ o1.guard = none)
    (F2 : o2.op = .buildSlice 43 0 #[] ∧ o2.dst = some 5 ∧ o2.guard = none)
    (F3 : o3.op = .fieldAddr 46 (.tmp 1) 1 ∧ o3.dst = some 6 ∧ o3.guard = none)
    (F4 : o4.op = .load 43 (.tmp 6) ∧ o4.dst = some 7 ∧ o4.guard = none)
    (F5 : o5.op = .call { callee := .builtin .append, args := #[.tmp 5, .tmp 7], argTypes := #[43, 43] } ∧ o5.dst = some 8 ∧ o5.guard = none)
    (F6 : o6.op = .fieldAddr 46 (.tmp 1) 2 ∧ o6.dst = some 9 ∧ o6.guard = none)
    (F7 : o7.op = .load 3 (.tmp 9) ∧ o7.dst = some 10 ∧ o7.guard = none)
    (F8 : o8.op = .fieldAddr 46 (.tmp 1) 3 ∧ o8.dst = some 11 ∧ o8.guard = none)
    (F9 : o9.op = .load 44 (.tmp 11) ∧ o9.dst = some 12 ∧ o9.guard = none)
    (F10 : o10.op = .call { callee := .value (.func f), args := #[.tmp 12], argTypes := ts } ∧ o10.dst = some 13 ∧ o10.guard = none)
    (F11 : o11.op = .build 46 #[(0, .tmp 4), (1, .tmp 8), (2, .tmp 10), (3, .tmp 13)] ∧ o11.dst = some 14 ∧ o11.guard = none)
    (F12 : o12.op = .store 46 (.tmp 2) (.tmp 14) ∧ o12.dst = none ∧ o12.guard = none)
    (D1 : dep13 o1 0 = true)
    (D4 : dep13 o4 3 = true)
    (D5 : dep13 o5 2 = true ∧ dep13 o5 4 = true)
    (D7 : dep13 o7 6 = true)
    (D9 : dep13 o9 8 = true)
    (D10 : dep13 o10 9 = true)
    (D11 : dep13 o11 1 = true ∧ dep13 o11 5 = true ∧ dep13 o11 7 = true ∧ dep13 o11 10 = true)
    (D12 : dep13 o12 11 = true)
    (down : edgesDown #[o0, o1, o2, o3, o4, o5, o6, o7, o8, o9, o10, o11, o12] = true) (hsz : 14 < T.size) (p1 : T.getD 1 undef = .pointer (some ⟨g1, 0, none⟩)) (p2' : T.getD 2 undef = .pointer (some ⟨g2, 0, none⟩))
    (K : KL w0 w (⟨g2, p2, q2, r2, s2⟩ :: bs) rs []) (hb1 : (⟨g1, .int .i64 l.q, .slice A l.ls.length c, .int .i64 l.k, .slice B l.cs.length d⟩ : BoxR) ∈ bs) (hl : (⟨l, A, B⟩ : RowL) ∈ rs) (hrs : ∀ r ∈ rs, LnAt w0 w0.heap.size r.l r.A r.B) (h9 : l.ls.length ≤ 1000000000)
    (C : ∀ W, SlAt encC 3 W W.heap.size B l.cs → Calls Tryz.prog f #[.slice B l.cs.length d] W (fun e w' => ∃ v, e = .returned v ∧ Own encC 3 60 w' W.heap.size v l.cs ∧ Below W.heap.size W w')) (H : ∀ v w, (callFunc f #[v]).run Tryz.prog w = .ok (.enter f #[v]) w)
    (hend : ∀ v5 A1 c1 B1 d1 w', KL w0 w' bs rs [] → Bx w' g2 (.int .i64 l.q) (.slice A1 l.ls.length c1) (.int .i64 l.k) (.slice B1 l.cs.length d1) → LnOw w' w0.heap.size l A1 c1 B1 d1 → Q .normal ⟨upds T [(3, .pointer (some ⟨g1, 0, none⟩)), (4, .int .i64 l.q), (5, v5), (6, .pointer (some ⟨g1, 1, none⟩)), (7, .slice A l.ls.length c), (8, .slice A1 l.ls.length c1), (9, .pointer (some ⟨g1, 2, none⟩)), (10, .int .i64 l.k), (11, .pointer (some ⟨g1, 3, none⟩)), (12, .slice B l.cs.length d), (13, .slice B1 l.cs.length d1), (14, .agg #[.int .i64 l.q, .slice A1 l.ls.length c1, .int .i64 l.k, .slice B1 l.cs.length d1])], []⟩ w') :
    (Code.region id #[o0, o1, o2, o3, o4, o5, o6, o7, o8, o9, o10, o11, o12] true).wp Tryz.prog Q ⟨T, []⟩ w := by
  have hg2 : w0.heap.size ≤ g2 := (K.bx ⟨g2, p2, q2, r2, s2⟩ (by simp)).1
  have out2 : ∀ u ∈ bs, u.g ≠ g2 := fun u hu e => (List.pairwise_cons.1 K.nd).1 u hu e.symm
  refine wp_region_any (by kernel_rfl) ?_
  refine wpAny_inv (fun b a w => b.size = 13 ∧ ∃ v5 A1 c1 B1 d1, RownI T l A c B d g1 g2 w0 bs rs v5 A1 c1 B1 d1 (fun k => b.getD k false) a w) ?step ?fin _ _ _ _ ?start ?fuel
  case fuel => simp
  case start =>
    refine ⟨by simp, undef, none, 0, none, 0, ?_⟩
    have no : ∀ k, (Array.replicate (#[o0, o1, o2, o3, o4, o5, o6, o7, o8, o9, o10, o11, o12] : Array Oper).size false).getD k false = true → False := fun k h => by
      simp [Array.getD] at h
    exact { sz := rfl, df := rfl, fr := fun _ _ => rfl, kl := (K.less (by simp) (fun r h => h) (List.Sublist.refl _)).quiet ⟨1, rfl⟩, e2 := ⟨p2, q2, r2, s2, (K.bx ⟨g2, p2, q2, r2, s2⟩ (by simp)).2⟩, f0 := fun h => (no _ h).elim, f1 := fun h => (no _ h).elim, f2 := fun h => (no _ h).elim, f3 := fun h => (no _ h).elim, f4 := fun h => (no _ h).elim, f5 := fun h => (no _ h).elim, f6 := fun h => (no _ h).elim, f7 := fun h => (no _ h).elim, f8 := fun h => (no _ h).elim, f9 := fun h => (no _ h).elim, f10 := fun h => (no _ h).elim, f11 := fun h => (no _ h).elim, f12 := fun h => (no _ h).elim, w5 := fun h => (no _ h).elim, w11 := fun h => (no _ h).elim, w12 := fun h => (no _ h).elim }
  case fin =>
    rintro b a w' ⟨hs, v5, A1, c1, B1, d1, I⟩ hr
    have all : ∀ k, k < 13 → b.getD k false = true := fun k hk => ready_nil down hr hs 13 k hk hk
    have := hend v5 A1 c1 B1 d1 w' I.kl (I.f12 (all 12 (by decide))) ⟨(I.f5 (all 5 (by decide))).2, (I.f10 (all 10 (by decide))).2⟩
    have ea : a = ⟨upds T [(3, .pointer (some ⟨g1, 0, none⟩)), (4, .int .i64 l.q), (5, v5), (6, .pointer (some ⟨g1, 1, none⟩)), (7, .slice A l.ls.length c), (8, .slice A1 l.ls.length c1), (9, .pointer (some ⟨g1, 2, none⟩)), (10, .int .i64 l.k), (11, .pointer (some ⟨g1, 3, none⟩)), (12, .slice B l.cs.length d), (13, .slice B1 l.cs.length d1), (14, .agg #[.int .i64 l.q, .slice A1 l.ls.length c1, .int .i64 l.k, .slice B1 l.cs.length d1])], []⟩ := by
      obtain ⟨tm, df⟩ := a
      have hd : df = [] := I.df
      subst hd
      refine congrArg (fun z => (⟨z, []⟩ : Act)) (frame_eq [(3, .pointer (some ⟨g1, 0, none⟩)), (4, .int .i64 l.q), (5, v5), (6, .pointer (some ⟨g1, 1, none⟩)), (7, .slice A l.ls.length c), (8, .slice A1 l.ls.length c1), (9, .pointer (some ⟨g1, 2, none⟩)), (10, .int .i64 l.k), (11, .pointer (some ⟨g1, 3, none⟩)), (12, .slice B l.cs.length d), (13, .slice B1 l.cs.length d1), (14, .agg #[.int .i64 l.q, .slice A1 l.ls.length c1, .int .i64 l.k, .slice B1 l.cs.length d1])] I.sz ?_ ?_ ?_ I.fr)
      · intro q hq; simp at hq; rcases hq with rfl | rfl | rfl | rfl | rfl | rfl | rfl | rfl | rfl | rfl | rfl | rfl <;> simp <;> omega
      · show ([3, 4, 5, 6, 7, 8, 9, 10, 11, 12, 13, 14] : List Nat).Nodup; decide
      · intro q hq
        simp only [List.mem_cons, List.not_mem_nil, or_false] at hq
        rcases hq with rfl | rfl | rfl | rfl | rfl | rfl | rfl | rfl | rfl | rfl | rfl | rfl
        · exact (I.f0 (all 0 (by decide)))
        · exact (I.f1 (all 1 (by decide)))
        · exact (I.f2 (all 2 (by decide))).1
        · exact (I.f3 (all 3 (by decide)))
        · exact (I.f4 (all 4 (by decide)))
        · exact (I.f5 (all 5 (by decide))).1
        · exact (I.f6 (all 6 (by decide)))
        · exact (I.f7 (all 7 (by decide)))
        · exact (I.f8 (all 8 (by decide)))
        · exact (I.f9 (all 9 (by decide)))
        · exact (I.f10 (all 10 (by decide))).1
        · exact (I.f11 (all 11 (by decide)))
    rw [ea]
    exact this
  case step =>
    rintro b a w' i' ⟨hs, v5, A1, c1, B1, d1, I⟩ hi
    have off := ready_mem hi
    have hlt : i' < 13 := by
      unfold Region.ready at hi
      rw [List.mem_filter] at hi
      exact List.mem_range.1 hi.1
    have off' : b.getD i' false = false := by
      simp only [Array.getD_eq_getD_getElem?] at off ⊢
      rw [Array.getElem?_eq_getElem (by omega)] at off ⊢
      simpa using off
    obtain ⟨hbig, hbx⟩ := I.kl.bx _ hb1
    obtain ⟨⟨k0, k1, k2, k3⟩, -⟩ := hbx.cells
    have rowat := I.kl.at_ hl
    have asz := I.sz
    have g1' : a.eval (.tmp 1) = .pointer (some ⟨g1, 0, none⟩) := (I.fr 1 (by decide)).trans p1
    have g2' : a.eval (.tmp 2) = .pointer (some ⟨g2, 0, none⟩) := (I.fr 2 (by decide)).trans p2'
    have bi : (fun k => (b.setIfInBounds i' true).getD k false) = bitOn (fun k => b.getD k false) i' := bit_set (by omega)
    match i', hlt with
    | 0, _ =>
      refine wpOp_step (o := o0) rfl (fun K' hK => ?_)
      rw [if_pos (by simp [Region.wanted, F0.2.2])]
      refine wp_val (run_field0 F0.1 g1') ?_
      refine hK _ _ ⟨by rw [Array.size_setIfInBounds]; exact hs, v5, A1, c1, B1, d1, ?_⟩
      rw [bi]
      unfold Act.put
      rw [F0.2.1]
      exact { sz := (Array.size_setIfInBounds ..).trans I.sz, df := I.df, fr := fun k hk => (getD_set_ne (fun e => hk (by rw [← e]; decide))).trans (I.fr k hk), kl := I.kl, e2 := I.e2, f0 := fun _ => getD_set_eq (by rw [asz]; omega), f1 := fun h => (getD_set_ne (by decide)).trans (I.f1 (bit_ne h (by decide))), f2 := fun h => ⟨(getD_set_ne (by decide)).trans ((I.f2 (bit_ne h (by decide))).1), fun h5 => (I.f2 (bit_ne h (by decide))).2 (bit_off h5)⟩, f3 := fun h => (getD_set_ne (by decide)).trans (I.f3 (bit_ne h (by decide))), f4 := fun h => (getD_set_ne (by decide)).trans (I.f4 (bit_ne h (by decide))), f5 := fun h => ⟨(getD_set_ne (by decide)).trans ((I.f5 (bit_ne h (by decide))).1), (I.f5 (bit_ne h (by decide))).2⟩, f6 := fun h => (getD_set_ne (by decide)).trans (I.f6 (bit_ne h (by decide))), f7 := fun h => (getD_set_ne (by decide)).trans (I.f7 (bit_ne h (by decide))), f8 := fun h => (getD_set_ne (by decide)).trans (I.f8 (bit_ne h (by decide))), f9 := fun h => (getD_set_ne (by decide)).trans (I.f9 (bit_ne h (by decide))), f10 := fun h => ⟨(getD_set_ne (by decide)).trans ((I.f10 (bit_ne h (by decide))).1), (I.f10 (bit_ne h (by decide))).2⟩, f11 := fun h => (getD_set_ne (by decide)).trans (I.f11 (bit_ne h (by decide))), f12 := fun h => I.f12 (bit_ne h (by decide)), w5 := fun h => bit_on (I.w5 (bit_ne h (by decide))), w11 := fun h => ⟨bit_on (I.w11 (bit_ne h (by decide))).1, bit_on (I.w11 (bit_ne h (by decide))).2⟩, w12 := fun h => bit_on (I.w12 (bit_ne h (by decide))) }
    | 1, _ =>
      refine wpOp_step (o := o1) rfl (fun K' hK => ?_)
      rw [if_pos (by simp [Region.wanted, F1.2.2])]
      have h0 := ready_waits hi rfl D1
      refine wp_val (run_loadI F1.1 (I.f0 h0) k0) ?_
      refine hK _ _ ⟨by rw [Array.size_setIfInBounds]; exact hs, v5, A1, c1, B1, d1, ?_⟩
      rw [bi]
      unfold Act.put
      rw [F1.2.1]
      exact { sz := (Array.size_setIfInBounds ..).trans I.sz, df := I.df, fr := fun k hk => (getD_set_ne (fun e => hk (by rw [← e]; decide))).trans (I.fr k hk), kl := I.kl, e2 := I.e2, f0 := fun h => (getD_set_ne (by decide)).trans (I.f0 (bit_ne h (by decide))), f1 := fun _ => getD_set_eq (by rw [asz]; omega), f2 := fun h => ⟨(getD_set_ne (by decide)).trans ((I.f2 (bit_ne h (by decide))).1), fun h5 => (I.f2 (bit_ne h (by decide))).2 (bit_off h5)⟩, f3 := fun h => (getD_set_ne (by decide)).trans (I.f3 (bit_ne h (by decide))), f4 := fun h => (getD_set_ne (by decide)).trans (I.f4 (bit_ne h (by decide))), f5 := fun h => ⟨(getD_set_ne (by decide)).trans ((I.f5 (bit_ne h (by decide))).1), (I.f5 (bit_ne h (by decide))).2⟩, f6 := fun h => (getD_set_ne (by decide)).trans (I.f6 (bit_ne h (by decide))), f7 := fun h => (getD_set_ne (by decide)).trans (I.f7 (bit_ne h (by decide))), f8 := fun h => (getD_set_ne (by decide)).trans (I.f8 (bit_ne h (by decide))), f9 := fun h => (getD_set_ne (by decide)).trans (I.f9 (bit_ne h (by decide))), f10 := fun h => ⟨(getD_set_ne (by decide)).trans ((I.f10 (bit_ne h (by decide))).1), (I.f10 (bit_ne h (by decide))).2⟩, f11 := fun h => (getD_set_ne (by decide)).trans (I.f11 (bit_ne h (by decide))), f12 := fun h => I.f12 (bit_ne h (by decide)), w5 := fun h => bit_on (I.w5 (bit_ne h (by decide))), w11 := fun h => ⟨bit_on (I.w11 (bit_ne h (by decide))).1, bit_on (I.w11 (bit_ne h (by decide))).2⟩, w12 := fun h => bit_on (I.w12 (bit_ne h (by decide))) }
    | 2, _ =>
      refine wpOp_step (o := o2) rfl (fun K' hK => ?_)
      rw [if_pos (by simp [Region.wanted, F2.2.2])]
      unfold Oper.wp
      rw [run_lit0 F2.1]
      have hbw : Below w'.heap.size w' (w'.alloc (.cells #[] 3)) := (Below.refl _ w').alloc (Nat.le_refl _) _
      refine hK _ _ ⟨by rw [Array.size_setIfInBounds]; exact hs, .slice (some ⟨w'.heap.size, 0, none⟩) 0 0, A1, c1, B1, d1, ?_⟩
      rw [bi]
      unfold Act.put
      rw [F2.2.1]
      exact { sz := (Array.size_setIfInBounds ..).trans I.sz, df := I.df, fr := fun k hk => (getD_set_ne (fun e => hk (by rw [← e]; decide))).trans (I.fr k hk), kl := I.kl.later hbw, e2 := (by obtain ⟨p, q, r, s, h⟩ := I.e2; exact ⟨p, q, r, s, h.later hbw⟩), f0 := fun h => (getD_set_ne (by decide)).trans (I.f0 (bit_ne h (by decide))), f1 := fun h => (getD_set_ne (by decide)).trans (I.f1 (bit_ne h (by decide))), f2 := fun _ => ⟨getD_set_eq (by rw [asz]; omega), fun _ => (own_lit0I w').based I.kl.b.size⟩, f3 := fun h => (getD_set_ne (by decide)).trans (I.f3 (bit_ne h (by decide))), f4 := fun h => (getD_set_ne (by decide)).trans (I.f4 (bit_ne h (by decide))), f5 := fun h => by have z := bit_ne h (by decide); have y2 := I.w5 z; simp [off'] at y2, f6 := fun h => (getD_set_ne (by decide)).trans (I.f6 (bit_ne h (by decide))), f7 := fun h => (getD_set_ne (by decide)).trans (I.f7 (bit_ne h (by decide))), f8 := fun h => (getD_set_ne (by decide)).trans (I.f8 (bit_ne h (by decide))), f9 := fun h => (getD_set_ne (by decide)).trans (I.f9 (bit_ne h (by decide))), f10 := fun h => ⟨(getD_set_ne (by decide)).trans ((I.f10 (bit_ne h (by decide))).1), (I.f10 (bit_ne h (by decide))).2.later hbw⟩, f11 := fun h => by have z := bit_ne h (by decide); have y5 := (I.w11 z).1; have y2 := I.w5 y5; simp [off'] at y2, f12 := fun h => by have z := bit_ne h (by decide); have yb := I.w12 z; have y5 := (I.w11 yb).1; have y2 := I.w5 y5; simp [off'] at y2, w5 := fun h => bit_on (I.w5 (bit_ne h (by decide))), w11 := fun h => ⟨bit_on (I.w11 (bit_ne h (by decide))).1, bit_on (I.w11 (bit_ne h (by decide))).2⟩, w12 := fun h => bit_on (I.w12 (bit_ne h (by decide))) }
    | 3, _ =>
      refine wpOp_step (o := o3) rfl (fun K' hK => ?_)
      rw [if_pos (by simp [Region.wanted, F3.2.2])]
      refine wp_val (run_field1 F3.1 g1') ?_
      refine hK _ _ ⟨by rw [Array.size_setIfInBounds]; exact hs, v5, A1, c1, B1, d1, ?_⟩
      rw [bi]
      unfold Act.put
      rw [F3.2.1]
      exact { sz := (Array.size_setIfInBounds ..).trans I.sz, df := I.df, fr := fun k hk => (getD_set_ne (fun e => hk (by rw [← e]; decide))).trans (I.fr k hk), kl := I.kl, e2 := I.e2, f0 := fun h => (getD_set_ne (by decide)).trans (I.f0 (bit_ne h (by decide))), f1 := fun h => (getD_set_ne (by decide)).trans (I.f1 (bit_ne h (by decide))), f2 := fun h => ⟨(getD_set_ne (by decide)).trans ((I.f2 (bit_ne h (by decide))).1), fun h5 => (I.f2 (bit_ne h (by decide))).2 (bit_off h5)⟩, f3 := fun _ => getD_set_eq (by rw [asz]; omega), f4 := fun h => (getD_set_ne (by decide)).trans (I.f4 (bit_ne h (by decide))), f5 := fun h => ⟨(getD_set_ne (by decide)).trans ((I.f5 (bit_ne h (by decide))).1), (I.f5 (bit_ne h (by decide))).2⟩, f6 := fun h => (getD_set_ne (by decide)).trans (I.f6 (bit_ne h (by decide))), f7 := fun h => (getD_set_ne (by decide)).trans (I.f7 (bit_ne h (by decide))), f8 := fun h => (getD_set_ne (by decide)).trans (I.f8 (bit_ne h (by decide))), f9 := fun h => (getD_set_ne (by decide)).trans (I.f9 (bit_ne h (by decide))), f10 := fun h => ⟨(getD_set_ne (by decide)).trans ((I.f10 (bit_ne h (by decide))).1), (I.f10 (bit_ne h (by decide))).2⟩, f11 := fun h => (getD_set_ne (by decide)).trans (I.f11 (bit_ne h (by decide))), f12 := fun h => I.f12 (bit_ne h (by decide)), w5 := fun h => bit_on (I.w5 (bit_ne h (by decide))), w11 := fun h => ⟨bit_on (I.w11 (bit_ne h (by decide))).1, bit_on (I.w11 (bit_ne h (by decide))).2⟩, w12 := fun h => bit_on (I.w12 (bit_ne h (by decide))) }
    | 4, _ =>
      refine wpOp_step (o := o4) rfl (fun K' hK => ?_)
      rw [if_pos (by simp [Region.wanted, F4.2.2])]
      have h3 := ready_waits hi rfl D4
      refine wp_val (run_loadII F4.1 (I.f3 h3) k1) ?_
      refine hK _ _ ⟨by rw [Array.size_setIfInBounds]; exact hs, v5, A1, c1, B1, d1, ?_⟩
      rw [bi]
      unfold Act.put
      rw [F4.2.1]
      exact { sz := (Array.size_setIfInBounds ..).trans I.sz, df := I.df, fr := fun k hk => (getD_set_ne (fun e => hk (by rw [← e]; decide))).trans (I.fr k hk), kl := I.kl, e2 := I.e2, f0 := fun h => (getD_set_ne (by decide)).trans (I.f0 (bit_ne h (by decide))), f1 := fun h => (getD_set_ne (by decide)).trans (I.f1 (bit_ne h (by decide))), f2 := fun h => ⟨(getD_set_ne (by decide)).trans ((I.f2 (bit_ne h (by decide))).1), fun h5 => (I.f2 (bit_ne h (by decide))).2 (bit_off h5)⟩, f3 := fun h => (getD_set_ne (by decide)).trans (I.f3 (bit_ne h (by decide))), f4 := fun _ => getD_set_eq (by rw [asz]; omega), f5 := fun h => ⟨(getD_set_ne (by decide)).trans ((I.f5 (bit_ne h (by decide))).1), (I.f5 (bit_ne h (by decide))).2⟩, f6 := fun h => (getD_set_ne (by decide)).trans (I.f6 (bit_ne h (by decide))), f7 := fun h => (getD_set_ne (by decide)).trans (I.f7 (bit_ne h (by decide))), f8 := fun h => (getD_set_ne (by decide)).trans (I.f8 (bit_ne h (by decide))), f9 := fun h => (getD_set_ne (by decide)).trans (I.f9 (bit_ne h (by decide))), f10 := fun h => ⟨(getD_set_ne (by decide)).trans ((I.f10 (bit_ne h (by decide))).1), (I.f10 (bit_ne h (by decide))).2⟩, f11 := fun h => (getD_set_ne (by decide)).trans (I.f11 (bit_ne h (by decide))), f12 := fun h => I.f12 (bit_ne h (by decide)), w5 := fun h => bit_on (I.w5 (bit_ne h (by decide))), w11 := fun h => ⟨bit_on (I.w11 (bit_ne h (by decide))).1, bit_on (I.w11 (bit_ne h (by decide))).2⟩, w12 := fun h => bit_on (I.w12 (bit_ne h (by decide))) }
    | 5, _ =>
      refine wpOp_step (o := o5) rfl (fun K' hK => ?_)
      rw [if_pos (by simp [Region.wanted, F5.2.2])]
      have h2 := ready_waits hi rfl D5.1
      have h4 := ready_waits hi rfl D5.2
      obtain ⟨hv5, hown⟩ := I.f2 h2
      have hown := hown off'
      obtain ⟨v', W2, hr, ho2, hg, _⟩ := run_append_slice Tryz.okI 43 o5.type Tryz.underlying43 w' w0.heap.size v5 ([] : List Int) hown w'.heap.size A l.ls c rowat.ls (by simp; omega) I.kl.b.size
      obtain ⟨A9, n9, c9, rfl, hn9⟩ := ho2.shape
      have hn9 : n9 = l.ls.length := hn9.out.trans (by simp)
      subst hn9
      rw [List.nil_append] at ho2
      refine Lib.wp_append_run w' (.tmp 5) (.tmp 7) 43 43 F5.1 _ _ hv5 (I.f4 h4) _ W2 hr ?_
      refine hK _ _ ⟨by rw [Array.size_setIfInBounds]; exact hs, v5, A9, c9, B1, d1, ?_⟩
      rw [bi]
      unfold Act.put
      rw [F5.2.1]
      exact { sz := (Array.size_setIfInBounds ..).trans I.sz, df := I.df, fr := fun k hk => (getD_set_ne (fun e => hk (by rw [← e]; decide))).trans (I.fr k hk), kl := I.kl.grownI hown hg hrs, e2 := (by obtain ⟨p, q, r, s, h⟩ := I.e2; exact ⟨p, q, r, s, h.grownI hown hg⟩), f0 := fun h => (getD_set_ne (by decide)).trans (I.f0 (bit_ne h (by decide))), f1 := fun h => (getD_set_ne (by decide)).trans (I.f1 (bit_ne h (by decide))), f2 := fun h => ⟨(getD_set_ne (by decide)).trans (I.f2 (bit_ne h (by decide))).1, fun h5 => by simp [bitOn] at h5⟩, f3 := fun h => (getD_set_ne (by decide)).trans (I.f3 (bit_ne h (by decide))), f4 := fun h => (getD_set_ne (by decide)).trans (I.f4 (bit_ne h (by decide))), f5 := fun _ => ⟨getD_set_eq (by rw [asz]; omega), ho2⟩, f6 := fun h => (getD_set_ne (by decide)).trans (I.f6 (bit_ne h (by decide))), f7 := fun h => (getD_set_ne (by decide)).trans (I.f7 (bit_ne h (by decide))), f8 := fun h => (getD_set_ne (by decide)).trans (I.f8 (bit_ne h (by decide))), f9 := fun h => (getD_set_ne (by decide)).trans (I.f9 (bit_ne h (by decide))), f10 := fun h => ⟨(getD_set_ne (by decide)).trans (I.f10 (bit_ne h (by decide))).1, Own.grownC hown hg (I.f10 (bit_ne h (by decide))).2⟩, f11 := fun h => by have z := bit_ne h (by decide); have y5 := (I.w11 z).1; simp [off'] at y5, f12 := fun h => by have z := bit_ne h (by decide); have yb := I.w12 z; have y5 := (I.w11 yb).1; simp [off'] at y5, w5 := fun _ => bit_on h2, w11 := fun h => ⟨bit_on (I.w11 (bit_ne h (by decide))).1, bit_on (I.w11 (bit_ne h (by decide))).2⟩, w12 := fun h => bit_on (I.w12 (bit_ne h (by decide))) }
    | 6, _ =>
      refine wpOp_step (o := o6) rfl (fun K' hK => ?_)
      rw [if_pos (by simp [Region.wanted, F6.2.2])]
      refine wp_val (run_field2 F6.1 g1') ?_
      refine hK _ _ ⟨by rw [Array.size_setIfInBounds]; exact hs, v5, A1, c1, B1, d1, ?_⟩
      rw [bi]
      unfold Act.put
      rw [F6.2.1]
      exact { sz := (Array.size_setIfInBounds ..).trans I.sz, df := I.df, fr := fun k hk => (getD_set_ne (fun e => hk (by rw [← e]; decide))).trans (I.fr k hk), kl := I.kl, e2 := I.e2, f0 := fun h => (getD_set_ne (by decide)).trans (I.f0 (bit_ne h (by decide))), f1 := fun h => (getD_set_ne (by decide)).trans (I.f1 (bit_ne h (by decide))), f2 := fun h => ⟨(getD_set_ne (by decide)).trans ((I.f2 (bit_ne h (by decide))).1), fun h5 => (I.f2 (bit_ne h (by decide))).2 (bit_off h5)⟩, f3 := fun h => (getD_set_ne (by decide)).trans (I.f3 (bit_ne h (by decide))), f4 := fun h => (getD_set_ne (by decide)).trans (I.f4 (bit_ne h (by decide))), f5 := fun h => ⟨(getD_set_ne (by decide)).trans ((I.f5 (bit_ne h (by decide))).1), (I.f5 (bit_ne h (by decide))).2⟩, f6 := fun _ => getD_set_eq (by rw [asz]; omega), f7 := fun h => (getD_set_ne (by decide)).trans (I.f7 (bit_ne h (by decide))), f8 := fun h => (getD_set_ne (by decide)).trans (I.f8 (bit_ne h (by decide))), f9 := fun h => (getD_set_ne (by decide)).trans (I.f9 (bit_ne h (by decide))), f10 := fun h => ⟨(getD_set_ne (by decide)).trans ((I.f10 (bit_ne h (by decide))).1), (I.f10 (bit_ne h (by decide))).2⟩, f11 := fun h => (getD_set_ne (by decide)).trans (I.f11 (bit_ne h (by decide))), f12 := fun h => I.f12 (bit_ne h (by decide)), w5 := fun h => bit_on (I.w5 (bit_ne h (by decide))), w11 := fun h => ⟨bit_on (I.w11 (bit_ne h (by decide))).1, bit_on (I.w11 (bit_ne h (by decide))).2⟩, w12 := fun h => bit_on (I.w12 (bit_ne h (by decide))) }
    | 7, _ =>
      refine wpOp_step (o := o7) rfl (fun K' hK => ?_)
      rw [if_pos (by simp [Region.wanted, F7.2.2])]
      have h6 := ready_waits hi rfl D7
      refine wp_val (run_loadI F7.1 (I.f6 h6) k2) ?_
      refine hK _ _ ⟨by rw [Array.size_setIfInBounds]; exact hs, v5, A1, c1, B1, d1, ?_⟩
      rw [bi]
      unfold Act.put
      rw [F7.2.1]
      exact { sz := (Array.size_setIfInBounds ..).trans I.sz, df := I.df, fr := fun k hk => (getD_set_ne (fun e => hk (by rw [← e]; decide))).trans (I.fr k hk), kl := I.kl, e2 := I.e2, f0 := fun h => (getD_set_ne (by decide)).trans (I.f0 (bit_ne h (by decide))), f1 := fun h => (getD_set_ne (by decide)).trans (I.f1 (bit_ne h (by decide))), f2 := fun h => ⟨(getD_set_ne (by decide)).trans ((I.f2 (bit_ne h (by decide))).1), fun h5 => (I.f2 (bit_ne h (by decide))).2 (bit_off h5)⟩, f3 := fun h => (getD_set_ne (by decide)).trans (I.f3 (bit_ne h (by decide))), f4 := fun h => (getD_set_ne (by decide)).trans (I.f4 (bit_ne h (by decide))), f5 := fun h => ⟨(getD_set_ne (by decide)).trans ((I.f5 (bit_ne h (by decide))).1), (I.f5 (bit_ne h (by decide))).2⟩, f6 := fun h => (getD_set_ne (by decide)).trans (I.f6 (bit_ne h (by decide))), f7 := fun _ => getD_set_eq (by rw [asz]; omega), f8 := fun h => (getD_set_ne (by decide)).trans (I.f8 (bit_ne h (by decide))), f9 := fun h => (getD_set_ne (by decide)).trans (I.f9 (bit_ne h (by decide))), f10 := fun h => ⟨(getD_set_ne (by decide)).trans ((I.f10 (bit_ne h (by decide))).1), (I.f10 (bit_ne h (by decide))).2⟩, f11 := fun h => (getD_set_ne (by decide)).trans (I.f11 (bit_ne h (by decide))), f12 := fun h => I.f12 (bit_ne h (by decide)), w5 := fun h => bit_on (I.w5 (bit_ne h (by decide))), w11 := fun h => ⟨bit_on (I.w11 (bit_ne h (by decide))).1, bit_on (I.w11 (bit_ne h (by decide))).2⟩, w12 := fun h => bit_on (I.w12 (bit_ne h (by decide))) }
    | 8, _ =>
      refine wpOp_step (o := o8) rfl (fun K' hK => ?_)
      rw [if_pos (by simp [Region.wanted, F8.2.2])]
      refine wp_val (run_field3 F8.1 g1') ?_
      refine hK _ _ ⟨by rw [Array.size_setIfInBounds]; exact hs, v5, A1, c1, B1, d1, ?_⟩
      rw [bi]
      unfold Act.put
      rw [F8.2.1]
      exact { sz := (Array.size_setIfInBounds ..).trans I.sz, df := I.df, fr := fun k hk => (getD_set_ne (fun e => hk (by rw [← e]; decide))).trans (I.fr k hk), kl := I.kl, e2 := I.e2, f0 := fun h => (getD_set_ne (by decide)).trans (I.f0 (bit_ne h (by decide))), f1 := fun h => (getD_set_ne (by decide)).trans (I.f1 (bit_ne h (by decide))), f2 := fun h => ⟨(getD_set_ne (by decide)).trans ((I.f2 (bit_ne h (by decide))).1), fun h5 => (I.f2 (bit_ne h (by decide))).2 (bit_off h5)⟩, f3 := fun h => (getD_set_ne (by decide)).trans (I.f3 (bit_ne h (by decide))), f4 := fun h => (getD_set_ne (by decide)).trans (I.f4 (bit_ne h (by decide))), f5 := fun h => ⟨(getD_set_ne (by decide)).trans ((I.f5 (bit_ne h (by decide))).1), (I.f5 (bit_ne h (by decide))).2⟩, f6 := fun h => (getD_set_ne (by decide)).trans (I.f6 (bit_ne h (by decide))), f7 := fun h => (getD_set_ne (by decide)).trans (I.f7 (bit_ne h (by decide))), f8 := fun _ => getD_set_eq (by rw [asz]; omega), f9 := fun h => (getD_set_ne (by decide)).trans (I.f9 (bit_ne h (by decide))), f10 := fun h => ⟨(getD_set_ne (by decide)).trans ((I.f10 (bit_ne h (by decide))).1), (I.f10 (bit_ne h (by decide))).2⟩, f11 := fun h => (getD_set_ne (by decide)).trans (I.f11 (bit_ne h (by decide))), f12 := fun h => I.f12 (bit_ne h (by decide)), w5 := fun h => bit_on (I.w5 (bit_ne h (by decide))), w11 := fun h => ⟨bit_on (I.w11 (bit_ne h (by decide))).1, bit_on (I.w11 (bit_ne h (by decide))).2⟩, w12 := fun h => bit_on (I.w12 (bit_ne h (by decide))) }
    | 9, _ =>
      refine wpOp_step (o := o9) rfl (fun K' hK => ?_)
      rw [if_pos (by simp [Region.wanted, F9.2.2])]
      have h8 := ready_waits hi rfl D9
      refine wp_val (run_loadCC F9.1 (I.f8 h8) k3) ?_
      refine hK _ _ ⟨by rw [Array.size_setIfInBounds]; exact hs, v5, A1, c1, B1, d1, ?_⟩
      rw [bi]
      unfold Act.put
      rw [F9.2.1]
      exact { sz := (Array.size_setIfInBounds ..).trans I.sz, df := I.df, fr := fun k hk => (getD_set_ne (fun e => hk (by rw [← e]; decide))).trans (I.fr k hk), kl := I.kl, e2 := I.e2, f0 := fun h => (getD_set_ne (by decide)).trans (I.f0 (bit_ne h (by decide))), f1 := fun h => (getD_set_ne (by decide)).trans (I.f1 (bit_ne h (by decide))), f2 := fun h => ⟨(getD_set_ne (by decide)).trans ((I.f2 (bit_ne h (by decide))).1), fun h5 => (I.f2 (bit_ne h (by decide))).2 (bit_off h5)⟩, f3 := fun h => (getD_set_ne (by decide)).trans (I.f3 (bit_ne h (by decide))), f4 := fun h => (getD_set_ne (by decide)).trans (I.f4 (bit_ne h (by decide))), f5 := fun h => ⟨(getD_set_ne (by decide)).trans ((I.f5 (bit_ne h (by decide))).1), (I.f5 (bit_ne h (by decide))).2⟩, f6 := fun h => (getD_set_ne (by decide)).trans (I.f6 (bit_ne h (by decide))), f7 := fun h => (getD_set_ne (by decide)).trans (I.f7 (bit_ne h (by decide))), f8 := fun h => (getD_set_ne (by decide)).trans (I.f8 (bit_ne h (by decide))), f9 := fun _ => getD_set_eq (by rw [asz]; omega), f10 := fun h => ⟨(getD_set_ne (by decide)).trans ((I.f10 (bit_ne h (by decide))).1), (I.f10 (bit_ne h (by decide))).2⟩, f11 := fun h => (getD_set_ne (by decide)).trans (I.f11 (bit_ne h (by decide))), f12 := fun h => I.f12 (bit_ne h (by decide)), w5 := fun h => bit_on (I.w5 (bit_ne h (by decide))), w11 := fun h => ⟨bit_on (I.w11 (bit_ne h (by decide))).1, bit_on (I.w11 (bit_ne h (by decide))).2⟩, w12 := fun h => bit_on (I.w12 (bit_ne h (by decide))) }
    | 10, _ =>
      refine wpOp_step (o := o10) rfl (fun K' hK => ?_)
      rw [if_pos (by simp [Region.wanted, F10.2.2])]
      have h9'' := ready_waits hi rfl D10
      refine Tryz.wp_callL f 12 _ F10.1 (v := .slice B l.cs.length d) (I.f9 h9'') H (C w' rowat.cs) ?_
      rintro e W2 ⟨v, rfl, ho, hbw⟩
      obtain ⟨B9, n9, d9, rfl, hn9⟩ := ho.shape
      have hn9 : n9 = l.cs.length := hn9.out
      subst hn9
      refine ⟨_, rfl, ?_⟩
      refine hK _ _ ⟨by rw [Array.size_setIfInBounds]; exact hs, v5, A1, c1, B9, d9, ?_⟩
      rw [bi]
      unfold Act.put
      rw [F10.2.1]
      exact { sz := (Array.size_setIfInBounds ..).trans I.sz, df := I.df, fr := fun k hk => (getD_set_ne (fun e => hk (by rw [← e]; decide))).trans (I.fr k hk), kl := I.kl.later hbw, e2 := (by obtain ⟨p, q, r, s, h⟩ := I.e2; exact ⟨p, q, r, s, h.later hbw⟩), f0 := fun h => (getD_set_ne (by decide)).trans (I.f0 (bit_ne h (by decide))), f1 := fun h => (getD_set_ne (by decide)).trans (I.f1 (bit_ne h (by decide))), f2 := fun h => ⟨(getD_set_ne (by decide)).trans ((I.f2 (bit_ne h (by decide))).1), fun h5 => ((I.f2 (bit_ne h (by decide))).2 (bit_off h5)).later hbw⟩, f3 := fun h => (getD_set_ne (by decide)).trans (I.f3 (bit_ne h (by decide))), f4 := fun h => (getD_set_ne (by decide)).trans (I.f4 (bit_ne h (by decide))), f5 := fun h => ⟨(getD_set_ne (by decide)).trans ((I.f5 (bit_ne h (by decide))).1), (I.f5 (bit_ne h (by decide))).2.later hbw⟩, f6 := fun h => (getD_set_ne (by decide)).trans (I.f6 (bit_ne h (by decide))), f7 := fun h => (getD_set_ne (by decide)).trans (I.f7 (bit_ne h (by decide))), f8 := fun h => (getD_set_ne (by decide)).trans (I.f8 (bit_ne h (by decide))), f9 := fun h => (getD_set_ne (by decide)).trans (I.f9 (bit_ne h (by decide))), f10 := fun _ => ⟨getD_set_eq (by rw [asz]; omega), ho.based I.kl.b.size⟩, f11 := fun h => by have z := bit_ne h (by decide); have y10 := (I.w11 z).2; simp [off'] at y10, f12 := fun h => by have z := bit_ne h (by decide); have y11 := I.w12 z; have y10 := (I.w11 y11).2; simp [off'] at y10, w5 := fun h => bit_on (I.w5 (bit_ne h (by decide))), w11 := fun h => ⟨bit_on (I.w11 (bit_ne h (by decide))).1, bit_on (I.w11 (bit_ne h (by decide))).2⟩, w12 := fun h => bit_on (I.w12 (bit_ne h (by decide))) }
    | 11, _ =>
      refine wpOp_step (o := o11) rfl (fun K' hK => ?_)
      rw [if_pos (by simp [Region.wanted, F11.2.2])]
      have h1 := ready_waits hi rfl D11.1
      have h5 := ready_waits hi rfl D11.2.1
      have h7 := ready_waits hi rfl D11.2.2.1
      have h10 := ready_waits hi rfl D11.2.2.2
      refine wp_val (run_build4 F11.1 (I.f1 h1) (I.f5 h5).1 (I.f7 h7) (I.f10 h10).1) ?_
      refine hK _ _ ⟨by rw [Array.size_setIfInBounds]; exact hs, v5, A1, c1, B1, d1, ?_⟩
      rw [bi]
      unfold Act.put
      rw [F11.2.1]
      exact { sz := (Array.size_setIfInBounds ..).trans I.sz, df := I.df, fr := fun k hk => (getD_set_ne (fun e => hk (by rw [← e]; decide))).trans (I.fr k hk), kl := I.kl, e2 := I.e2, f0 := fun h => (getD_set_ne (by decide)).trans (I.f0 (bit_ne h (by decide))), f1 := fun h => (getD_set_ne (by decide)).trans (I.f1 (bit_ne h (by decide))), f2 := fun h => ⟨(getD_set_ne (by decide)).trans ((I.f2 (bit_ne h (by decide))).1), fun h5 => (I.f2 (bit_ne h (by decide))).2 (bit_off h5)⟩, f3 := fun h => (getD_set_ne (by decide)).trans (I.f3 (bit_ne h (by decide))), f4 := fun h => (getD_set_ne (by decide)).trans (I.f4 (bit_ne h (by decide))), f5 := fun h => ⟨(getD_set_ne (by decide)).trans ((I.f5 (bit_ne h (by decide))).1), (I.f5 (bit_ne h (by decide))).2⟩, f6 := fun h => (getD_set_ne (by decide)).trans (I.f6 (bit_ne h (by decide))), f7 := fun h => (getD_set_ne (by decide)).trans (I.f7 (bit_ne h (by decide))), f8 := fun h => (getD_set_ne (by decide)).trans (I.f8 (bit_ne h (by decide))), f9 := fun h => (getD_set_ne (by decide)).trans (I.f9 (bit_ne h (by decide))), f10 := fun h => ⟨(getD_set_ne (by decide)).trans ((I.f10 (bit_ne h (by decide))).1), (I.f10 (bit_ne h (by decide))).2⟩, f11 := fun _ => getD_set_eq (by rw [asz]; omega), f12 := fun h => I.f12 (bit_ne h (by decide)), w5 := fun h => bit_on (I.w5 (bit_ne h (by decide))), w11 := fun _ => ⟨bit_on h5, bit_on h10⟩, w12 := fun h => bit_on (I.w12 (bit_ne h (by decide))) }
    | 12, _ =>
      refine wpOp_step (o := o12) rfl (fun K' hK => ?_)
      rw [if_pos (by simp [Region.wanted, F12.2.2])]
      have h11 := ready_waits hi rfl D12
      obtain ⟨p, q, r, s, hb⟩ := I.e2
      refine Tryz.wp_storeL (.tmp 2) (.tmp 14) F12.1 g2' (I.f11 h11) ⟨rfl, rfl, rfl, rfl⟩ hb (fun W2 og hx => ?_)
      refine hK _ _ ⟨by rw [Array.size_setIfInBounds]; exact hs, v5, A1, c1, B1, d1, ?_⟩
      rw [bi]
      unfold Act.put
      rw [F12.2.1]
      exact { sz := I.sz, df := I.df, fr := fun k hk => I.fr k hk, kl := I.kl.setOut hg2 og hb out2, e2 := ⟨_, _, _, _, hx⟩, f0 := fun h => I.f0 (bit_ne h (by decide)), f1 := fun h => I.f1 (bit_ne h (by decide)), f2 := fun h => ⟨(I.f2 (bit_ne h (by decide))).1, fun h5 => og.own hb (by decide) ((I.f2 (bit_ne h (by decide))).2 (bit_off h5))⟩, f3 := fun h => I.f3 (bit_ne h (by decide)), f4 := fun h => I.f4 (bit_ne h (by decide)), f5 := fun h => ⟨(I.f5 (bit_ne h (by decide))).1, og.own hb (by decide) (I.f5 (bit_ne h (by decide))).2⟩, f6 := fun h => I.f6 (bit_ne h (by decide)), f7 := fun h => I.f7 (bit_ne h (by decide)), f8 := fun h => I.f8 (bit_ne h (by decide)), f9 := fun h => I.f9 (bit_ne h (by decide)), f10 := fun h => ⟨(I.f10 (bit_ne h (by decide))).1, og.own hb (by decide) (I.f10 (bit_ne h (by decide))).2⟩, f11 := fun h => I.f11 (bit_ne h (by decide)), f12 := fun _ => hx, w5 := fun h => bit_on (I.w5 (bit_ne h (by decide))), w11 := fun h => ⟨bit_on (I.w11 (bit_ne h (by decide))).1, bit_on (I.w11 (bit_ne h (by decide))).2⟩, w12 := fun _ => bit_on h11 }
end
set_option maxRecDepth 100000 in
set_option maxHeartbeats 8000000 in
theorem refLOwn_any (l : Ln) (A : Option Addr) (n c : Nat) (B : Option Addr) (m d C : Nat) (hn : n = l.ls.length) (hm : m = l.cs.length) (w : World) (hl : LnAt w C l A B) (h1 : l.ls.length ≤ 1000000000) (h2 : l.cs.length ≤ 1000000000) :
    Calls Tryz.prog 43 #[.agg #[.int .i64 l.q, .slice A n c, .int .i64 l.k, .slice B m d]] w (RetLnO l w) := by
  subst hn hm
  have B9 := hid h1
  have C9 := hid h2
  have RS : Hid (∀ r ∈ [(⟨l, A, B⟩ : RowL)], LnAt w w.heap.size r.l r.A r.B) := hid (by simpa using hl.live)
  have K := hid (KL.start w [⟨l, A, B⟩] RS.out)
  clear hl h1 h2
  go_enter Tryz.func43, Tryz.ntmps43
  go_upto_region 1 with (first
    | ((with_reducible show wpList _ _ _ _ _ _); refine Tryz.klBox (by rfl) _ (by rfl) (some 1) (by rfl) (by rfl) K ?_; intro g1 V1 K1; clear K; (have K := K1); clear K1)
    | ((with_reducible show wpList _ _ _ _ _ _); refine Tryz.klAlloc (by rfl) (by rfl) (some 2) (by rfl) K ?_; intro g2 V1 K1; clear K; (have K := K1); clear K1))
  simp only [Act.put, List.setIfInBounds_toArray, List.set_cons_succ, List.set_cons_zero]
  refine Tryz.rown_reg (l := l) (A := A) (c := c) (B := B) (d := d) (g1 := g1) (g2 := g2) ⟨rfl, rfl, rfl⟩ ⟨rfl, rfl, rfl⟩ ⟨rfl, rfl, rfl⟩ ⟨rfl, rfl, rfl⟩ ⟨rfl, rfl, rfl⟩ ⟨rfl, rfl, rfl⟩ ⟨rfl, rfl, rfl⟩ ⟨rfl, rfl, rfl⟩ ⟨rfl, rfl, rfl⟩ ⟨rfl, rfl, rfl⟩ ⟨rfl, rfl, rfl⟩ ⟨rfl, rfl, rfl⟩ ⟨rfl, rfl, rfl⟩ (by decide +kernel) (by decide +kernel) (by decide +kernel) (by decide +kernel) (by decide +kernel) (by decide +kernel) (by decide +kernel) (by decide +kernel) (by decide +kernel) (by simp) rfl rfl K.out (by simp) (by simp) RS.out B9.out (fun W h => (refOwn_any B l.cs _ d _ rfl W h C9.out).mono fun e w' h => h) (fun _ _ => by kernel_rfl) ?_
  intro v5 A1 c1 B1 d1 V K1 b2 ow
  simp only [upds, List.foldl_cons, List.foldl_nil, List.setIfInBounds_toArray, List.set_cons_succ, List.set_cons_zero]
  repeat go_step
  (try simp only [Exit.inBlock, Exit.then])
  refine Tryz.ret_line Tryz.results43 rfl g2 _ _ _ _ rfl b2 ?_
  exact ⟨A1, c1, B1, d1, rfl, ow, K1.b⟩
end Go.Proofs.YtblbfoniimnkcaaGreatDoor
