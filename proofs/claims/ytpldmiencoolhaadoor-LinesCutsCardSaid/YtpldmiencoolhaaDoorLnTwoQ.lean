/- The law of 'was, own := Own(l), Own(m)' on lines, for all its orders. (Printed by wip/lntwoq.py.) -/
import Derived.Test.YtpldmiencoolhaaDoorLnRun
namespace Go.Proofs.YtpldmiencoolhaaDoor
open Go.RowKit Go.Lib Go.Great

structure TwoQI (T : Array Value) (l : Ln) (A : Option Addr) (c : Nat) (B : Option Addr) (d : Nat) (r : Ln) (A' : Option Addr) (c' : Nat) (B' : Option Addr) (d' : Nat) (w0 : World) (bs : List BoxR) (rs : List RowL) (A1 : Option Addr) (c1 : Nat) (B1 : Option Addr) (d1 : Nat) (A2 : Option Addr) (c2 : Nat) (B2 : Option Addr) (d2 : Nat) (x y : BoxR) (b : Nat → Bool) (a : Act) (w : World) : Prop where
  sz : a.tmps.size = T.size
  df : a.defers = []
  fr : ∀ k, k ∉ [26, 27, 28, 29, 7, 8] → a.tmps.getD k undef = T.getD k undef
  kl : KL w0 w bs rs []
  f0 : b 0 = true → a.tmps.getD 26 undef = .agg #[.int .i64 l.q, .slice A l.ls.length c, .int .i64 l.k, .slice B l.cs.length d]
  f1 : b 1 = true → a.tmps.getD 27 undef = lnV l A1 c1 B1 d1 ∧ LnOw w w0.heap.size l A1 c1 B1 d1
  f2 : b 2 = true → a.tmps.getD 28 undef = .agg #[.int .i64 r.q, .slice A' r.ls.length c', .int .i64 r.k, .slice B' r.cs.length d']
  f3 : b 3 = true → a.tmps.getD 29 undef = lnV r A2 c2 B2 d2 ∧ LnOw w w0.heap.size r A2 c2 B2 d2
  ap : b 1 = true → b 3 = true → ∀ g j, RL l A1 B1 g j → ¬ RL r A2 B2 g j
  f4 : b 4 = true → a.tmps.getD 7 undef = .pointer (some ⟨x.g, 0, none⟩) ∧ w0.heap.size ≤ x.g ∧ (∀ t ∈ bs, t.g ≠ x.g) ∧ Bx w x.g x.a x.b x.c x.d
  f5 : b 5 = true → a.tmps.getD 8 undef = .pointer (some ⟨y.g, 0, none⟩) ∧ w0.heap.size ≤ y.g ∧ (∀ t ∈ bs, t.g ≠ y.g) ∧ Bx w y.g y.a y.b y.c y.d
  ne : b 4 = true → b 5 = true → x.g ≠ y.g
  f6 : b 6 = true → x = ⟨x.g, .int .i64 l.q, .slice A1 l.ls.length c1, .int .i64 l.k, .slice B1 l.cs.length d1⟩
  f7 : b 7 = true → y = ⟨y.g, .int .i64 r.q, .slice A2 r.ls.length c2, .int .i64 r.k, .slice B2 r.cs.length d2⟩
  w6 : b 6 = true → b 1 = true ∧ b 4 = true
  w7 : b 7 = true → b 3 = true ∧ b 5 = true
section
variable {o0 o1 o2 o3 o4 o5 o6 o7 : Oper}
set_option maxHeartbeats 4000000 in
theorem Tryd.own2_reg {id : Nat} {Q : Exit → Act → World → Prop} {T : Array Value} {l : Ln} {A : Option Addr} {c : Nat} {B : Option Addr} {d : Nat} {r : Ln} {A' : Option Addr} {c' : Nat} {B' : Option Addr} {d' g1 g2 : Nat} {w0 w : World} {bs : List BoxR} {rs : List RowL} {f : FuncId} {ts : Array TypeId}
    (F0 : o0.op = .load 25 (.tmp 3) ∧ o0.dst = some 26 ∧ o0.guard = none)
    (F1 : o1.op = .call { callee := .value (.func f), args := #[.tmp 26], argTypes := ts } ∧ o1.dst = some 27 ∧ o1.guard = none)
    (F2 : o2.op = .load 25 (.tmp 4) ∧ o2.dst = some 28 ∧ o2.guard = none)
    (F3 : o3.op = .call { callee := .value (.func f), args := #[.tmp 28], argTypes := ts } ∧ o3.dst = some 29 ∧ o3.guard = none)
    (F4 : o4.op = .alloc 25 ∧ o4.dst = some 7 ∧ o4.guard = none)
    (F5 : o5.op = .alloc 25 ∧ o5.dst = some 8 ∧ o5.guard = none)
    (F6 : o6.op = .store 25 (.tmp 7) (.tmp 27) ∧ o6.dst = none ∧ o6.guard = none)
    (F7 : o7.op = .store 25 (.tmp 8) (.tmp 29) ∧ o7.dst = none ∧ o7.guard = none)
    (D1 : dep13 o1 0 = true)
    (D3 : dep13 o3 2 = true)
    (D6 : dep13 o6 1 = true ∧ dep13 o6 4 = true)
    (D7 : dep13 o7 3 = true ∧ dep13 o7 5 = true)
    (down : edgesDown #[o0, o1, o2, o3, o4, o5, o6, o7] = true) (hsz : 29 < T.size) (p3 : T.getD 3 undef = .pointer (some ⟨g1, 0, none⟩)) (p4 : T.getD 4 undef = .pointer (some ⟨g2, 0, none⟩))
    (K : KL w0 w bs rs []) (hb1 : (⟨g1, .int .i64 l.q, .slice A l.ls.length c, .int .i64 l.k, .slice B l.cs.length d⟩ : BoxR) ∈ bs) (hb2 : (⟨g2, .int .i64 r.q, .slice A' r.ls.length c', .int .i64 r.k, .slice B' r.cs.length d'⟩ : BoxR) ∈ bs) (hl : (⟨l, A, B⟩ : RowL) ∈ rs) (hr : (⟨r, A', B'⟩ : RowL) ∈ rs)
    (C1 : ∀ W, LnAt W W.heap.size l A B → Calls Tryd.prog f #[.agg #[.int .i64 l.q, .slice A l.ls.length c, .int .i64 l.k, .slice B l.cs.length d]] W (RetLnO l W)) (C2 : ∀ W, LnAt W W.heap.size r A' B' → Calls Tryd.prog f #[.agg #[.int .i64 r.q, .slice A' r.ls.length c', .int .i64 r.k, .slice B' r.cs.length d']] W (RetLnO r W)) (H : ∀ v w, (callFunc f #[v]).run Tryd.prog w = .ok (.enter f #[v]) w)
    (hend : ∀ A1 c1 B1 d1 A2 c2 B2 d2 (x y : BoxR) w', KL w0 w' (⟨y.g, .int .i64 r.q, .slice A2 r.ls.length c2, .int .i64 r.k, .slice B2 r.cs.length d2⟩ :: ⟨x.g, .int .i64 l.q, .slice A1 l.ls.length c1, .int .i64 l.k, .slice B1 l.cs.length d1⟩ :: bs) rs [] → LnOw w' w0.heap.size l A1 c1 B1 d1 → LnOw w' w0.heap.size r A2 c2 B2 d2 → (∀ g j, RL l A1 B1 g j → ¬ RL r A2 B2 g j) → Q .normal ⟨upds T [(26, .agg #[.int .i64 l.q, .slice A l.ls.length c, .int .i64 l.k, .slice B l.cs.length d]), (27, lnV l A1 c1 B1 d1), (28, .agg #[.int .i64 r.q, .slice A' r.ls.length c', .int .i64 r.k, .slice B' r.cs.length d']), (29, lnV r A2 c2 B2 d2), (7, .pointer (some ⟨x.g, 0, none⟩)), (8, .pointer (some ⟨y.g, 0, none⟩))], []⟩ w') :
    (Code.region id #[o0, o1, o2, o3, o4, o5, o6, o7] true).wp Tryd.prog Q ⟨T, []⟩ w := by
  refine wp_region_any (by kernel_rfl) ?_
  refine wpAny_inv (fun b a w => b.size = 8 ∧ ∃ A1 c1 B1 d1 A2 c2 B2 d2 x y, TwoQI T l A c B d r A' c' B' d' w0 bs rs A1 c1 B1 d1 A2 c2 B2 d2 x y (fun k => b.getD k false) a w) ?step ?fin _ _ _ _ ?start ?fuel
  case fuel => simp
  case start =>
    refine ⟨by simp, none, 0, none, 0, none, 0, none, 0, ⟨0, undef, undef, undef, undef⟩, ⟨0, undef, undef, undef, undef⟩, ?_⟩
    have no : ∀ k, (Array.replicate (#[o0, o1, o2, o3, o4, o5, o6, o7] : Array Oper).size false).getD k false = true → False := fun k h => by
      simp [Array.getD] at h
    exact { sz := rfl, df := rfl, fr := fun _ _ => rfl, kl := K.quiet ⟨1, rfl⟩, ap := fun h => (no _ h).elim, ne := fun h => (no _ h).elim, f0 := fun h => (no _ h).elim, f1 := fun h => (no _ h).elim, f2 := fun h => (no _ h).elim, f3 := fun h => (no _ h).elim, f4 := fun h => (no _ h).elim, f5 := fun h => (no _ h).elim, f6 := fun h => (no _ h).elim, f7 := fun h => (no _ h).elim, w6 := fun h => (no _ h).elim, w7 := fun h => (no _ h).elim }
  case fin =>
    rintro b a w' ⟨hs, A1, c1, B1, d1, A2, c2, B2, d2, x, y, I⟩ hr'
    have all : ∀ k, k < 8 → b.getD k false = true := fun k hk => ready_nil down hr' hs 8 k hk hk
    obtain ⟨q4, q4a, q4b, q4c⟩ := (I.f4 (all 4 (by decide)))
    obtain ⟨q5, q5a, q5b, q5c⟩ := (I.f5 (all 5 (by decide)))
    have e6 := (I.f6 (all 6 (by decide)))
    have e7 := (I.f7 (all 7 (by decide)))
    have ne := I.ne (all 4 (by decide)) (all 5 (by decide))
    have K2 := (I.kl.push (t := x) q4a q4c q4b).push (t := y) q5a q5c (fun u hu => by
      rcases List.mem_cons.1 hu with rfl | hu
      · exact ne
      · exact q5b u hu)
    have K3 : KL w0 w' (⟨y.g, .int .i64 r.q, .slice A2 r.ls.length c2, .int .i64 r.k, .slice B2 r.cs.length d2⟩ :: ⟨x.g, .int .i64 l.q, .slice A1 l.ls.length c1, .int .i64 l.k, .slice B1 l.cs.length d1⟩ :: bs) rs [] := by rw [← e6, ← e7]; exact K2
    have := hend A1 c1 B1 d1 A2 c2 B2 d2 x y w' K3 (I.f1 (all 1 (by decide))).2 (I.f3 (all 3 (by decide))).2 (I.ap (all 1 (by decide)) (all 3 (by decide)))
    have ea : a = ⟨upds T [(26, .agg #[.int .i64 l.q, .slice A l.ls.length c, .int .i64 l.k, .slice B l.cs.length d]), (27, lnV l A1 c1 B1 d1), (28, .agg #[.int .i64 r.q, .slice A' r.ls.length c', .int .i64 r.k, .slice B' r.cs.length d']), (29, lnV r A2 c2 B2 d2), (7, .pointer (some ⟨x.g, 0, none⟩)), (8, .pointer (some ⟨y.g, 0, none⟩))], []⟩ := by
      obtain ⟨tm, df⟩ := a
      have hd : df = [] := I.df
      subst hd
      refine congrArg (fun z => (⟨z, []⟩ : Act)) (frame_eq [(26, .agg #[.int .i64 l.q, .slice A l.ls.length c, .int .i64 l.k, .slice B l.cs.length d]), (27, lnV l A1 c1 B1 d1), (28, .agg #[.int .i64 r.q, .slice A' r.ls.length c', .int .i64 r.k, .slice B' r.cs.length d']), (29, lnV r A2 c2 B2 d2), (7, .pointer (some ⟨x.g, 0, none⟩)), (8, .pointer (some ⟨y.g, 0, none⟩))] I.sz ?_ ?_ ?_ I.fr)
      · intro q hq; simp at hq; rcases hq with rfl | rfl | rfl | rfl | rfl | rfl <;> simp <;> omega
      · show ([26, 27, 28, 29, 7, 8] : List Nat).Nodup; decide
      · intro q hq
        simp only [List.mem_cons, List.not_mem_nil, or_false] at hq
        rcases hq with rfl | rfl | rfl | rfl | rfl | rfl
        · exact (I.f0 (all 0 (by decide)))
        · exact (I.f1 (all 1 (by decide))).1
        · exact (I.f2 (all 2 (by decide)))
        · exact (I.f3 (all 3 (by decide))).1
        · exact (I.f4 (all 4 (by decide))).1
        · exact (I.f5 (all 5 (by decide))).1
    rw [ea]
    exact this
  case step =>
    rintro b a w' i' ⟨hs, A1, c1, B1, d1, A2, c2, B2, d2, x, y, I⟩ hi
    have off := ready_mem hi
    have hlt : i' < 8 := by
      unfold Region.ready at hi
      rw [List.mem_filter] at hi
      exact List.mem_range.1 hi.1
    have off' : b.getD i' false = false := by
      simp only [Array.getD_eq_getD_getElem?] at off ⊢
      rw [Array.getElem?_eq_getElem (by omega)] at off ⊢
      simpa using off
    obtain ⟨-, hbx⟩ := I.kl.bx _ hb1
    obtain ⟨-, hby⟩ := I.kl.bx _ hb2
    have rowL := I.kl.at_ hl
    have rowR := I.kl.at_ hr
    have asz := I.sz
    have g3' : a.eval (.tmp 3) = .pointer (some ⟨g1, 0, none⟩) := (I.fr 3 (by decide)).trans p3
    have g4' : a.eval (.tmp 4) = .pointer (some ⟨g2, 0, none⟩) := (I.fr 4 (by decide)).trans p4
    have bi : (fun k => (b.setIfInBounds i' true).getD k false) = bitOn (fun k => b.getD k false) i' := bit_set (by omega)
    match i', hlt with
    | 0, _ =>
      refine wpOp_step (o := o0) rfl (fun K' hK => ?_)
      rw [if_pos (by simp [Region.wanted, F0.2.2])]
      refine Tryd.wp_loadL (.tmp 3) F0.1 g3' hbx ?_
      refine hK _ _ ⟨by rw [Array.size_setIfInBounds]; exact hs, A1, c1, B1, d1, A2, c2, B2, d2, x, y, ?_⟩
      rw [bi]
      unfold Act.put
      rw [F0.2.1]
      exact { sz := (Array.size_setIfInBounds ..).trans I.sz, df := I.df, fr := fun k hk => (getD_set_ne (fun e => hk (by rw [← e]; decide))).trans (I.fr k hk), kl := I.kl, ap := fun h h' => I.ap (bit_ne h (by decide)) (bit_ne h' (by decide)), ne := fun h h' => I.ne (bit_ne h (by decide)) (bit_ne h' (by decide)), f0 := fun _ => getD_set_eq (by rw [asz]; omega), f1 := fun h => ⟨(getD_set_ne (by decide)).trans ((I.f1 (bit_ne h (by decide))).1), (I.f1 (bit_ne h (by decide))).2⟩, f2 := fun h => (getD_set_ne (by decide)).trans (I.f2 (bit_ne h (by decide))), f3 := fun h => ⟨(getD_set_ne (by decide)).trans ((I.f3 (bit_ne h (by decide))).1), (I.f3 (bit_ne h (by decide))).2⟩, f4 := fun h => ⟨(getD_set_ne (by decide)).trans ((I.f4 (bit_ne h (by decide))).1), (I.f4 (bit_ne h (by decide))).2.1, (I.f4 (bit_ne h (by decide))).2.2.1, (I.f4 (bit_ne h (by decide))).2.2.2⟩, f5 := fun h => ⟨(getD_set_ne (by decide)).trans ((I.f5 (bit_ne h (by decide))).1), (I.f5 (bit_ne h (by decide))).2.1, (I.f5 (bit_ne h (by decide))).2.2.1, (I.f5 (bit_ne h (by decide))).2.2.2⟩, f6 := fun h => I.f6 (bit_ne h (by decide)), f7 := fun h => I.f7 (bit_ne h (by decide)), w6 := fun h => ⟨bit_on (I.w6 (bit_ne h (by decide))).1, bit_on (I.w6 (bit_ne h (by decide))).2⟩, w7 := fun h => ⟨bit_on (I.w7 (bit_ne h (by decide))).1, bit_on (I.w7 (bit_ne h (by decide))).2⟩ }
    | 1, _ =>
      refine wpOp_step (o := o1) rfl (fun K' hK => ?_)
      rw [if_pos (by simp [Region.wanted, F1.2.2])]
      have h0 := ready_waits hi rfl D1
      refine Tryd.wp_callL f 26 _ F1.1 (I.f0 h0) H (C1 w' rowL) ?_
      rintro e W2 ⟨A9, c9, B9, d9, rfl, ho, hbw⟩
      refine ⟨_, rfl, ?_⟩
      refine hK _ _ ⟨by rw [Array.size_setIfInBounds]; exact hs, A9, c9, B9, d9, A2, c2, B2, d2, x, y, ?_⟩
      rw [bi]
      unfold Act.put
      rw [F1.2.1]
      exact { sz := (Array.size_setIfInBounds ..).trans I.sz, df := I.df, fr := fun k hk => (getD_set_ne (fun e => hk (by rw [← e]; decide))).trans (I.fr k hk), kl := I.kl.later hbw, ap := fun h1 h3 g j q1 q2 => by have e1 := (ho.wrW q1).1; have e2 := ((I.f3 (bit_ne h3 (by decide))).2.wrW q2).2; omega, ne := fun h h' => I.ne (bit_ne h (by decide)) (bit_ne h' (by decide)), f0 := fun h => (getD_set_ne (by decide)).trans (I.f0 (bit_ne h (by decide))), f1 := fun _ => ⟨getD_set_eq (by rw [asz]; omega), ho.based I.kl.b.size⟩, f2 := fun h => (getD_set_ne (by decide)).trans (I.f2 (bit_ne h (by decide))), f3 := fun h => ⟨(getD_set_ne (by decide)).trans ((I.f3 (bit_ne h (by decide))).1), (I.f3 (bit_ne h (by decide))).2.later hbw⟩, f4 := fun h => ⟨(getD_set_ne (by decide)).trans ((I.f4 (bit_ne h (by decide))).1), (I.f4 (bit_ne h (by decide))).2.1, (I.f4 (bit_ne h (by decide))).2.2.1, (I.f4 (bit_ne h (by decide))).2.2.2.later hbw⟩, f5 := fun h => ⟨(getD_set_ne (by decide)).trans ((I.f5 (bit_ne h (by decide))).1), (I.f5 (bit_ne h (by decide))).2.1, (I.f5 (bit_ne h (by decide))).2.2.1, (I.f5 (bit_ne h (by decide))).2.2.2.later hbw⟩, f6 := fun h => by have z := bit_ne h (by decide); have z1 := (I.w6 z).1; simp [off'] at z1, f7 := fun h => I.f7 (bit_ne h (by decide)), w6 := fun h => ⟨bit_on (I.w6 (bit_ne h (by decide))).1, bit_on (I.w6 (bit_ne h (by decide))).2⟩, w7 := fun h => ⟨bit_on (I.w7 (bit_ne h (by decide))).1, bit_on (I.w7 (bit_ne h (by decide))).2⟩ }
    | 2, _ =>
      refine wpOp_step (o := o2) rfl (fun K' hK => ?_)
      rw [if_pos (by simp [Region.wanted, F2.2.2])]
      refine Tryd.wp_loadL (.tmp 4) F2.1 g4' hby ?_
      refine hK _ _ ⟨by rw [Array.size_setIfInBounds]; exact hs, A1, c1, B1, d1, A2, c2, B2, d2, x, y, ?_⟩
      rw [bi]
      unfold Act.put
      rw [F2.2.1]
      exact { sz := (Array.size_setIfInBounds ..).trans I.sz, df := I.df, fr := fun k hk => (getD_set_ne (fun e => hk (by rw [← e]; decide))).trans (I.fr k hk), kl := I.kl, ap := fun h h' => I.ap (bit_ne h (by decide)) (bit_ne h' (by decide)), ne := fun h h' => I.ne (bit_ne h (by decide)) (bit_ne h' (by decide)), f0 := fun h => (getD_set_ne (by decide)).trans (I.f0 (bit_ne h (by decide))), f1 := fun h => ⟨(getD_set_ne (by decide)).trans ((I.f1 (bit_ne h (by decide))).1), (I.f1 (bit_ne h (by decide))).2⟩, f2 := fun _ => getD_set_eq (by rw [asz]; omega), f3 := fun h => ⟨(getD_set_ne (by decide)).trans ((I.f3 (bit_ne h (by decide))).1), (I.f3 (bit_ne h (by decide))).2⟩, f4 := fun h => ⟨(getD_set_ne (by decide)).trans ((I.f4 (bit_ne h (by decide))).1), (I.f4 (bit_ne h (by decide))).2.1, (I.f4 (bit_ne h (by decide))).2.2.1, (I.f4 (bit_ne h (by decide))).2.2.2⟩, f5 := fun h => ⟨(getD_set_ne (by decide)).trans ((I.f5 (bit_ne h (by decide))).1), (I.f5 (bit_ne h (by decide))).2.1, (I.f5 (bit_ne h (by decide))).2.2.1, (I.f5 (bit_ne h (by decide))).2.2.2⟩, f6 := fun h => I.f6 (bit_ne h (by decide)), f7 := fun h => I.f7 (bit_ne h (by decide)), w6 := fun h => ⟨bit_on (I.w6 (bit_ne h (by decide))).1, bit_on (I.w6 (bit_ne h (by decide))).2⟩, w7 := fun h => ⟨bit_on (I.w7 (bit_ne h (by decide))).1, bit_on (I.w7 (bit_ne h (by decide))).2⟩ }
    | 3, _ =>
      refine wpOp_step (o := o3) rfl (fun K' hK => ?_)
      rw [if_pos (by simp [Region.wanted, F3.2.2])]
      have h2 := ready_waits hi rfl D3
      refine Tryd.wp_callL f 28 _ F3.1 (I.f2 h2) H (C2 w' rowR) ?_
      rintro e W2 ⟨A9, c9, B9, d9, rfl, ho, hbw⟩
      refine ⟨_, rfl, ?_⟩
      refine hK _ _ ⟨by rw [Array.size_setIfInBounds]; exact hs, A1, c1, B1, d1, A9, c9, B9, d9, x, y, ?_⟩
      rw [bi]
      unfold Act.put
      rw [F3.2.1]
      exact { sz := (Array.size_setIfInBounds ..).trans I.sz, df := I.df, fr := fun k hk => (getD_set_ne (fun e => hk (by rw [← e]; decide))).trans (I.fr k hk), kl := I.kl.later hbw, ap := fun h1 h3 g j q1 q2 => by have e1 := (ho.wrW q2).1; have e2 := ((I.f1 (bit_ne h1 (by decide))).2.wrW q1).2; omega, ne := fun h h' => I.ne (bit_ne h (by decide)) (bit_ne h' (by decide)), f0 := fun h => (getD_set_ne (by decide)).trans (I.f0 (bit_ne h (by decide))), f1 := fun h => ⟨(getD_set_ne (by decide)).trans ((I.f1 (bit_ne h (by decide))).1), (I.f1 (bit_ne h (by decide))).2.later hbw⟩, f2 := fun h => (getD_set_ne (by decide)).trans (I.f2 (bit_ne h (by decide))), f3 := fun _ => ⟨getD_set_eq (by rw [asz]; omega), ho.based I.kl.b.size⟩, f4 := fun h => ⟨(getD_set_ne (by decide)).trans ((I.f4 (bit_ne h (by decide))).1), (I.f4 (bit_ne h (by decide))).2.1, (I.f4 (bit_ne h (by decide))).2.2.1, (I.f4 (bit_ne h (by decide))).2.2.2.later hbw⟩, f5 := fun h => ⟨(getD_set_ne (by decide)).trans ((I.f5 (bit_ne h (by decide))).1), (I.f5 (bit_ne h (by decide))).2.1, (I.f5 (bit_ne h (by decide))).2.2.1, (I.f5 (bit_ne h (by decide))).2.2.2.later hbw⟩, f6 := fun h => I.f6 (bit_ne h (by decide)), f7 := fun h => by have z := bit_ne h (by decide); have z1 := (I.w7 z).1; simp [off'] at z1, w6 := fun h => ⟨bit_on (I.w6 (bit_ne h (by decide))).1, bit_on (I.w6 (bit_ne h (by decide))).2⟩, w7 := fun h => ⟨bit_on (I.w7 (bit_ne h (by decide))).1, bit_on (I.w7 (bit_ne h (by decide))).2⟩ }
    | 4, _ =>
      refine wpOp_step (o := o4) rfl (fun K' hK => ?_)
      rw [if_pos (by simp [Region.wanted, F4.2.2])]
      refine Tryd.wp_allocL F4.1 ?_
      have hbw : Below w'.heap.size w' (w'.alloc (.cells #[.int .i64 0, .slice none 0 0, .int .i64 0, .slice none 0 0] 25)) := (Below.refl _ w').alloc (Nat.le_refl _) _
      refine hK _ _ ⟨by rw [Array.size_setIfInBounds]; exact hs, A1, c1, B1, d1, A2, c2, B2, d2, ⟨w'.heap.size, .int .i64 0, .slice none 0 0, .int .i64 0, .slice none 0 0⟩, y, ?_⟩
      rw [bi]
      unfold Act.put
      rw [F4.2.1]
      exact { sz := (Array.size_setIfInBounds ..).trans I.sz, df := I.df, fr := fun k hk => (getD_set_ne (fun e => hk (by rw [← e]; decide))).trans (I.fr k hk), kl := I.kl.later hbw, ap := fun h h' => I.ap (bit_ne h (by decide)) (bit_ne h' (by decide)), ne := fun h4 h5 => by have := (I.f5 (bit_ne h5 (by decide))).2.2.2.lt; show _ ≠ _; dsimp only; omega, f0 := fun h => (getD_set_ne (by decide)).trans (I.f0 (bit_ne h (by decide))), f1 := fun h => ⟨(getD_set_ne (by decide)).trans ((I.f1 (bit_ne h (by decide))).1), (I.f1 (bit_ne h (by decide))).2.later hbw⟩, f2 := fun h => (getD_set_ne (by decide)).trans (I.f2 (bit_ne h (by decide))), f3 := fun h => ⟨(getD_set_ne (by decide)).trans ((I.f3 (bit_ne h (by decide))).1), (I.f3 (bit_ne h (by decide))).2.later hbw⟩, f4 := fun _ => ⟨getD_set_eq (by rw [asz]; omega), I.kl.b.size, (fun t ht e => by have := (I.kl.bx t ht).2.lt; have e' : t.g = w'.heap.size := e; omega), Bx.new w' _ _ _ _⟩, f5 := fun h => ⟨(getD_set_ne (by decide)).trans ((I.f5 (bit_ne h (by decide))).1), (I.f5 (bit_ne h (by decide))).2.1, (I.f5 (bit_ne h (by decide))).2.2.1, (I.f5 (bit_ne h (by decide))).2.2.2.later hbw⟩, f6 := fun h => by have z := bit_ne h (by decide); have z1 := (I.w6 z).2; simp [off'] at z1, f7 := fun h => I.f7 (bit_ne h (by decide)), w6 := fun h => ⟨bit_on (I.w6 (bit_ne h (by decide))).1, bit_on (I.w6 (bit_ne h (by decide))).2⟩, w7 := fun h => ⟨bit_on (I.w7 (bit_ne h (by decide))).1, bit_on (I.w7 (bit_ne h (by decide))).2⟩ }
    | 5, _ =>
      refine wpOp_step (o := o5) rfl (fun K' hK => ?_)
      rw [if_pos (by simp [Region.wanted, F5.2.2])]
      refine Tryd.wp_allocL F5.1 ?_
      have hbw : Below w'.heap.size w' (w'.alloc (.cells #[.int .i64 0, .slice none 0 0, .int .i64 0, .slice none 0 0] 25)) := (Below.refl _ w').alloc (Nat.le_refl _) _
      refine hK _ _ ⟨by rw [Array.size_setIfInBounds]; exact hs, A1, c1, B1, d1, A2, c2, B2, d2, x, ⟨w'.heap.size, .int .i64 0, .slice none 0 0, .int .i64 0, .slice none 0 0⟩, ?_⟩
      rw [bi]
      unfold Act.put
      rw [F5.2.1]
      exact { sz := (Array.size_setIfInBounds ..).trans I.sz, df := I.df, fr := fun k hk => (getD_set_ne (fun e => hk (by rw [← e]; decide))).trans (I.fr k hk), kl := I.kl.later hbw, ap := fun h h' => I.ap (bit_ne h (by decide)) (bit_ne h' (by decide)), ne := fun h4 h5 => by have := (I.f4 (bit_ne h4 (by decide))).2.2.2.lt; show _ ≠ _; dsimp only; omega, f0 := fun h => (getD_set_ne (by decide)).trans (I.f0 (bit_ne h (by decide))), f1 := fun h => ⟨(getD_set_ne (by decide)).trans ((I.f1 (bit_ne h (by decide))).1), (I.f1 (bit_ne h (by decide))).2.later hbw⟩, f2 := fun h => (getD_set_ne (by decide)).trans (I.f2 (bit_ne h (by decide))), f3 := fun h => ⟨(getD_set_ne (by decide)).trans ((I.f3 (bit_ne h (by decide))).1), (I.f3 (bit_ne h (by decide))).2.later hbw⟩, f4 := fun h => ⟨(getD_set_ne (by decide)).trans ((I.f4 (bit_ne h (by decide))).1), (I.f4 (bit_ne h (by decide))).2.1, (I.f4 (bit_ne h (by decide))).2.2.1, (I.f4 (bit_ne h (by decide))).2.2.2.later hbw⟩, f5 := fun _ => ⟨getD_set_eq (by rw [asz]; omega), I.kl.b.size, (fun t ht e => by have := (I.kl.bx t ht).2.lt; have e' : t.g = w'.heap.size := e; omega), Bx.new w' _ _ _ _⟩, f6 := fun h => I.f6 (bit_ne h (by decide)), f7 := fun h => by have z := bit_ne h (by decide); have z1 := (I.w7 z).2; simp [off'] at z1, w6 := fun h => ⟨bit_on (I.w6 (bit_ne h (by decide))).1, bit_on (I.w6 (bit_ne h (by decide))).2⟩, w7 := fun h => ⟨bit_on (I.w7 (bit_ne h (by decide))).1, bit_on (I.w7 (bit_ne h (by decide))).2⟩ }
    | 6, _ =>
      refine wpOp_step (o := o6) rfl (fun K' hK => ?_)
      rw [if_pos (by simp [Region.wanted, F6.2.2])]
      have h1 := ready_waits hi rfl D6.1
      have h4 := ready_waits hi rfl D6.2
      obtain ⟨q1, q2, q3, q4⟩ := I.f4 h4
      refine Tryd.wp_storeL (.tmp 7) (.tmp 27) F6.1 q1 (I.f1 h1).1 ⟨rfl, rfl, rfl, rfl⟩ q4 (fun W2 og hx => ?_)
      refine hK _ _ ⟨by rw [Array.size_setIfInBounds]; exact hs, A1, c1, B1, d1, A2, c2, B2, d2, ⟨x.g, .int .i64 l.q, .slice A1 l.ls.length c1, .int .i64 l.k, .slice B1 l.cs.length d1⟩, y, ?_⟩
      rw [bi]
      unfold Act.put
      rw [F6.2.1]
      exact { sz := I.sz, df := I.df, fr := fun k hk => I.fr k hk, kl := I.kl.setOut q2 og q4 q3, ap := fun h h' => I.ap (bit_ne h (by decide)) (bit_ne h' (by decide)), ne := fun h h' => I.ne (bit_ne h (by decide)) (bit_ne h' (by decide)), f0 := fun h => I.f0 (bit_ne h (by decide)), f1 := fun h => ⟨(I.f1 (bit_ne h (by decide))).1, (I.f1 (bit_ne h (by decide))).2.og og q4⟩, f2 := fun h => I.f2 (bit_ne h (by decide)), f3 := fun h => ⟨(I.f3 (bit_ne h (by decide))).1, (I.f3 (bit_ne h (by decide))).2.og og q4⟩, f4 := fun _ => ⟨q1, q2, q3, hx⟩, f5 := fun h => by have z := I.f5 (bit_ne h (by decide)); exact ⟨z.1, z.2.1, z.2.2.1, og.bx (fun e => I.ne h4 (bit_ne h (by decide)) e.symm) z.2.2.2⟩, f6 := fun _ => rfl, f7 := fun h => I.f7 (bit_ne h (by decide)), w6 := fun _ => ⟨bit_on h1, bit_on h4⟩, w7 := fun h => ⟨bit_on (I.w7 (bit_ne h (by decide))).1, bit_on (I.w7 (bit_ne h (by decide))).2⟩ }
    | 7, _ =>
      refine wpOp_step (o := o7) rfl (fun K' hK => ?_)
      rw [if_pos (by simp [Region.wanted, F7.2.2])]
      have h3 := ready_waits hi rfl D7.1
      have h5 := ready_waits hi rfl D7.2
      obtain ⟨q1, q2, q3, q4⟩ := I.f5 h5
      refine Tryd.wp_storeL (.tmp 8) (.tmp 29) F7.1 q1 (I.f3 h3).1 ⟨rfl, rfl, rfl, rfl⟩ q4 (fun W2 og hx => ?_)
      refine hK _ _ ⟨by rw [Array.size_setIfInBounds]; exact hs, A1, c1, B1, d1, A2, c2, B2, d2, x, ⟨y.g, .int .i64 r.q, .slice A2 r.ls.length c2, .int .i64 r.k, .slice B2 r.cs.length d2⟩, ?_⟩
      rw [bi]
      unfold Act.put
      rw [F7.2.1]
      exact { sz := I.sz, df := I.df, fr := fun k hk => I.fr k hk, kl := I.kl.setOut q2 og q4 q3, ap := fun h h' => I.ap (bit_ne h (by decide)) (bit_ne h' (by decide)), ne := fun h h' => I.ne (bit_ne h (by decide)) (bit_ne h' (by decide)), f0 := fun h => I.f0 (bit_ne h (by decide)), f1 := fun h => ⟨(I.f1 (bit_ne h (by decide))).1, (I.f1 (bit_ne h (by decide))).2.og og q4⟩, f2 := fun h => I.f2 (bit_ne h (by decide)), f3 := fun h => ⟨(I.f3 (bit_ne h (by decide))).1, (I.f3 (bit_ne h (by decide))).2.og og q4⟩, f4 := fun h => by have z := I.f4 (bit_ne h (by decide)); exact ⟨z.1, z.2.1, z.2.2.1, og.bx (fun e => I.ne (bit_ne h (by decide)) h5 e) z.2.2.2⟩, f5 := fun _ => ⟨q1, q2, q3, hx⟩, f6 := fun h => I.f6 (bit_ne h (by decide)), f7 := fun _ => rfl, w6 := fun h => ⟨bit_on (I.w6 (bit_ne h (by decide))).1, bit_on (I.w6 (bit_ne h (by decide))).2⟩, w7 := fun _ => ⟨bit_on h3, bit_on h5⟩ }
end
end Go.Proofs.YtpldmiencoolhaaDoor
