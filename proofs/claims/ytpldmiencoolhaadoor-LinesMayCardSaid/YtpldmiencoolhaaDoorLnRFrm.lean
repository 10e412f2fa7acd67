/- The reference's Frame: the law of its region for all its orders, and the walk. (Printed by wip/lnown.py.) -/
import Derived.Test.YtpldmiencoolhaaDoorLnRun
import Derived.Test.YtpldmiencoolhaaDoorCells5
namespace Go.Proofs.YtpldmiencoolhaaDoor
open Go.RowKit Go.Lib Go.Great

structure RfrmI (T : Array Value) (l : Ln) (A : Option Addr) (c : Nat) (B : Option Addr) (d g1 g2 : Nat) (w0 : World) (bs : List BoxR) (rs : List RowL) (v5 : Value) (A1 : Option Addr) (c1 : Nat) (b : Nat → Bool) (a : Act) (w : World) : Prop where
  sz : a.tmps.size = T.size
  df : a.defers = []
  fr : ∀ k, k ∉ [3, 4, 5, 6, 7, 8, 9, 10, 11] → a.tmps.getD k undef = T.getD k undef
  kl : KL w0 w bs rs []
  e2 : ∃ p q r s, Bx w g2 p q r s
  f0 : b 0 = true → a.tmps.getD 3 undef = .pointer (some ⟨g1, 0, none⟩)
  f1 : b 1 = true → a.tmps.getD 4 undef = .int .i64 l.q
  f2 : b 2 = true → a.tmps.getD 5 undef = v5 ∧ (b 5 = false → Own encI 1 3 w w0.heap.size v5 ([] : List Int))
  f3 : b 3 = true → a.tmps.getD 6 undef = .pointer (some ⟨g1, 1, none⟩)
  f4 : b 4 = true → a.tmps.getD 7 undef = .slice A l.ls.length c
  f5 : b 5 = true → a.tmps.getD 8 undef = .slice A1 l.ls.length c1 ∧ Own encI 1 3 w w0.heap.size (.slice A1 l.ls.length c1) l.ls
  f6 : b 6 = true → a.tmps.getD 9 undef = .pointer (some ⟨g1, 2, none⟩)
  f7 : b 7 = true → a.tmps.getD 10 undef = .int .i64 l.k
  f8 : b 8 = true → a.tmps.getD 11 undef = .agg #[.int .i64 l.q, .slice A1 l.ls.length c1, .int .i64 l.k, .slice none 0 0]
  f9 : b 9 = true → Bx w g2 (.int .i64 l.q) (.slice A1 l.ls.length c1) (.int .i64 l.k) (.slice none 0 0)
  w5 : b 5 = true → b 2 = true
  w8 : b 8 = true → b 5 = true
  w9 : b 9 = true → b 8 = true
section
variable {o0 o1 o2 o3 o4 o5 o6 o7 o8 o9 : Oper}
set_option maxHeartbeats 4000000 in
theorem Tryd.rfrm_reg {id : Nat} {Q : Exit → Act → World → Prop} {T : Array Value} {l : Ln} {A : Option Addr} {c : Nat} {B : Option Addr} {d g1 g2 : Nat} {w0 w : World} {bs : List BoxR} {rs : List RowL} {p2 q2 r2 s2 : Value}
    (F0 : o0.op = .fieldAddr 25 (.tmp 1) 0 ∧ o0.dst = some 3 ∧ o0.guard = none)
    (F1 : o1.op = .load 3 (.tmp 3) ∧ o1.dst = some 4 ∧ o1.guard = none)
    (F2 : o2.op = .buildSlice 22 0 #[] ∧ o2.dst = some 5 ∧ o2.guard = none)
    (F3 : o3.op = .fieldAddr 25 (.tmp 1) 1 ∧ o3.dst = some 6 ∧ o3.guard = none)
    (F4 : o4.op = .load 22 (.tmp 6) ∧ o4.dst = some 7 ∧ o4.guard = none)
    (F5 : o5.op = .call { callee := .builtin .append, args := #[.tmp 5, .tmp 7], argTypes := #[22, 22] } ∧ o5.dst = some 8 ∧ o5.guard = none)
    (F6 : o6.op = .fieldAddr 25 (.tmp 1) 2 ∧ o6.dst = some 9 ∧ o6.guard = none)
    (F7 : o7.op = .load 3 (.tmp 9) ∧ o7.dst = some 10 ∧ o7.guard = none)
    (F8 : o8.op = .build 25 #[(0, .tmp 4), (1, .tmp 8), (2, .tmp 10)] ∧ o8.dst = some 11 ∧ o8.guard = none)
    (F9 : o9.op = .store 25 (.tmp 2) (.tmp 11) ∧ o9.dst = none ∧ o9.guard = none)
    (D1 : dep13 o1 0 = true)
    (D4 : dep13 o4 3 = true)
    (D5 : dep13 o5 2 = true ∧ dep13 o5 4 = true)
    (D7 : dep13 o7 6 = true)
    (D8 : dep13 o8 1 = true ∧ dep13 o8 5 = true ∧ dep13 o8 7 = true)
    (D9 : dep13 o9 8 = true)
    (down : edgesDown #[o0, o1, o2, o3, o4, o5, o6, o7, o8, o9] = true) (hsz : 11 < T.size) (p1 : T.getD 1 undef = .pointer (some ⟨g1, 0, none⟩)) (p2' : T.getD 2 undef = .pointer (some ⟨g2, 0, none⟩))
    (K : KL w0 w (⟨g2, p2, q2, r2, s2⟩ :: bs) rs []) (hb1 : (⟨g1, .int .i64 l.q, .slice A l.ls.length c, .int .i64 l.k, .slice B l.cs.length d⟩ : BoxR) ∈ bs) (hl : (⟨l, A, B⟩ : RowL) ∈ rs) (hrs : ∀ r ∈ rs, LnAt w0 w0.heap.size r.l r.A r.B) (h9 : l.ls.length ≤ 1000000000)
    (hend : ∀ v5 A1 c1 w', KL w0 w' bs rs [] → Bx w' g2 (.int .i64 l.q) (.slice A1 l.ls.length c1) (.int .i64 l.k) (.slice none 0 0) → LnOw w' w0.heap.size ⟨l.q, l.ls, l.k, []⟩ A1 c1 none 0 → Q .normal ⟨upds T [(3, .pointer (some ⟨g1, 0, none⟩)), (4, .int .i64 l.q), (5, v5), (6, .pointer (some ⟨g1, 1, none⟩)), (7, .slice A l.ls.length c), (8, .slice A1 l.ls.length c1), (9, .pointer (some ⟨g1, 2, none⟩)), (10, .int .i64 l.k), (11, .agg #[.int .i64 l.q, .slice A1 l.ls.length c1, .int .i64 l.k, .slice none 0 0])], []⟩ w') :
    (Code.region id #[o0, o1, o2, o3, o4, o5, o6, o7, o8, o9] true).wp Tryd.prog Q ⟨T, []⟩ w := by
  have hg2 : w0.heap.size ≤ g2 := (K.bx ⟨g2, p2, q2, r2, s2⟩ (by simp)).1
  have out2 : ∀ u ∈ bs, u.g ≠ g2 := fun u hu e => (List.pairwise_cons.1 K.nd).1 u hu e.symm
  refine wp_region_any (by kernel_rfl) ?_
  refine wpAny_inv (fun b a w => b.size = 10 ∧ ∃ v5 A1 c1, RfrmI T l A c B d g1 g2 w0 bs rs v5 A1 c1 (fun k => b.getD k false) a w) ?step ?fin _ _ _ _ ?start ?fuel
  case fuel => simp
  case start =>
    refine ⟨by simp, undef, none, 0, ?_⟩
    have no : ∀ k, (Array.replicate (#[o0, o1, o2, o3, o4, o5, o6, o7, o8, o9] : Array Oper).size false).getD k false = true → False := fun k h => by
      simp [Array.getD] at h
    exact { sz := rfl, df := rfl, fr := fun _ _ => rfl, kl := (K.less (by simp) (fun r h => h) (List.Sublist.refl _)).quiet ⟨1, rfl⟩, e2 := ⟨p2, q2, r2, s2, (K.bx ⟨g2, p2, q2, r2, s2⟩ (by simp)).2⟩, f0 := fun h => (no _ h).elim, f1 := fun h => (no _ h).elim, f2 := fun h => (no _ h).elim, f3 := fun h => (no _ h).elim, f4 := fun h => (no _ h).elim, f5 := fun h => (no _ h).elim, f6 := fun h => (no _ h).elim, f7 := fun h => (no _ h).elim, f8 := fun h => (no _ h).elim, f9 := fun h => (no _ h).elim, w5 := fun h => (no _ h).elim, w8 := fun h => (no _ h).elim, w9 := fun h => (no _ h).elim }
  case fin =>
    rintro b a w' ⟨hs, v5, A1, c1, I⟩ hr
    have all : ∀ k, k < 10 → b.getD k false = true := fun k hk => ready_nil down hr hs 10 k hk hk
    have := hend v5 A1 c1 w' I.kl (I.f9 (all 9 (by decide))) ⟨(I.f5 (all 5 (by decide))).2, Own.nil⟩
    have ea : a = ⟨upds T [(3, .pointer (some ⟨g1, 0, none⟩)), (4, .int .i64 l.q), (5, v5), (6, .pointer (some ⟨g1, 1, none⟩)), (7, .slice A l.ls.length c), (8, .slice A1 l.ls.length c1), (9, .pointer (some ⟨g1, 2, none⟩)), (10, .int .i64 l.k), (11, .agg #[.int .i64 l.q, .slice A1 l.ls.length c1, .int .i64 l.k, .slice none 0 0])], []⟩ := by
      obtain ⟨tm, df⟩ := a
      have hd : df = [] := I.df
      subst hd
      refine congrArg (fun z => (⟨z, []⟩ : Act)) (frame_eq [(3, .pointer (some ⟨g1, 0, none⟩)), (4, .int .i64 l.q), (5, v5), (6, .pointer (some ⟨g1, 1, none⟩)), (7, .slice A l.ls.length c), (8, .slice A1 l.ls.length c1), (9, .pointer (some ⟨g1, 2, none⟩)), (10, .int .i64 l.k), (11, .agg #[.int .i64 l.q, .slice A1 l.ls.length c1, .int .i64 l.k, .slice none 0 0])] I.sz ?_ ?_ ?_ I.fr)
      · intro q hq; simp at hq; rcases hq with rfl | rfl | rfl | rfl | rfl | rfl | rfl | rfl | rfl <;> simp <;> omega
      · show ([3, 4, 5, 6, 7, 8, 9, 10, 11] : List Nat).Nodup; decide
      · intro q hq
        simp only [List.mem_cons, List.not_mem_nil, or_false] at hq
        rcases hq with rfl | rfl | rfl | rfl | rfl | rfl | rfl | rfl | rfl
        · exact (I.f0 (all 0 (by decide)))
        · exact (I.f1 (all 1 (by decide)))
        · exact (I.f2 (all 2 (by decide))).1
        · exact (I.f3 (all 3 (by decide)))
        · exact (I.f4 (all 4 (by decide)))
        · exact (I.f5 (all 5 (by decide))).1
        · exact (I.f6 (all 6 (by decide)))
        · exact (I.f7 (all 7 (by decide)))
        · exact (I.f8 (all 8 (by decide)))
    rw [ea]
    exact this
  case step =>
    rintro b a w' i' ⟨hs, v5, A1, c1, I⟩ hi
    have off := ready_mem hi
    have hlt : i' < 10 := by
      unfold Region.ready at hi
      rw [List.mem_filter] at hi
      exact List.mem_range.1 hi.1
    have off' : b.getD i' false = false := by
      simp only [Array.getD_eq_getD_getElem?] at off ⊢
      rw [Array.getElem?_eq_getElem (by omega)] at off ⊢
      simpa using off
    obtain ⟨hbig, hbx⟩ := I.kl.bx _ hb1
    obtain ⟨⟨k0, k1, k2, k3⟩, -⟩ := hbx.cells
    have rowat := I.kl.at_ hl
    have asz := I.sz
    have g1' : a.eval (.tmp 1) = .pointer (some ⟨g1, 0, none⟩) := (I.fr 1 (by decide)).trans p1
    have g2' : a.eval (.tmp 2) = .pointer (some ⟨g2, 0, none⟩) := (I.fr 2 (by decide)).trans p2'
    have bi : (fun k => (b.setIfInBounds i' true).getD k false) = bitOn (fun k => b.getD k false) i' := bit_set (by omega)
    match i', hlt with
    | 0, _ =>
      refine wpOp_step (o := o0) rfl (fun K' hK => ?_)
      rw [if_pos (by simp [Region.wanted, F0.2.2])]
      refine wp_val (run_field0 F0.1 g1') ?_
      refine hK _ _ ⟨by rw [Array.size_setIfInBounds]; exact hs, v5, A1, c1, ?_⟩
      rw [bi]
      unfold Act.put
      rw [F0.2.1]
      exact { sz := (Array.size_setIfInBounds ..).trans I.sz, df := I.df, fr := fun k hk => (getD_set_ne (fun e => hk (by rw [← e]; decide))).trans (I.fr k hk), kl := I.kl, e2 := I.e2, f0 := fun _ => getD_set_eq (by rw [asz]; omega), f1 := fun h => (getD_set_ne (by decide)).trans (I.f1 (bit_ne h (by decide))), f2 := fun h => ⟨(getD_set_ne (by decide)).trans ((I.f2 (bit_ne h (by decide))).1), fun h5 => (I.f2 (bit_ne h (by decide))).2 (bit_off h5)⟩, f3 := fun h => (getD_set_ne (by decide)).trans (I.f3 (bit_ne h (by decide))), f4 := fun h => (getD_set_ne (by decide)).trans (I.f4 (bit_ne h (by decide))), f5 := fun h => ⟨(getD_set_ne (by decide)).trans ((I.f5 (bit_ne h (by decide))).1), (I.f5 (bit_ne h (by decide))).2⟩, f6 := fun h => (getD_set_ne (by decide)).trans (I.f6 (bit_ne h (by decide))), f7 := fun h => (getD_set_ne (by decide)).trans (I.f7 (bit_ne h (by decide))), f8 := fun h => (getD_set_ne (by decide)).trans (I.f8 (bit_ne h (by decide))), f9 := fun h => I.f9 (bit_ne h (by decide)), w5 := fun h => bit_on (I.w5 (bit_ne h (by decide))), w8 := fun h => bit_on (I.w8 (bit_ne h (by decide))), w9 := fun h => bit_on (I.w9 (bit_ne h (by decide))) }
    | 1, _ =>
      refine wpOp_step (o := o1) rfl (fun K' hK => ?_)
      rw [if_pos (by simp [Region.wanted, F1.2.2])]
      have h0 := ready_waits hi rfl D1
      refine wp_val (run_loadI F1.1 (I.f0 h0) k0) ?_
      refine hK _ _ ⟨by rw [Array.size_setIfInBounds]; exact hs, v5, A1, c1, ?_⟩
      rw [bi]
      unfold Act.put
      rw [F1.2.1]
      exact { sz := (Array.size_setIfInBounds ..).trans I.sz, df := I.df, fr := fun k hk => (getD_set_ne (fun e => hk (by rw [← e]; decide))).trans (I.fr k hk), kl := I.kl, e2 := I.e2, f0 := fun h => (getD_set_ne (by decide)).trans (I.f0 (bit_ne h (by decide))), f1 := fun _ => getD_set_eq (by rw [asz]; omega), f2 := fun h => ⟨(getD_set_ne (by decide)).trans ((I.f2 (bit_ne h (by decide))).1), fun h5 => (I.f2 (bit_ne h (by decide))).2 (bit_off h5)⟩, f3 := fun h => (getD_set_ne (by decide)).trans (I.f3 (bit_ne h (by decide))), f4 := fun h => (getD_set_ne (by decide)).trans (I.f4 (bit_ne h (by decide))), f5 := fun h => ⟨(getD_set_ne (by decide)).trans ((I.f5 (bit_ne h (by decide))).1), (I.f5 (bit_ne h (by decide))).2⟩, f6 := fun h => (getD_set_ne (by decide)).trans (I.f6 (bit_ne h (by decide))), f7 := fun h => (getD_set_ne (by decide)).trans (I.f7 (bit_ne h (by decide))), f8 := fun h => (getD_set_ne (by decide)).trans (I.f8 (bit_ne h (by decide))), f9 := fun h => I.f9 (bit_ne h (by decide)), w5 := fun h => bit_on (I.w5 (bit_ne h (by decide))), w8 := fun h => bit_on (I.w8 (bit_ne h (by decide))), w9 := fun h => bit_on (I.w9 (bit_ne h (by decide))) }
    | 2, _ =>
      refine wpOp_step (o := o2) rfl (fun K' hK => ?_)
      rw [if_pos (by simp [Region.wanted, F2.2.2])]
      unfold Oper.wp
      rw [run_lit0 F2.1]
      have hbw : Below w'.heap.size w' (w'.alloc (.cells #[] 3)) := (Below.refl _ w').alloc (Nat.le_refl _) _
      refine hK _ _ ⟨by rw [Array.size_setIfInBounds]; exact hs, .slice (some ⟨w'.heap.size, 0, none⟩) 0 0, A1, c1, ?_⟩
      rw [bi]
      unfold Act.put
      rw [F2.2.1]
      exact { sz := (Array.size_setIfInBounds ..).trans I.sz, df := I.df, fr := fun k hk => (getD_set_ne (fun e => hk (by rw [← e]; decide))).trans (I.fr k hk), kl := I.kl.later hbw, e2 := (by obtain ⟨p, q, r, s, h⟩ := I.e2; exact ⟨p, q, r, s, h.later hbw⟩), f0 := fun h => (getD_set_ne (by decide)).trans (I.f0 (bit_ne h (by decide))), f1 := fun h => (getD_set_ne (by decide)).trans (I.f1 (bit_ne h (by decide))), f2 := fun _ => ⟨getD_set_eq (by rw [asz]; omega), fun _ => (own_lit0I w').based I.kl.b.size⟩, f3 := fun h => (getD_set_ne (by decide)).trans (I.f3 (bit_ne h (by decide))), f4 := fun h => (getD_set_ne (by decide)).trans (I.f4 (bit_ne h (by decide))), f5 := fun h => by have z := bit_ne h (by decide); have y2 := I.w5 z; simp [off'] at y2, f6 := fun h => (getD_set_ne (by decide)).trans (I.f6 (bit_ne h (by decide))), f7 := fun h => (getD_set_ne (by decide)).trans (I.f7 (bit_ne h (by decide))), f8 := fun h => by have z := bit_ne h (by decide); have y5 := I.w8 z; have y2 := I.w5 y5; simp [off'] at y2, f9 := fun h => by have z := bit_ne h (by decide); have yb := I.w9 z; have y5 := I.w8 yb; have y2 := I.w5 y5; simp [off'] at y2, w5 := fun h => bit_on (I.w5 (bit_ne h (by decide))), w8 := fun h => bit_on (I.w8 (bit_ne h (by decide))), w9 := fun h => bit_on (I.w9 (bit_ne h (by decide))) }
    | 3, _ =>
      refine wpOp_step (o := o3) rfl (fun K' hK => ?_)
      rw [if_pos (by simp [Region.wanted, F3.2.2])]
      refine wp_val (run_field1 F3.1 g1') ?_
      refine hK _ _ ⟨by rw [Array.size_setIfInBounds]; exact hs, v5, A1, c1, ?_⟩
      rw [bi]
      unfold Act.put
      rw [F3.2.1]
      exact { sz := (Array.size_setIfInBounds ..).trans I.sz, df := I.df, fr := fun k hk => (getD_set_ne (fun e => hk (by rw [← e]; decide))).trans (I.fr k hk), kl := I.kl, e2 := I.e2, f0 := fun h => (getD_set_ne (by decide)).trans (I.f0 (bit_ne h (by decide))), f1 := fun h => (getD_set_ne (by decide)).trans (I.f1 (bit_ne h (by decide))), f2 := fun h => ⟨(getD_set_ne (by decide)).trans ((I.f2 (bit_ne h (by decide))).1), fun h5 => (I.f2 (bit_ne h (by decide))).2 (bit_off h5)⟩, f3 := fun _ => getD_set_eq (by rw [asz]; omega), f4 := fun h => (getD_set_ne (by decide)).trans (I.f4 (bit_ne h (by decide))), f5 := fun h => ⟨(getD_set_ne (by decide)).trans ((I.f5 (bit_ne h (by decide))).1), (I.f5 (bit_ne h (by decide))).2⟩, f6 := fun h => (getD_set_ne (by decide)).trans (I.f6 (bit_ne h (by decide))), f7 := fun h => (getD_set_ne (by decide)).trans (I.f7 (bit_ne h (by decide))), f8 := fun h => (getD_set_ne (by decide)).trans (I.f8 (bit_ne h (by decide))), f9 := fun h => I.f9 (bit_ne h (by decide)), w5 := fun h => bit_on (I.w5 (bit_ne h (by decide))), w8 := fun h => bit_on (I.w8 (bit_ne h (by decide))), w9 := fun h => bit_on (I.w9 (bit_ne h (by decide))) }
    | 4, _ =>
      refine wpOp_step (o := o4) rfl (fun K' hK => ?_)
      rw [if_pos (by simp [Region.wanted, F4.2.2])]
      have h3 := ready_waits hi rfl D4
      refine wp_val (run_loadII F4.1 (I.f3 h3) k1) ?_
      refine hK _ _ ⟨by rw [Array.size_setIfInBounds]; exact hs, v5, A1, c1, ?_⟩
      rw [bi]
      unfold Act.put
      rw [F4.2.1]
      exact { sz := (Array.size_setIfInBounds ..).trans I.sz, df := I.df, fr := fun k hk => (getD_set_ne (fun e => hk (by rw [← e]; decide))).trans (I.fr k hk), kl := I.kl, e2 := I.e2, f0 := fun h => (getD_set_ne (by decide)).trans (I.f0 (bit_ne h (by decide))), f1 := fun h => (getD_set_ne (by decide)).trans (I.f1 (bit_ne h (by decide))), f2 := fun h => ⟨(getD_set_ne (by decide)).trans ((I.f2 (bit_ne h (by decide))).1), fun h5 => (I.f2 (bit_ne h (by decide))).2 (bit_off h5)⟩, f3 := fun h => (getD_set_ne (by decide)).trans (I.f3 (bit_ne h (by decide))), f4 := fun _ => getD_set_eq (by rw [asz]; omega), f5 := fun h => ⟨(getD_set_ne (by decide)).trans ((I.f5 (bit_ne h (by decide))).1), (I.f5 (bit_ne h (by decide))).2⟩, f6 := fun h => (getD_set_ne (by decide)).trans (I.f6 (bit_ne h (by decide))), f7 := fun h => (getD_set_ne (by decide)).trans (I.f7 (bit_ne h (by decide))), f8 := fun h => (getD_set_ne (by decide)).trans (I.f8 (bit_ne h (by decide))), f9 := fun h => I.f9 (bit_ne h (by decide)), w5 := fun h => bit_on (I.w5 (bit_ne h (by decide))), w8 := fun h => bit_on (I.w8 (bit_ne h (by decide))), w9 := fun h => bit_on (I.w9 (bit_ne h (by decide))) }
    | 5, _ =>
      refine wpOp_step (o := o5) rfl (fun K' hK => ?_)
      rw [if_pos (by simp [Region.wanted, F5.2.2])]
      have h2 := ready_waits hi rfl D5.1
      have h4 := ready_waits hi rfl D5.2
      obtain ⟨hv5, hown⟩ := I.f2 h2
      have hown := hown off'
      obtain ⟨v', W2, hr, ho2, hg, _⟩ := run_append_slice Tryd.okI 22 o5.type Tryd.underlying22 w' w0.heap.size v5 ([] : List Int) hown w'.heap.size A l.ls c rowat.ls (by simp; omega) I.kl.b.size
      obtain ⟨A9, n9, c9, rfl, hn9⟩ := ho2.shape
      have hn9 : n9 = l.ls.length := hn9.out.trans (by simp)
      subst hn9
      rw [List.nil_append] at ho2
      refine Lib.wp_append_run w' (.tmp 5) (.tmp 7) 22 22 F5.1 _ _ hv5 (I.f4 h4) _ W2 hr ?_
      refine hK _ _ ⟨by rw [Array.size_setIfInBounds]; exact hs, v5, A9, c9, ?_⟩
      rw [bi]
      unfold Act.put
      rw [F5.2.1]
      exact { sz := (Array.size_setIfInBounds ..).trans I.sz, df := I.df, fr := fun k hk => (getD_set_ne (fun e => hk (by rw [← e]; decide))).trans (I.fr k hk), kl := I.kl.grownI hown hg hrs, e2 := (by obtain ⟨p, q, r, s, h⟩ := I.e2; exact ⟨p, q, r, s, h.grownI hown hg⟩), f0 := fun h => (getD_set_ne (by decide)).trans (I.f0 (bit_ne h (by decide))), f1 := fun h => (getD_set_ne (by decide)).trans (I.f1 (bit_ne h (by decide))), f2 := fun h => ⟨(getD_set_ne (by decide)).trans (I.f2 (bit_ne h (by decide))).1, fun h5 => by simp [bitOn] at h5⟩, f3 := fun h => (getD_set_ne (by decide)).trans (I.f3 (bit_ne h (by decide))), f4 := fun h => (getD_set_ne (by decide)).trans (I.f4 (bit_ne h (by decide))), f5 := fun _ => ⟨getD_set_eq (by rw [asz]; omega), ho2⟩, f6 := fun h => (getD_set_ne (by decide)).trans (I.f6 (bit_ne h (by decide))), f7 := fun h => (getD_set_ne (by decide)).trans (I.f7 (bit_ne h (by decide))), f8 := fun h => by have z := bit_ne h (by decide); have y5 := I.w8 z; simp [off'] at y5, f9 := fun h => by have z := bit_ne h (by decide); have yb := I.w9 z; have y5 := I.w8 yb; simp [off'] at y5, w5 := fun _ => bit_on h2, w8 := fun h => bit_on (I.w8 (bit_ne h (by decide))), w9 := fun h => bit_on (I.w9 (bit_ne h (by decide))) }
    | 6, _ =>
      refine wpOp_step (o := o6) rfl (fun K' hK => ?_)
      rw [if_pos (by simp [Region.wanted, F6.2.2])]
      refine wp_val (run_field2 F6.1 g1') ?_
      refine hK _ _ ⟨by rw [Array.size_setIfInBounds]; exact hs, v5, A1, c1, ?_⟩
      rw [bi]
      unfold Act.put
      rw [F6.2.1]
      exact { sz := (Array.size_setIfInBounds ..).trans I.sz, df := I.df, fr := fun k hk => (getD_set_ne (fun e => hk (by rw [← e]; decide))).trans (I.fr k hk), kl := I.kl, e2 := I.e2, f0 := fun h => (getD_set_ne (by decide)).trans (I.f0 (bit_ne h (by decide))), f1 := fun h => (getD_set_ne (by decide)).trans (I.f1 (bit_ne h (by decide))), f2 := fun h => ⟨(getD_set_ne (by decide)).trans ((I.f2 (bit_ne h (by decide))).1), fun h5 => (I.f2 (bit_ne h (by decide))).2 (bit_off h5)⟩, f3 := fun h => (getD_set_ne (by decide)).trans (I.f3 (bit_ne h (by decide))), f4 := fun h => (getD_set_ne (by decide)).trans (I.f4 (bit_ne h (by decide))), f5 := fun h => ⟨(getD_set_ne (by decide)).trans ((I.f5 (bit_ne h (by decide))).1), (I.f5 (bit_ne h (by decide))).2⟩, f6 := fun _ => getD_set_eq (by rw [asz]; omega), f7 := fun h => (getD_set_ne (by decide)).trans (I.f7 (bit_ne h (by decide))), f8 := fun h => (getD_set_ne (by decide)).trans (I.f8 (bit_ne h (by decide))), f9 := fun h => I.f9 (bit_ne h (by decide)), w5 := fun h => bit_on (I.w5 (bit_ne h (by decide))), w8 := fun h => bit_on (I.w8 (bit_ne h (by decide))), w9 := fun h => bit_on (I.w9 (bit_ne h (by decide))) }
    | 7, _ =>
      refine wpOp_step (o := o7) rfl (fun K' hK => ?_)
      rw [if_pos (by simp [Region.wanted, F7.2.2])]
      have h6 := ready_waits hi rfl D7
      refine wp_val (run_loadI F7.1 (I.f6 h6) k2) ?_
      refine hK _ _ ⟨by rw [Array.size_setIfInBounds]; exact hs, v5, A1, c1, ?_⟩
      rw [bi]
      unfold Act.put
      rw [F7.2.1]
      exact { sz := (Array.size_setIfInBounds ..).trans I.sz, df := I.df, fr := fun k hk => (getD_set_ne (fun e => hk (by rw [← e]; decide))).trans (I.fr k hk), kl := I.kl, e2 := I.e2, f0 := fun h => (getD_set_ne (by decide)).trans (I.f0 (bit_ne h (by decide))), f1 := fun h => (getD_set_ne (by decide)).trans (I.f1 (bit_ne h (by decide))), f2 := fun h => ⟨(getD_set_ne (by decide)).trans ((I.f2 (bit_ne h (by decide))).1), fun h5 => (I.f2 (bit_ne h (by decide))).2 (bit_off h5)⟩, f3 := fun h => (getD_set_ne (by decide)).trans (I.f3 (bit_ne h (by decide))), f4 := fun h => (getD_set_ne (by decide)).trans (I.f4 (bit_ne h (by decide))), f5 := fun h => ⟨(getD_set_ne (by decide)).trans ((I.f5 (bit_ne h (by decide))).1), (I.f5 (bit_ne h (by decide))).2⟩, f6 := fun h => (getD_set_ne (by decide)).trans (I.f6 (bit_ne h (by decide))), f7 := fun _ => getD_set_eq (by rw [asz]; omega), f8 := fun h => (getD_set_ne (by decide)).trans (I.f8 (bit_ne h (by decide))), f9 := fun h => I.f9 (bit_ne h (by decide)), w5 := fun h => bit_on (I.w5 (bit_ne h (by decide))), w8 := fun h => bit_on (I.w8 (bit_ne h (by decide))), w9 := fun h => bit_on (I.w9 (bit_ne h (by decide))) }
    | 8, _ =>
      refine wpOp_step (o := o8) rfl (fun K' hK => ?_)
      rw [if_pos (by simp [Region.wanted, F8.2.2])]
      have h1 := ready_waits hi rfl D8.1
      have h5 := ready_waits hi rfl D8.2.1
      have h7 := ready_waits hi rfl D8.2.2
      refine wp_val (run_build3 F8.1 (I.f1 h1) (I.f5 h5).1 (I.f7 h7)) ?_
      refine hK _ _ ⟨by rw [Array.size_setIfInBounds]; exact hs, v5, A1, c1, ?_⟩
      rw [bi]
      unfold Act.put
      rw [F8.2.1]
      exact { sz := (Array.size_setIfInBounds ..).trans I.sz, df := I.df, fr := fun k hk => (getD_set_ne (fun e => hk (by rw [← e]; decide))).trans (I.fr k hk), kl := I.kl, e2 := I.e2, f0 := fun h => (getD_set_ne (by decide)).trans (I.f0 (bit_ne h (by decide))), f1 := fun h => (getD_set_ne (by decide)).trans (I.f1 (bit_ne h (by decide))), f2 := fun h => ⟨(getD_set_ne (by decide)).trans ((I.f2 (bit_ne h (by decide))).1), fun h5 => (I.f2 (bit_ne h (by decide))).2 (bit_off h5)⟩, f3 := fun h => (getD_set_ne (by decide)).trans (I.f3 (bit_ne h (by decide))), f4 := fun h => (getD_set_ne (by decide)).trans (I.f4 (bit_ne h (by decide))), f5 := fun h => ⟨(getD_set_ne (by decide)).trans ((I.f5 (bit_ne h (by decide))).1), (I.f5 (bit_ne h (by decide))).2⟩, f6 := fun h => (getD_set_ne (by decide)).trans (I.f6 (bit_ne h (by decide))), f7 := fun h => (getD_set_ne (by decide)).trans (I.f7 (bit_ne h (by decide))), f8 := fun _ => getD_set_eq (by rw [asz]; omega), f9 := fun h => I.f9 (bit_ne h (by decide)), w5 := fun h => bit_on (I.w5 (bit_ne h (by decide))), w8 := fun _ => bit_on h5, w9 := fun h => bit_on (I.w9 (bit_ne h (by decide))) }
    | 9, _ =>
      refine wpOp_step (o := o9) rfl (fun K' hK => ?_)
      rw [if_pos (by simp [Region.wanted, F9.2.2])]
      have h8 := ready_waits hi rfl D9
      obtain ⟨p, q, r, s, hb⟩ := I.e2
      refine Tryd.wp_storeL (.tmp 2) (.tmp 11) F9.1 g2' (I.f8 h8) ⟨rfl, rfl, rfl, rfl⟩ hb (fun W2 og hx => ?_)
      refine hK _ _ ⟨by rw [Array.size_setIfInBounds]; exact hs, v5, A1, c1, ?_⟩
      rw [bi]
      unfold Act.put
      rw [F9.2.1]
      exact { sz := I.sz, df := I.df, fr := fun k hk => I.fr k hk, kl := I.kl.setOut hg2 og hb out2, e2 := ⟨_, _, _, _, hx⟩, f0 := fun h => I.f0 (bit_ne h (by decide)), f1 := fun h => I.f1 (bit_ne h (by decide)), f2 := fun h => ⟨(I.f2 (bit_ne h (by decide))).1, fun h5 => og.own hb (by decide) ((I.f2 (bit_ne h (by decide))).2 (bit_off h5))⟩, f3 := fun h => I.f3 (bit_ne h (by decide)), f4 := fun h => I.f4 (bit_ne h (by decide)), f5 := fun h => ⟨(I.f5 (bit_ne h (by decide))).1, og.own hb (by decide) (I.f5 (bit_ne h (by decide))).2⟩, f6 := fun h => I.f6 (bit_ne h (by decide)), f7 := fun h => I.f7 (bit_ne h (by decide)), f8 := fun h => I.f8 (bit_ne h (by decide)), f9 := fun _ => hx, w5 := fun h => bit_on (I.w5 (bit_ne h (by decide))), w8 := fun h => bit_on (I.w8 (bit_ne h (by decide))), w9 := fun _ => bit_on h8 }
end
set_option maxRecDepth 100000 in
set_option maxHeartbeats 8000000 in
theorem refLFrame_any (l : Ln) (A : Option Addr) (n c : Nat) (B : Option Addr) (m d C : Nat) (hn : n = l.ls.length) (hm : m = l.cs.length) (w : World) (hl : LnAt w C l A B) (h1 : l.ls.length ≤ 1000000000) (h2 : l.cs.length ≤ 1000000000) :
    Calls Tryd.prog 23 #[.agg #[.int .i64 l.q, .slice A n c, .int .i64 l.k, .slice B m d]] w (RetLnO ⟨l.q, l.ls, l.k, []⟩ w) := by
  subst hn hm
  have B9 := hid h1
  have C9 := hid h2
  have RS : Hid (∀ r ∈ [(⟨l, A, B⟩ : RowL)], LnAt w w.heap.size r.l r.A r.B) := hid (by simpa using hl.live)
  have K := hid (KL.start w [⟨l, A, B⟩] RS.out)
  clear hl h1 h2
  go_enter Tryd.func23, Tryd.ntmps23
  go_upto_region 1 with (first
    | ((with_reducible show wpList _ _ _ _ _ _); refine Tryd.klBox (by rfl) _ (by rfl) (some 1) (by rfl) (by rfl) K ?_; intro g1 V1 K1; clear K; (have K := K1); clear K1)
    | ((with_reducible show wpList _ _ _ _ _ _); refine Tryd.klAlloc (by rfl) (by rfl) (some 2) (by rfl) K ?_; intro g2 V1 K1; clear K; (have K := K1); clear K1))
  simp only [Act.put, List.setIfInBounds_toArray, List.set_cons_succ, List.set_cons_zero]
  refine Tryd.rfrm_reg (l := l) (A := A) (c := c) (B := B) (d := d) (g1 := g1) (g2 := g2) ⟨rfl, rfl, rfl⟩ ⟨rfl, rfl, rfl⟩ ⟨rfl, rfl, rfl⟩ ⟨rfl, rfl, rfl⟩ ⟨rfl, rfl, rfl⟩ ⟨rfl, rfl, rfl⟩ ⟨rfl, rfl, rfl⟩ ⟨rfl, rfl, rfl⟩ ⟨rfl, rfl, rfl⟩ ⟨rfl, rfl, rfl⟩ (by decide +kernel) (by decide +kernel) (by decide +kernel) (by decide +kernel) (by decide +kernel) (by decide +kernel) (by decide +kernel) (by simp) rfl rfl K.out (by simp) (by simp) RS.out B9.out ?_
  intro v5 A1 c1 V K1 b2 ow
  simp only [upds, List.foldl_cons, List.foldl_nil, List.setIfInBounds_toArray, List.set_cons_succ, List.set_cons_zero]
  repeat go_step
  (try simp only [Exit.inBlock, Exit.then])
  refine Tryd.ret_line Tryd.results23 rfl g2 _ _ _ _ rfl b2 ?_
  exact ⟨A1, c1, none, 0, rfl, ow, K1.b⟩
end Go.Proofs.YtpldmiencoolhaaDoor
