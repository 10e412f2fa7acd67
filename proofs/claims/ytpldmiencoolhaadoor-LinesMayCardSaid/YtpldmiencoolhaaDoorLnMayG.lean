/- The laws of the two regions of LinesMay that draw their order. (Printed by wip/lnmayreg.py.) -/
import Derived.Test.YtpldmiencoolhaaDoorLnRead
namespace Go.Proofs.YtpldmiencoolhaaDoor
open Go.RowKit Go.Lib Go.Great

structure May4I (T : Array Value) (l : Ln) (A : Option Addr) (c : Nat) (B : Option Addr) (d : Nat) (r : Ln) (A' : Option Addr) (c' : Nat) (B' : Option Addr) (d' : Nat) (A5 : Option Addr) (c5 : Nat) (B5 : Option Addr) (d5 : Nat) (w0 : World) (bs : List BoxR) (rs : List RowL) (mb sb : Bool) (b : Nat → Bool) (a : Act) (w : World) : Prop where
  sz : a.tmps.size = T.size
  df : a.defers = []
  fr : ∀ k, k ∉ [15, 16, 17, 18, 19, 20, 21, 22, 23, 24, 25, 26, 27, 28, 29, 30, 31, 32, 33, 34] → a.tmps.getD k undef = T.getD k undef
  kl : KL w0 w bs rs []
  kw : KL w0 w bs rs [⟨l, A5, B5⟩]
  f0 : b 0 = true → a.tmps.getD 15 undef = .agg #[.int .i64 l.q, .slice A l.ls.length c, .int .i64 l.k, .slice B l.cs.length d]
  f1 : b 1 = true → a.tmps.getD 16 undef = .bool mb
  f2 : b 2 = true → a.tmps.getD 17 undef = .agg #[.int .i64 l.q, .slice A5 l.ls.length c5, .int .i64 l.k, .slice B5 l.cs.length d5]
  f3 : b 3 = true → a.tmps.getD 18 undef = .bool mb
  f4 : b 4 = true → a.tmps.getD 19 undef = .bool false
  f5 : b 5 = true → a.tmps.getD 20 undef = .bool false
  f6 : b 6 = true → a.tmps.getD 21 undef = .agg #[.int .i64 l.q, .slice A l.ls.length c, .int .i64 l.k, .slice B l.cs.length d]
  f7 : b 7 = true → a.tmps.getD 22 undef = .agg #[.int .i64 r.q, .slice A' r.ls.length c', .int .i64 r.k, .slice B' r.cs.length d']
  f8 : b 8 = true → a.tmps.getD 23 undef = .bool sb
  f9 : b 9 = true → a.tmps.getD 24 undef = .agg #[.int .i64 l.q, .slice A l.ls.length c, .int .i64 l.k, .slice B l.cs.length d]
  f10 : b 10 = true → a.tmps.getD 25 undef = .agg #[.int .i64 r.q, .slice A' r.ls.length c', .int .i64 r.k, .slice B' r.cs.length d']
  f11 : b 11 = true → a.tmps.getD 26 undef = .bool sb
  f12 : b 12 = true → a.tmps.getD 27 undef = .bool false
  f13 : b 13 = true → a.tmps.getD 28 undef = .bool false
  f14 : b 14 = true → a.tmps.getD 29 undef = .bool false
  f15 : b 15 = true → a.tmps.getD 30 undef = .agg #[.int .i64 l.q, .slice A l.ls.length c, .int .i64 l.k, .slice B l.cs.length d]
  f16 : b 16 = true → a.tmps.getD 31 undef = .agg #[.int .i64 l.q, .slice A l.ls.length c, .int .i64 l.k, .slice B l.cs.length d]
  f17 : b 17 = true → a.tmps.getD 32 undef = .bool true
  f18 : b 18 = true → a.tmps.getD 33 undef = .bool false
  f19 : b 19 = true → a.tmps.getD 34 undef = .bool false
section
variable {o0 o1 o2 o3 o4 o5 o6 o7 o8 o9 o10 o11 o12 o13 o14 o15 o16 o17 o18 o19 : Oper}
set_option maxHeartbeats 4000000 in
theorem Tryd.may4_reg {id : Nat} {Q : Exit → Act → World → Prop} {T : Array Value} {l : Ln} {A : Option Addr} {c : Nat} {B : Option Addr} {d : Nat} {r : Ln} {A' : Option Addr} {c' : Nat} {B' : Option Addr} {d' : Nat} {A5 : Option Addr} {c5 : Nat} {B5 : Option Addr} {d5 : Nat} {g1 g2 g5 : Nat} {w0 w : World} {bs : List BoxR} {rs : List RowL} {mb sb : Bool} {f1 : FuncId} {t1 : Array TypeId} {f3 : FuncId} {t3 : Array TypeId} {f8 : FuncId} {t8 : Array TypeId} {f11 : FuncId} {t11 : Array TypeId} {f17 : FuncId} {t17 : Array TypeId}
    (F0 : o0.op = .load 25 (.tmp 2) ∧ o0.dst = some 15 ∧ o0.guard = none)
    (F1 : o1.op = .call { callee := .value (.func f1), args := #[(.tmp 15)], argTypes := t1 } ∧ o1.dst = some 16 ∧ o1.guard = none)
    (F2 : o2.op = .load 25 (.tmp 5) ∧ o2.dst = some 17 ∧ o2.guard = none)
    (F3 : o3.op = .call { callee := .value (.func f3), args := #[(.tmp 17)], argTypes := t3 } ∧ o3.dst = some 18 ∧ o3.guard = none)
    (F4 : o4.op = .binOp .neq 4 (.tmp 16) (.tmp 18) 4 ∧ o4.dst = some 19 ∧ o4.guard = none)
    (F5 : o5.op = .move (.tmp 19) ∧ o5.dst = some 20 ∧ o5.guard = none)
    (F6 : o6.op = .load 25 (.tmp 2) ∧ o6.dst = some 21 ∧ o6.guard = some (5, false))
    (F7 : o7.op = .load 25 (.tmp 3) ∧ o7.dst = some 22 ∧ o7.guard = some (5, false))
    (F8 : o8.op = .call { callee := .value (.func f8), args := #[(.tmp 21), (.tmp 22)], argTypes := t8 } ∧ o8.dst = some 23 ∧ o8.guard = some (5, false))
    (F9 : o9.op = .load 25 (.tmp 2) ∧ o9.dst = some 24 ∧ o9.guard = some (5, false))
    (F10 : o10.op = .load 25 (.tmp 3) ∧ o10.dst = some 25 ∧ o10.guard = some (5, false))
    (F11 : o11.op = .call { callee := .value (.func f11), args := #[(.tmp 24), (.tmp 25)], argTypes := t11 } ∧ o11.dst = some 26 ∧ o11.guard = some (5, false))
    (F12 : o12.op = .binOp .neq 4 (.tmp 23) (.tmp 26) 4 ∧ o12.dst = some 27 ∧ o12.guard = some (5, false))
    (F13 : o13.op = .pick (.tmp 20) (.const (.bool true)) (.tmp 27) ∧ o13.dst = some 28 ∧ o13.guard = none)
    (F14 : o14.op = .move (.tmp 28) ∧ o14.dst = some 29 ∧ o14.guard = none)
    (F15 : o15.op = .load 25 (.tmp 2) ∧ o15.dst = some 30 ∧ o15.guard = some (14, false))
    (F16 : o16.op = .load 25 (.tmp 2) ∧ o16.dst = some 31 ∧ o16.guard = some (14, false))
    (F17 : o17.op = .call { callee := .value (.func f17), args := #[(.tmp 30), (.tmp 31)], argTypes := t17 } ∧ o17.dst = some 32 ∧ o17.guard = some (14, false))
    (F18 : o18.op = .unOp .not 4 (.tmp 32) ∧ o18.dst = some 33 ∧ o18.guard = some (14, false))
    (F19 : o19.op = .pick (.tmp 29) (.const (.bool true)) (.tmp 33) ∧ o19.dst = some 34 ∧ o19.guard = none)
    (D1 : dep13 o1 0 = true)
    (D3 : dep13 o3 2 = true)
    (D4 : dep13 o4 1 = true ∧ dep13 o4 3 = true)
    (D5 : dep13 o5 4 = true)
    (D6 : dep13 o6 5 = true)
    (D7 : dep13 o7 5 = true)
    (D8 : dep13 o8 6 = true ∧ dep13 o8 7 = true ∧ dep13 o8 5 = true)
    (D9 : dep13 o9 5 = true)
    (D10 : dep13 o10 5 = true)
    (D11 : dep13 o11 9 = true ∧ dep13 o11 10 = true ∧ dep13 o11 5 = true)
    (D12 : dep13 o12 8 = true ∧ dep13 o12 11 = true ∧ dep13 o12 5 = true)
    (D13 : dep13 o13 5 = true ∧ dep13 o13 12 = true)
    (D14 : dep13 o14 13 = true)
    (D15 : dep13 o15 14 = true)
    (D16 : dep13 o16 14 = true)
    (D17 : dep13 o17 15 = true ∧ dep13 o17 16 = true ∧ dep13 o17 14 = true)
    (D18 : dep13 o18 17 = true ∧ dep13 o18 14 = true)
    (D19 : dep13 o19 14 = true ∧ dep13 o19 18 = true)
    (down : edgesDown #[o0, o1, o2, o3, o4, o5, o6, o7, o8, o9, o10, o11, o12, o13, o14, o15, o16, o17, o18, o19] = true) (hsz : 34 < T.size) (p2 : T.getD 2 undef = .pointer (some ⟨g1, 0, none⟩)) (p3 : T.getD 3 undef = .pointer (some ⟨g2, 0, none⟩)) (p5 : T.getD 5 undef = .pointer (some ⟨g5, 0, none⟩))
    (K : KL w0 w bs rs [⟨l, A5, B5⟩]) (hb1 : (⟨g1, .int .i64 l.q, .slice A l.ls.length c, .int .i64 l.k, .slice B l.cs.length d⟩ : BoxR) ∈ bs) (hb2 : (⟨g2, .int .i64 r.q, .slice A' r.ls.length c', .int .i64 r.k, .slice B' r.cs.length d'⟩ : BoxR) ∈ bs) (hb5 : (⟨g5, .int .i64 l.q, .slice A5 l.ls.length c5, .int .i64 l.k, .slice B5 l.cs.length d5⟩ : BoxR) ∈ bs)
    (hl : (⟨l, A, B⟩ : RowL) ∈ rs) (hr : (⟨r, A', B'⟩ : RowL) ∈ rs)
    (C1 : ∀ W, LnAt W W.heap.size l A B → Below w0.heap.size w0 W → Calls Tryd.prog f1 #[.agg #[.int .i64 l.q, .slice A l.ls.length c, .int .i64 l.k, .slice B l.cs.length d]] W (fun e w' => e = .returned (.bool mb) ∧ Below W.heap.size W w')) (C3 : ∀ W, LnAt W W.heap.size l A5 B5 → Below w0.heap.size w0 W → Calls Tryd.prog f3 #[.agg #[.int .i64 l.q, .slice A5 l.ls.length c5, .int .i64 l.k, .slice B5 l.cs.length d5]] W (fun e w' => e = .returned (.bool mb) ∧ Below W.heap.size W w'))
    (C8 : ∀ W, LnAt W W.heap.size l A B → LnAt W W.heap.size r A' B' → Below w0.heap.size w0 W → Calls Tryd.prog f8 #[.agg #[.int .i64 l.q, .slice A l.ls.length c, .int .i64 l.k, .slice B l.cs.length d], .agg #[.int .i64 r.q, .slice A' r.ls.length c', .int .i64 r.k, .slice B' r.cs.length d']] W (fun e w' => e = .returned (.bool sb) ∧ Below W.heap.size W w'))
    (C11 : ∀ W, LnAt W W.heap.size l A B → LnAt W W.heap.size r A' B' → Below w0.heap.size w0 W → Calls Tryd.prog f11 #[.agg #[.int .i64 l.q, .slice A l.ls.length c, .int .i64 l.k, .slice B l.cs.length d], .agg #[.int .i64 r.q, .slice A' r.ls.length c', .int .i64 r.k, .slice B' r.cs.length d']] W (fun e w' => e = .returned (.bool sb) ∧ Below W.heap.size W w'))
    (C17 : ∀ W, LnAt W W.heap.size l A B → LnAt W W.heap.size l A B → Below w0.heap.size w0 W → Calls Tryd.prog f17 #[.agg #[.int .i64 l.q, .slice A l.ls.length c, .int .i64 l.k, .slice B l.cs.length d], .agg #[.int .i64 l.q, .slice A l.ls.length c, .int .i64 l.k, .slice B l.cs.length d]] W (fun e w' => e = .returned (.bool true) ∧ Below W.heap.size W w'))
    (H1 : ∀ w, (callFunc f1 #[.agg #[.int .i64 l.q, .slice A l.ls.length c, .int .i64 l.k, .slice B l.cs.length d]]).run Tryd.prog w = .ok (.enter f1 #[.agg #[.int .i64 l.q, .slice A l.ls.length c, .int .i64 l.k, .slice B l.cs.length d]]) w)
    (H3 : ∀ w, (callFunc f3 #[.agg #[.int .i64 l.q, .slice A5 l.ls.length c5, .int .i64 l.k, .slice B5 l.cs.length d5]]).run Tryd.prog w = .ok (.enter f3 #[.agg #[.int .i64 l.q, .slice A5 l.ls.length c5, .int .i64 l.k, .slice B5 l.cs.length d5]]) w)
    (H8 : ∀ w, (callFunc f8 #[.agg #[.int .i64 l.q, .slice A l.ls.length c, .int .i64 l.k, .slice B l.cs.length d], .agg #[.int .i64 r.q, .slice A' r.ls.length c', .int .i64 r.k, .slice B' r.cs.length d']]).run Tryd.prog w = .ok (.enter f8 #[.agg #[.int .i64 l.q, .slice A l.ls.length c, .int .i64 l.k, .slice B l.cs.length d], .agg #[.int .i64 r.q, .slice A' r.ls.length c', .int .i64 r.k, .slice B' r.cs.length d']]) w)
    (H11 : ∀ w, (callFunc f11 #[.agg #[.int .i64 l.q, .slice A l.ls.length c, .int .i64 l.k, .slice B l.cs.length d], .agg #[.int .i64 r.q, .slice A' r.ls.length c', .int .i64 r.k, .slice B' r.cs.length d']]).run Tryd.prog w = .ok (.enter f11 #[.agg #[.int .i64 l.q, .slice A l.ls.length c, .int .i64 l.k, .slice B l.cs.length d], .agg #[.int .i64 r.q, .slice A' r.ls.length c', .int .i64 r.k, .slice B' r.cs.length d']]) w)
    (H17 : ∀ w, (callFunc f17 #[.agg #[.int .i64 l.q, .slice A l.ls.length c, .int .i64 l.k, .slice B l.cs.length d], .agg #[.int .i64 l.q, .slice A l.ls.length c, .int .i64 l.k, .slice B l.cs.length d]]).run Tryd.prog w = .ok (.enter f17 #[.agg #[.int .i64 l.q, .slice A l.ls.length c, .int .i64 l.k, .slice B l.cs.length d], .agg #[.int .i64 l.q, .slice A l.ls.length c, .int .i64 l.k, .slice B l.cs.length d]]) w)
    (hend : ∀ w', KL w0 w' bs rs [⟨l, A5, B5⟩] → Q .normal ⟨upds T [(15, .agg #[.int .i64 l.q, .slice A l.ls.length c, .int .i64 l.k, .slice B l.cs.length d]), (16, .bool mb), (17, .agg #[.int .i64 l.q, .slice A5 l.ls.length c5, .int .i64 l.k, .slice B5 l.cs.length d5]), (18, .bool mb), (19, .bool false), (20, .bool false), (21, .agg #[.int .i64 l.q, .slice A l.ls.length c, .int .i64 l.k, .slice B l.cs.length d]), (22, .agg #[.int .i64 r.q, .slice A' r.ls.length c', .int .i64 r.k, .slice B' r.cs.length d']), (23, .bool sb), (24, .agg #[.int .i64 l.q, .slice A l.ls.length c, .int .i64 l.k, .slice B l.cs.length d]), (25, .agg #[.int .i64 r.q, .slice A' r.ls.length c', .int .i64 r.k, .slice B' r.cs.length d']), (26, .bool sb), (27, .bool false), (28, .bool false), (29, .bool false), (30, .agg #[.int .i64 l.q, .slice A l.ls.length c, .int .i64 l.k, .slice B l.cs.length d]), (31, .agg #[.int .i64 l.q, .slice A l.ls.length c, .int .i64 l.k, .slice B l.cs.length d]), (32, .bool true), (33, .bool false), (34, .bool false)], []⟩ w') :
    (Code.region id #[o0, o1, o2, o3, o4, o5, o6, o7, o8, o9, o10, o11, o12, o13, o14, o15, o16, o17, o18, o19] true).wp Tryd.prog Q ⟨T, []⟩ w := by
  refine wp_region_any (by kernel_rfl) ?_
  refine wpAny_inv (fun b a w => b.size = 20 ∧ May4I T l A c B d r A' c' B' d' A5 c5 B5 d5 w0 bs rs mb sb (fun k => b.getD k false) a w) ?step ?fin _ _ _ _ ?start ?fuel
  case fuel => simp
  case start =>
    refine ⟨by simp, ?_⟩
    have no : ∀ k, (Array.replicate (#[o0, o1, o2, o3, o4, o5, o6, o7, o8, o9, o10, o11, o12, o13, o14, o15, o16, o17, o18, o19] : Array Oper).size false).getD k false = true → False := fun k h => by
      simp [Array.getD] at h
    have K := K.quiet (w' := w.drew) ⟨1, rfl⟩
    exact { sz := rfl, df := rfl, fr := fun _ _ => rfl, kl := K.less (List.Sublist.refl _) (fun r h => h) (List.nil_sublist _), kw := K, f0 := fun h => (no _ h).elim, f1 := fun h => (no _ h).elim, f2 := fun h => (no _ h).elim, f3 := fun h => (no _ h).elim, f4 := fun h => (no _ h).elim, f5 := fun h => (no _ h).elim, f6 := fun h => (no _ h).elim, f7 := fun h => (no _ h).elim, f8 := fun h => (no _ h).elim, f9 := fun h => (no _ h).elim, f10 := fun h => (no _ h).elim, f11 := fun h => (no _ h).elim, f12 := fun h => (no _ h).elim, f13 := fun h => (no _ h).elim, f14 := fun h => (no _ h).elim, f15 := fun h => (no _ h).elim, f16 := fun h => (no _ h).elim, f17 := fun h => (no _ h).elim, f18 := fun h => (no _ h).elim, f19 := fun h => (no _ h).elim }
  case fin =>
    rintro b a w' ⟨hs, I⟩ hr'
    have all : ∀ k, k < 20 → b.getD k false = true := fun k hk => ready_nil down hr' hs 20 k hk hk
    have := hend w' I.kw
    have ea : a = ⟨upds T [(15, .agg #[.int .i64 l.q, .slice A l.ls.length c, .int .i64 l.k, .slice B l.cs.length d]), (16, .bool mb), (17, .agg #[.int .i64 l.q, .slice A5 l.ls.length c5, .int .i64 l.k, .slice B5 l.cs.length d5]), (18, .bool mb), (19, .bool false), (20, .bool false), (21, .agg #[.int .i64 l.q, .slice A l.ls.length c, .int .i64 l.k, .slice B l.cs.length d]), (22, .agg #[.int .i64 r.q, .slice A' r.ls.length c', .int .i64 r.k, .slice B' r.cs.length d']), (23, .bool sb), (24, .agg #[.int .i64 l.q, .slice A l.ls.length c, .int .i64 l.k, .slice B l.cs.length d]), (25, .agg #[.int .i64 r.q, .slice A' r.ls.length c', .int .i64 r.k, .slice B' r.cs.length d']), (26, .bool sb), (27, .bool false), (28, .bool false), (29, .bool false), (30, .agg #[.int .i64 l.q, .slice A l.ls.length c, .int .i64 l.k, .slice B l.cs.length d]), (31, .agg #[.int .i64 l.q, .slice A l.ls.length c, .int .i64 l.k, .slice B l.cs.length d]), (32, .bool true), (33, .bool false), (34, .bool false)], []⟩ := by
      obtain ⟨tm, df⟩ := a
      have hd : df = [] := I.df
      subst hd
      refine congrArg (fun z => (⟨z, []⟩ : Act)) (frame_eq [(15, .agg #[.int .i64 l.q, .slice A l.ls.length c, .int .i64 l.k, .slice B l.cs.length d]), (16, .bool mb), (17, .agg #[.int .i64 l.q, .slice A5 l.ls.length c5, .int .i64 l.k, .slice B5 l.cs.length d5]), (18, .bool mb), (19, .bool false), (20, .bool false), (21, .agg #[.int .i64 l.q, .slice A l.ls.length c, .int .i64 l.k, .slice B l.cs.length d]), (22, .agg #[.int .i64 r.q, .slice A' r.ls.length c', .int .i64 r.k, .slice B' r.cs.length d']), (23, .bool sb), (24, .agg #[.int .i64 l.q, .slice A l.ls.length c, .int .i64 l.k, .slice B l.cs.length d]), (25, .agg #[.int .i64 r.q, .slice A' r.ls.length c', .int .i64 r.k, .slice B' r.cs.length d']), (26, .bool sb), (27, .bool false), (28, .bool false), (29, .bool false), (30, .agg #[.int .i64 l.q, .slice A l.ls.length c, .int .i64 l.k, .slice B l.cs.length d]), (31, .agg #[.int .i64 l.q, .slice A l.ls.length c, .int .i64 l.k, .slice B l.cs.length d]), (32, .bool true), (33, .bool false), (34, .bool false)] I.sz ?_ ?_ ?_ I.fr)
      · intro q hq; simp at hq; rcases hq with rfl | rfl | rfl | rfl | rfl | rfl | rfl | rfl | rfl | rfl | rfl | rfl | rfl | rfl | rfl | rfl | rfl | rfl | rfl | rfl <;> simp <;> omega
      · show ([15, 16, 17, 18, 19, 20, 21, 22, 23, 24, 25, 26, 27, 28, 29, 30, 31, 32, 33, 34] : List Nat).Nodup; decide
      · intro q hq
        simp only [List.mem_cons, List.not_mem_nil, or_false] at hq
        rcases hq with rfl | rfl | rfl | rfl | rfl | rfl | rfl | rfl | rfl | rfl | rfl | rfl | rfl | rfl | rfl | rfl | rfl | rfl | rfl | rfl
        · exact I.f0 (all 0 (by decide))
        · exact I.f1 (all 1 (by decide))
        · exact I.f2 (all 2 (by decide))
        · exact I.f3 (all 3 (by decide))
        · exact I.f4 (all 4 (by decide))
        · exact I.f5 (all 5 (by decide))
        · exact I.f6 (all 6 (by decide))
        · exact I.f7 (all 7 (by decide))
        · exact I.f8 (all 8 (by decide))
        · exact I.f9 (all 9 (by decide))
        · exact I.f10 (all 10 (by decide))
        · exact I.f11 (all 11 (by decide))
        · exact I.f12 (all 12 (by decide))
        · exact I.f13 (all 13 (by decide))
        · exact I.f14 (all 14 (by decide))
        · exact I.f15 (all 15 (by decide))
        · exact I.f16 (all 16 (by decide))
        · exact I.f17 (all 17 (by decide))
        · exact I.f18 (all 18 (by decide))
        · exact I.f19 (all 19 (by decide))
    rw [ea]
    exact this
  case step =>
    rintro b a w' i' ⟨hs, I⟩ hi
    have off := ready_mem hi
    have hlt : i' < 20 := by
      unfold Region.ready at hi
      rw [List.mem_filter] at hi
      exact List.mem_range.1 hi.1
    have off' : b.getD i' false = false := by
      simp only [Array.getD_eq_getD_getElem?] at off ⊢
      rw [Array.getElem?_eq_getElem (by omega)] at off ⊢
      simpa using off
    obtain ⟨-, hbl⟩ := I.kl.bx _ hb1
    obtain ⟨-, hbr⟩ := I.kl.bx _ hb2
    obtain ⟨-, hbs⟩ := I.kl.bx _ hb5
    have asz := I.sz
    have g2' : a.eval (.tmp 2) = .pointer (some ⟨g1, 0, none⟩) := (I.fr 2 (by decide)).trans p2
    have g3' : a.eval (.tmp 3) = .pointer (some ⟨g2, 0, none⟩) := (I.fr 3 (by decide)).trans p3
    have g5' : a.eval (.tmp 5) = .pointer (some ⟨g5, 0, none⟩) := (I.fr 5 (by decide)).trans p5
    have bi : (fun k => (b.setIfInBounds i' true).getD k false) = bitOn (fun k => b.getD k false) i' := bit_set (by omega)
    match i', hlt with
    | 0, _ =>
      refine wpOp_step (o := o0) rfl (fun K' hK => ?_)
      rw [if_pos (by simp [Region.wanted, F0.2.2])]
      refine Tryd.wp_loadL (.tmp 2) F0.1 g2' hbl ?_
      refine hK _ _ ⟨by rw [Array.size_setIfInBounds]; exact hs, ?_⟩
      rw [bi]
      unfold Act.put
      rw [F0.2.1]
      exact { sz := (Array.size_setIfInBounds ..).trans I.sz, df := I.df, fr := fun k hk => (getD_set_ne (fun e => hk (by rw [← e]; decide))).trans (I.fr k hk), kl := I.kl, kw := I.kw, f0 := fun h => getD_set_eq (by rw [asz]; omega), f1 := fun h => (getD_set_ne (by decide)).trans (I.f1 (bit_ne h (by decide))), f2 := fun h => (getD_set_ne (by decide)).trans (I.f2 (bit_ne h (by decide))), f3 := fun h => (getD_set_ne (by decide)).trans (I.f3 (bit_ne h (by decide))), f4 := fun h => (getD_set_ne (by decide)).trans (I.f4 (bit_ne h (by decide))), f5 := fun h => (getD_set_ne (by decide)).trans (I.f5 (bit_ne h (by decide))), f6 := fun h => (getD_set_ne (by decide)).trans (I.f6 (bit_ne h (by decide))), f7 := fun h => (getD_set_ne (by decide)).trans (I.f7 (bit_ne h (by decide))), f8 := fun h => (getD_set_ne (by decide)).trans (I.f8 (bit_ne h (by decide))), f9 := fun h => (getD_set_ne (by decide)).trans (I.f9 (bit_ne h (by decide))), f10 := fun h => (getD_set_ne (by decide)).trans (I.f10 (bit_ne h (by decide))), f11 := fun h => (getD_set_ne (by decide)).trans (I.f11 (bit_ne h (by decide))), f12 := fun h => (getD_set_ne (by decide)).trans (I.f12 (bit_ne h (by decide))), f13 := fun h => (getD_set_ne (by decide)).trans (I.f13 (bit_ne h (by decide))), f14 := fun h => (getD_set_ne (by decide)).trans (I.f14 (bit_ne h (by decide))), f15 := fun h => (getD_set_ne (by decide)).trans (I.f15 (bit_ne h (by decide))), f16 := fun h => (getD_set_ne (by decide)).trans (I.f16 (bit_ne h (by decide))), f17 := fun h => (getD_set_ne (by decide)).trans (I.f17 (bit_ne h (by decide))), f18 := fun h => (getD_set_ne (by decide)).trans (I.f18 (bit_ne h (by decide))), f19 := fun h => (getD_set_ne (by decide)).trans (I.f19 (bit_ne h (by decide))) }
    | 1, _ =>
      refine wpOp_step (o := o1) rfl (fun K' hK => ?_)
      have h0 := ready_waits hi rfl D1
      rw [if_pos (by simp [Region.wanted, F1.2.2])]
      refine Tryd.wp_callN f1 #[(.tmp 15)] t1 F1.1 (vs := #[.agg #[.int .i64 l.q, .slice A l.ls.length c, .int .i64 l.k, .slice B l.cs.length d]]) (by simp only [List.map_toArray, List.map_cons, List.map_nil, show a.eval (.tmp 15) = _ from I.f0 h0]) H1 (C1 w' (I.kl.at_ hl) I.kl.b) ?_
      rintro e W2 ⟨rfl, hbw⟩
      refine ⟨_, rfl, ?_⟩
      refine hK _ _ ⟨by rw [Array.size_setIfInBounds]; exact hs, ?_⟩
      rw [bi]
      unfold Act.put
      rw [F1.2.1]
      exact { sz := (Array.size_setIfInBounds ..).trans I.sz, df := I.df, fr := fun k hk => (getD_set_ne (fun e => hk (by rw [← e]; decide))).trans (I.fr k hk), kl := I.kl.later hbw, kw := I.kw.later hbw, f0 := fun h => (getD_set_ne (by decide)).trans (I.f0 (bit_ne h (by decide))), f1 := fun h => getD_set_eq (by rw [asz]; omega), f2 := fun h => (getD_set_ne (by decide)).trans (I.f2 (bit_ne h (by decide))), f3 := fun h => (getD_set_ne (by decide)).trans (I.f3 (bit_ne h (by decide))), f4 := fun h => (getD_set_ne (by decide)).trans (I.f4 (bit_ne h (by decide))), f5 := fun h => (getD_set_ne (by decide)).trans (I.f5 (bit_ne h (by decide))), f6 := fun h => (getD_set_ne (by decide)).trans (I.f6 (bit_ne h (by decide))), f7 := fun h => (getD_set_ne (by decide)).trans (I.f7 (bit_ne h (by decide))), f8 := fun h => (getD_set_ne (by decide)).trans (I.f8 (bit_ne h (by decide))), f9 := fun h => (getD_set_ne (by decide)).trans (I.f9 (bit_ne h (by decide))), f10 := fun h => (getD_set_ne (by decide)).trans (I.f10 (bit_ne h (by decide))), f11 := fun h => (getD_set_ne (by decide)).trans (I.f11 (bit_ne h (by decide))), f12 := fun h => (getD_set_ne (by decide)).trans (I.f12 (bit_ne h (by decide))), f13 := fun h => (getD_set_ne (by decide)).trans (I.f13 (bit_ne h (by decide))), f14 := fun h => (getD_set_ne (by decide)).trans (I.f14 (bit_ne h (by decide))), f15 := fun h => (getD_set_ne (by decide)).trans (I.f15 (bit_ne h (by decide))), f16 := fun h => (getD_set_ne (by decide)).trans (I.f16 (bit_ne h (by decide))), f17 := fun h => (getD_set_ne (by decide)).trans (I.f17 (bit_ne h (by decide))), f18 := fun h => (getD_set_ne (by decide)).trans (I.f18 (bit_ne h (by decide))), f19 := fun h => (getD_set_ne (by decide)).trans (I.f19 (bit_ne h (by decide))) }
    | 2, _ =>
      refine wpOp_step (o := o2) rfl (fun K' hK => ?_)
      rw [if_pos (by simp [Region.wanted, F2.2.2])]
      refine Tryd.wp_loadL (.tmp 5) F2.1 g5' hbs ?_
      refine hK _ _ ⟨by rw [Array.size_setIfInBounds]; exact hs, ?_⟩
      rw [bi]
      unfold Act.put
      rw [F2.2.1]
      exact { sz := (Array.size_setIfInBounds ..).trans I.sz, df := I.df, fr := fun k hk => (getD_set_ne (fun e => hk (by rw [← e]; decide))).trans (I.fr k hk), kl := I.kl, kw := I.kw, f0 := fun h => (getD_set_ne (by decide)).trans (I.f0 (bit_ne h (by decide))), f1 := fun h => (getD_set_ne (by decide)).trans (I.f1 (bit_ne h (by decide))), f2 := fun h => getD_set_eq (by rw [asz]; omega), f3 := fun h => (getD_set_ne (by decide)).trans (I.f3 (bit_ne h (by decide))), f4 := fun h => (getD_set_ne (by decide)).trans (I.f4 (bit_ne h (by decide))), f5 := fun h => (getD_set_ne (by decide)).trans (I.f5 (bit_ne h (by decide))), f6 := fun h => (getD_set_ne (by decide)).trans (I.f6 (bit_ne h (by decide))), f7 := fun h => (getD_set_ne (by decide)).trans (I.f7 (bit_ne h (by decide))), f8 := fun h => (getD_set_ne (by decide)).trans (I.f8 (bit_ne h (by decide))), f9 := fun h => (getD_set_ne (by decide)).trans (I.f9 (bit_ne h (by decide))), f10 := fun h => (getD_set_ne (by decide)).trans (I.f10 (bit_ne h (by decide))), f11 := fun h => (getD_set_ne (by decide)).trans (I.f11 (bit_ne h (by decide))), f12 := fun h => (getD_set_ne (by decide)).trans (I.f12 (bit_ne h (by decide))), f13 := fun h => (getD_set_ne (by decide)).trans (I.f13 (bit_ne h (by decide))), f14 := fun h => (getD_set_ne (by decide)).trans (I.f14 (bit_ne h (by decide))), f15 := fun h => (getD_set_ne (by decide)).trans (I.f15 (bit_ne h (by decide))), f16 := fun h => (getD_set_ne (by decide)).trans (I.f16 (bit_ne h (by decide))), f17 := fun h => (getD_set_ne (by decide)).trans (I.f17 (bit_ne h (by decide))), f18 := fun h => (getD_set_ne (by decide)).trans (I.f18 (bit_ne h (by decide))), f19 := fun h => (getD_set_ne (by decide)).trans (I.f19 (bit_ne h (by decide))) }
    | 3, _ =>
      refine wpOp_step (o := o3) rfl (fun K' hK => ?_)
      have h2 := ready_waits hi rfl D3
      rw [if_pos (by simp [Region.wanted, F3.2.2])]
      refine Tryd.wp_callN f3 #[(.tmp 17)] t3 F3.1 (vs := #[.agg #[.int .i64 l.q, .slice A5 l.ls.length c5, .int .i64 l.k, .slice B5 l.cs.length d5]]) (by simp only [List.map_toArray, List.map_cons, List.map_nil, show a.eval (.tmp 17) = _ from I.f2 h2]) H3 (C3 w' (I.kw.atW (r := ⟨l, A5, B5⟩) (by simp)) I.kl.b) ?_
      rintro e W2 ⟨rfl, hbw⟩
      refine ⟨_, rfl, ?_⟩
      refine hK _ _ ⟨by rw [Array.size_setIfInBounds]; exact hs, ?_⟩
      rw [bi]
      unfold Act.put
      rw [F3.2.1]
      exact { sz := (Array.size_setIfInBounds ..).trans I.sz, df := I.df, fr := fun k hk => (getD_set_ne (fun e => hk (by rw [← e]; decide))).trans (I.fr k hk), kl := I.kl.later hbw, kw := I.kw.later hbw, f0 := fun h => (getD_set_ne (by decide)).trans (I.f0 (bit_ne h (by decide))), f1 := fun h => (getD_set_ne (by decide)).trans (I.f1 (bit_ne h (by decide))), f2 := fun h => (getD_set_ne (by decide)).trans (I.f2 (bit_ne h (by decide))), f3 := fun h => getD_set_eq (by rw [asz]; omega), f4 := fun h => (getD_set_ne (by decide)).trans (I.f4 (bit_ne h (by decide))), f5 := fun h => (getD_set_ne (by decide)).trans (I.f5 (bit_ne h (by decide))), f6 := fun h => (getD_set_ne (by decide)).trans (I.f6 (bit_ne h (by decide))), f7 := fun h => (getD_set_ne (by decide)).trans (I.f7 (bit_ne h (by decide))), f8 := fun h => (getD_set_ne (by decide)).trans (I.f8 (bit_ne h (by decide))), f9 := fun h => (getD_set_ne (by decide)).trans (I.f9 (bit_ne h (by decide))), f10 := fun h => (getD_set_ne (by decide)).trans (I.f10 (bit_ne h (by decide))), f11 := fun h => (getD_set_ne (by decide)).trans (I.f11 (bit_ne h (by decide))), f12 := fun h => (getD_set_ne (by decide)).trans (I.f12 (bit_ne h (by decide))), f13 := fun h => (getD_set_ne (by decide)).trans (I.f13 (bit_ne h (by decide))), f14 := fun h => (getD_set_ne (by decide)).trans (I.f14 (bit_ne h (by decide))), f15 := fun h => (getD_set_ne (by decide)).trans (I.f15 (bit_ne h (by decide))), f16 := fun h => (getD_set_ne (by decide)).trans (I.f16 (bit_ne h (by decide))), f17 := fun h => (getD_set_ne (by decide)).trans (I.f17 (bit_ne h (by decide))), f18 := fun h => (getD_set_ne (by decide)).trans (I.f18 (bit_ne h (by decide))), f19 := fun h => (getD_set_ne (by decide)).trans (I.f19 (bit_ne h (by decide))) }
    | 4, _ =>
      refine wpOp_step (o := o4) rfl (fun K' hK => ?_)
      have h1 := ready_waits hi rfl D4.1
      have h3 := ready_waits hi rfl D4.2
      rw [if_pos (by simp [Region.wanted, F4.2.2])]
      refine wp_val (run_neqB F4.1 (I.f1 h1) (I.f3 h3)) ?_
      refine hK _ _ ⟨by rw [Array.size_setIfInBounds]; exact hs, ?_⟩
      rw [bi]
      unfold Act.put
      rw [F4.2.1]
      exact { sz := (Array.size_setIfInBounds ..).trans I.sz, df := I.df, fr := fun k hk => (getD_set_ne (fun e => hk (by rw [← e]; decide))).trans (I.fr k hk), kl := I.kl, kw := I.kw, f0 := fun h => (getD_set_ne (by decide)).trans (I.f0 (bit_ne h (by decide))), f1 := fun h => (getD_set_ne (by decide)).trans (I.f1 (bit_ne h (by decide))), f2 := fun h => (getD_set_ne (by decide)).trans (I.f2 (bit_ne h (by decide))), f3 := fun h => (getD_set_ne (by decide)).trans (I.f3 (bit_ne h (by decide))), f4 := fun h => getD_set_eq (by rw [asz]; omega), f5 := fun h => (getD_set_ne (by decide)).trans (I.f5 (bit_ne h (by decide))), f6 := fun h => (getD_set_ne (by decide)).trans (I.f6 (bit_ne h (by decide))), f7 := fun h => (getD_set_ne (by decide)).trans (I.f7 (bit_ne h (by decide))), f8 := fun h => (getD_set_ne (by decide)).trans (I.f8 (bit_ne h (by decide))), f9 := fun h => (getD_set_ne (by decide)).trans (I.f9 (bit_ne h (by decide))), f10 := fun h => (getD_set_ne (by decide)).trans (I.f10 (bit_ne h (by decide))), f11 := fun h => (getD_set_ne (by decide)).trans (I.f11 (bit_ne h (by decide))), f12 := fun h => (getD_set_ne (by decide)).trans (I.f12 (bit_ne h (by decide))), f13 := fun h => (getD_set_ne (by decide)).trans (I.f13 (bit_ne h (by decide))), f14 := fun h => (getD_set_ne (by decide)).trans (I.f14 (bit_ne h (by decide))), f15 := fun h => (getD_set_ne (by decide)).trans (I.f15 (bit_ne h (by decide))), f16 := fun h => (getD_set_ne (by decide)).trans (I.f16 (bit_ne h (by decide))), f17 := fun h => (getD_set_ne (by decide)).trans (I.f17 (bit_ne h (by decide))), f18 := fun h => (getD_set_ne (by decide)).trans (I.f18 (bit_ne h (by decide))), f19 := fun h => (getD_set_ne (by decide)).trans (I.f19 (bit_ne h (by decide))) }
    | 5, _ =>
      refine wpOp_step (o := o5) rfl (fun K' hK => ?_)
      have h4 := ready_waits hi rfl D5
      rw [if_pos (by simp [Region.wanted, F5.2.2])]
      refine wp_val (run_moveV F5.1 (I.f4 h4)) ?_
      refine hK _ _ ⟨by rw [Array.size_setIfInBounds]; exact hs, ?_⟩
      rw [bi]
      unfold Act.put
      rw [F5.2.1]
      exact { sz := (Array.size_setIfInBounds ..).trans I.sz, df := I.df, fr := fun k hk => (getD_set_ne (fun e => hk (by rw [← e]; decide))).trans (I.fr k hk), kl := I.kl, kw := I.kw, f0 := fun h => (getD_set_ne (by decide)).trans (I.f0 (bit_ne h (by decide))), f1 := fun h => (getD_set_ne (by decide)).trans (I.f1 (bit_ne h (by decide))), f2 := fun h => (getD_set_ne (by decide)).trans (I.f2 (bit_ne h (by decide))), f3 := fun h => (getD_set_ne (by decide)).trans (I.f3 (bit_ne h (by decide))), f4 := fun h => (getD_set_ne (by decide)).trans (I.f4 (bit_ne h (by decide))), f5 := fun h => getD_set_eq (by rw [asz]; omega), f6 := fun h => (getD_set_ne (by decide)).trans (I.f6 (bit_ne h (by decide))), f7 := fun h => (getD_set_ne (by decide)).trans (I.f7 (bit_ne h (by decide))), f8 := fun h => (getD_set_ne (by decide)).trans (I.f8 (bit_ne h (by decide))), f9 := fun h => (getD_set_ne (by decide)).trans (I.f9 (bit_ne h (by decide))), f10 := fun h => (getD_set_ne (by decide)).trans (I.f10 (bit_ne h (by decide))), f11 := fun h => (getD_set_ne (by decide)).trans (I.f11 (bit_ne h (by decide))), f12 := fun h => (getD_set_ne (by decide)).trans (I.f12 (bit_ne h (by decide))), f13 := fun h => (getD_set_ne (by decide)).trans (I.f13 (bit_ne h (by decide))), f14 := fun h => (getD_set_ne (by decide)).trans (I.f14 (bit_ne h (by decide))), f15 := fun h => (getD_set_ne (by decide)).trans (I.f15 (bit_ne h (by decide))), f16 := fun h => (getD_set_ne (by decide)).trans (I.f16 (bit_ne h (by decide))), f17 := fun h => (getD_set_ne (by decide)).trans (I.f17 (bit_ne h (by decide))), f18 := fun h => (getD_set_ne (by decide)).trans (I.f18 (bit_ne h (by decide))), f19 := fun h => (getD_set_ne (by decide)).trans (I.f19 (bit_ne h (by decide))) }
    | 6, _ =>
      refine wpOp_step (o := o6) rfl (fun K' hK => ?_)
      have h5 := ready_waits hi rfl D6
      rw [if_pos (wanted_of F6.2.2 rfl F5.2.1 (I.f5 h5))]
      refine Tryd.wp_loadL (.tmp 2) F6.1 g2' hbl ?_
      refine hK _ _ ⟨by rw [Array.size_setIfInBounds]; exact hs, ?_⟩
      rw [bi]
      unfold Act.put
      rw [F6.2.1]
      exact { sz := (Array.size_setIfInBounds ..).trans I.sz, df := I.df, fr := fun k hk => (getD_set_ne (fun e => hk (by rw [← e]; decide))).trans (I.fr k hk), kl := I.kl, kw := I.kw, f0 := fun h => (getD_set_ne (by decide)).trans (I.f0 (bit_ne h (by decide))), f1 := fun h => (getD_set_ne (by decide)).trans (I.f1 (bit_ne h (by decide))), f2 := fun h => (getD_set_ne (by decide)).trans (I.f2 (bit_ne h (by decide))), f3 := fun h => (getD_set_ne (by decide)).trans (I.f3 (bit_ne h (by decide))), f4 := fun h => (getD_set_ne (by decide)).trans (I.f4 (bit_ne h (by decide))), f5 := fun h => (getD_set_ne (by decide)).trans (I.f5 (bit_ne h (by decide))), f6 := fun h => getD_set_eq (by rw [asz]; omega), f7 := fun h => (getD_set_ne (by decide)).trans (I.f7 (bit_ne h (by decide))), f8 := fun h => (getD_set_ne (by decide)).trans (I.f8 (bit_ne h (by decide))), f9 := fun h => (getD_set_ne (by decide)).trans (I.f9 (bit_ne h (by decide))), f10 := fun h => (getD_set_ne (by decide)).trans (I.f10 (bit_ne h (by decide))), f11 := fun h => (getD_set_ne (by decide)).trans (I.f11 (bit_ne h (by decide))), f12 := fun h => (getD_set_ne (by decide)).trans (I.f12 (bit_ne h (by decide))), f13 := fun h => (getD_set_ne (by decide)).trans (I.f13 (bit_ne h (by decide))), f14 := fun h => (getD_set_ne (by decide)).trans (I.f14 (bit_ne h (by decide))), f15 := fun h => (getD_set_ne (by decide)).trans (I.f15 (bit_ne h (by decide))), f16 := fun h => (getD_set_ne (by decide)).trans (I.f16 (bit_ne h (by decide))), f17 := fun h => (getD_set_ne (by decide)).trans (I.f17 (bit_ne h (by decide))), f18 := fun h => (getD_set_ne (by decide)).trans (I.f18 (bit_ne h (by decide))), f19 := fun h => (getD_set_ne (by decide)).trans (I.f19 (bit_ne h (by decide))) }
    | 7, _ =>
      refine wpOp_step (o := o7) rfl (fun K' hK => ?_)
      have h5 := ready_waits hi rfl D7
      rw [if_pos (wanted_of F7.2.2 rfl F5.2.1 (I.f5 h5))]
      refine Tryd.wp_loadL (.tmp 3) F7.1 g3' hbr ?_
      refine hK _ _ ⟨by rw [Array.size_setIfInBounds]; exact hs, ?_⟩
      rw [bi]
      unfold Act.put
      rw [F7.2.1]
      exact { sz := (Array.size_setIfInBounds ..).trans I.sz, df := I.df, fr := fun k hk => (getD_set_ne (fun e => hk (by rw [← e]; decide))).trans (I.fr k hk), kl := I.kl, kw := I.kw, f0 := fun h => (getD_set_ne (by decide)).trans (I.f0 (bit_ne h (by decide))), f1 := fun h => (getD_set_ne (by decide)).trans (I.f1 (bit_ne h (by decide))), f2 := fun h => (getD_set_ne (by decide)).trans (I.f2 (bit_ne h (by decide))), f3 := fun h => (getD_set_ne (by decide)).trans (I.f3 (bit_ne h (by decide))), f4 := fun h => (getD_set_ne (by decide)).trans (I.f4 (bit_ne h (by decide))), f5 := fun h => (getD_set_ne (by decide)).trans (I.f5 (bit_ne h (by decide))), f6 := fun h => (getD_set_ne (by decide)).trans (I.f6 (bit_ne h (by decide))), f7 := fun h => getD_set_eq (by rw [asz]; omega), f8 := fun h => (getD_set_ne (by decide)).trans (I.f8 (bit_ne h (by decide))), f9 := fun h => (getD_set_ne (by decide)).trans (I.f9 (bit_ne h (by decide))), f10 := fun h => (getD_set_ne (by decide)).trans (I.f10 (bit_ne h (by decide))), f11 := fun h => (getD_set_ne (by decide)).trans (I.f11 (bit_ne h (by decide))), f12 := fun h => (getD_set_ne (by decide)).trans (I.f12 (bit_ne h (by decide))), f13 := fun h => (getD_set_ne (by decide)).trans (I.f13 (bit_ne h (by decide))), f14 := fun h => (getD_set_ne (by decide)).trans (I.f14 (bit_ne h (by decide))), f15 := fun h => (getD_set_ne (by decide)).trans (I.f15 (bit_ne h (by decide))), f16 := fun h => (getD_set_ne (by decide)).trans (I.f16 (bit_ne h (by decide))), f17 := fun h => (getD_set_ne (by decide)).trans (I.f17 (bit_ne h (by decide))), f18 := fun h => (getD_set_ne (by decide)).trans (I.f18 (bit_ne h (by decide))), f19 := fun h => (getD_set_ne (by decide)).trans (I.f19 (bit_ne h (by decide))) }
    | 8, _ =>
      refine wpOp_step (o := o8) rfl (fun K' hK => ?_)
      have h6 := ready_waits hi rfl D8.1
      have h7 := ready_waits hi rfl D8.2.1
      have h5 := ready_waits hi rfl D8.2.2
      rw [if_pos (wanted_of F8.2.2 rfl F5.2.1 (I.f5 h5))]
      refine Tryd.wp_callN f8 #[(.tmp 21), (.tmp 22)] t8 F8.1 (vs := #[.agg #[.int .i64 l.q, .slice A l.ls.length c, .int .i64 l.k, .slice B l.cs.length d], .agg #[.int .i64 r.q, .slice A' r.ls.length c', .int .i64 r.k, .slice B' r.cs.length d']]) (by simp only [List.map_toArray, List.map_cons, List.map_nil, show a.eval (.tmp 21) = _ from I.f6 h6, show a.eval (.tmp 22) = _ from I.f7 h7]) H8 (C8 w' (I.kl.at_ hl) (I.kl.at_ hr) I.kl.b) ?_
      rintro e W2 ⟨rfl, hbw⟩
      refine ⟨_, rfl, ?_⟩
      refine hK _ _ ⟨by rw [Array.size_setIfInBounds]; exact hs, ?_⟩
      rw [bi]
      unfold Act.put
      rw [F8.2.1]
      exact { sz := (Array.size_setIfInBounds ..).trans I.sz, df := I.df, fr := fun k hk => (getD_set_ne (fun e => hk (by rw [← e]; decide))).trans (I.fr k hk), kl := I.kl.later hbw, kw := I.kw.later hbw, f0 := fun h => (getD_set_ne (by decide)).trans (I.f0 (bit_ne h (by decide))), f1 := fun h => (getD_set_ne (by decide)).trans (I.f1 (bit_ne h (by decide))), f2 := fun h => (getD_set_ne (by decide)).trans (I.f2 (bit_ne h (by decide))), f3 := fun h => (getD_set_ne (by decide)).trans (I.f3 (bit_ne h (by decide))), f4 := fun h => (getD_set_ne (by decide)).trans (I.f4 (bit_ne h (by decide))), f5 := fun h => (getD_set_ne (by decide)).trans (I.f5 (bit_ne h (by decide))), f6 := fun h => (getD_set_ne (by decide)).trans (I.f6 (bit_ne h (by decide))), f7 := fun h => (getD_set_ne (by decide)).trans (I.f7 (bit_ne h (by decide))), f8 := fun h => getD_set_eq (by rw [asz]; omega), f9 := fun h => (getD_set_ne (by decide)).trans (I.f9 (bit_ne h (by decide))), f10 := fun h => (getD_set_ne (by decide)).trans (I.f10 (bit_ne h (by decide))), f11 := fun h => (getD_set_ne (by decide)).trans (I.f11 (bit_ne h (by decide))), f12 := fun h => (getD_set_ne (by decide)).trans (I.f12 (bit_ne h (by decide))), f13 := fun h => (getD_set_ne (by decide)).trans (I.f13 (bit_ne h (by decide))), f14 := fun h => (getD_set_ne (by decide)).trans (I.f14 (bit_ne h (by decide))), f15 := fun h => (getD_set_ne (by decide)).trans (I.f15 (bit_ne h (by decide))), f16 := fun h => (getD_set_ne (by decide)).trans (I.f16 (bit_ne h (by decide))), f17 := fun h => (getD_set_ne (by decide)).trans (I.f17 (bit_ne h (by decide))), f18 := fun h => (getD_set_ne (by decide)).trans (I.f18 (bit_ne h (by decide))), f19 := fun h => (getD_set_ne (by decide)).trans (I.f19 (bit_ne h (by decide))) }
    | 9, _ =>
      refine wpOp_step (o := o9) rfl (fun K' hK => ?_)
      have h5 := ready_waits hi rfl D9
      rw [if_pos (wanted_of F9.2.2 rfl F5.2.1 (I.f5 h5))]
      refine Tryd.wp_loadL (.tmp 2) F9.1 g2' hbl ?_
      refine hK _ _ ⟨by rw [Array.size_setIfInBounds]; exact hs, ?_⟩
      rw [bi]
      unfold Act.put
      rw [F9.2.1]
      exact { sz := (Array.size_setIfInBounds ..).trans I.sz, df := I.df, fr := fun k hk => (getD_set_ne (fun e => hk (by rw [← e]; decide))).trans (I.fr k hk), kl := I.kl, kw := I.kw, f0 := fun h => (getD_set_ne (by decide)).trans (I.f0 (bit_ne h (by decide))), f1 := fun h => (getD_set_ne (by decide)).trans (I.f1 (bit_ne h (by decide))), f2 := fun h => (getD_set_ne (by decide)).trans (I.f2 (bit_ne h (by decide))), f3 := fun h => (getD_set_ne (by decide)).trans (I.f3 (bit_ne h (by decide))), f4 := fun h => (getD_set_ne (by decide)).trans (I.f4 (bit_ne h (by decide))), f5 := fun h => (getD_set_ne (by decide)).trans (I.f5 (bit_ne h (by decide))), f6 := fun h => (getD_set_ne (by decide)).trans (I.f6 (bit_ne h (by decide))), f7 := fun h => (getD_set_ne (by decide)).trans (I.f7 (bit_ne h (by decide))), f8 := fun h => (getD_set_ne (by decide)).trans (I.f8 (bit_ne h (by decide))), f9 := fun h => getD_set_eq (by rw [asz]; omega), f10 := fun h => (getD_set_ne (by decide)).trans (I.f10 (bit_ne h (by decide))), f11 := fun h => (getD_set_ne (by decide)).trans (I.f11 (bit_ne h (by decide))), f12 := fun h => (getD_set_ne (by decide)).trans (I.f12 (bit_ne h (by decide))), f13 := fun h => (getD_set_ne (by decide)).trans (I.f13 (bit_ne h (by decide))), f14 := fun h => (getD_set_ne (by decide)).trans (I.f14 (bit_ne h (by decide))), f15 := fun h => (getD_set_ne (by decide)).trans (I.f15 (bit_ne h (by decide))), f16 := fun h => (getD_set_ne (by decide)).trans (I.f16 (bit_ne h (by decide))), f17 := fun h => (getD_set_ne (by decide)).trans (I.f17 (bit_ne h (by decide))), f18 := fun h => (getD_set_ne (by decide)).trans (I.f18 (bit_ne h (by decide))), f19 := fun h => (getD_set_ne (by decide)).trans (I.f19 (bit_ne h (by decide))) }
    | 10, _ =>
      refine wpOp_step (o := o10) rfl (fun K' hK => ?_)
      have h5 := ready_waits hi rfl D10
      rw [if_pos (wanted_of F10.2.2 rfl F5.2.1 (I.f5 h5))]
      refine Tryd.wp_loadL (.tmp 3) F10.1 g3' hbr ?_
      refine hK _ _ ⟨by rw [Array.size_setIfInBounds]; exact hs, ?_⟩
      rw [bi]
      unfold Act.put
      rw [F10.2.1]
      exact { sz := (Array.size_setIfInBounds ..).trans I.sz, df := I.df, fr := fun k hk => (getD_set_ne (fun e => hk (by rw [← e]; decide))).trans (I.fr k hk), kl := I.kl, kw := I.kw, f0 := fun h => (getD_set_ne (by decide)).trans (I.f0 (bit_ne h (by decide))), f1 := fun h => (getD_set_ne (by decide)).trans (I.f1 (bit_ne h (by decide))), f2 := fun h => (getD_set_ne (by decide)).trans (I.f2 (bit_ne h (by decide))), f3 := fun h => (getD_set_ne (by decide)).trans (I.f3 (bit_ne h (by decide))), f4 := fun h => (getD_set_ne (by decide)).trans (I.f4 (bit_ne h (by decide))), f5 := fun h => (getD_set_ne (by decide)).trans (I.f5 (bit_ne h (by decide))), f6 := fun h => (getD_set_ne (by decide)).trans (I.f6 (bit_ne h (by decide))), f7 := fun h => (getD_set_ne (by decide)).trans (I.f7 (bit_ne h (by decide))), f8 := fun h => (getD_set_ne (by decide)).trans (I.f8 (bit_ne h (by decide))), f9 := fun h => (getD_set_ne (by decide)).trans (I.f9 (bit_ne h (by decide))), f10 := fun h => getD_set_eq (by rw [asz]; omega), f11 := fun h => (getD_set_ne (by decide)).trans (I.f11 (bit_ne h (by decide))), f12 := fun h => (getD_set_ne (by decide)).trans (I.f12 (bit_ne h (by decide))), f13 := fun h => (getD_set_ne (by decide)).trans (I.f13 (bit_ne h (by decide))), f14 := fun h => (getD_set_ne (by decide)).trans (I.f14 (bit_ne h (by decide))), f15 := fun h => (getD_set_ne (by decide)).trans (I.f15 (bit_ne h (by decide))), f16 := fun h => (getD_set_ne (by decide)).trans (I.f16 (bit_ne h (by decide))), f17 := fun h => (getD_set_ne (by decide)).trans (I.f17 (bit_ne h (by decide))), f18 := fun h => (getD_set_ne (by decide)).trans (I.f18 (bit_ne h (by decide))), f19 := fun h => (getD_set_ne (by decide)).trans (I.f19 (bit_ne h (by decide))) }
    | 11, _ =>
      refine wpOp_step (o := o11) rfl (fun K' hK => ?_)
      have h9 := ready_waits hi rfl D11.1
      have h10 := ready_waits hi rfl D11.2.1
      have h5 := ready_waits hi rfl D11.2.2
      rw [if_pos (wanted_of F11.2.2 rfl F5.2.1 (I.f5 h5))]
      refine Tryd.wp_callN f11 #[(.tmp 24), (.tmp 25)] t11 F11.1 (vs := #[.agg #[.int .i64 l.q, .slice A l.ls.length c, .int .i64 l.k, .slice B l.cs.length d], .agg #[.int .i64 r.q, .slice A' r.ls.length c', .int .i64 r.k, .slice B' r.cs.length d']]) (by simp only [List.map_toArray, List.map_cons, List.map_nil, show a.eval (.tmp 24) = _ from I.f9 h9, show a.eval (.tmp 25) = _ from I.f10 h10]) H11 (C11 w' (I.kl.at_ hl) (I.kl.at_ hr) I.kl.b) ?_
      rintro e W2 ⟨rfl, hbw⟩
      refine ⟨_, rfl, ?_⟩
      refine hK _ _ ⟨by rw [Array.size_setIfInBounds]; exact hs, ?_⟩
      rw [bi]
      unfold Act.put
      rw [F11.2.1]
      exact { sz := (Array.size_setIfInBounds ..).trans I.sz, df := I.df, fr := fun k hk => (getD_set_ne (fun e => hk (by rw [← e]; decide))).trans (I.fr k hk), kl := I.kl.later hbw, kw := I.kw.later hbw, f0 := fun h => (getD_set_ne (by decide)).trans (I.f0 (bit_ne h (by decide))), f1 := fun h => (getD_set_ne (by decide)).trans (I.f1 (bit_ne h (by decide))), f2 := fun h => (getD_set_ne (by decide)).trans (I.f2 (bit_ne h (by decide))), f3 := fun h => (getD_set_ne (by decide)).trans (I.f3 (bit_ne h (by decide))), f4 := fun h => (getD_set_ne (by decide)).trans (I.f4 (bit_ne h (by decide))), f5 := fun h => (getD_set_ne (by decide)).trans (I.f5 (bit_ne h (by decide))), f6 := fun h => (getD_set_ne (by decide)).trans (I.f6 (bit_ne h (by decide))), f7 := fun h => (getD_set_ne (by decide)).trans (I.f7 (bit_ne h (by decide))), f8 := fun h => (getD_set_ne (by decide)).trans (I.f8 (bit_ne h (by decide))), f9 := fun h => (getD_set_ne (by decide)).trans (I.f9 (bit_ne h (by decide))), f10 := fun h => (getD_set_ne (by decide)).trans (I.f10 (bit_ne h (by decide))), f11 := fun h => getD_set_eq (by rw [asz]; omega), f12 := fun h => (getD_set_ne (by decide)).trans (I.f12 (bit_ne h (by decide))), f13 := fun h => (getD_set_ne (by decide)).trans (I.f13 (bit_ne h (by decide))), f14 := fun h => (getD_set_ne (by decide)).trans (I.f14 (bit_ne h (by decide))), f15 := fun h => (getD_set_ne (by decide)).trans (I.f15 (bit_ne h (by decide))), f16 := fun h => (getD_set_ne (by decide)).trans (I.f16 (bit_ne h (by decide))), f17 := fun h => (getD_set_ne (by decide)).trans (I.f17 (bit_ne h (by decide))), f18 := fun h => (getD_set_ne (by decide)).trans (I.f18 (bit_ne h (by decide))), f19 := fun h => (getD_set_ne (by decide)).trans (I.f19 (bit_ne h (by decide))) }
    | 12, _ =>
      refine wpOp_step (o := o12) rfl (fun K' hK => ?_)
      have h8 := ready_waits hi rfl D12.1
      have h11 := ready_waits hi rfl D12.2.1
      have h5 := ready_waits hi rfl D12.2.2
      rw [if_pos (wanted_of F12.2.2 rfl F5.2.1 (I.f5 h5))]
      refine wp_val (run_neqB F12.1 (I.f8 h8) (I.f11 h11)) ?_
      refine hK _ _ ⟨by rw [Array.size_setIfInBounds]; exact hs, ?_⟩
      rw [bi]
      unfold Act.put
      rw [F12.2.1]
      exact { sz := (Array.size_setIfInBounds ..).trans I.sz, df := I.df, fr := fun k hk => (getD_set_ne (fun e => hk (by rw [← e]; decide))).trans (I.fr k hk), kl := I.kl, kw := I.kw, f0 := fun h => (getD_set_ne (by decide)).trans (I.f0 (bit_ne h (by decide))), f1 := fun h => (getD_set_ne (by decide)).trans (I.f1 (bit_ne h (by decide))), f2 := fun h => (getD_set_ne (by decide)).trans (I.f2 (bit_ne h (by decide))), f3 := fun h => (getD_set_ne (by decide)).trans (I.f3 (bit_ne h (by decide))), f4 := fun h => (getD_set_ne (by decide)).trans (I.f4 (bit_ne h (by decide))), f5 := fun h => (getD_set_ne (by decide)).trans (I.f5 (bit_ne h (by decide))), f6 := fun h => (getD_set_ne (by decide)).trans (I.f6 (bit_ne h (by decide))), f7 := fun h => (getD_set_ne (by decide)).trans (I.f7 (bit_ne h (by decide))), f8 := fun h => (getD_set_ne (by decide)).trans (I.f8 (bit_ne h (by decide))), f9 := fun h => (getD_set_ne (by decide)).trans (I.f9 (bit_ne h (by decide))), f10 := fun h => (getD_set_ne (by decide)).trans (I.f10 (bit_ne h (by decide))), f11 := fun h => (getD_set_ne (by decide)).trans (I.f11 (bit_ne h (by decide))), f12 := fun h => getD_set_eq (by rw [asz]; omega), f13 := fun h => (getD_set_ne (by decide)).trans (I.f13 (bit_ne h (by decide))), f14 := fun h => (getD_set_ne (by decide)).trans (I.f14 (bit_ne h (by decide))), f15 := fun h => (getD_set_ne (by decide)).trans (I.f15 (bit_ne h (by decide))), f16 := fun h => (getD_set_ne (by decide)).trans (I.f16 (bit_ne h (by decide))), f17 := fun h => (getD_set_ne (by decide)).trans (I.f17 (bit_ne h (by decide))), f18 := fun h => (getD_set_ne (by decide)).trans (I.f18 (bit_ne h (by decide))), f19 := fun h => (getD_set_ne (by decide)).trans (I.f19 (bit_ne h (by decide))) }
    | 13, _ =>
      refine wpOp_step (o := o13) rfl (fun K' hK => ?_)
      have h5 := ready_waits hi rfl D13.1
      have h12 := ready_waits hi rfl D13.2
      rw [if_pos (by simp [Region.wanted, F13.2.2])]
      refine wp_val (run_pickF F13.1 (I.f5 h5) (I.f12 h12)) ?_
      refine hK _ _ ⟨by rw [Array.size_setIfInBounds]; exact hs, ?_⟩
      rw [bi]
      unfold Act.put
      rw [F13.2.1]
      exact { sz := (Array.size_setIfInBounds ..).trans I.sz, df := I.df, fr := fun k hk => (getD_set_ne (fun e => hk (by rw [← e]; decide))).trans (I.fr k hk), kl := I.kl, kw := I.kw, f0 := fun h => (getD_set_ne (by decide)).trans (I.f0 (bit_ne h (by decide))), f1 := fun h => (getD_set_ne (by decide)).trans (I.f1 (bit_ne h (by decide))), f2 := fun h => (getD_set_ne (by decide)).trans (I.f2 (bit_ne h (by decide))), f3 := fun h => (getD_set_ne (by decide)).trans (I.f3 (bit_ne h (by decide))), f4 := fun h => (getD_set_ne (by decide)).trans (I.f4 (bit_ne h (by decide))), f5 := fun h => (getD_set_ne (by decide)).trans (I.f5 (bit_ne h (by decide))), f6 := fun h => (getD_set_ne (by decide)).trans (I.f6 (bit_ne h (by decide))), f7 := fun h => (getD_set_ne (by decide)).trans (I.f7 (bit_ne h (by decide))), f8 := fun h => (getD_set_ne (by decide)).trans (I.f8 (bit_ne h (by decide))), f9 := fun h => (getD_set_ne (by decide)).trans (I.f9 (bit_ne h (by decide))), f10 := fun h => (getD_set_ne (by decide)).trans (I.f10 (bit_ne h (by decide))), f11 := fun h => (getD_set_ne (by decide)).trans (I.f11 (bit_ne h (by decide))), f12 := fun h => (getD_set_ne (by decide)).trans (I.f12 (bit_ne h (by decide))), f13 := fun h => getD_set_eq (by rw [asz]; omega), f14 := fun h => (getD_set_ne (by decide)).trans (I.f14 (bit_ne h (by decide))), f15 := fun h => (getD_set_ne (by decide)).trans (I.f15 (bit_ne h (by decide))), f16 := fun h => (getD_set_ne (by decide)).trans (I.f16 (bit_ne h (by decide))), f17 := fun h => (getD_set_ne (by decide)).trans (I.f17 (bit_ne h (by decide))), f18 := fun h => (getD_set_ne (by decide)).trans (I.f18 (bit_ne h (by decide))), f19 := fun h => (getD_set_ne (by decide)).trans (I.f19 (bit_ne h (by decide))) }
    | 14, _ =>
      refine wpOp_step (o := o14) rfl (fun K' hK => ?_)
      have h13 := ready_waits hi rfl D14
      rw [if_pos (by simp [Region.wanted, F14.2.2])]
      refine wp_val (run_moveV F14.1 (I.f13 h13)) ?_
      refine hK _ _ ⟨by rw [Array.size_setIfInBounds]; exact hs, ?_⟩
      rw [bi]
      unfold Act.put
      rw [F14.2.1]
      exact { sz := (Array.size_setIfInBounds ..).trans I.sz, df := I.df, fr := fun k hk => (getD_set_ne (fun e => hk (by rw [← e]; decide))).trans (I.fr k hk), kl := I.kl, kw := I.kw, f0 := fun h => (getD_set_ne (by decide)).trans (I.f0 (bit_ne h (by decide))), f1 := fun h => (getD_set_ne (by decide)).trans (I.f1 (bit_ne h (by decide))), f2 := fun h => (getD_set_ne (by decide)).trans (I.f2 (bit_ne h (by decide))), f3 := fun h => (getD_set_ne (by decide)).trans (I.f3 (bit_ne h (by decide))), f4 := fun h => (getD_set_ne (by decide)).trans (I.f4 (bit_ne h (by decide))), f5 := fun h => (getD_set_ne (by decide)).trans (I.f5 (bit_ne h (by decide))), f6 := fun h => (getD_set_ne (by decide)).trans (I.f6 (bit_ne h (by decide))), f7 := fun h => (getD_set_ne (by decide)).trans (I.f7 (bit_ne h (by decide))), f8 := fun h => (getD_set_ne (by decide)).trans (I.f8 (bit_ne h (by decide))), f9 := fun h => (getD_set_ne (by decide)).trans (I.f9 (bit_ne h (by decide))), f10 := fun h => (getD_set_ne (by decide)).trans (I.f10 (bit_ne h (by decide))), f11 := fun h => (getD_set_ne (by decide)).trans (I.f11 (bit_ne h (by decide))), f12 := fun h => (getD_set_ne (by decide)).trans (I.f12 (bit_ne h (by decide))), f13 := fun h => (getD_set_ne (by decide)).trans (I.f13 (bit_ne h (by decide))), f14 := fun h => getD_set_eq (by rw [asz]; omega), f15 := fun h => (getD_set_ne (by decide)).trans (I.f15 (bit_ne h (by decide))), f16 := fun h => (getD_set_ne (by decide)).trans (I.f16 (bit_ne h (by decide))), f17 := fun h => (getD_set_ne (by decide)).trans (I.f17 (bit_ne h (by decide))), f18 := fun h => (getD_set_ne (by decide)).trans (I.f18 (bit_ne h (by decide))), f19 := fun h => (getD_set_ne (by decide)).trans (I.f19 (bit_ne h (by decide))) }
    | 15, _ =>
      refine wpOp_step (o := o15) rfl (fun K' hK => ?_)
      have h14 := ready_waits hi rfl D15
      rw [if_pos (wanted_of F15.2.2 rfl F14.2.1 (I.f14 h14))]
      refine Tryd.wp_loadL (.tmp 2) F15.1 g2' hbl ?_
      refine hK _ _ ⟨by rw [Array.size_setIfInBounds]; exact hs, ?_⟩
      rw [bi]
      unfold Act.put
      rw [F15.2.1]
      exact { sz := (Array.size_setIfInBounds ..).trans I.sz, df := I.df, fr := fun k hk => (getD_set_ne (fun e => hk (by rw [← e]; decide))).trans (I.fr k hk), kl := I.kl, kw := I.kw, f0 := fun h => (getD_set_ne (by decide)).trans (I.f0 (bit_ne h (by decide))), f1 := fun h => (getD_set_ne (by decide)).trans (I.f1 (bit_ne h (by decide))), f2 := fun h => (getD_set_ne (by decide)).trans (I.f2 (bit_ne h (by decide))), f3 := fun h => (getD_set_ne (by decide)).trans (I.f3 (bit_ne h (by decide))), f4 := fun h => (getD_set_ne (by decide)).trans (I.f4 (bit_ne h (by decide))), f5 := fun h => (getD_set_ne (by decide)).trans (I.f5 (bit_ne h (by decide))), f6 := fun h => (getD_set_ne (by decide)).trans (I.f6 (bit_ne h (by decide))), f7 := fun h => (getD_set_ne (by decide)).trans (I.f7 (bit_ne h (by decide))), f8 := fun h => (getD_set_ne (by decide)).trans (I.f8 (bit_ne h (by decide))), f9 := fun h => (getD_set_ne (by decide)).trans (I.f9 (bit_ne h (by decide))), f10 := fun h => (getD_set_ne (by decide)).trans (I.f10 (bit_ne h (by decide))), f11 := fun h => (getD_set_ne (by decide)).trans (I.f11 (bit_ne h (by decide))), f12 := fun h => (getD_set_ne (by decide)).trans (I.f12 (bit_ne h (by decide))), f13 := fun h => (getD_set_ne (by decide)).trans (I.f13 (bit_ne h (by decide))), f14 := fun h => (getD_set_ne (by decide)).trans (I.f14 (bit_ne h (by decide))), f15 := fun h => getD_set_eq (by rw [asz]; omega), f16 := fun h => (getD_set_ne (by decide)).trans (I.f16 (bit_ne h (by decide))), f17 := fun h => (getD_set_ne (by decide)).trans (I.f17 (bit_ne h (by decide))), f18 := fun h => (getD_set_ne (by decide)).trans (I.f18 (bit_ne h (by decide))), f19 := fun h => (getD_set_ne (by decide)).trans (I.f19 (bit_ne h (by decide))) }
    | 16, _ =>
      refine wpOp_step (o := o16) rfl (fun K' hK => ?_)
      have h14 := ready_waits hi rfl D16
      rw [if_pos (wanted_of F16.2.2 rfl F14.2.1 (I.f14 h14))]
      refine Tryd.wp_loadL (.tmp 2) F16.1 g2' hbl ?_
      refine hK _ _ ⟨by rw [Array.size_setIfInBounds]; exact hs, ?_⟩
      rw [bi]
      unfold Act.put
      rw [F16.2.1]
      exact { sz := (Array.size_setIfInBounds ..).trans I.sz, df := I.df, fr := fun k hk => (getD_set_ne (fun e => hk (by rw [← e]; decide))).trans (I.fr k hk), kl := I.kl, kw := I.kw, f0 := fun h => (getD_set_ne (by decide)).trans (I.f0 (bit_ne h (by decide))), f1 := fun h => (getD_set_ne (by decide)).trans (I.f1 (bit_ne h (by decide))), f2 := fun h => (getD_set_ne (by decide)).trans (I.f2 (bit_ne h (by decide))), f3 := fun h => (getD_set_ne (by decide)).trans (I.f3 (bit_ne h (by decide))), f4 := fun h => (getD_set_ne (by decide)).trans (I.f4 (bit_ne h (by decide))), f5 := fun h => (getD_set_ne (by decide)).trans (I.f5 (bit_ne h (by decide))), f6 := fun h => (getD_set_ne (by decide)).trans (I.f6 (bit_ne h (by decide))), f7 := fun h => (getD_set_ne (by decide)).trans (I.f7 (bit_ne h (by decide))), f8 := fun h => (getD_set_ne (by decide)).trans (I.f8 (bit_ne h (by decide))), f9 := fun h => (getD_set_ne (by decide)).trans (I.f9 (bit_ne h (by decide))), f10 := fun h => (getD_set_ne (by decide)).trans (I.f10 (bit_ne h (by decide))), f11 := fun h => (getD_set_ne (by decide)).trans (I.f11 (bit_ne h (by decide))), f12 := fun h => (getD_set_ne (by decide)).trans (I.f12 (bit_ne h (by decide))), f13 := fun h => (getD_set_ne (by decide)).trans (I.f13 (bit_ne h (by decide))), f14 := fun h => (getD_set_ne (by decide)).trans (I.f14 (bit_ne h (by decide))), f15 := fun h => (getD_set_ne (by decide)).trans (I.f15 (bit_ne h (by decide))), f16 := fun h => getD_set_eq (by rw [asz]; omega), f17 := fun h => (getD_set_ne (by decide)).trans (I.f17 (bit_ne h (by decide))), f18 := fun h => (getD_set_ne (by decide)).trans (I.f18 (bit_ne h (by decide))), f19 := fun h => (getD_set_ne (by decide)).trans (I.f19 (bit_ne h (by decide))) }
    | 17, _ =>
      refine wpOp_step (o := o17) rfl (fun K' hK => ?_)
      have h15 := ready_waits hi rfl D17.1
      have h16 := ready_waits hi rfl D17.2.1
      have h14 := ready_waits hi rfl D17.2.2
      rw [if_pos (wanted_of F17.2.2 rfl F14.2.1 (I.f14 h14))]
      refine Tryd.wp_callN f17 #[(.tmp 30), (.tmp 31)] t17 F17.1 (vs := #[.agg #[.int .i64 l.q, .slice A l.ls.length c, .int .i64 l.k, .slice B l.cs.length d], .agg #[.int .i64 l.q, .slice A l.ls.length c, .int .i64 l.k, .slice B l.cs.length d]]) (by simp only [List.map_toArray, List.map_cons, List.map_nil, show a.eval (.tmp 30) = _ from I.f15 h15, show a.eval (.tmp 31) = _ from I.f16 h16]) H17 (C17 w' (I.kl.at_ hl) (I.kl.at_ hl) I.kl.b) ?_
      rintro e W2 ⟨rfl, hbw⟩
      refine ⟨_, rfl, ?_⟩
      refine hK _ _ ⟨by rw [Array.size_setIfInBounds]; exact hs, ?_⟩
      rw [bi]
      unfold Act.put
      rw [F17.2.1]
      exact { sz := (Array.size_setIfInBounds ..).trans I.sz, df := I.df, fr := fun k hk => (getD_set_ne (fun e => hk (by rw [← e]; decide))).trans (I.fr k hk), kl := I.kl.later hbw, kw := I.kw.later hbw, f0 := fun h => (getD_set_ne (by decide)).trans (I.f0 (bit_ne h (by decide))), f1 := fun h => (getD_set_ne (by decide)).trans (I.f1 (bit_ne h (by decide))), f2 := fun h => (getD_set_ne (by decide)).trans (I.f2 (bit_ne h (by decide))), f3 := fun h => (getD_set_ne (by decide)).trans (I.f3 (bit_ne h (by decide))), f4 := fun h => (getD_set_ne (by decide)).trans (I.f4 (bit_ne h (by decide))), f5 := fun h => (getD_set_ne (by decide)).trans (I.f5 (bit_ne h (by decide))), f6 := fun h => (getD_set_ne (by decide)).trans (I.f6 (bit_ne h (by decide))), f7 := fun h => (getD_set_ne (by decide)).trans (I.f7 (bit_ne h (by decide))), f8 := fun h => (getD_set_ne (by decide)).trans (I.f8 (bit_ne h (by decide))), f9 := fun h => (getD_set_ne (by decide)).trans (I.f9 (bit_ne h (by decide))), f10 := fun h => (getD_set_ne (by decide)).trans (I.f10 (bit_ne h (by decide))), f11 := fun h => (getD_set_ne (by decide)).trans (I.f11 (bit_ne h (by decide))), f12 := fun h => (getD_set_ne (by decide)).trans (I.f12 (bit_ne h (by decide))), f13 := fun h => (getD_set_ne (by decide)).trans (I.f13 (bit_ne h (by decide))), f14 := fun h => (getD_set_ne (by decide)).trans (I.f14 (bit_ne h (by decide))), f15 := fun h => (getD_set_ne (by decide)).trans (I.f15 (bit_ne h (by decide))), f16 := fun h => (getD_set_ne (by decide)).trans (I.f16 (bit_ne h (by decide))), f17 := fun h => getD_set_eq (by rw [asz]; omega), f18 := fun h => (getD_set_ne (by decide)).trans (I.f18 (bit_ne h (by decide))), f19 := fun h => (getD_set_ne (by decide)).trans (I.f19 (bit_ne h (by decide))) }
    | 18, _ =>
      refine wpOp_step (o := o18) rfl (fun K' hK => ?_)
      have h17 := ready_waits hi rfl D18.1
      have h14 := ready_waits hi rfl D18.2
      rw [if_pos (wanted_of F18.2.2 rfl F14.2.1 (I.f14 h14))]
      refine wp_val (run_notT F18.1 (I.f17 h17)) ?_
      refine hK _ _ ⟨by rw [Array.size_setIfInBounds]; exact hs, ?_⟩
      rw [bi]
      unfold Act.put
      rw [F18.2.1]
      exact { sz := (Array.size_setIfInBounds ..).trans I.sz, df := I.df, fr := fun k hk => (getD_set_ne (fun e => hk (by rw [← e]; decide))).trans (I.fr k hk), kl := I.kl, kw := I.kw, f0 := fun h => (getD_set_ne (by decide)).trans (I.f0 (bit_ne h (by decide))), f1 := fun h => (getD_set_ne (by decide)).trans (I.f1 (bit_ne h (by decide))), f2 := fun h => (getD_set_ne (by decide)).trans (I.f2 (bit_ne h (by decide))), f3 := fun h => (getD_set_ne (by decide)).trans (I.f3 (bit_ne h (by decide))), f4 := fun h => (getD_set_ne (by decide)).trans (I.f4 (bit_ne h (by decide))), f5 := fun h => (getD_set_ne (by decide)).trans (I.f5 (bit_ne h (by decide))), f6 := fun h => (getD_set_ne (by decide)).trans (I.f6 (bit_ne h (by decide))), f7 := fun h => (getD_set_ne (by decide)).trans (I.f7 (bit_ne h (by decide))), f8 := fun h => (getD_set_ne (by decide)).trans (I.f8 (bit_ne h (by decide))), f9 := fun h => (getD_set_ne (by decide)).trans (I.f9 (bit_ne h (by decide))), f10 := fun h => (getD_set_ne (by decide)).trans (I.f10 (bit_ne h (by decide))), f11 := fun h => (getD_set_ne (by decide)).trans (I.f11 (bit_ne h (by decide))), f12 := fun h => (getD_set_ne (by decide)).trans (I.f12 (bit_ne h (by decide))), f13 := fun h => (getD_set_ne (by decide)).trans (I.f13 (bit_ne h (by decide))), f14 := fun h => (getD_set_ne (by decide)).trans (I.f14 (bit_ne h (by decide))), f15 := fun h => (getD_set_ne (by decide)).trans (I.f15 (bit_ne h (by decide))), f16 := fun h => (getD_set_ne (by decide)).trans (I.f16 (bit_ne h (by decide))), f17 := fun h => (getD_set_ne (by decide)).trans (I.f17 (bit_ne h (by decide))), f18 := fun h => getD_set_eq (by rw [asz]; omega), f19 := fun h => (getD_set_ne (by decide)).trans (I.f19 (bit_ne h (by decide))) }
    | 19, _ =>
      refine wpOp_step (o := o19) rfl (fun K' hK => ?_)
      have h14 := ready_waits hi rfl D19.1
      have h18 := ready_waits hi rfl D19.2
      rw [if_pos (by simp [Region.wanted, F19.2.2])]
      refine wp_val (run_pickF F19.1 (I.f14 h14) (I.f18 h18)) ?_
      refine hK _ _ ⟨by rw [Array.size_setIfInBounds]; exact hs, ?_⟩
      rw [bi]
      unfold Act.put
      rw [F19.2.1]
      exact { sz := (Array.size_setIfInBounds ..).trans I.sz, df := I.df, fr := fun k hk => (getD_set_ne (fun e => hk (by rw [← e]; decide))).trans (I.fr k hk), kl := I.kl, kw := I.kw, f0 := fun h => (getD_set_ne (by decide)).trans (I.f0 (bit_ne h (by decide))), f1 := fun h => (getD_set_ne (by decide)).trans (I.f1 (bit_ne h (by decide))), f2 := fun h => (getD_set_ne (by decide)).trans (I.f2 (bit_ne h (by decide))), f3 := fun h => (getD_set_ne (by decide)).trans (I.f3 (bit_ne h (by decide))), f4 := fun h => (getD_set_ne (by decide)).trans (I.f4 (bit_ne h (by decide))), f5 := fun h => (getD_set_ne (by decide)).trans (I.f5 (bit_ne h (by decide))), f6 := fun h => (getD_set_ne (by decide)).trans (I.f6 (bit_ne h (by decide))), f7 := fun h => (getD_set_ne (by decide)).trans (I.f7 (bit_ne h (by decide))), f8 := fun h => (getD_set_ne (by decide)).trans (I.f8 (bit_ne h (by decide))), f9 := fun h => (getD_set_ne (by decide)).trans (I.f9 (bit_ne h (by decide))), f10 := fun h => (getD_set_ne (by decide)).trans (I.f10 (bit_ne h (by decide))), f11 := fun h => (getD_set_ne (by decide)).trans (I.f11 (bit_ne h (by decide))), f12 := fun h => (getD_set_ne (by decide)).trans (I.f12 (bit_ne h (by decide))), f13 := fun h => (getD_set_ne (by decide)).trans (I.f13 (bit_ne h (by decide))), f14 := fun h => (getD_set_ne (by decide)).trans (I.f14 (bit_ne h (by decide))), f15 := fun h => (getD_set_ne (by decide)).trans (I.f15 (bit_ne h (by decide))), f16 := fun h => (getD_set_ne (by decide)).trans (I.f16 (bit_ne h (by decide))), f17 := fun h => (getD_set_ne (by decide)).trans (I.f17 (bit_ne h (by decide))), f18 := fun h => (getD_set_ne (by decide)).trans (I.f18 (bit_ne h (by decide))), f19 := fun h => getD_set_eq (by rw [asz]; omega) }
    | n + 20, h => exact absurd h (by omega)
end
structure May6I (T : Array Value) (l : Ln) (A : Option Addr) (c : Nat) (B : Option Addr) (d : Nat) (r : Ln) (A' : Option Addr) (c' : Nat) (B' : Option Addr) (d' : Nat) (A5 : Option Addr) (c5 : Nat) (B5 : Option Addr) (d5 : Nat) (w0 : World) (bs : List BoxR) (rs : List RowL) (A1 : Option Addr) (c1 : Nat) (X1 : Option Addr) (d1 : Nat) (A2 : Option Addr) (c2 : Nat) (X2 : Option Addr) (d2 : Nat) (A3 : Option Addr) (c3 : Nat) (X3 : Option Addr) (d3 : Nat) (b : Nat → Bool) (a : Act) (w : World) : Prop where
  sz : a.tmps.size = T.size
  df : a.defers = []
  fr : ∀ k, k ∉ [35, 36, 37, 38, 39, 40, 41, 42, 43, 44, 45, 46, 47, 48, 49, 50, 51, 52, 53, 4] → a.tmps.getD k undef = T.getD k undef
  kl : KL w0 w bs rs []
  k0 : b 1 = false → KL w0 w bs rs [⟨l, A5, B5⟩]
  k1 : b 1 = true → b 3 = false → KL w0 w bs rs [⟨l, A1, X1⟩, ⟨l, A5, B5⟩]
  k3 : b 3 = true → b 6 = false → KL w0 w bs rs [⟨l, A5, B5⟩]
  k6 : b 6 = true → b 8 = false → KL w0 w bs rs [⟨⟨l.q, l.ls, l.k, []⟩, A2, X2⟩, ⟨l, A5, B5⟩]
  k8 : b 8 = true → b 9 = false → KL w0 w bs rs [⟨⟨l.q, l.ls, l.k, []⟩, A3, X3⟩, ⟨⟨l.q, l.ls, l.k, []⟩, A2, X2⟩, ⟨l, A5, B5⟩]
  k9 : b 9 = true → KL w0 w bs rs [⟨⟨l.q, l.ls, l.k, []⟩, A3, X3⟩, ⟨l, A5, B5⟩]
  y3 : b 3 = true → b 1 = true
  y4 : b 4 = true → b 3 = true
  y6 : b 6 = true → b 4 = true
  y8 : b 8 = true → b 6 = true
  y9 : b 9 = true → b 8 = true
  y10 : b 10 = true → b 9 = true
  y11 : b 11 = true → b 10 = true
  y15 : b 15 = true → b 11 = true
  y16 : b 16 = true → b 15 = true
  f0 : b 0 = true → a.tmps.getD 35 undef = .agg #[.int .i64 l.q, .slice A l.ls.length c, .int .i64 l.k, .slice B l.cs.length d]
  f1 : b 1 = true → a.tmps.getD 36 undef = lnV l A1 c1 X1 d1
  f2 : b 2 = true → a.tmps.getD 37 undef = .agg #[.int .i64 l.q, .slice A5 l.ls.length c5, .int .i64 l.k, .slice B5 l.cs.length d5]
  f3 : b 3 = true → a.tmps.getD 38 undef = .bool true
  f4 : b 4 = true → a.tmps.getD 39 undef = .bool true
  f5 : b 5 = true → a.tmps.getD 40 undef = .agg #[.int .i64 l.q, .slice A l.ls.length c, .int .i64 l.k, .slice B l.cs.length d]
  f6 : b 6 = true → a.tmps.getD 41 undef = lnV ⟨l.q, l.ls, l.k, []⟩ A2 c2 X2 d2
  f7 : b 7 = true → a.tmps.getD 42 undef = .agg #[.int .i64 l.q, .slice A5 l.ls.length c5, .int .i64 l.k, .slice B5 l.cs.length d5]
  f8 : b 8 = true → a.tmps.getD 43 undef = lnV ⟨l.q, l.ls, l.k, []⟩ A3 c3 X3 d3
  f9 : b 9 = true → a.tmps.getD 44 undef = .bool true
  f10 : b 10 = true → a.tmps.getD 45 undef = .bool true
  f11 : b 11 = true → a.tmps.getD 46 undef = .bool true
  f12 : b 12 = true → a.tmps.getD 47 undef = .agg #[.int .i64 l.q, .slice A l.ls.length c, .int .i64 l.k, .slice B l.cs.length d]
  f13 : b 13 = true → a.tmps.getD 48 undef = .agg #[.int .i64 l.q, .slice A5 l.ls.length c5, .int .i64 l.k, .slice B5 l.cs.length d5]
  f14 : b 14 = true → a.tmps.getD 49 undef = .bool true
  f15 : b 15 = true → a.tmps.getD 50 undef = .bool true
  f16 : b 16 = true → a.tmps.getD 51 undef = .bool true
  f17 : b 17 = true → a.tmps.getD 52 undef = .bool true
  f18 : b 18 = true → a.tmps.getD 53 undef = .bool true
  f19 : b 19 = true → a.tmps.getD 4 undef = .bool true
section
variable {o0 o1 o2 o3 o4 o5 o6 o7 o8 o9 o10 o11 o12 o13 o14 o15 o16 o17 o18 o19 : Oper}
set_option maxHeartbeats 4000000 in
theorem Tryd.may6_reg {id : Nat} {Q : Exit → Act → World → Prop} {T : Array Value} {l : Ln} {A : Option Addr} {c : Nat} {B : Option Addr} {d : Nat} {r : Ln} {A' : Option Addr} {c' : Nat} {B' : Option Addr} {d' : Nat} {A5 : Option Addr} {c5 : Nat} {B5 : Option Addr} {d5 : Nat} {g1 g2 g5 : Nat} {w0 w : World} {bs : List BoxR} {rs : List RowL} {f1 : FuncId} {t1 : Array TypeId} {f3 : FuncId} {t3 : Array TypeId} {f6 : FuncId} {t6 : Array TypeId} {f8 : FuncId} {t8 : Array TypeId} {f9 : FuncId} {t9 : Array TypeId} {f14 : FuncId} {t14 : Array TypeId} {f17 : FuncId} {t17 : Array TypeId}
    (F0 : o0.op = .load 25 (.tmp 2) ∧ o0.dst = some 35 ∧ o0.guard = none)
    (F1 : o1.op = .call { callee := .value (.func f1), args := #[(.tmp 35)], argTypes := t1 } ∧ o1.dst = some 36 ∧ o1.guard = none)
    (F2 : o2.op = .load 25 (.tmp 5) ∧ o2.dst = some 37 ∧ o2.guard = none)
    (F3 : o3.op = .call { callee := .value (.func f3), args := #[(.tmp 36), (.const (.int .i64 0)), (.tmp 37), (.const (.int .i64 0))], argTypes := t3 } ∧ o3.dst = some 38 ∧ o3.guard = none)
    (F4 : o4.op = .move (.tmp 38) ∧ o4.dst = some 39 ∧ o4.guard = none)
    (F5 : o5.op = .load 25 (.tmp 2) ∧ o5.dst = some 40 ∧ o5.guard = some (4, true))
    (F6 : o6.op = .call { callee := .value (.func f6), args := #[(.tmp 40)], argTypes := t6 } ∧ o6.dst = some 41 ∧ o6.guard = some (4, true))
    (F7 : o7.op = .load 25 (.tmp 5) ∧ o7.dst = some 42 ∧ o7.guard = some (4, true))
    (F8 : o8.op = .call { callee := .value (.func f8), args := #[(.tmp 42)], argTypes := t8 } ∧ o8.dst = some 43 ∧ o8.guard = some (4, true))
    (F9 : o9.op = .call { callee := .value (.func f9), args := #[(.tmp 41), (.const (.int .i64 0)), (.tmp 43), (.const (.int .i64 0))], argTypes := t9 } ∧ o9.dst = some 44 ∧ o9.guard = some (4, true))
    (F10 : o10.op = .pick (.tmp 39) (.tmp 44) (.const (.bool false)) ∧ o10.dst = some 45 ∧ o10.guard = none)
    (F11 : o11.op = .move (.tmp 45) ∧ o11.dst = some 46 ∧ o11.guard = none)
    (F12 : o12.op = .load 25 (.tmp 2) ∧ o12.dst = some 47 ∧ o12.guard = some (11, true))
    (F13 : o13.op = .load 25 (.tmp 5) ∧ o13.dst = some 48 ∧ o13.guard = some (11, true))
    (F14 : o14.op = .call { callee := .value (.func f14), args := #[(.tmp 47), (.tmp 48)], argTypes := t14 } ∧ o14.dst = some 49 ∧ o14.guard = some (11, true))
    (F15 : o15.op = .pick (.tmp 46) (.tmp 49) (.const (.bool false)) ∧ o15.dst = some 50 ∧ o15.guard = none)
    (F16 : o16.op = .move (.tmp 50) ∧ o16.dst = some 51 ∧ o16.guard = none)
    (F17 : o17.op = .call { callee := .value (.func f17), args := #[], argTypes := t17 } ∧ o17.dst = some 52 ∧ o17.guard = some (16, true))
    (F18 : o18.op = .pick (.tmp 51) (.tmp 52) (.const (.bool false)) ∧ o18.dst = some 53 ∧ o18.guard = none)
    (F19 : o19.op = .assign (.tmp 53) ∧ o19.dst = some 4 ∧ o19.guard = none)
    (D1 : dep13 o1 0 = true)
    (D3 : dep13 o3 1 = true ∧ dep13 o3 2 = true)
    (D4 : dep13 o4 3 = true)
    (D5 : dep13 o5 4 = true)
    (D6 : dep13 o6 5 = true ∧ dep13 o6 4 = true)
    (D7 : dep13 o7 4 = true)
    (D8 : dep13 o8 7 = true ∧ dep13 o8 6 = true ∧ dep13 o8 4 = true)
    (D9 : dep13 o9 6 = true ∧ dep13 o9 8 = true ∧ dep13 o9 4 = true)
    (D10 : dep13 o10 4 = true ∧ dep13 o10 9 = true)
    (D11 : dep13 o11 10 = true)
    (D12 : dep13 o12 11 = true)
    (D13 : dep13 o13 11 = true)
    (D14 : dep13 o14 12 = true ∧ dep13 o14 13 = true ∧ dep13 o14 11 = true)
    (D15 : dep13 o15 11 = true ∧ dep13 o15 14 = true)
    (D16 : dep13 o16 15 = true)
    (D17 : dep13 o17 16 = true)
    (D18 : dep13 o18 16 = true ∧ dep13 o18 17 = true)
    (D19 : dep13 o19 18 = true)
    (down : edgesDown #[o0, o1, o2, o3, o4, o5, o6, o7, o8, o9, o10, o11, o12, o13, o14, o15, o16, o17, o18, o19] = true) (hsz : 53 < T.size) (p2 : T.getD 2 undef = .pointer (some ⟨g1, 0, none⟩)) (p3 : T.getD 3 undef = .pointer (some ⟨g2, 0, none⟩)) (p5 : T.getD 5 undef = .pointer (some ⟨g5, 0, none⟩))
    (K : KL w0 w bs rs [⟨l, A5, B5⟩]) (hb1 : (⟨g1, .int .i64 l.q, .slice A l.ls.length c, .int .i64 l.k, .slice B l.cs.length d⟩ : BoxR) ∈ bs) (hb2 : (⟨g2, .int .i64 r.q, .slice A' r.ls.length c', .int .i64 r.k, .slice B' r.cs.length d'⟩ : BoxR) ∈ bs) (hb5 : (⟨g5, .int .i64 l.q, .slice A5 l.ls.length c5, .int .i64 l.k, .slice B5 l.cs.length d5⟩ : BoxR) ∈ bs)
    (hl : (⟨l, A, B⟩ : RowL) ∈ rs) (hrs : ∀ r ∈ rs, LnAt w0 w0.heap.size r.l r.A r.B)
    (C1 : ∀ W, LnAt W W.heap.size l A B → Calls Tryd.prog f1 #[.agg #[.int .i64 l.q, .slice A l.ls.length c, .int .i64 l.k, .slice B l.cs.length d]] W (RetLnO l W)) (C6 : ∀ W, LnAt W W.heap.size l A B → Calls Tryd.prog f6 #[.agg #[.int .i64 l.q, .slice A l.ls.length c, .int .i64 l.k, .slice B l.cs.length d]] W (RetLnO ⟨l.q, l.ls, l.k, []⟩ W)) (C8 : ∀ W, LnAt W W.heap.size l A5 B5 → Calls Tryd.prog f8 #[.agg #[.int .i64 l.q, .slice A5 l.ls.length c5, .int .i64 l.k, .slice B5 l.cs.length d5]] W (RetLnO ⟨l.q, l.ls, l.k, []⟩ W))
    (C3 : ∀ W A1 c1 X1 d1, LnWr W w0.heap.size l A1 X1 → LnAt W W.heap.size l A5 B5 → Calls Tryd.prog f3 #[lnV l A1 c1 X1 d1, .int .i64 0, .agg #[.int .i64 l.q, .slice A5 l.ls.length c5, .int .i64 l.k, .slice B5 l.cs.length d5], .int .i64 0] W (fun e w' => e = .returned (.bool true) ∧ Wrote (RL l A1 X1) W w'))
    (C9 : ∀ W A2 c2 X2 d2 A3 c3 X3 d3, LnWr W w0.heap.size ⟨l.q, l.ls, l.k, []⟩ A2 X2 → LnAt W W.heap.size ⟨l.q, l.ls, l.k, []⟩ A3 X3 → Calls Tryd.prog f9 #[lnV ⟨l.q, l.ls, l.k, []⟩ A2 c2 X2 d2, .int .i64 0, lnV ⟨l.q, l.ls, l.k, []⟩ A3 c3 X3 d3, .int .i64 0] W (fun e w' => e = .returned (.bool true) ∧ Wrote (RL ⟨l.q, l.ls, l.k, []⟩ A2 X2) W w'))
    (C14 : ∀ W, LnAt W W.heap.size l A B → LnAt W W.heap.size l A5 B5 → Calls Tryd.prog f14 #[.agg #[.int .i64 l.q, .slice A l.ls.length c, .int .i64 l.k, .slice B l.cs.length d], .agg #[.int .i64 l.q, .slice A5 l.ls.length c5, .int .i64 l.k, .slice B5 l.cs.length d5]] W (fun e w' => e = .returned (.bool true) ∧ Below W.heap.size W w')) (C17 : ∀ W, Below w0.heap.size w0 W → Calls Tryd.prog f17 #[] W (fun e w' => e = .returned (.bool true) ∧ Below W.heap.size W w'))
    (H1 : ∀ w, (callFunc f1 #[.agg #[.int .i64 l.q, .slice A l.ls.length c, .int .i64 l.k, .slice B l.cs.length d]]).run Tryd.prog w = .ok (.enter f1 #[.agg #[.int .i64 l.q, .slice A l.ls.length c, .int .i64 l.k, .slice B l.cs.length d]]) w)
    (H6 : ∀ w, (callFunc f6 #[.agg #[.int .i64 l.q, .slice A l.ls.length c, .int .i64 l.k, .slice B l.cs.length d]]).run Tryd.prog w = .ok (.enter f6 #[.agg #[.int .i64 l.q, .slice A l.ls.length c, .int .i64 l.k, .slice B l.cs.length d]]) w)
    (H8 : ∀ w, (callFunc f8 #[.agg #[.int .i64 l.q, .slice A5 l.ls.length c5, .int .i64 l.k, .slice B5 l.cs.length d5]]).run Tryd.prog w = .ok (.enter f8 #[.agg #[.int .i64 l.q, .slice A5 l.ls.length c5, .int .i64 l.k, .slice B5 l.cs.length d5]]) w)
    (H14 : ∀ w, (callFunc f14 #[.agg #[.int .i64 l.q, .slice A l.ls.length c, .int .i64 l.k, .slice B l.cs.length d], .agg #[.int .i64 l.q, .slice A5 l.ls.length c5, .int .i64 l.k, .slice B5 l.cs.length d5]]).run Tryd.prog w = .ok (.enter f14 #[.agg #[.int .i64 l.q, .slice A l.ls.length c, .int .i64 l.k, .slice B l.cs.length d], .agg #[.int .i64 l.q, .slice A5 l.ls.length c5, .int .i64 l.k, .slice B5 l.cs.length d5]]) w)
    (H17 : ∀ w, (callFunc f17 #[]).run Tryd.prog w = .ok (.enter f17 #[]) w)
    (H3 : ∀ u v w, (callFunc f3 #[u, .int .i64 0, v, .int .i64 0]).run Tryd.prog w = .ok (.enter f3 #[u, .int .i64 0, v, .int .i64 0]) w)
    (H9 : ∀ u v w, (callFunc f9 #[u, .int .i64 0, v, .int .i64 0]).run Tryd.prog w = .ok (.enter f9 #[u, .int .i64 0, v, .int .i64 0]) w)
    (hend : ∀ w' A1 c1 X1 d1 A2 c2 X2 d2 A3 c3 X3 d3, KL w0 w' bs rs [] → Q .normal ⟨upds T [(35, .agg #[.int .i64 l.q, .slice A l.ls.length c, .int .i64 l.k, .slice B l.cs.length d]), (36, lnV l A1 c1 X1 d1), (37, .agg #[.int .i64 l.q, .slice A5 l.ls.length c5, .int .i64 l.k, .slice B5 l.cs.length d5]), (38, .bool true), (39, .bool true), (40, .agg #[.int .i64 l.q, .slice A l.ls.length c, .int .i64 l.k, .slice B l.cs.length d]), (41, lnV ⟨l.q, l.ls, l.k, []⟩ A2 c2 X2 d2), (42, .agg #[.int .i64 l.q, .slice A5 l.ls.length c5, .int .i64 l.k, .slice B5 l.cs.length d5]), (43, lnV ⟨l.q, l.ls, l.k, []⟩ A3 c3 X3 d3), (44, .bool true), (45, .bool true), (46, .bool true), (47, .agg #[.int .i64 l.q, .slice A l.ls.length c, .int .i64 l.k, .slice B l.cs.length d]), (48, .agg #[.int .i64 l.q, .slice A5 l.ls.length c5, .int .i64 l.k, .slice B5 l.cs.length d5]), (49, .bool true), (50, .bool true), (51, .bool true), (52, .bool true), (53, .bool true), (4, .bool true)], []⟩ w') :
    (Code.region id #[o0, o1, o2, o3, o4, o5, o6, o7, o8, o9, o10, o11, o12, o13, o14, o15, o16, o17, o18, o19] true).wp Tryd.prog Q ⟨T, []⟩ w := by
  refine wp_region_any (by kernel_rfl) ?_
  refine wpAny_inv (fun b a w => b.size = 20 ∧ ∃ A1 c1 X1 d1 A2 c2 X2 d2 A3 c3 X3 d3, May6I T l A c B d r A' c' B' d' A5 c5 B5 d5 w0 bs rs A1 c1 X1 d1 A2 c2 X2 d2 A3 c3 X3 d3 (fun k => b.getD k false) a w) ?step ?fin _ _ _ _ ?start ?fuel
  case fuel => simp
  case start =>
    refine ⟨by simp, none, 0, none, 0, none, 0, none, 0, none, 0, none, 0, ?_⟩
    have no : ∀ k, (Array.replicate (#[o0, o1, o2, o3, o4, o5, o6, o7, o8, o9, o10, o11, o12, o13, o14, o15, o16, o17, o18, o19] : Array Oper).size false).getD k false = true → False := fun k h => by
      simp [Array.getD] at h
    have K := K.quiet (w' := w.drew) ⟨1, rfl⟩
    exact { sz := rfl, df := rfl, fr := fun _ _ => rfl, kl := K.less (List.Sublist.refl _) (fun r h => h) (List.nil_sublist _), k0 := fun _ => K, k1 := fun h => (no _ h).elim, k3 := fun h => (no _ h).elim, k6 := fun h => (no _ h).elim, k8 := fun h => (no _ h).elim, k9 := fun h => (no _ h).elim, y3 := fun h => (no _ h).elim, y4 := fun h => (no _ h).elim, y6 := fun h => (no _ h).elim, y8 := fun h => (no _ h).elim, y9 := fun h => (no _ h).elim, y10 := fun h => (no _ h).elim, y11 := fun h => (no _ h).elim, y15 := fun h => (no _ h).elim, y16 := fun h => (no _ h).elim, f0 := fun h => (no _ h).elim, f1 := fun h => (no _ h).elim, f2 := fun h => (no _ h).elim, f3 := fun h => (no _ h).elim, f4 := fun h => (no _ h).elim, f5 := fun h => (no _ h).elim, f6 := fun h => (no _ h).elim, f7 := fun h => (no _ h).elim, f8 := fun h => (no _ h).elim, f9 := fun h => (no _ h).elim, f10 := fun h => (no _ h).elim, f11 := fun h => (no _ h).elim, f12 := fun h => (no _ h).elim, f13 := fun h => (no _ h).elim, f14 := fun h => (no _ h).elim, f15 := fun h => (no _ h).elim, f16 := fun h => (no _ h).elim, f17 := fun h => (no _ h).elim, f18 := fun h => (no _ h).elim, f19 := fun h => (no _ h).elim }
  case fin =>
    rintro b a w' ⟨hs, A1, c1, X1, d1, A2, c2, X2, d2, A3, c3, X3, d3, I⟩ hr'
    have all : ∀ k, k < 20 → b.getD k false = true := fun k hk => ready_nil down hr' hs 20 k hk hk
    have := hend w' A1 c1 X1 d1 A2 c2 X2 d2 A3 c3 X3 d3 I.kl
    have ea : a = ⟨upds T [(35, .agg #[.int .i64 l.q, .slice A l.ls.length c, .int .i64 l.k, .slice B l.cs.length d]), (36, lnV l A1 c1 X1 d1), (37, .agg #[.int .i64 l.q, .slice A5 l.ls.length c5, .int .i64 l.k, .slice B5 l.cs.length d5]), (38, .bool true), (39, .bool true), (40, .agg #[.int .i64 l.q, .slice A l.ls.length c, .int .i64 l.k, .slice B l.cs.length d]), (41, lnV ⟨l.q, l.ls, l.k, []⟩ A2 c2 X2 d2), (42, .agg #[.int .i64 l.q, .slice A5 l.ls.length c5, .int .i64 l.k, .slice B5 l.cs.length d5]), (43, lnV ⟨l.q, l.ls, l.k, []⟩ A3 c3 X3 d3), (44, .bool true), (45, .bool true), (46, .bool true), (47, .agg #[.int .i64 l.q, .slice A l.ls.length c, .int .i64 l.k, .slice B l.cs.length d]), (48, .agg #[.int .i64 l.q, .slice A5 l.ls.length c5, .int .i64 l.k, .slice B5 l.cs.length d5]), (49, .bool true), (50, .bool true), (51, .bool true), (52, .bool true), (53, .bool true), (4, .bool true)], []⟩ := by
      obtain ⟨tm, df⟩ := a
      have hd : df = [] := I.df
      subst hd
      refine congrArg (fun z => (⟨z, []⟩ : Act)) (frame_eq [(35, .agg #[.int .i64 l.q, .slice A l.ls.length c, .int .i64 l.k, .slice B l.cs.length d]), (36, lnV l A1 c1 X1 d1), (37, .agg #[.int .i64 l.q, .slice A5 l.ls.length c5, .int .i64 l.k, .slice B5 l.cs.length d5]), (38, .bool true), (39, .bool true), (40, .agg #[.int .i64 l.q, .slice A l.ls.length c, .int .i64 l.k, .slice B l.cs.length d]), (41, lnV ⟨l.q, l.ls, l.k, []⟩ A2 c2 X2 d2), (42, .agg #[.int .i64 l.q, .slice A5 l.ls.length c5, .int .i64 l.k, .slice B5 l.cs.length d5]), (43, lnV ⟨l.q, l.ls, l.k, []⟩ A3 c3 X3 d3), (44, .bool true), (45, .bool true), (46, .bool true), (47, .agg #[.int .i64 l.q, .slice A l.ls.length c, .int .i64 l.k, .slice B l.cs.length d]), (48, .agg #[.int .i64 l.q, .slice A5 l.ls.length c5, .int .i64 l.k, .slice B5 l.cs.length d5]), (49, .bool true), (50, .bool true), (51, .bool true), (52, .bool true), (53, .bool true), (4, .bool true)] I.sz ?_ ?_ ?_ I.fr)
      · intro q hq; simp at hq; rcases hq with rfl | rfl | rfl | rfl | rfl | rfl | rfl | rfl | rfl | rfl | rfl | rfl | rfl | rfl | rfl | rfl | rfl | rfl | rfl | rfl <;> simp <;> omega
      · show ([35, 36, 37, 38, 39, 40, 41, 42, 43, 44, 45, 46, 47, 48, 49, 50, 51, 52, 53, 4] : List Nat).Nodup; decide
      · intro q hq
        simp only [List.mem_cons, List.not_mem_nil, or_false] at hq
        rcases hq with rfl | rfl | rfl | rfl | rfl | rfl | rfl | rfl | rfl | rfl | rfl | rfl | rfl | rfl | rfl | rfl | rfl | rfl | rfl | rfl
        · exact I.f0 (all 0 (by decide))
        · exact I.f1 (all 1 (by decide))
        · exact I.f2 (all 2 (by decide))
        · exact I.f3 (all 3 (by decide))
        · exact I.f4 (all 4 (by decide))
        · exact I.f5 (all 5 (by decide))
        · exact I.f6 (all 6 (by decide))
        · exact I.f7 (all 7 (by decide))
        · exact I.f8 (all 8 (by decide))
        · exact I.f9 (all 9 (by decide))
        · exact I.f10 (all 10 (by decide))
        · exact I.f11 (all 11 (by decide))
        · exact I.f12 (all 12 (by decide))
        · exact I.f13 (all 13 (by decide))
        · exact I.f14 (all 14 (by decide))
        · exact I.f15 (all 15 (by decide))
        · exact I.f16 (all 16 (by decide))
        · exact I.f17 (all 17 (by decide))
        · exact I.f18 (all 18 (by decide))
        · exact I.f19 (all 19 (by decide))
    rw [ea]
    exact this
  case step =>
    rintro b a w' i' ⟨hs, A1, c1, X1, d1, A2, c2, X2, d2, A3, c3, X3, d3, I⟩ hi
    have off := ready_mem hi
    have hlt : i' < 20 := by
      unfold Region.ready at hi
      rw [List.mem_filter] at hi
      exact List.mem_range.1 hi.1
    have off' : b.getD i' false = false := by
      simp only [Array.getD_eq_getD_getElem?] at off ⊢
      rw [Array.getElem?_eq_getElem (by omega)] at off ⊢
      simpa using off
    obtain ⟨-, hbl⟩ := I.kl.bx _ hb1
    obtain ⟨-, hbr⟩ := I.kl.bx _ hb2
    obtain ⟨-, hbs⟩ := I.kl.bx _ hb5
    have asz := I.sz
    have g2' : a.eval (.tmp 2) = .pointer (some ⟨g1, 0, none⟩) := (I.fr 2 (by decide)).trans p2
    have g3' : a.eval (.tmp 3) = .pointer (some ⟨g2, 0, none⟩) := (I.fr 3 (by decide)).trans p3
    have g5' : a.eval (.tmp 5) = .pointer (some ⟨g5, 0, none⟩) := (I.fr 5 (by decide)).trans p5
    have bi : (fun k => (b.setIfInBounds i' true).getD k false) = bitOn (fun k => b.getD k false) i' := bit_set (by omega)
    match i', hlt with
    | 0, _ =>
      refine wpOp_step (o := o0) rfl (fun K' hK => ?_)
      rw [if_pos (by simp [Region.wanted, F0.2.2])]
      refine Tryd.wp_loadL (.tmp 2) F0.1 g2' hbl ?_
      refine hK _ _ ⟨by rw [Array.size_setIfInBounds]; exact hs, A1, c1, X1, d1, A2, c2, X2, d2, A3, c3, X3, d3, ?_⟩
      rw [bi]
      unfold Act.put
      rw [F0.2.1]
      exact { sz := (Array.size_setIfInBounds ..).trans I.sz, df := I.df, fr := fun k hk => (getD_set_ne (fun e => hk (by rw [← e]; decide))).trans (I.fr k hk), kl := I.kl, k0 := fun h => (I.k0 (bit_off h)), k1 := fun h h' => (I.k1 (bit_ne h (by decide)) (bit_off h')), k3 := fun h h' => (I.k3 (bit_ne h (by decide)) (bit_off h')), k6 := fun h h' => (I.k6 (bit_ne h (by decide)) (bit_off h')), k8 := fun h h' => (I.k8 (bit_ne h (by decide)) (bit_off h')), k9 := fun h => (I.k9 (bit_ne h (by decide))), y3 := fun h => bit_on (I.y3 (bit_ne h (by decide))), y4 := fun h => bit_on (I.y4 (bit_ne h (by decide))), y6 := fun h => bit_on (I.y6 (bit_ne h (by decide))), y8 := fun h => bit_on (I.y8 (bit_ne h (by decide))), y9 := fun h => bit_on (I.y9 (bit_ne h (by decide))), y10 := fun h => bit_on (I.y10 (bit_ne h (by decide))), y11 := fun h => bit_on (I.y11 (bit_ne h (by decide))), y15 := fun h => bit_on (I.y15 (bit_ne h (by decide))), y16 := fun h => bit_on (I.y16 (bit_ne h (by decide))), f0 := fun h => getD_set_eq (by rw [asz]; omega), f1 := fun h => (getD_set_ne (by decide)).trans (I.f1 (bit_ne h (by decide))), f2 := fun h => (getD_set_ne (by decide)).trans (I.f2 (bit_ne h (by decide))), f3 := fun h => (getD_set_ne (by decide)).trans (I.f3 (bit_ne h (by decide))), f4 := fun h => (getD_set_ne (by decide)).trans (I.f4 (bit_ne h (by decide))), f5 := fun h => (getD_set_ne (by decide)).trans (I.f5 (bit_ne h (by decide))), f6 := fun h => (getD_set_ne (by decide)).trans (I.f6 (bit_ne h (by decide))), f7 := fun h => (getD_set_ne (by decide)).trans (I.f7 (bit_ne h (by decide))), f8 := fun h => (getD_set_ne (by decide)).trans (I.f8 (bit_ne h (by decide))), f9 := fun h => (getD_set_ne (by decide)).trans (I.f9 (bit_ne h (by decide))), f10 := fun h => (getD_set_ne (by decide)).trans (I.f10 (bit_ne h (by decide))), f11 := fun h => (getD_set_ne (by decide)).trans (I.f11 (bit_ne h (by decide))), f12 := fun h => (getD_set_ne (by decide)).trans (I.f12 (bit_ne h (by decide))), f13 := fun h => (getD_set_ne (by decide)).trans (I.f13 (bit_ne h (by decide))), f14 := fun h => (getD_set_ne (by decide)).trans (I.f14 (bit_ne h (by decide))), f15 := fun h => (getD_set_ne (by decide)).trans (I.f15 (bit_ne h (by decide))), f16 := fun h => (getD_set_ne (by decide)).trans (I.f16 (bit_ne h (by decide))), f17 := fun h => (getD_set_ne (by decide)).trans (I.f17 (bit_ne h (by decide))), f18 := fun h => (getD_set_ne (by decide)).trans (I.f18 (bit_ne h (by decide))), f19 := fun h => (getD_set_ne (by decide)).trans (I.f19 (bit_ne h (by decide))) }
    | 1, _ =>
      refine wpOp_step (o := o1) rfl (fun K' hK => ?_)
      have h0 := ready_waits hi rfl D1
      rw [if_pos (by simp [Region.wanted, F1.2.2])]
      refine Tryd.wp_callN f1 #[(.tmp 35)] t1 F1.1 (vs := #[.agg #[.int .i64 l.q, .slice A l.ls.length c, .int .i64 l.k, .slice B l.cs.length d]]) (by simp only [List.map_toArray, List.map_cons, List.map_nil, show a.eval (.tmp 35) = _ from I.f0 h0]) H1 (C1 w' (I.kl.at_ hl)) ?_
      rintro e W2 ⟨A1', c1', X1', d1', rfl, ho, hbw⟩
      refine ⟨_, rfl, ?_⟩
      refine hK _ _ ⟨by rw [Array.size_setIfInBounds]; exact hs, A1', c1', X1', d1', A2, c2, X2, d2, A3, c3, X3, d3, ?_⟩
      rw [bi]
      unfold Act.put
      rw [F1.2.1]
      exact { sz := (Array.size_setIfInBounds ..).trans I.sz, df := I.df, fr := fun k hk => (getD_set_ne (fun e => hk (by rw [← e]; decide))).trans (I.fr k hk), kl := I.kl.later hbw, k0 := fun h => (by simp [bitOn] at h), k1 := fun _ _ => (I.k0 off').addW hbw ho.wr, k3 := fun h _ => (by have z3 := bit_ne h (by decide); have z1 := I.y3 z3; simp [off'] at z1), k6 := fun h _ => (by have z6 := bit_ne h (by decide); have z4 := I.y6 z6; have z3 := I.y4 z4; have z1 := I.y3 z3; simp [off'] at z1), k8 := fun h _ => (by have z8 := bit_ne h (by decide); have z6 := I.y8 z8; have z4 := I.y6 z6; have z3 := I.y4 z4; have z1 := I.y3 z3; simp [off'] at z1), k9 := fun h => (by have z9 := bit_ne h (by decide); have z8 := I.y9 z9; have z6 := I.y8 z8; have z4 := I.y6 z6; have z3 := I.y4 z4; have z1 := I.y3 z3; simp [off'] at z1), y3 := fun h => bit_on (I.y3 (bit_ne h (by decide))), y4 := fun h => bit_on (I.y4 (bit_ne h (by decide))), y6 := fun h => bit_on (I.y6 (bit_ne h (by decide))), y8 := fun h => bit_on (I.y8 (bit_ne h (by decide))), y9 := fun h => bit_on (I.y9 (bit_ne h (by decide))), y10 := fun h => bit_on (I.y10 (bit_ne h (by decide))), y11 := fun h => bit_on (I.y11 (bit_ne h (by decide))), y15 := fun h => bit_on (I.y15 (bit_ne h (by decide))), y16 := fun h => bit_on (I.y16 (bit_ne h (by decide))), f0 := fun h => (getD_set_ne (by decide)).trans (I.f0 (bit_ne h (by decide))), f1 := fun h => getD_set_eq (by rw [asz]; omega), f2 := fun h => (getD_set_ne (by decide)).trans (I.f2 (bit_ne h (by decide))), f3 := fun h => (getD_set_ne (by decide)).trans (I.f3 (bit_ne h (by decide))), f4 := fun h => (getD_set_ne (by decide)).trans (I.f4 (bit_ne h (by decide))), f5 := fun h => (getD_set_ne (by decide)).trans (I.f5 (bit_ne h (by decide))), f6 := fun h => (getD_set_ne (by decide)).trans (I.f6 (bit_ne h (by decide))), f7 := fun h => (getD_set_ne (by decide)).trans (I.f7 (bit_ne h (by decide))), f8 := fun h => (getD_set_ne (by decide)).trans (I.f8 (bit_ne h (by decide))), f9 := fun h => (getD_set_ne (by decide)).trans (I.f9 (bit_ne h (by decide))), f10 := fun h => (getD_set_ne (by decide)).trans (I.f10 (bit_ne h (by decide))), f11 := fun h => (getD_set_ne (by decide)).trans (I.f11 (bit_ne h (by decide))), f12 := fun h => (getD_set_ne (by decide)).trans (I.f12 (bit_ne h (by decide))), f13 := fun h => (getD_set_ne (by decide)).trans (I.f13 (bit_ne h (by decide))), f14 := fun h => (getD_set_ne (by decide)).trans (I.f14 (bit_ne h (by decide))), f15 := fun h => (getD_set_ne (by decide)).trans (I.f15 (bit_ne h (by decide))), f16 := fun h => (getD_set_ne (by decide)).trans (I.f16 (bit_ne h (by decide))), f17 := fun h => (getD_set_ne (by decide)).trans (I.f17 (bit_ne h (by decide))), f18 := fun h => (getD_set_ne (by decide)).trans (I.f18 (bit_ne h (by decide))), f19 := fun h => (getD_set_ne (by decide)).trans (I.f19 (bit_ne h (by decide))) }
    | 2, _ =>
      refine wpOp_step (o := o2) rfl (fun K' hK => ?_)
      rw [if_pos (by simp [Region.wanted, F2.2.2])]
      refine Tryd.wp_loadL (.tmp 5) F2.1 g5' hbs ?_
      refine hK _ _ ⟨by rw [Array.size_setIfInBounds]; exact hs, A1, c1, X1, d1, A2, c2, X2, d2, A3, c3, X3, d3, ?_⟩
      rw [bi]
      unfold Act.put
      rw [F2.2.1]
      exact { sz := (Array.size_setIfInBounds ..).trans I.sz, df := I.df, fr := fun k hk => (getD_set_ne (fun e => hk (by rw [← e]; decide))).trans (I.fr k hk), kl := I.kl, k0 := fun h => (I.k0 (bit_off h)), k1 := fun h h' => (I.k1 (bit_ne h (by decide)) (bit_off h')), k3 := fun h h' => (I.k3 (bit_ne h (by decide)) (bit_off h')), k6 := fun h h' => (I.k6 (bit_ne h (by decide)) (bit_off h')), k8 := fun h h' => (I.k8 (bit_ne h (by decide)) (bit_off h')), k9 := fun h => (I.k9 (bit_ne h (by decide))), y3 := fun h => bit_on (I.y3 (bit_ne h (by decide))), y4 := fun h => bit_on (I.y4 (bit_ne h (by decide))), y6 := fun h => bit_on (I.y6 (bit_ne h (by decide))), y8 := fun h => bit_on (I.y8 (bit_ne h (by decide))), y9 := fun h => bit_on (I.y9 (bit_ne h (by decide))), y10 := fun h => bit_on (I.y10 (bit_ne h (by decide))), y11 := fun h => bit_on (I.y11 (bit_ne h (by decide))), y15 := fun h => bit_on (I.y15 (bit_ne h (by decide))), y16 := fun h => bit_on (I.y16 (bit_ne h (by decide))), f0 := fun h => (getD_set_ne (by decide)).trans (I.f0 (bit_ne h (by decide))), f1 := fun h => (getD_set_ne (by decide)).trans (I.f1 (bit_ne h (by decide))), f2 := fun h => getD_set_eq (by rw [asz]; omega), f3 := fun h => (getD_set_ne (by decide)).trans (I.f3 (bit_ne h (by decide))), f4 := fun h => (getD_set_ne (by decide)).trans (I.f4 (bit_ne h (by decide))), f5 := fun h => (getD_set_ne (by decide)).trans (I.f5 (bit_ne h (by decide))), f6 := fun h => (getD_set_ne (by decide)).trans (I.f6 (bit_ne h (by decide))), f7 := fun h => (getD_set_ne (by decide)).trans (I.f7 (bit_ne h (by decide))), f8 := fun h => (getD_set_ne (by decide)).trans (I.f8 (bit_ne h (by decide))), f9 := fun h => (getD_set_ne (by decide)).trans (I.f9 (bit_ne h (by decide))), f10 := fun h => (getD_set_ne (by decide)).trans (I.f10 (bit_ne h (by decide))), f11 := fun h => (getD_set_ne (by decide)).trans (I.f11 (bit_ne h (by decide))), f12 := fun h => (getD_set_ne (by decide)).trans (I.f12 (bit_ne h (by decide))), f13 := fun h => (getD_set_ne (by decide)).trans (I.f13 (bit_ne h (by decide))), f14 := fun h => (getD_set_ne (by decide)).trans (I.f14 (bit_ne h (by decide))), f15 := fun h => (getD_set_ne (by decide)).trans (I.f15 (bit_ne h (by decide))), f16 := fun h => (getD_set_ne (by decide)).trans (I.f16 (bit_ne h (by decide))), f17 := fun h => (getD_set_ne (by decide)).trans (I.f17 (bit_ne h (by decide))), f18 := fun h => (getD_set_ne (by decide)).trans (I.f18 (bit_ne h (by decide))), f19 := fun h => (getD_set_ne (by decide)).trans (I.f19 (bit_ne h (by decide))) }
    | 3, _ =>
      refine wpOp_step (o := o3) rfl (fun K' hK => ?_)
      have h1 := ready_waits hi rfl D3.1
      have h2 := ready_waits hi rfl D3.2
      rw [if_pos (by simp [Region.wanted, F3.2.2])]
      refine Tryd.wp_callN f3 #[(.tmp 36), (.const (.int .i64 0)), (.tmp 37), (.const (.int .i64 0))] t3 F3.1 (vs := #[lnV l A1 c1 X1 d1, .int .i64 0, .agg #[.int .i64 l.q, .slice A5 l.ls.length c5, .int .i64 l.k, .slice B5 l.cs.length d5], .int .i64 0]) (by simp only [List.map_toArray, List.map_cons, List.map_nil, show a.eval (.tmp 36) = _ from I.f1 h1, show a.eval (.tmp 37) = _ from I.f2 h2]; rfl) (H3 _ _) (C3 w' A1 c1 X1 d1 ((I.k1 h1 off').wr ⟨l, A1, X1⟩ (by simp)) ((I.k1 h1 off').atW (r := ⟨l, A5, B5⟩) (by simp))) ?_
      rintro e W2 ⟨rfl, hwr⟩
      refine ⟨_, rfl, ?_⟩
      refine hK _ _ ⟨by rw [Array.size_setIfInBounds]; exact hs, A1, c1, X1, d1, A2, c2, X2, d2, A3, c3, X3, d3, ?_⟩
      rw [bi]
      unfold Act.put
      rw [F3.2.1]
      exact { sz := (Array.size_setIfInBounds ..).trans I.sz, df := I.df, fr := fun k hk => (getD_set_ne (fun e => hk (by rw [← e]; decide))).trans (I.fr k hk), kl := ((I.k1 h1 off').spoil (O1 := []) (t := ⟨l, A1, X1⟩) (O2 := [⟨l, A5, B5⟩]) (fun r hr => (hrs r hr).below I.kl.b) hwr).less (List.Sublist.refl _) (fun r h => h) (List.nil_sublist _), k0 := fun h => (by have z := bit_off h; rw [h1] at z; cases z), k1 := fun h h' => (by simp [bitOn] at h'), k3 := fun _ _ => (I.k1 h1 off').spoil (O1 := []) (t := ⟨l, A1, X1⟩) (O2 := [⟨l, A5, B5⟩]) (fun r hr => (hrs r hr).below I.kl.b) hwr, k6 := fun h _ => (by have z6 := bit_ne h (by decide); have z4 := I.y6 z6; have z3 := I.y4 z4; simp [off'] at z3), k8 := fun h _ => (by have z8 := bit_ne h (by decide); have z6 := I.y8 z8; have z4 := I.y6 z6; have z3 := I.y4 z4; simp [off'] at z3), k9 := fun h => (by have z9 := bit_ne h (by decide); have z8 := I.y9 z9; have z6 := I.y8 z8; have z4 := I.y6 z6; have z3 := I.y4 z4; simp [off'] at z3), y3 := fun _ => bit_on h1, y4 := fun h => bit_on (I.y4 (bit_ne h (by decide))), y6 := fun h => bit_on (I.y6 (bit_ne h (by decide))), y8 := fun h => bit_on (I.y8 (bit_ne h (by decide))), y9 := fun h => bit_on (I.y9 (bit_ne h (by decide))), y10 := fun h => bit_on (I.y10 (bit_ne h (by decide))), y11 := fun h => bit_on (I.y11 (bit_ne h (by decide))), y15 := fun h => bit_on (I.y15 (bit_ne h (by decide))), y16 := fun h => bit_on (I.y16 (bit_ne h (by decide))), f0 := fun h => (getD_set_ne (by decide)).trans (I.f0 (bit_ne h (by decide))), f1 := fun h => (getD_set_ne (by decide)).trans (I.f1 (bit_ne h (by decide))), f2 := fun h => (getD_set_ne (by decide)).trans (I.f2 (bit_ne h (by decide))), f3 := fun h => getD_set_eq (by rw [asz]; omega), f4 := fun h => (getD_set_ne (by decide)).trans (I.f4 (bit_ne h (by decide))), f5 := fun h => (getD_set_ne (by decide)).trans (I.f5 (bit_ne h (by decide))), f6 := fun h => (getD_set_ne (by decide)).trans (I.f6 (bit_ne h (by decide))), f7 := fun h => (getD_set_ne (by decide)).trans (I.f7 (bit_ne h (by decide))), f8 := fun h => (getD_set_ne (by decide)).trans (I.f8 (bit_ne h (by decide))), f9 := fun h => (getD_set_ne (by decide)).trans (I.f9 (bit_ne h (by decide))), f10 := fun h => (getD_set_ne (by decide)).trans (I.f10 (bit_ne h (by decide))), f11 := fun h => (getD_set_ne (by decide)).trans (I.f11 (bit_ne h (by decide))), f12 := fun h => (getD_set_ne (by decide)).trans (I.f12 (bit_ne h (by decide))), f13 := fun h => (getD_set_ne (by decide)).trans (I.f13 (bit_ne h (by decide))), f14 := fun h => (getD_set_ne (by decide)).trans (I.f14 (bit_ne h (by decide))), f15 := fun h => (getD_set_ne (by decide)).trans (I.f15 (bit_ne h (by decide))), f16 := fun h => (getD_set_ne (by decide)).trans (I.f16 (bit_ne h (by decide))), f17 := fun h => (getD_set_ne (by decide)).trans (I.f17 (bit_ne h (by decide))), f18 := fun h => (getD_set_ne (by decide)).trans (I.f18 (bit_ne h (by decide))), f19 := fun h => (getD_set_ne (by decide)).trans (I.f19 (bit_ne h (by decide))) }
    | 4, _ =>
      refine wpOp_step (o := o4) rfl (fun K' hK => ?_)
      have h3 := ready_waits hi rfl D4
      rw [if_pos (by simp [Region.wanted, F4.2.2])]
      refine wp_val (run_moveV F4.1 (I.f3 h3)) ?_
      refine hK _ _ ⟨by rw [Array.size_setIfInBounds]; exact hs, A1, c1, X1, d1, A2, c2, X2, d2, A3, c3, X3, d3, ?_⟩
      rw [bi]
      unfold Act.put
      rw [F4.2.1]
      exact { sz := (Array.size_setIfInBounds ..).trans I.sz, df := I.df, fr := fun k hk => (getD_set_ne (fun e => hk (by rw [← e]; decide))).trans (I.fr k hk), kl := I.kl, k0 := fun h => (I.k0 (bit_off h)), k1 := fun h h' => (I.k1 (bit_ne h (by decide)) (bit_off h')), k3 := fun h h' => (I.k3 (bit_ne h (by decide)) (bit_off h')), k6 := fun h h' => (I.k6 (bit_ne h (by decide)) (bit_off h')), k8 := fun h h' => (I.k8 (bit_ne h (by decide)) (bit_off h')), k9 := fun h => (I.k9 (bit_ne h (by decide))), y3 := fun h => bit_on (I.y3 (bit_ne h (by decide))), y4 := fun _ => bit_on h3, y6 := fun h => bit_on (I.y6 (bit_ne h (by decide))), y8 := fun h => bit_on (I.y8 (bit_ne h (by decide))), y9 := fun h => bit_on (I.y9 (bit_ne h (by decide))), y10 := fun h => bit_on (I.y10 (bit_ne h (by decide))), y11 := fun h => bit_on (I.y11 (bit_ne h (by decide))), y15 := fun h => bit_on (I.y15 (bit_ne h (by decide))), y16 := fun h => bit_on (I.y16 (bit_ne h (by decide))), f0 := fun h => (getD_set_ne (by decide)).trans (I.f0 (bit_ne h (by decide))), f1 := fun h => (getD_set_ne (by decide)).trans (I.f1 (bit_ne h (by decide))), f2 := fun h => (getD_set_ne (by decide)).trans (I.f2 (bit_ne h (by decide))), f3 := fun h => (getD_set_ne (by decide)).trans (I.f3 (bit_ne h (by decide))), f4 := fun h => getD_set_eq (by rw [asz]; omega), f5 := fun h => (getD_set_ne (by decide)).trans (I.f5 (bit_ne h (by decide))), f6 := fun h => (getD_set_ne (by decide)).trans (I.f6 (bit_ne h (by decide))), f7 := fun h => (getD_set_ne (by decide)).trans (I.f7 (bit_ne h (by decide))), f8 := fun h => (getD_set_ne (by decide)).trans (I.f8 (bit_ne h (by decide))), f9 := fun h => (getD_set_ne (by decide)).trans (I.f9 (bit_ne h (by decide))), f10 := fun h => (getD_set_ne (by decide)).trans (I.f10 (bit_ne h (by decide))), f11 := fun h => (getD_set_ne (by decide)).trans (I.f11 (bit_ne h (by decide))), f12 := fun h => (getD_set_ne (by decide)).trans (I.f12 (bit_ne h (by decide))), f13 := fun h => (getD_set_ne (by decide)).trans (I.f13 (bit_ne h (by decide))), f14 := fun h => (getD_set_ne (by decide)).trans (I.f14 (bit_ne h (by decide))), f15 := fun h => (getD_set_ne (by decide)).trans (I.f15 (bit_ne h (by decide))), f16 := fun h => (getD_set_ne (by decide)).trans (I.f16 (bit_ne h (by decide))), f17 := fun h => (getD_set_ne (by decide)).trans (I.f17 (bit_ne h (by decide))), f18 := fun h => (getD_set_ne (by decide)).trans (I.f18 (bit_ne h (by decide))), f19 := fun h => (getD_set_ne (by decide)).trans (I.f19 (bit_ne h (by decide))) }
    | 5, _ =>
      refine wpOp_step (o := o5) rfl (fun K' hK => ?_)
      have h4 := ready_waits hi rfl D5
      rw [if_pos (wanted_of F5.2.2 rfl F4.2.1 (I.f4 h4))]
      refine Tryd.wp_loadL (.tmp 2) F5.1 g2' hbl ?_
      refine hK _ _ ⟨by rw [Array.size_setIfInBounds]; exact hs, A1, c1, X1, d1, A2, c2, X2, d2, A3, c3, X3, d3, ?_⟩
      rw [bi]
      unfold Act.put
      rw [F5.2.1]
      exact { sz := (Array.size_setIfInBounds ..).trans I.sz, df := I.df, fr := fun k hk => (getD_set_ne (fun e => hk (by rw [← e]; decide))).trans (I.fr k hk), kl := I.kl, k0 := fun h => (I.k0 (bit_off h)), k1 := fun h h' => (I.k1 (bit_ne h (by decide)) (bit_off h')), k3 := fun h h' => (I.k3 (bit_ne h (by decide)) (bit_off h')), k6 := fun h h' => (I.k6 (bit_ne h (by decide)) (bit_off h')), k8 := fun h h' => (I.k8 (bit_ne h (by decide)) (bit_off h')), k9 := fun h => (I.k9 (bit_ne h (by decide))), y3 := fun h => bit_on (I.y3 (bit_ne h (by decide))), y4 := fun h => bit_on (I.y4 (bit_ne h (by decide))), y6 := fun h => bit_on (I.y6 (bit_ne h (by decide))), y8 := fun h => bit_on (I.y8 (bit_ne h (by decide))), y9 := fun h => bit_on (I.y9 (bit_ne h (by decide))), y10 := fun h => bit_on (I.y10 (bit_ne h (by decide))), y11 := fun h => bit_on (I.y11 (bit_ne h (by decide))), y15 := fun h => bit_on (I.y15 (bit_ne h (by decide))), y16 := fun h => bit_on (I.y16 (bit_ne h (by decide))), f0 := fun h => (getD_set_ne (by decide)).trans (I.f0 (bit_ne h (by decide))), f1 := fun h => (getD_set_ne (by decide)).trans (I.f1 (bit_ne h (by decide))), f2 := fun h => (getD_set_ne (by decide)).trans (I.f2 (bit_ne h (by decide))), f3 := fun h => (getD_set_ne (by decide)).trans (I.f3 (bit_ne h (by decide))), f4 := fun h => (getD_set_ne (by decide)).trans (I.f4 (bit_ne h (by decide))), f5 := fun h => getD_set_eq (by rw [asz]; omega), f6 := fun h => (getD_set_ne (by decide)).trans (I.f6 (bit_ne h (by decide))), f7 := fun h => (getD_set_ne (by decide)).trans (I.f7 (bit_ne h (by decide))), f8 := fun h => (getD_set_ne (by decide)).trans (I.f8 (bit_ne h (by decide))), f9 := fun h => (getD_set_ne (by decide)).trans (I.f9 (bit_ne h (by decide))), f10 := fun h => (getD_set_ne (by decide)).trans (I.f10 (bit_ne h (by decide))), f11 := fun h => (getD_set_ne (by decide)).trans (I.f11 (bit_ne h (by decide))), f12 := fun h => (getD_set_ne (by decide)).trans (I.f12 (bit_ne h (by decide))), f13 := fun h => (getD_set_ne (by decide)).trans (I.f13 (bit_ne h (by decide))), f14 := fun h => (getD_set_ne (by decide)).trans (I.f14 (bit_ne h (by decide))), f15 := fun h => (getD_set_ne (by decide)).trans (I.f15 (bit_ne h (by decide))), f16 := fun h => (getD_set_ne (by decide)).trans (I.f16 (bit_ne h (by decide))), f17 := fun h => (getD_set_ne (by decide)).trans (I.f17 (bit_ne h (by decide))), f18 := fun h => (getD_set_ne (by decide)).trans (I.f18 (bit_ne h (by decide))), f19 := fun h => (getD_set_ne (by decide)).trans (I.f19 (bit_ne h (by decide))) }
    | 6, _ =>
      refine wpOp_step (o := o6) rfl (fun K' hK => ?_)
      have h5 := ready_waits hi rfl D6.1
      have h4 := ready_waits hi rfl D6.2
      rw [if_pos (wanted_of F6.2.2 rfl F4.2.1 (I.f4 h4))]
      refine Tryd.wp_callN f6 #[(.tmp 40)] t6 F6.1 (vs := #[.agg #[.int .i64 l.q, .slice A l.ls.length c, .int .i64 l.k, .slice B l.cs.length d]]) (by simp only [List.map_toArray, List.map_cons, List.map_nil, show a.eval (.tmp 40) = _ from I.f5 h5]) H6 (C6 w' (I.kl.at_ hl)) ?_
      rintro e W2 ⟨A2', c2', X2', d2', rfl, ho, hbw⟩
      refine ⟨_, rfl, ?_⟩
      refine hK _ _ ⟨by rw [Array.size_setIfInBounds]; exact hs, A1, c1, X1, d1, A2', c2', X2', d2', A3, c3, X3, d3, ?_⟩
      rw [bi]
      unfold Act.put
      rw [F6.2.1]
      exact { sz := (Array.size_setIfInBounds ..).trans I.sz, df := I.df, fr := fun k hk => (getD_set_ne (fun e => hk (by rw [← e]; decide))).trans (I.fr k hk), kl := I.kl.later hbw, k0 := fun h => (I.k0 (bit_off h)).later hbw, k1 := fun h h' => (I.k1 (bit_ne h (by decide)) (bit_off h')).later hbw, k3 := fun h h' => (by simp [bitOn] at h'), k6 := fun _ _ => (I.k3 (I.y4 h4) off').addW hbw ho.wr, k8 := fun h _ => (by have z8 := bit_ne h (by decide); have z6 := I.y8 z8; simp [off'] at z6), k9 := fun h => (by have z9 := bit_ne h (by decide); have z8 := I.y9 z9; have z6 := I.y8 z8; simp [off'] at z6), y3 := fun h => bit_on (I.y3 (bit_ne h (by decide))), y4 := fun h => bit_on (I.y4 (bit_ne h (by decide))), y6 := fun _ => bit_on h4, y8 := fun h => bit_on (I.y8 (bit_ne h (by decide))), y9 := fun h => bit_on (I.y9 (bit_ne h (by decide))), y10 := fun h => bit_on (I.y10 (bit_ne h (by decide))), y11 := fun h => bit_on (I.y11 (bit_ne h (by decide))), y15 := fun h => bit_on (I.y15 (bit_ne h (by decide))), y16 := fun h => bit_on (I.y16 (bit_ne h (by decide))), f0 := fun h => (getD_set_ne (by decide)).trans (I.f0 (bit_ne h (by decide))), f1 := fun h => (getD_set_ne (by decide)).trans (I.f1 (bit_ne h (by decide))), f2 := fun h => (getD_set_ne (by decide)).trans (I.f2 (bit_ne h (by decide))), f3 := fun h => (getD_set_ne (by decide)).trans (I.f3 (bit_ne h (by decide))), f4 := fun h => (getD_set_ne (by decide)).trans (I.f4 (bit_ne h (by decide))), f5 := fun h => (getD_set_ne (by decide)).trans (I.f5 (bit_ne h (by decide))), f6 := fun h => getD_set_eq (by rw [asz]; omega), f7 := fun h => (getD_set_ne (by decide)).trans (I.f7 (bit_ne h (by decide))), f8 := fun h => (getD_set_ne (by decide)).trans (I.f8 (bit_ne h (by decide))), f9 := fun h => (getD_set_ne (by decide)).trans (I.f9 (bit_ne h (by decide))), f10 := fun h => (getD_set_ne (by decide)).trans (I.f10 (bit_ne h (by decide))), f11 := fun h => (getD_set_ne (by decide)).trans (I.f11 (bit_ne h (by decide))), f12 := fun h => (getD_set_ne (by decide)).trans (I.f12 (bit_ne h (by decide))), f13 := fun h => (getD_set_ne (by decide)).trans (I.f13 (bit_ne h (by decide))), f14 := fun h => (getD_set_ne (by decide)).trans (I.f14 (bit_ne h (by decide))), f15 := fun h => (getD_set_ne (by decide)).trans (I.f15 (bit_ne h (by decide))), f16 := fun h => (getD_set_ne (by decide)).trans (I.f16 (bit_ne h (by decide))), f17 := fun h => (getD_set_ne (by decide)).trans (I.f17 (bit_ne h (by decide))), f18 := fun h => (getD_set_ne (by decide)).trans (I.f18 (bit_ne h (by decide))), f19 := fun h => (getD_set_ne (by decide)).trans (I.f19 (bit_ne h (by decide))) }
    | 7, _ =>
      refine wpOp_step (o := o7) rfl (fun K' hK => ?_)
      have h4 := ready_waits hi rfl D7
      rw [if_pos (wanted_of F7.2.2 rfl F4.2.1 (I.f4 h4))]
      refine Tryd.wp_loadL (.tmp 5) F7.1 g5' hbs ?_
      refine hK _ _ ⟨by rw [Array.size_setIfInBounds]; exact hs, A1, c1, X1, d1, A2, c2, X2, d2, A3, c3, X3, d3, ?_⟩
      rw [bi]
      unfold Act.put
      rw [F7.2.1]
      exact { sz := (Array.size_setIfInBounds ..).trans I.sz, df := I.df, fr := fun k hk => (getD_set_ne (fun e => hk (by rw [← e]; decide))).trans (I.fr k hk), kl := I.kl, k0 := fun h => (I.k0 (bit_off h)), k1 := fun h h' => (I.k1 (bit_ne h (by decide)) (bit_off h')), k3 := fun h h' => (I.k3 (bit_ne h (by decide)) (bit_off h')), k6 := fun h h' => (I.k6 (bit_ne h (by decide)) (bit_off h')), k8 := fun h h' => (I.k8 (bit_ne h (by decide)) (bit_off h')), k9 := fun h => (I.k9 (bit_ne h (by decide))), y3 := fun h => bit_on (I.y3 (bit_ne h (by decide))), y4 := fun h => bit_on (I.y4 (bit_ne h (by decide))), y6 := fun h => bit_on (I.y6 (bit_ne h (by decide))), y8 := fun h => bit_on (I.y8 (bit_ne h (by decide))), y9 := fun h => bit_on (I.y9 (bit_ne h (by decide))), y10 := fun h => bit_on (I.y10 (bit_ne h (by decide))), y11 := fun h => bit_on (I.y11 (bit_ne h (by decide))), y15 := fun h => bit_on (I.y15 (bit_ne h (by decide))), y16 := fun h => bit_on (I.y16 (bit_ne h (by decide))), f0 := fun h => (getD_set_ne (by decide)).trans (I.f0 (bit_ne h (by decide))), f1 := fun h => (getD_set_ne (by decide)).trans (I.f1 (bit_ne h (by decide))), f2 := fun h => (getD_set_ne (by decide)).trans (I.f2 (bit_ne h (by decide))), f3 := fun h => (getD_set_ne (by decide)).trans (I.f3 (bit_ne h (by decide))), f4 := fun h => (getD_set_ne (by decide)).trans (I.f4 (bit_ne h (by decide))), f5 := fun h => (getD_set_ne (by decide)).trans (I.f5 (bit_ne h (by decide))), f6 := fun h => (getD_set_ne (by decide)).trans (I.f6 (bit_ne h (by decide))), f7 := fun h => getD_set_eq (by rw [asz]; omega), f8 := fun h => (getD_set_ne (by decide)).trans (I.f8 (bit_ne h (by decide))), f9 := fun h => (getD_set_ne (by decide)).trans (I.f9 (bit_ne h (by decide))), f10 := fun h => (getD_set_ne (by decide)).trans (I.f10 (bit_ne h (by decide))), f11 := fun h => (getD_set_ne (by decide)).trans (I.f11 (bit_ne h (by decide))), f12 := fun h => (getD_set_ne (by decide)).trans (I.f12 (bit_ne h (by decide))), f13 := fun h => (getD_set_ne (by decide)).trans (I.f13 (bit_ne h (by decide))), f14 := fun h => (getD_set_ne (by decide)).trans (I.f14 (bit_ne h (by decide))), f15 := fun h => (getD_set_ne (by decide)).trans (I.f15 (bit_ne h (by decide))), f16 := fun h => (getD_set_ne (by decide)).trans (I.f16 (bit_ne h (by decide))), f17 := fun h => (getD_set_ne (by decide)).trans (I.f17 (bit_ne h (by decide))), f18 := fun h => (getD_set_ne (by decide)).trans (I.f18 (bit_ne h (by decide))), f19 := fun h => (getD_set_ne (by decide)).trans (I.f19 (bit_ne h (by decide))) }
    | 8, _ =>
      refine wpOp_step (o := o8) rfl (fun K' hK => ?_)
      have h7 := ready_waits hi rfl D8.1
      have h6 := ready_waits hi rfl D8.2.1
      have h4 := ready_waits hi rfl D8.2.2
      rw [if_pos (wanted_of F8.2.2 rfl F4.2.1 (I.f4 h4))]
      refine Tryd.wp_callN f8 #[(.tmp 42)] t8 F8.1 (vs := #[.agg #[.int .i64 l.q, .slice A5 l.ls.length c5, .int .i64 l.k, .slice B5 l.cs.length d5]]) (by simp only [List.map_toArray, List.map_cons, List.map_nil, show a.eval (.tmp 42) = _ from I.f7 h7]) H8 (C8 w' ((I.k6 h6 off').atW (r := ⟨l, A5, B5⟩) (by simp))) ?_
      rintro e W2 ⟨A3', c3', X3', d3', rfl, ho, hbw⟩
      refine ⟨_, rfl, ?_⟩
      refine hK _ _ ⟨by rw [Array.size_setIfInBounds]; exact hs, A1, c1, X1, d1, A2, c2, X2, d2, A3', c3', X3', d3', ?_⟩
      rw [bi]
      unfold Act.put
      rw [F8.2.1]
      exact { sz := (Array.size_setIfInBounds ..).trans I.sz, df := I.df, fr := fun k hk => (getD_set_ne (fun e => hk (by rw [← e]; decide))).trans (I.fr k hk), kl := I.kl.later hbw, k0 := fun h => (I.k0 (bit_off h)).later hbw, k1 := fun h h' => (I.k1 (bit_ne h (by decide)) (bit_off h')).later hbw, k3 := fun h h' => (I.k3 (bit_ne h (by decide)) (bit_off h')).later hbw, k6 := fun h h' => (by simp [bitOn] at h'), k8 := fun _ _ => (I.k6 h6 off').addW hbw ho.wr, k9 := fun h => (by have z9 := bit_ne h (by decide); have z8 := I.y9 z9; simp [off'] at z8), y3 := fun h => bit_on (I.y3 (bit_ne h (by decide))), y4 := fun h => bit_on (I.y4 (bit_ne h (by decide))), y6 := fun h => bit_on (I.y6 (bit_ne h (by decide))), y8 := fun _ => bit_on h6, y9 := fun h => bit_on (I.y9 (bit_ne h (by decide))), y10 := fun h => bit_on (I.y10 (bit_ne h (by decide))), y11 := fun h => bit_on (I.y11 (bit_ne h (by decide))), y15 := fun h => bit_on (I.y15 (bit_ne h (by decide))), y16 := fun h => bit_on (I.y16 (bit_ne h (by decide))), f0 := fun h => (getD_set_ne (by decide)).trans (I.f0 (bit_ne h (by decide))), f1 := fun h => (getD_set_ne (by decide)).trans (I.f1 (bit_ne h (by decide))), f2 := fun h => (getD_set_ne (by decide)).trans (I.f2 (bit_ne h (by decide))), f3 := fun h => (getD_set_ne (by decide)).trans (I.f3 (bit_ne h (by decide))), f4 := fun h => (getD_set_ne (by decide)).trans (I.f4 (bit_ne h (by decide))), f5 := fun h => (getD_set_ne (by decide)).trans (I.f5 (bit_ne h (by decide))), f6 := fun h => (getD_set_ne (by decide)).trans (I.f6 (bit_ne h (by decide))), f7 := fun h => (getD_set_ne (by decide)).trans (I.f7 (bit_ne h (by decide))), f8 := fun h => getD_set_eq (by rw [asz]; omega), f9 := fun h => (getD_set_ne (by decide)).trans (I.f9 (bit_ne h (by decide))), f10 := fun h => (getD_set_ne (by decide)).trans (I.f10 (bit_ne h (by decide))), f11 := fun h => (getD_set_ne (by decide)).trans (I.f11 (bit_ne h (by decide))), f12 := fun h => (getD_set_ne (by decide)).trans (I.f12 (bit_ne h (by decide))), f13 := fun h => (getD_set_ne (by decide)).trans (I.f13 (bit_ne h (by decide))), f14 := fun h => (getD_set_ne (by decide)).trans (I.f14 (bit_ne h (by decide))), f15 := fun h => (getD_set_ne (by decide)).trans (I.f15 (bit_ne h (by decide))), f16 := fun h => (getD_set_ne (by decide)).trans (I.f16 (bit_ne h (by decide))), f17 := fun h => (getD_set_ne (by decide)).trans (I.f17 (bit_ne h (by decide))), f18 := fun h => (getD_set_ne (by decide)).trans (I.f18 (bit_ne h (by decide))), f19 := fun h => (getD_set_ne (by decide)).trans (I.f19 (bit_ne h (by decide))) }
    | 9, _ =>
      refine wpOp_step (o := o9) rfl (fun K' hK => ?_)
      have h6 := ready_waits hi rfl D9.1
      have h8 := ready_waits hi rfl D9.2.1
      have h4 := ready_waits hi rfl D9.2.2
      rw [if_pos (wanted_of F9.2.2 rfl F4.2.1 (I.f4 h4))]
      refine Tryd.wp_callN f9 #[(.tmp 41), (.const (.int .i64 0)), (.tmp 43), (.const (.int .i64 0))] t9 F9.1 (vs := #[lnV ⟨l.q, l.ls, l.k, []⟩ A2 c2 X2 d2, .int .i64 0, lnV ⟨l.q, l.ls, l.k, []⟩ A3 c3 X3 d3, .int .i64 0]) (by simp only [List.map_toArray, List.map_cons, List.map_nil, show a.eval (.tmp 41) = _ from I.f6 h6, show a.eval (.tmp 43) = _ from I.f8 h8]; rfl) (H9 _ _) (C9 w' A2 c2 X2 d2 A3 c3 X3 d3 ((I.k8 h8 off').wr ⟨⟨l.q, l.ls, l.k, []⟩, A2, X2⟩ (by simp)) ((I.k8 h8 off').atW (r := ⟨⟨l.q, l.ls, l.k, []⟩, A3, X3⟩) (by simp))) ?_
      rintro e W2 ⟨rfl, hwr⟩
      refine ⟨_, rfl, ?_⟩
      refine hK _ _ ⟨by rw [Array.size_setIfInBounds]; exact hs, A1, c1, X1, d1, A2, c2, X2, d2, A3, c3, X3, d3, ?_⟩
      rw [bi]
      unfold Act.put
      rw [F9.2.1]
      exact { sz := (Array.size_setIfInBounds ..).trans I.sz, df := I.df, fr := fun k hk => (getD_set_ne (fun e => hk (by rw [← e]; decide))).trans (I.fr k hk), kl := ((I.k8 h8 off').spoil (O1 := [⟨⟨l.q, l.ls, l.k, []⟩, A3, X3⟩]) (t := ⟨⟨l.q, l.ls, l.k, []⟩, A2, X2⟩) (O2 := [⟨l, A5, B5⟩]) (fun r hr => (hrs r hr).below I.kl.b) hwr).less (List.Sublist.refl _) (fun r h => h) (List.nil_sublist _), k0 := fun h => (by have z := bit_off h; rw [I.y3 (I.y4 h4)] at z; cases z), k1 := fun _ h' => (by have z := bit_off h'; rw [I.y4 h4] at z; cases z), k3 := fun _ h' => (by have z := bit_off h'; rw [h6] at z; cases z), k6 := fun _ h' => (by have z := bit_off h'; rw [h8] at z; cases z), k8 := fun h h' => (by simp [bitOn] at h'), k9 := fun _ => (I.k8 h8 off').spoil (O1 := [⟨⟨l.q, l.ls, l.k, []⟩, A3, X3⟩]) (t := ⟨⟨l.q, l.ls, l.k, []⟩, A2, X2⟩) (O2 := [⟨l, A5, B5⟩]) (fun r hr => (hrs r hr).below I.kl.b) hwr, y3 := fun h => bit_on (I.y3 (bit_ne h (by decide))), y4 := fun h => bit_on (I.y4 (bit_ne h (by decide))), y6 := fun h => bit_on (I.y6 (bit_ne h (by decide))), y8 := fun h => bit_on (I.y8 (bit_ne h (by decide))), y9 := fun _ => bit_on h8, y10 := fun h => bit_on (I.y10 (bit_ne h (by decide))), y11 := fun h => bit_on (I.y11 (bit_ne h (by decide))), y15 := fun h => bit_on (I.y15 (bit_ne h (by decide))), y16 := fun h => bit_on (I.y16 (bit_ne h (by decide))), f0 := fun h => (getD_set_ne (by decide)).trans (I.f0 (bit_ne h (by decide))), f1 := fun h => (getD_set_ne (by decide)).trans (I.f1 (bit_ne h (by decide))), f2 := fun h => (getD_set_ne (by decide)).trans (I.f2 (bit_ne h (by decide))), f3 := fun h => (getD_set_ne (by decide)).trans (I.f3 (bit_ne h (by decide))), f4 := fun h => (getD_set_ne (by decide)).trans (I.f4 (bit_ne h (by decide))), f5 := fun h => (getD_set_ne (by decide)).trans (I.f5 (bit_ne h (by decide))), f6 := fun h => (getD_set_ne (by decide)).trans (I.f6 (bit_ne h (by decide))), f7 := fun h => (getD_set_ne (by decide)).trans (I.f7 (bit_ne h (by decide))), f8 := fun h => (getD_set_ne (by decide)).trans (I.f8 (bit_ne h (by decide))), f9 := fun h => getD_set_eq (by rw [asz]; omega), f10 := fun h => (getD_set_ne (by decide)).trans (I.f10 (bit_ne h (by decide))), f11 := fun h => (getD_set_ne (by decide)).trans (I.f11 (bit_ne h (by decide))), f12 := fun h => (getD_set_ne (by decide)).trans (I.f12 (bit_ne h (by decide))), f13 := fun h => (getD_set_ne (by decide)).trans (I.f13 (bit_ne h (by decide))), f14 := fun h => (getD_set_ne (by decide)).trans (I.f14 (bit_ne h (by decide))), f15 := fun h => (getD_set_ne (by decide)).trans (I.f15 (bit_ne h (by decide))), f16 := fun h => (getD_set_ne (by decide)).trans (I.f16 (bit_ne h (by decide))), f17 := fun h => (getD_set_ne (by decide)).trans (I.f17 (bit_ne h (by decide))), f18 := fun h => (getD_set_ne (by decide)).trans (I.f18 (bit_ne h (by decide))), f19 := fun h => (getD_set_ne (by decide)).trans (I.f19 (bit_ne h (by decide))) }
    | 10, _ =>
      refine wpOp_step (o := o10) rfl (fun K' hK => ?_)
      have h4 := ready_waits hi rfl D10.1
      have h9 := ready_waits hi rfl D10.2
      rw [if_pos (by simp [Region.wanted, F10.2.2])]
      refine wp_val (run_pickT F10.1 (I.f4 h4) (I.f9 h9)) ?_
      refine hK _ _ ⟨by rw [Array.size_setIfInBounds]; exact hs, A1, c1, X1, d1, A2, c2, X2, d2, A3, c3, X3, d3, ?_⟩
      rw [bi]
      unfold Act.put
      rw [F10.2.1]
      exact { sz := (Array.size_setIfInBounds ..).trans I.sz, df := I.df, fr := fun k hk => (getD_set_ne (fun e => hk (by rw [← e]; decide))).trans (I.fr k hk), kl := I.kl, k0 := fun h => (I.k0 (bit_off h)), k1 := fun h h' => (I.k1 (bit_ne h (by decide)) (bit_off h')), k3 := fun h h' => (I.k3 (bit_ne h (by decide)) (bit_off h')), k6 := fun h h' => (I.k6 (bit_ne h (by decide)) (bit_off h')), k8 := fun h h' => (I.k8 (bit_ne h (by decide)) (bit_off h')), k9 := fun h => (I.k9 (bit_ne h (by decide))), y3 := fun h => bit_on (I.y3 (bit_ne h (by decide))), y4 := fun h => bit_on (I.y4 (bit_ne h (by decide))), y6 := fun h => bit_on (I.y6 (bit_ne h (by decide))), y8 := fun h => bit_on (I.y8 (bit_ne h (by decide))), y9 := fun h => bit_on (I.y9 (bit_ne h (by decide))), y10 := fun _ => bit_on h9, y11 := fun h => bit_on (I.y11 (bit_ne h (by decide))), y15 := fun h => bit_on (I.y15 (bit_ne h (by decide))), y16 := fun h => bit_on (I.y16 (bit_ne h (by decide))), f0 := fun h => (getD_set_ne (by decide)).trans (I.f0 (bit_ne h (by decide))), f1 := fun h => (getD_set_ne (by decide)).trans (I.f1 (bit_ne h (by decide))), f2 := fun h => (getD_set_ne (by decide)).trans (I.f2 (bit_ne h (by decide))), f3 := fun h => (getD_set_ne (by decide)).trans (I.f3 (bit_ne h (by decide))), f4 := fun h => (getD_set_ne (by decide)).trans (I.f4 (bit_ne h (by decide))), f5 := fun h => (getD_set_ne (by decide)).trans (I.f5 (bit_ne h (by decide))), f6 := fun h => (getD_set_ne (by decide)).trans (I.f6 (bit_ne h (by decide))), f7 := fun h => (getD_set_ne (by decide)).trans (I.f7 (bit_ne h (by decide))), f8 := fun h => (getD_set_ne (by decide)).trans (I.f8 (bit_ne h (by decide))), f9 := fun h => (getD_set_ne (by decide)).trans (I.f9 (bit_ne h (by decide))), f10 := fun h => getD_set_eq (by rw [asz]; omega), f11 := fun h => (getD_set_ne (by decide)).trans (I.f11 (bit_ne h (by decide))), f12 := fun h => (getD_set_ne (by decide)).trans (I.f12 (bit_ne h (by decide))), f13 := fun h => (getD_set_ne (by decide)).trans (I.f13 (bit_ne h (by decide))), f14 := fun h => (getD_set_ne (by decide)).trans (I.f14 (bit_ne h (by decide))), f15 := fun h => (getD_set_ne (by decide)).trans (I.f15 (bit_ne h (by decide))), f16 := fun h => (getD_set_ne (by decide)).trans (I.f16 (bit_ne h (by decide))), f17 := fun h => (getD_set_ne (by decide)).trans (I.f17 (bit_ne h (by decide))), f18 := fun h => (getD_set_ne (by decide)).trans (I.f18 (bit_ne h (by decide))), f19 := fun h => (getD_set_ne (by decide)).trans (I.f19 (bit_ne h (by decide))) }
    | 11, _ =>
      refine wpOp_step (o := o11) rfl (fun K' hK => ?_)
      have h10 := ready_waits hi rfl D11
      rw [if_pos (by simp [Region.wanted, F11.2.2])]
      refine wp_val (run_moveV F11.1 (I.f10 h10)) ?_
      refine hK _ _ ⟨by rw [Array.size_setIfInBounds]; exact hs, A1, c1, X1, d1, A2, c2, X2, d2, A3, c3, X3, d3, ?_⟩
      rw [bi]
      unfold Act.put
      rw [F11.2.1]
      exact { sz := (Array.size_setIfInBounds ..).trans I.sz, df := I.df, fr := fun k hk => (getD_set_ne (fun e => hk (by rw [← e]; decide))).trans (I.fr k hk), kl := I.kl, k0 := fun h => (I.k0 (bit_off h)), k1 := fun h h' => (I.k1 (bit_ne h (by decide)) (bit_off h')), k3 := fun h h' => (I.k3 (bit_ne h (by decide)) (bit_off h')), k6 := fun h h' => (I.k6 (bit_ne h (by decide)) (bit_off h')), k8 := fun h h' => (I.k8 (bit_ne h (by decide)) (bit_off h')), k9 := fun h => (I.k9 (bit_ne h (by decide))), y3 := fun h => bit_on (I.y3 (bit_ne h (by decide))), y4 := fun h => bit_on (I.y4 (bit_ne h (by decide))), y6 := fun h => bit_on (I.y6 (bit_ne h (by decide))), y8 := fun h => bit_on (I.y8 (bit_ne h (by decide))), y9 := fun h => bit_on (I.y9 (bit_ne h (by decide))), y10 := fun h => bit_on (I.y10 (bit_ne h (by decide))), y11 := fun _ => bit_on h10, y15 := fun h => bit_on (I.y15 (bit_ne h (by decide))), y16 := fun h => bit_on (I.y16 (bit_ne h (by decide))), f0 := fun h => (getD_set_ne (by decide)).trans (I.f0 (bit_ne h (by decide))), f1 := fun h => (getD_set_ne (by decide)).trans (I.f1 (bit_ne h (by decide))), f2 := fun h => (getD_set_ne (by decide)).trans (I.f2 (bit_ne h (by decide))), f3 := fun h => (getD_set_ne (by decide)).trans (I.f3 (bit_ne h (by decide))), f4 := fun h => (getD_set_ne (by decide)).trans (I.f4 (bit_ne h (by decide))), f5 := fun h => (getD_set_ne (by decide)).trans (I.f5 (bit_ne h (by decide))), f6 := fun h => (getD_set_ne (by decide)).trans (I.f6 (bit_ne h (by decide))), f7 := fun h => (getD_set_ne (by decide)).trans (I.f7 (bit_ne h (by decide))), f8 := fun h => (getD_set_ne (by decide)).trans (I.f8 (bit_ne h (by decide))), f9 := fun h => (getD_set_ne (by decide)).trans (I.f9 (bit_ne h (by decide))), f10 := fun h => (getD_set_ne (by decide)).trans (I.f10 (bit_ne h (by decide))), f11 := fun h => getD_set_eq (by rw [asz]; omega), f12 := fun h => (getD_set_ne (by decide)).trans (I.f12 (bit_ne h (by decide))), f13 := fun h => (getD_set_ne (by decide)).trans (I.f13 (bit_ne h (by decide))), f14 := fun h => (getD_set_ne (by decide)).trans (I.f14 (bit_ne h (by decide))), f15 := fun h => (getD_set_ne (by decide)).trans (I.f15 (bit_ne h (by decide))), f16 := fun h => (getD_set_ne (by decide)).trans (I.f16 (bit_ne h (by decide))), f17 := fun h => (getD_set_ne (by decide)).trans (I.f17 (bit_ne h (by decide))), f18 := fun h => (getD_set_ne (by decide)).trans (I.f18 (bit_ne h (by decide))), f19 := fun h => (getD_set_ne (by decide)).trans (I.f19 (bit_ne h (by decide))) }
    | 12, _ =>
      refine wpOp_step (o := o12) rfl (fun K' hK => ?_)
      have h11 := ready_waits hi rfl D12
      rw [if_pos (wanted_of F12.2.2 rfl F11.2.1 (I.f11 h11))]
      refine Tryd.wp_loadL (.tmp 2) F12.1 g2' hbl ?_
      refine hK _ _ ⟨by rw [Array.size_setIfInBounds]; exact hs, A1, c1, X1, d1, A2, c2, X2, d2, A3, c3, X3, d3, ?_⟩
      rw [bi]
      unfold Act.put
      rw [F12.2.1]
      exact { sz := (Array.size_setIfInBounds ..).trans I.sz, df := I.df, fr := fun k hk => (getD_set_ne (fun e => hk (by rw [← e]; decide))).trans (I.fr k hk), kl := I.kl, k0 := fun h => (I.k0 (bit_off h)), k1 := fun h h' => (I.k1 (bit_ne h (by decide)) (bit_off h')), k3 := fun h h' => (I.k3 (bit_ne h (by decide)) (bit_off h')), k6 := fun h h' => (I.k6 (bit_ne h (by decide)) (bit_off h')), k8 := fun h h' => (I.k8 (bit_ne h (by decide)) (bit_off h')), k9 := fun h => (I.k9 (bit_ne h (by decide))), y3 := fun h => bit_on (I.y3 (bit_ne h (by decide))), y4 := fun h => bit_on (I.y4 (bit_ne h (by decide))), y6 := fun h => bit_on (I.y6 (bit_ne h (by decide))), y8 := fun h => bit_on (I.y8 (bit_ne h (by decide))), y9 := fun h => bit_on (I.y9 (bit_ne h (by decide))), y10 := fun h => bit_on (I.y10 (bit_ne h (by decide))), y11 := fun h => bit_on (I.y11 (bit_ne h (by decide))), y15 := fun h => bit_on (I.y15 (bit_ne h (by decide))), y16 := fun h => bit_on (I.y16 (bit_ne h (by decide))), f0 := fun h => (getD_set_ne (by decide)).trans (I.f0 (bit_ne h (by decide))), f1 := fun h => (getD_set_ne (by decide)).trans (I.f1 (bit_ne h (by decide))), f2 := fun h => (getD_set_ne (by decide)).trans (I.f2 (bit_ne h (by decide))), f3 := fun h => (getD_set_ne (by decide)).trans (I.f3 (bit_ne h (by decide))), f4 := fun h => (getD_set_ne (by decide)).trans (I.f4 (bit_ne h (by decide))), f5 := fun h => (getD_set_ne (by decide)).trans (I.f5 (bit_ne h (by decide))), f6 := fun h => (getD_set_ne (by decide)).trans (I.f6 (bit_ne h (by decide))), f7 := fun h => (getD_set_ne (by decide)).trans (I.f7 (bit_ne h (by decide))), f8 := fun h => (getD_set_ne (by decide)).trans (I.f8 (bit_ne h (by decide))), f9 := fun h => (getD_set_ne (by decide)).trans (I.f9 (bit_ne h (by decide))), f10 := fun h => (getD_set_ne (by decide)).trans (I.f10 (bit_ne h (by decide))), f11 := fun h => (getD_set_ne (by decide)).trans (I.f11 (bit_ne h (by decide))), f12 := fun h => getD_set_eq (by rw [asz]; omega), f13 := fun h => (getD_set_ne (by decide)).trans (I.f13 (bit_ne h (by decide))), f14 := fun h => (getD_set_ne (by decide)).trans (I.f14 (bit_ne h (by decide))), f15 := fun h => (getD_set_ne (by decide)).trans (I.f15 (bit_ne h (by decide))), f16 := fun h => (getD_set_ne (by decide)).trans (I.f16 (bit_ne h (by decide))), f17 := fun h => (getD_set_ne (by decide)).trans (I.f17 (bit_ne h (by decide))), f18 := fun h => (getD_set_ne (by decide)).trans (I.f18 (bit_ne h (by decide))), f19 := fun h => (getD_set_ne (by decide)).trans (I.f19 (bit_ne h (by decide))) }
    | 13, _ =>
      refine wpOp_step (o := o13) rfl (fun K' hK => ?_)
      have h11 := ready_waits hi rfl D13
      rw [if_pos (wanted_of F13.2.2 rfl F11.2.1 (I.f11 h11))]
      refine Tryd.wp_loadL (.tmp 5) F13.1 g5' hbs ?_
      refine hK _ _ ⟨by rw [Array.size_setIfInBounds]; exact hs, A1, c1, X1, d1, A2, c2, X2, d2, A3, c3, X3, d3, ?_⟩
      rw [bi]
      unfold Act.put
      rw [F13.2.1]
      exact { sz := (Array.size_setIfInBounds ..).trans I.sz, df := I.df, fr := fun k hk => (getD_set_ne (fun e => hk (by rw [← e]; decide))).trans (I.fr k hk), kl := I.kl, k0 := fun h => (I.k0 (bit_off h)), k1 := fun h h' => (I.k1 (bit_ne h (by decide)) (bit_off h')), k3 := fun h h' => (I.k3 (bit_ne h (by decide)) (bit_off h')), k6 := fun h h' => (I.k6 (bit_ne h (by decide)) (bit_off h')), k8 := fun h h' => (I.k8 (bit_ne h (by decide)) (bit_off h')), k9 := fun h => (I.k9 (bit_ne h (by decide))), y3 := fun h => bit_on (I.y3 (bit_ne h (by decide))), y4 := fun h => bit_on (I.y4 (bit_ne h (by decide))), y6 := fun h => bit_on (I.y6 (bit_ne h (by decide))), y8 := fun h => bit_on (I.y8 (bit_ne h (by decide))), y9 := fun h => bit_on (I.y9 (bit_ne h (by decide))), y10 := fun h => bit_on (I.y10 (bit_ne h (by decide))), y11 := fun h => bit_on (I.y11 (bit_ne h (by decide))), y15 := fun h => bit_on (I.y15 (bit_ne h (by decide))), y16 := fun h => bit_on (I.y16 (bit_ne h (by decide))), f0 := fun h => (getD_set_ne (by decide)).trans (I.f0 (bit_ne h (by decide))), f1 := fun h => (getD_set_ne (by decide)).trans (I.f1 (bit_ne h (by decide))), f2 := fun h => (getD_set_ne (by decide)).trans (I.f2 (bit_ne h (by decide))), f3 := fun h => (getD_set_ne (by decide)).trans (I.f3 (bit_ne h (by decide))), f4 := fun h => (getD_set_ne (by decide)).trans (I.f4 (bit_ne h (by decide))), f5 := fun h => (getD_set_ne (by decide)).trans (I.f5 (bit_ne h (by decide))), f6 := fun h => (getD_set_ne (by decide)).trans (I.f6 (bit_ne h (by decide))), f7 := fun h => (getD_set_ne (by decide)).trans (I.f7 (bit_ne h (by decide))), f8 := fun h => (getD_set_ne (by decide)).trans (I.f8 (bit_ne h (by decide))), f9 := fun h => (getD_set_ne (by decide)).trans (I.f9 (bit_ne h (by decide))), f10 := fun h => (getD_set_ne (by decide)).trans (I.f10 (bit_ne h (by decide))), f11 := fun h => (getD_set_ne (by decide)).trans (I.f11 (bit_ne h (by decide))), f12 := fun h => (getD_set_ne (by decide)).trans (I.f12 (bit_ne h (by decide))), f13 := fun h => getD_set_eq (by rw [asz]; omega), f14 := fun h => (getD_set_ne (by decide)).trans (I.f14 (bit_ne h (by decide))), f15 := fun h => (getD_set_ne (by decide)).trans (I.f15 (bit_ne h (by decide))), f16 := fun h => (getD_set_ne (by decide)).trans (I.f16 (bit_ne h (by decide))), f17 := fun h => (getD_set_ne (by decide)).trans (I.f17 (bit_ne h (by decide))), f18 := fun h => (getD_set_ne (by decide)).trans (I.f18 (bit_ne h (by decide))), f19 := fun h => (getD_set_ne (by decide)).trans (I.f19 (bit_ne h (by decide))) }
    | 14, _ =>
      refine wpOp_step (o := o14) rfl (fun K' hK => ?_)
      have h12 := ready_waits hi rfl D14.1
      have h13 := ready_waits hi rfl D14.2.1
      have h11 := ready_waits hi rfl D14.2.2
      rw [if_pos (wanted_of F14.2.2 rfl F11.2.1 (I.f11 h11))]
      refine Tryd.wp_callN f14 #[(.tmp 47), (.tmp 48)] t14 F14.1 (vs := #[.agg #[.int .i64 l.q, .slice A l.ls.length c, .int .i64 l.k, .slice B l.cs.length d], .agg #[.int .i64 l.q, .slice A5 l.ls.length c5, .int .i64 l.k, .slice B5 l.cs.length d5]]) (by simp only [List.map_toArray, List.map_cons, List.map_nil, show a.eval (.tmp 47) = _ from I.f12 h12, show a.eval (.tmp 48) = _ from I.f13 h13]) H14 (C14 w' (I.kl.at_ hl) ((I.k9 (I.y10 (I.y11 h11))).atW (r := ⟨l, A5, B5⟩) (by simp))) ?_
      rintro e W2 ⟨rfl, hbw⟩
      refine ⟨_, rfl, ?_⟩
      refine hK _ _ ⟨by rw [Array.size_setIfInBounds]; exact hs, A1, c1, X1, d1, A2, c2, X2, d2, A3, c3, X3, d3, ?_⟩
      rw [bi]
      unfold Act.put
      rw [F14.2.1]
      exact { sz := (Array.size_setIfInBounds ..).trans I.sz, df := I.df, fr := fun k hk => (getD_set_ne (fun e => hk (by rw [← e]; decide))).trans (I.fr k hk), kl := I.kl.later hbw, k0 := fun h => (I.k0 (bit_off h)).later hbw, k1 := fun h h' => (I.k1 (bit_ne h (by decide)) (bit_off h')).later hbw, k3 := fun h h' => (I.k3 (bit_ne h (by decide)) (bit_off h')).later hbw, k6 := fun h h' => (I.k6 (bit_ne h (by decide)) (bit_off h')).later hbw, k8 := fun h h' => (I.k8 (bit_ne h (by decide)) (bit_off h')).later hbw, k9 := fun h => (I.k9 (bit_ne h (by decide))).later hbw, y3 := fun h => bit_on (I.y3 (bit_ne h (by decide))), y4 := fun h => bit_on (I.y4 (bit_ne h (by decide))), y6 := fun h => bit_on (I.y6 (bit_ne h (by decide))), y8 := fun h => bit_on (I.y8 (bit_ne h (by decide))), y9 := fun h => bit_on (I.y9 (bit_ne h (by decide))), y10 := fun h => bit_on (I.y10 (bit_ne h (by decide))), y11 := fun h => bit_on (I.y11 (bit_ne h (by decide))), y15 := fun h => bit_on (I.y15 (bit_ne h (by decide))), y16 := fun h => bit_on (I.y16 (bit_ne h (by decide))), f0 := fun h => (getD_set_ne (by decide)).trans (I.f0 (bit_ne h (by decide))), f1 := fun h => (getD_set_ne (by decide)).trans (I.f1 (bit_ne h (by decide))), f2 := fun h => (getD_set_ne (by decide)).trans (I.f2 (bit_ne h (by decide))), f3 := fun h => (getD_set_ne (by decide)).trans (I.f3 (bit_ne h (by decide))), f4 := fun h => (getD_set_ne (by decide)).trans (I.f4 (bit_ne h (by decide))), f5 := fun h => (getD_set_ne (by decide)).trans (I.f5 (bit_ne h (by decide))), f6 := fun h => (getD_set_ne (by decide)).trans (I.f6 (bit_ne h (by decide))), f7 := fun h => (getD_set_ne (by decide)).trans (I.f7 (bit_ne h (by decide))), f8 := fun h => (getD_set_ne (by decide)).trans (I.f8 (bit_ne h (by decide))), f9 := fun h => (getD_set_ne (by decide)).trans (I.f9 (bit_ne h (by decide))), f10 := fun h => (getD_set_ne (by decide)).trans (I.f10 (bit_ne h (by decide))), f11 := fun h => (getD_set_ne (by decide)).trans (I.f11 (bit_ne h (by decide))), f12 := fun h => (getD_set_ne (by decide)).trans (I.f12 (bit_ne h (by decide))), f13 := fun h => (getD_set_ne (by decide)).trans (I.f13 (bit_ne h (by decide))), f14 := fun h => getD_set_eq (by rw [asz]; omega), f15 := fun h => (getD_set_ne (by decide)).trans (I.f15 (bit_ne h (by decide))), f16 := fun h => (getD_set_ne (by decide)).trans (I.f16 (bit_ne h (by decide))), f17 := fun h => (getD_set_ne (by decide)).trans (I.f17 (bit_ne h (by decide))), f18 := fun h => (getD_set_ne (by decide)).trans (I.f18 (bit_ne h (by decide))), f19 := fun h => (getD_set_ne (by decide)).trans (I.f19 (bit_ne h (by decide))) }
    | 15, _ =>
      refine wpOp_step (o := o15) rfl (fun K' hK => ?_)
      have h11 := ready_waits hi rfl D15.1
      have h14 := ready_waits hi rfl D15.2
      rw [if_pos (by simp [Region.wanted, F15.2.2])]
      refine wp_val (run_pickT F15.1 (I.f11 h11) (I.f14 h14)) ?_
      refine hK _ _ ⟨by rw [Array.size_setIfInBounds]; exact hs, A1, c1, X1, d1, A2, c2, X2, d2, A3, c3, X3, d3, ?_⟩
      rw [bi]
      unfold Act.put
      rw [F15.2.1]
      exact { sz := (Array.size_setIfInBounds ..).trans I.sz, df := I.df, fr := fun k hk => (getD_set_ne (fun e => hk (by rw [← e]; decide))).trans (I.fr k hk), kl := I.kl, k0 := fun h => (I.k0 (bit_off h)), k1 := fun h h' => (I.k1 (bit_ne h (by decide)) (bit_off h')), k3 := fun h h' => (I.k3 (bit_ne h (by decide)) (bit_off h')), k6 := fun h h' => (I.k6 (bit_ne h (by decide)) (bit_off h')), k8 := fun h h' => (I.k8 (bit_ne h (by decide)) (bit_off h')), k9 := fun h => (I.k9 (bit_ne h (by decide))), y3 := fun h => bit_on (I.y3 (bit_ne h (by decide))), y4 := fun h => bit_on (I.y4 (bit_ne h (by decide))), y6 := fun h => bit_on (I.y6 (bit_ne h (by decide))), y8 := fun h => bit_on (I.y8 (bit_ne h (by decide))), y9 := fun h => bit_on (I.y9 (bit_ne h (by decide))), y10 := fun h => bit_on (I.y10 (bit_ne h (by decide))), y11 := fun h => bit_on (I.y11 (bit_ne h (by decide))), y15 := fun _ => bit_on h11, y16 := fun h => bit_on (I.y16 (bit_ne h (by decide))), f0 := fun h => (getD_set_ne (by decide)).trans (I.f0 (bit_ne h (by decide))), f1 := fun h => (getD_set_ne (by decide)).trans (I.f1 (bit_ne h (by decide))), f2 := fun h => (getD_set_ne (by decide)).trans (I.f2 (bit_ne h (by decide))), f3 := fun h => (getD_set_ne (by decide)).trans (I.f3 (bit_ne h (by decide))), f4 := fun h => (getD_set_ne (by decide)).trans (I.f4 (bit_ne h (by decide))), f5 := fun h => (getD_set_ne (by decide)).trans (I.f5 (bit_ne h (by decide))), f6 := fun h => (getD_set_ne (by decide)).trans (I.f6 (bit_ne h (by decide))), f7 := fun h => (getD_set_ne (by decide)).trans (I.f7 (bit_ne h (by decide))), f8 := fun h => (getD_set_ne (by decide)).trans (I.f8 (bit_ne h (by decide))), f9 := fun h => (getD_set_ne (by decide)).trans (I.f9 (bit_ne h (by decide))), f10 := fun h => (getD_set_ne (by decide)).trans (I.f10 (bit_ne h (by decide))), f11 := fun h => (getD_set_ne (by decide)).trans (I.f11 (bit_ne h (by decide))), f12 := fun h => (getD_set_ne (by decide)).trans (I.f12 (bit_ne h (by decide))), f13 := fun h => (getD_set_ne (by decide)).trans (I.f13 (bit_ne h (by decide))), f14 := fun h => (getD_set_ne (by decide)).trans (I.f14 (bit_ne h (by decide))), f15 := fun h => getD_set_eq (by rw [asz]; omega), f16 := fun h => (getD_set_ne (by decide)).trans (I.f16 (bit_ne h (by decide))), f17 := fun h => (getD_set_ne (by decide)).trans (I.f17 (bit_ne h (by decide))), f18 := fun h => (getD_set_ne (by decide)).trans (I.f18 (bit_ne h (by decide))), f19 := fun h => (getD_set_ne (by decide)).trans (I.f19 (bit_ne h (by decide))) }
    | 16, _ =>
      refine wpOp_step (o := o16) rfl (fun K' hK => ?_)
      have h15 := ready_waits hi rfl D16
      rw [if_pos (by simp [Region.wanted, F16.2.2])]
      refine wp_val (run_moveV F16.1 (I.f15 h15)) ?_
      refine hK _ _ ⟨by rw [Array.size_setIfInBounds]; exact hs, A1, c1, X1, d1, A2, c2, X2, d2, A3, c3, X3, d3, ?_⟩
      rw [bi]
      unfold Act.put
      rw [F16.2.1]
      exact { sz := (Array.size_setIfInBounds ..).trans I.sz, df := I.df, fr := fun k hk => (getD_set_ne (fun e => hk (by rw [← e]; decide))).trans (I.fr k hk), kl := I.kl, k0 := fun h => (I.k0 (bit_off h)), k1 := fun h h' => (I.k1 (bit_ne h (by decide)) (bit_off h')), k3 := fun h h' => (I.k3 (bit_ne h (by decide)) (bit_off h')), k6 := fun h h' => (I.k6 (bit_ne h (by decide)) (bit_off h')), k8 := fun h h' => (I.k8 (bit_ne h (by decide)) (bit_off h')), k9 := fun h => (I.k9 (bit_ne h (by decide))), y3 := fun h => bit_on (I.y3 (bit_ne h (by decide))), y4 := fun h => bit_on (I.y4 (bit_ne h (by decide))), y6 := fun h => bit_on (I.y6 (bit_ne h (by decide))), y8 := fun h => bit_on (I.y8 (bit_ne h (by decide))), y9 := fun h => bit_on (I.y9 (bit_ne h (by decide))), y10 := fun h => bit_on (I.y10 (bit_ne h (by decide))), y11 := fun h => bit_on (I.y11 (bit_ne h (by decide))), y15 := fun h => bit_on (I.y15 (bit_ne h (by decide))), y16 := fun _ => bit_on h15, f0 := fun h => (getD_set_ne (by decide)).trans (I.f0 (bit_ne h (by decide))), f1 := fun h => (getD_set_ne (by decide)).trans (I.f1 (bit_ne h (by decide))), f2 := fun h => (getD_set_ne (by decide)).trans (I.f2 (bit_ne h (by decide))), f3 := fun h => (getD_set_ne (by decide)).trans (I.f3 (bit_ne h (by decide))), f4 := fun h => (getD_set_ne (by decide)).trans (I.f4 (bit_ne h (by decide))), f5 := fun h => (getD_set_ne (by decide)).trans (I.f5 (bit_ne h (by decide))), f6 := fun h => (getD_set_ne (by decide)).trans (I.f6 (bit_ne h (by decide))), f7 := fun h => (getD_set_ne (by decide)).trans (I.f7 (bit_ne h (by decide))), f8 := fun h => (getD_set_ne (by decide)).trans (I.f8 (bit_ne h (by decide))), f9 := fun h => (getD_set_ne (by decide)).trans (I.f9 (bit_ne h (by decide))), f10 := fun h => (getD_set_ne (by decide)).trans (I.f10 (bit_ne h (by decide))), f11 := fun h => (getD_set_ne (by decide)).trans (I.f11 (bit_ne h (by decide))), f12 := fun h => (getD_set_ne (by decide)).trans (I.f12 (bit_ne h (by decide))), f13 := fun h => (getD_set_ne (by decide)).trans (I.f13 (bit_ne h (by decide))), f14 := fun h => (getD_set_ne (by decide)).trans (I.f14 (bit_ne h (by decide))), f15 := fun h => (getD_set_ne (by decide)).trans (I.f15 (bit_ne h (by decide))), f16 := fun h => getD_set_eq (by rw [asz]; omega), f17 := fun h => (getD_set_ne (by decide)).trans (I.f17 (bit_ne h (by decide))), f18 := fun h => (getD_set_ne (by decide)).trans (I.f18 (bit_ne h (by decide))), f19 := fun h => (getD_set_ne (by decide)).trans (I.f19 (bit_ne h (by decide))) }
    | 17, _ =>
      refine wpOp_step (o := o17) rfl (fun K' hK => ?_)
      have h16 := ready_waits hi rfl D17
      rw [if_pos (wanted_of F17.2.2 rfl F16.2.1 (I.f16 h16))]
      refine Tryd.wp_callN f17 #[] t17 F17.1 (vs := #[]) (by simp) H17 (C17 w' I.kl.b) ?_
      rintro e W2 ⟨rfl, hbw⟩
      refine ⟨_, rfl, ?_⟩
      refine hK _ _ ⟨by rw [Array.size_setIfInBounds]; exact hs, A1, c1, X1, d1, A2, c2, X2, d2, A3, c3, X3, d3, ?_⟩
      rw [bi]
      unfold Act.put
      rw [F17.2.1]
      exact { sz := (Array.size_setIfInBounds ..).trans I.sz, df := I.df, fr := fun k hk => (getD_set_ne (fun e => hk (by rw [← e]; decide))).trans (I.fr k hk), kl := I.kl.later hbw, k0 := fun h => (I.k0 (bit_off h)).later hbw, k1 := fun h h' => (I.k1 (bit_ne h (by decide)) (bit_off h')).later hbw, k3 := fun h h' => (I.k3 (bit_ne h (by decide)) (bit_off h')).later hbw, k6 := fun h h' => (I.k6 (bit_ne h (by decide)) (bit_off h')).later hbw, k8 := fun h h' => (I.k8 (bit_ne h (by decide)) (bit_off h')).later hbw, k9 := fun h => (I.k9 (bit_ne h (by decide))).later hbw, y3 := fun h => bit_on (I.y3 (bit_ne h (by decide))), y4 := fun h => bit_on (I.y4 (bit_ne h (by decide))), y6 := fun h => bit_on (I.y6 (bit_ne h (by decide))), y8 := fun h => bit_on (I.y8 (bit_ne h (by decide))), y9 := fun h => bit_on (I.y9 (bit_ne h (by decide))), y10 := fun h => bit_on (I.y10 (bit_ne h (by decide))), y11 := fun h => bit_on (I.y11 (bit_ne h (by decide))), y15 := fun h => bit_on (I.y15 (bit_ne h (by decide))), y16 := fun h => bit_on (I.y16 (bit_ne h (by decide))), f0 := fun h => (getD_set_ne (by decide)).trans (I.f0 (bit_ne h (by decide))), f1 := fun h => (getD_set_ne (by decide)).trans (I.f1 (bit_ne h (by decide))), f2 := fun h => (getD_set_ne (by decide)).trans (I.f2 (bit_ne h (by decide))), f3 := fun h => (getD_set_ne (by decide)).trans (I.f3 (bit_ne h (by decide))), f4 := fun h => (getD_set_ne (by decide)).trans (I.f4 (bit_ne h (by decide))), f5 := fun h => (getD_set_ne (by decide)).trans (I.f5 (bit_ne h (by decide))), f6 := fun h => (getD_set_ne (by decide)).trans (I.f6 (bit_ne h (by decide))), f7 := fun h => (getD_set_ne (by decide)).trans (I.f7 (bit_ne h (by decide))), f8 := fun h => (getD_set_ne (by decide)).trans (I.f8 (bit_ne h (by decide))), f9 := fun h => (getD_set_ne (by decide)).trans (I.f9 (bit_ne h (by decide))), f10 := fun h => (getD_set_ne (by decide)).trans (I.f10 (bit_ne h (by decide))), f11 := fun h => (getD_set_ne (by decide)).trans (I.f11 (bit_ne h (by decide))), f12 := fun h => (getD_set_ne (by decide)).trans (I.f12 (bit_ne h (by decide))), f13 := fun h => (getD_set_ne (by decide)).trans (I.f13 (bit_ne h (by decide))), f14 := fun h => (getD_set_ne (by decide)).trans (I.f14 (bit_ne h (by decide))), f15 := fun h => (getD_set_ne (by decide)).trans (I.f15 (bit_ne h (by decide))), f16 := fun h => (getD_set_ne (by decide)).trans (I.f16 (bit_ne h (by decide))), f17 := fun h => getD_set_eq (by rw [asz]; omega), f18 := fun h => (getD_set_ne (by decide)).trans (I.f18 (bit_ne h (by decide))), f19 := fun h => (getD_set_ne (by decide)).trans (I.f19 (bit_ne h (by decide))) }
    | 18, _ =>
      refine wpOp_step (o := o18) rfl (fun K' hK => ?_)
      have h16 := ready_waits hi rfl D18.1
      have h17 := ready_waits hi rfl D18.2
      rw [if_pos (by simp [Region.wanted, F18.2.2])]
      refine wp_val (run_pickT F18.1 (I.f16 h16) (I.f17 h17)) ?_
      refine hK _ _ ⟨by rw [Array.size_setIfInBounds]; exact hs, A1, c1, X1, d1, A2, c2, X2, d2, A3, c3, X3, d3, ?_⟩
      rw [bi]
      unfold Act.put
      rw [F18.2.1]
      exact { sz := (Array.size_setIfInBounds ..).trans I.sz, df := I.df, fr := fun k hk => (getD_set_ne (fun e => hk (by rw [← e]; decide))).trans (I.fr k hk), kl := I.kl, k0 := fun h => (I.k0 (bit_off h)), k1 := fun h h' => (I.k1 (bit_ne h (by decide)) (bit_off h')), k3 := fun h h' => (I.k3 (bit_ne h (by decide)) (bit_off h')), k6 := fun h h' => (I.k6 (bit_ne h (by decide)) (bit_off h')), k8 := fun h h' => (I.k8 (bit_ne h (by decide)) (bit_off h')), k9 := fun h => (I.k9 (bit_ne h (by decide))), y3 := fun h => bit_on (I.y3 (bit_ne h (by decide))), y4 := fun h => bit_on (I.y4 (bit_ne h (by decide))), y6 := fun h => bit_on (I.y6 (bit_ne h (by decide))), y8 := fun h => bit_on (I.y8 (bit_ne h (by decide))), y9 := fun h => bit_on (I.y9 (bit_ne h (by decide))), y10 := fun h => bit_on (I.y10 (bit_ne h (by decide))), y11 := fun h => bit_on (I.y11 (bit_ne h (by decide))), y15 := fun h => bit_on (I.y15 (bit_ne h (by decide))), y16 := fun h => bit_on (I.y16 (bit_ne h (by decide))), f0 := fun h => (getD_set_ne (by decide)).trans (I.f0 (bit_ne h (by decide))), f1 := fun h => (getD_set_ne (by decide)).trans (I.f1 (bit_ne h (by decide))), f2 := fun h => (getD_set_ne (by decide)).trans (I.f2 (bit_ne h (by decide))), f3 := fun h => (getD_set_ne (by decide)).trans (I.f3 (bit_ne h (by decide))), f4 := fun h => (getD_set_ne (by decide)).trans (I.f4 (bit_ne h (by decide))), f5 := fun h => (getD_set_ne (by decide)).trans (I.f5 (bit_ne h (by decide))), f6 := fun h => (getD_set_ne (by decide)).trans (I.f6 (bit_ne h (by decide))), f7 := fun h => (getD_set_ne (by decide)).trans (I.f7 (bit_ne h (by decide))), f8 := fun h => (getD_set_ne (by decide)).trans (I.f8 (bit_ne h (by decide))), f9 := fun h => (getD_set_ne (by decide)).trans (I.f9 (bit_ne h (by decide))), f10 := fun h => (getD_set_ne (by decide)).trans (I.f10 (bit_ne h (by decide))), f11 := fun h => (getD_set_ne (by decide)).trans (I.f11 (bit_ne h (by decide))), f12 := fun h => (getD_set_ne (by decide)).trans (I.f12 (bit_ne h (by decide))), f13 := fun h => (getD_set_ne (by decide)).trans (I.f13 (bit_ne h (by decide))), f14 := fun h => (getD_set_ne (by decide)).trans (I.f14 (bit_ne h (by decide))), f15 := fun h => (getD_set_ne (by decide)).trans (I.f15 (bit_ne h (by decide))), f16 := fun h => (getD_set_ne (by decide)).trans (I.f16 (bit_ne h (by decide))), f17 := fun h => (getD_set_ne (by decide)).trans (I.f17 (bit_ne h (by decide))), f18 := fun h => getD_set_eq (by rw [asz]; omega), f19 := fun h => (getD_set_ne (by decide)).trans (I.f19 (bit_ne h (by decide))) }
    | 19, _ =>
      refine wpOp_step (o := o19) rfl (fun K' hK => ?_)
      have h18 := ready_waits hi rfl D19
      rw [if_pos (by simp [Region.wanted, F19.2.2])]
      refine wp_val (run_assignV F19.1 (I.f18 h18)) ?_
      refine hK _ _ ⟨by rw [Array.size_setIfInBounds]; exact hs, A1, c1, X1, d1, A2, c2, X2, d2, A3, c3, X3, d3, ?_⟩
      rw [bi]
      unfold Act.put
      rw [F19.2.1]
      exact { sz := (Array.size_setIfInBounds ..).trans I.sz, df := I.df, fr := fun k hk => (getD_set_ne (fun e => hk (by rw [← e]; decide))).trans (I.fr k hk), kl := I.kl, k0 := fun h => (I.k0 (bit_off h)), k1 := fun h h' => (I.k1 (bit_ne h (by decide)) (bit_off h')), k3 := fun h h' => (I.k3 (bit_ne h (by decide)) (bit_off h')), k6 := fun h h' => (I.k6 (bit_ne h (by decide)) (bit_off h')), k8 := fun h h' => (I.k8 (bit_ne h (by decide)) (bit_off h')), k9 := fun h => (I.k9 (bit_ne h (by decide))), y3 := fun h => bit_on (I.y3 (bit_ne h (by decide))), y4 := fun h => bit_on (I.y4 (bit_ne h (by decide))), y6 := fun h => bit_on (I.y6 (bit_ne h (by decide))), y8 := fun h => bit_on (I.y8 (bit_ne h (by decide))), y9 := fun h => bit_on (I.y9 (bit_ne h (by decide))), y10 := fun h => bit_on (I.y10 (bit_ne h (by decide))), y11 := fun h => bit_on (I.y11 (bit_ne h (by decide))), y15 := fun h => bit_on (I.y15 (bit_ne h (by decide))), y16 := fun h => bit_on (I.y16 (bit_ne h (by decide))), f0 := fun h => (getD_set_ne (by decide)).trans (I.f0 (bit_ne h (by decide))), f1 := fun h => (getD_set_ne (by decide)).trans (I.f1 (bit_ne h (by decide))), f2 := fun h => (getD_set_ne (by decide)).trans (I.f2 (bit_ne h (by decide))), f3 := fun h => (getD_set_ne (by decide)).trans (I.f3 (bit_ne h (by decide))), f4 := fun h => (getD_set_ne (by decide)).trans (I.f4 (bit_ne h (by decide))), f5 := fun h => (getD_set_ne (by decide)).trans (I.f5 (bit_ne h (by decide))), f6 := fun h => (getD_set_ne (by decide)).trans (I.f6 (bit_ne h (by decide))), f7 := fun h => (getD_set_ne (by decide)).trans (I.f7 (bit_ne h (by decide))), f8 := fun h => (getD_set_ne (by decide)).trans (I.f8 (bit_ne h (by decide))), f9 := fun h => (getD_set_ne (by decide)).trans (I.f9 (bit_ne h (by decide))), f10 := fun h => (getD_set_ne (by decide)).trans (I.f10 (bit_ne h (by decide))), f11 := fun h => (getD_set_ne (by decide)).trans (I.f11 (bit_ne h (by decide))), f12 := fun h => (getD_set_ne (by decide)).trans (I.f12 (bit_ne h (by decide))), f13 := fun h => (getD_set_ne (by decide)).trans (I.f13 (bit_ne h (by decide))), f14 := fun h => (getD_set_ne (by decide)).trans (I.f14 (bit_ne h (by decide))), f15 := fun h => (getD_set_ne (by decide)).trans (I.f15 (bit_ne h (by decide))), f16 := fun h => (getD_set_ne (by decide)).trans (I.f16 (bit_ne h (by decide))), f17 := fun h => (getD_set_ne (by decide)).trans (I.f17 (bit_ne h (by decide))), f18 := fun h => (getD_set_ne (by decide)).trans (I.f18 (bit_ne h (by decide))), f19 := fun h => getD_set_eq (by rw [asz]; omega) }
    | n + 20, h => exact absurd h (by omega)
end
end Go.Proofs.YtpldmiencoolhaaDoor
