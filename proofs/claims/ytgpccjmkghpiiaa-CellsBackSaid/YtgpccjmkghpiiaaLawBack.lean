/- The walk of the law CellsBack: whatever the two rows and the place, it answers true. -/
import Derived.Test.YtgpccjmkghpiiaaCuts4
import Derived.Test.YtgpccjmkghpiiaaOpenCap
namespace Go.Proofs.Ytgpccjmkghpiiaa
open Go.RowKit

/-- 'append(v, ys...)' in a plain region, behind a guard too. -/
theorem wpList_appG {P : Program} {α : Type} {enc : α → List Value} {sz : Nat} {e : TypeId} {ops : Array Oper} {rest : List Oper} {o : Oper} {a : Act} {Q : Exit → Act → World → Prop} {w : World} (ok : ElemOk P enc sz e) (hw : Region.wanted o (yielded ops a.tmps) = true) (s x : Operand) (t : TypeId)
    (ho : o.op = .call { callee := .builtin .append, args := #[s, x], argTypes := #[t, t] }) (ht : P.underlying t = some (.slice e)) (base : Nat) (v : Value) (xs : List α) (hs : a.eval s = v) (hown : Own enc sz e w base v xs)
    (B : Nat) (A : Option Addr) (ys : List α) (m c : Nat) (hm : m = ys.length) (hx : a.eval x = .slice A m c) (hsrc : SlAt enc sz w B A ys) (hlen : xs.length + ys.length ≤ 1000000000000) (hbase : base ≤ w.heap.size)
    (h : ∀ v' w', Own enc sz e w' base v' (xs ++ ys) → w.grownBy w' v.ownBlock → wpList P ops Q rest (a.put o.dst v') w') : wpList P ops Q (o :: rest) a w :=
  wpList_step fun K hK => by
    subst hm
    rw [if_pos hw]
    obtain ⟨v', w', hr, h2, h3, _⟩ := run_append_slice ok t o.type ht w base v xs hown B A ys c hsrc hlen hbase
    exact Lib.wp_append_run w s x t t ho _ _ hs hx v' w' hr (hK _ _ (h v' w' h2 h3))
theorem own_lit0 (w : World) (t : TypeId) : Own encC 3 t (w.alloc (.cells #[] t)) w.heap.size (.slice (some ⟨w.heap.size, 0, none⟩) 0 0) ([] : List Cl) := World.ownsRow_lit w #[] 0 (Nat.le_refl _) (by simp) rfl
theorem back_part {cs ms : List Cl} {F : Nat} (h : F ≤ cs.length) : ((cs.take F ++ (ms ++ cs.drop F)).drop F).take (F + ms.length - F) = ms := by
  have hl : (cs.take F).length = F := by simp; omega
  rw [List.drop_append_of_le_length (by omega), List.drop_eq_nil_of_le (by omega), List.nil_append, Nat.add_sub_cancel_left, List.take_append_of_le_length (Nat.le_refl _), List.take_length]
theorem back_cut {cs ms : List Cl} {F : Nat} (h : F ≤ cs.length) : (cs.take F ++ (ms ++ cs.drop F)).take F ++ (cs.take F ++ (ms ++ cs.drop F)).drop (F + ms.length) = cs := by
  have hl : (cs.take F).length = F := by simp; omega
  rw [List.take_append_of_le_length (by omega), List.take_of_length_le (by omega), List.drop_append, List.drop_eq_nil_of_le (by omega), List.nil_append, hl, Nat.add_sub_cancel_left, List.drop_append_of_le_length (Nat.le_refl _), List.drop_length, List.nil_append, List.take_append_drop]

set_option maxRecDepth 100000 in
set_option maxHeartbeats 8000000 in
theorem lawBack_any (A M : Option Addr) (cs ms : List Cl) (n c B m cm D : Nat) (hn : n = cs.length) (hm : m = ms.length) (f : Int) (w : World) (hA : SlAt encC 3 w B A cs) (hM : SlAt encC 3 w D M ms) (hl : cs.length ≤ maxLen) (hh : ∀ x ∈ cs, x.h.size ≤ maxLen) (hl2 : ms.length ≤ maxLen) (hh2 : ∀ x ∈ ms, x.h.size ≤ maxLen) (hc : cs.length ≤ c) :
    Calls Try.prog 8 #[.slice A n c, .slice M m cm, .int .i64 f] w (RetBelow (.bool true) w) := by
  subst hn hm
  have hlong := hid (fun W B h => long_any A cs cs.length c B rfl W h hl hh)
  have hlong2 := hid (fun W B h => long_any M ms ms.length cm B rfl W h hl2 hh2)
  by_cases hbig : 20000 < heft cs
  · have hd : decide (20000 < heft cs) = true := decide_eq_true hbig
    clear hbig hl hh hl2 hh2 hc
    go_enter Try.func8, Try.ntmps8
    go_wp2_with (first
      | (go_at_call 13; (with_reducible refine (hlong.out _ _ hA).mono ?_); rintro e w' ⟨rfl, rfl⟩)
      | (go_at_call 9; refine (awake5_any _).mono ?_; rintro e W1 ⟨rfl, hb1⟩))
    go_ret
    exact ⟨rfl, hb1⟩
  · have hd : decide (20000 < heft cs) = false := decide_eq_false hbig
    by_cases hbig2 : 20000 < heft ms
    · have hd2 : decide (20000 < heft ms) = true := decide_eq_true hbig2
      clear hbig hbig2 hl hh hl2 hh2 hc
      go_enter Try.func8, Try.ntmps8
      go_wp2_with (first
        | (go_at_call 13; (with_reducible refine (hlong.out _ _ hA).mono ?_); rintro e w' ⟨rfl, rfl⟩)
        | (go_at_call 13; (with_reducible refine (hlong2.out _ _ hM).mono ?_); rintro e w' ⟨rfl, rfl⟩)
        | (go_at_call 9; refine (awake5_any _).mono ?_; rintro e W1 ⟨rfl, hb1⟩))
      go_ret
      exact ⟨rfl, hb1⟩
    · have hd2 : decide (20000 < heft ms) = false := decide_eq_false hbig2
      have hlen : cs.length ≤ 20000 := by unfold heft at hbig; omega
      have hlen2 : ms.length ≤ 20000 := by unfold heft at hbig2; omega
      clear hbig hbig2 hl hh hl2 hh2
      have hS := hA.live (fun _ => by rw [encC_len]; omega)
      have hMS := hM.live (fun _ => by rw [encC_len]; omega)
      clear hA hM
      by_cases hsp : spanOk cs.length f f
      · obtain ⟨hf0, -, hft⟩ := hsp
        obtain ⟨F, rfl⟩ := Int.eq_ofNat_of_zero_le hf0
        have hF : F ≤ cs.length := by omega
        have HIn := hid (fun W B D h h2 => insert_yes A M cs ms cs.length c B ms.length cm D rfl rfl (F : Int) W h h2 (by omega) (by omega) hc ⟨by omega, by omega, by omega⟩)
        have HPx := hid (fun W A' n' c' B hn hc' h => part_yes A' (cs.take F ++ (ms ++ cs.drop F)) n' c' B hn (F : Int) ((F : Int) + (ms.length : Int)) W h (by simp; omega) hc' ⟨by omega, by omega, by simp; omega⟩)
        have HCx := hid (fun W A' n' c' B hn hc' h => cut_yes A' (cs.take F ++ (ms ++ cs.drop F)) n' c' B hn (F : Int) ((F : Int) + (ms.length : Int)) W h (by simp; omega) hc' ⟨by omega, by omega, by simp; omega⟩)
        have HPa := hid (fun W B h => part_yes A cs cs.length c B rfl (0 : Int) (F : Int) W h (by omega) hc ⟨by omega, by omega, by omega⟩)
        have HPb := hid (fun W B h => part_yes A cs cs.length c B rfl (F : Int) (cs.length : Int) W h (by omega) hc ⟨by omega, by omega, by omega⟩)
        have e1 : ((F : Int) + (ms.length : Int)).toNat = F + ms.length := by omega
        have e2 := back_part (ms := ms) hF
        have e3 := back_cut (ms := ms) hF
        have e4 : (cs.drop (0 : Int).toNat).take ((F : Int).toNat - (0 : Int).toNat) = cs.take F := by simp
        have e5 : (cs.drop F).take (cs.length - F) = cs.drop F := List.take_of_length_le (by simp)
        simp only [Int.toNat_natCast, e1] at HIn HPx HCx HPb
        rw [e2] at HPx
        rw [e3] at HCx
        rw [e4] at HPa
        rw [e5] at HPb
        have e6 : cs.take F ++ cs.drop F = cs := List.take_append_drop F cs
        have hla : (cs.take F).length ≤ 20000 := by simp; omega
        have hlb : (cs.drop F).length ≤ 20000 := by simp; omega
        obtain ⟨Pa, hPa⟩ : ∃ X, X = cs.take F := ⟨_, rfl⟩
        obtain ⟨Pb, hPb⟩ : ∃ X, X = cs.drop F := ⟨_, rfl⟩
        rw [← hPa] at HIn HPx HCx HPa e6 hla
        rw [← hPb] at HIn HPx HCx HPb e6 hlb
        obtain ⟨X, hX⟩ : ∃ X, X = Pa ++ (ms ++ Pb) := ⟨_, rfl⟩
        rw [← hX] at HIn HPx HCx
        have E6 := hid e6
        clear hX hPa hPb e1 e2 e3 e4 e5 e6 hc hft hf0
        go_enter Try.func8, Try.ntmps8
        go_wp2_with (first
          | (go_at_call 13; (with_reducible refine (hlong.out _ _ hS).mono ?_); rintro e w' ⟨rfl, rfl⟩)
          | (go_at_call 13; (with_reducible refine (hlong2.out _ _ hMS).mono ?_); rintro e w' ⟨rfl, rfl⟩)
          | (go_at_call 17; (with_reducible refine (HIn.out _ _ _ hS hMS).mono ?_); rintro e W1 ⟨v1, rfl, ho1, hb1⟩; obtain ⟨A1, n1, c1, rfl, hn1, hc1, hS1⟩ := ho1.shapeS encC_len)
          | (go_at_call 21; (with_reducible refine (HPx.out _ _ _ _ _ hn1.out hc1.out hS1).mono ?_); rintro e W2 ⟨v2, rfl, ho2, hb2⟩; obtain ⟨A2, n2, c2, rfl, hn2, hc2, hS2⟩ := ho2.shapeS encC_len; have hS1' := hS1.below hb2; have hb02 := hb1.trans (hb2.mono hb1.size))
          | (go_at_call 19; (with_reducible refine (HCx.out _ _ _ _ _ hn1.out hc1.out hS1').mono ?_); rintro e W3 ⟨v3, rfl, ho3, hb3⟩; obtain ⟨A3, n3, c3, rfl, hn3, hc3, hS3⟩ := ho3.shapeS encC_len; have hb03 := hb02.trans (hb3.mono hb02.size))
          | (go_at_call 21; (with_reducible refine (HPa.out _ _ (hS.below hb03)).mono ?_); rintro e W4 ⟨v4, rfl, ho4, hb4⟩; obtain ⟨A4, n4, c4, rfl, hn4, hc4, hS4⟩ := ho4.shapeS encC_len; have hb04 := hb03.trans (hb4.mono hb03.size))
          | (go_at_call 21; (with_reducible refine (HPb.out _ _ (hS.below hb04)).mono ?_); rintro e W5 ⟨v5, rfl, ho5, hb5⟩; obtain ⟨A5, n5, c5, rfl, hn5, hc5, hS5⟩ := ho5.shapeS encC_len; have hb05 := hb04.trans (hb5.mono hb04.size); have B35 := hb4.trans (hb5.mono hb4.size); have B25 := hb3.trans (B35.mono hb3.size); have S25 := hS2.below B25; have S35 := hS3.below B35; have S45 := hS4.below hb5; have S05 := hS.below hb05; have SM5 := hMS.below hb05)
          | (go_at_call 28; (with_reducible refine (same_self A2 M ms n2 ms.length c2 cm _ _ hn2.out rfl _ S25 SM5 (by omega)).mono ?_); rintro e w' ⟨rfl, q1, rfl⟩)
          | (go_at_call 28; (with_reducible refine (same_self A3 A cs n3 cs.length c3 c _ _ hn3.out rfl _ (S35.drewN _) (S05.drewN _) (by omega)).mono ?_); rintro e w' ⟨rfl, q2, rfl⟩)
          | (at_builtin; have h0 := own_lit0 (W5.drewN (q1 + q2)) 33; refine wpList_appG Try.okC rfl (.tmp 108) (.tmp 109) 24 rfl Try.underlying24 W5.heap.size _ ([] : List Cl) rfl h0 _ A4 Pa n4 c4 hn4.out rfl ((S45.drewN _).alloc hb5.size _) (by simp; omega) (by simp) ?_; intro v6 W6 ho6 hg6; have bb6 : Below W5.heap.size W5 W6 := ((below_drewN (Below.refl _ W5) _).alloc (Nat.le_refl _) _).grown hg6 (by simp) (fun k hk => (h0.lt k hk).1))
          | (at_builtin; refine wpList_appG Try.okC rfl (.tmp 110) (.tmp 111) 24 rfl Try.underlying24 W5.heap.size v6 ([] ++ Pa) rfl ho6 _ A5 Pb n5 c5 hn5.out rfl (hS5.below bb6) (by simp; omega) bb6.size ?_; intro v7 W7 ho7 hg7; have bb7 : Below W5.heap.size W5 W7 := bb6.grown hg7 bb6.size (fun k hk => (ho6.lt k hk).1); rw [List.nil_append, E6.out] at ho7; obtain ⟨A7, n7, c7, rfl, hn7, hc7, hS7⟩ := ho7.shapeS encC_len; have S07 := S05.belowM bb7 hb05.size)
          | (go_at_call 28; (with_reducible refine (same_self A7 A cs n7 cs.length c7 c _ _ hn7.out rfl _ hS7 S07 (by omega)).mono ?_); rintro e w' ⟨rfl, q3, rfl⟩)
          | (go_at_call 9; refine (awake5_any _).mono ?_; rintro e W8 ⟨rfl, hb99⟩))
        go_ret
        exact ⟨rfl, (hb05.trans (bb7.mono hb05.size)).trans ((below_drewN (Below.refl _ W7) _).trans (hb99.mono (Nat.le_trans hb05.size bb7.size)))⟩
      · have HIn := hid (fun W => insert_no A cs.length c f W M ms.length cm hsp)
        have hcase : f < 0 ∨ (¬ f < 0 ∧ (cs.length : Int) < f) := by
          unfold spanOk at hsp
          omega
        clear hsp
        rcases hcase with h | ⟨h, h'⟩
        all_goals
          go_enter Try.func8, Try.ntmps8
          go_wp2_with (first
            | (go_at_call 13; (with_reducible refine (hlong.out _ _ hS).mono ?_); rintro e w' ⟨rfl, rfl⟩)
            | (go_at_call 13; (with_reducible refine (hlong2.out _ _ hMS).mono ?_); rintro e w' ⟨rfl, rfl⟩)
            | (go_at_call 17; (with_reducible refine (HIn.out _).mono ?_); rintro e W1 ⟨rfl, rfl⟩)
            | (go_at_call 9; refine (awake5_any _).mono ?_; rintro e W1 ⟨rfl, hb1⟩))
          go_ret
          exact ⟨rfl, hb1⟩

theorem lawBack_in {A M : Option Addr} {n c m cm : Nat} {cs ms : List Cl} (w : World) (h : CellsIn w A n cs) (hc : n ≤ c) (h2 : CellsIn w M m ms) (f : Int) (_ : (Lit.int .i64 f).wf = true) :
    Calls Try.prog 8 #[.slice A n c, .slice M m cm, .int .i64 f] w (RetBelow (.bool true) w) :=
  lawBack_any A M cs ms n c _ m cm _ h.len h2.len f w h.at_ h2.at_ h.le h.size h2.le h2.size (by rw [← h.len]; exact hc)
end Go.Proofs.Ytgpccjmkghpiiaa
