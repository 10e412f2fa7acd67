/- The walk of the law LinesBack: it answers true. (Printed by wip/lnlaw.py.) -/
import Derived.Test.YtpldmiencoolhaaDoorLnLaws
import Derived.Test.YtpldmiencoolhaaDoorLnAwake
import Derived.Test.YtpldmiencoolhaaDoorLnTIndent
import Derived.Test.YtpldmiencoolhaaDoorLnTOutdent
import Derived.Test.YtpldmiencoolhaaDoorLnTFree
import Derived.Test.YtpldmiencoolhaaDoorLnSplit
import Derived.Test.YtpldmiencoolhaaDoorLnJoin
import Derived.Test.YtpldmiencoolhaaDoorLnSame
import Derived.Test.YtpldmiencoolhaaDoorLnKit
import Derived.Test.YtpldmiencoolhaaDoorLnOpen
import Derived.BigQuiet
import Derived.Deep.QuietTactic
namespace Go.Proofs.YtpldmiencoolhaaDoor
open Go.RowKit Go.Lib

theorem indent_no {l : Ln} (hm : mayL l = true) (h : (indentL l).2 ≠ 0) : indentL l = (zL, 7) := by
  unfold indentL at h ⊢
  rw [if_pos hm] at h ⊢
  repeat' split
  all_goals simp_all
theorem split_no {l : Ln} {a : Int} (h : splitE l a ≠ 0) : splitA l a = zL ∧ splitB l a = zL ∧ splitE l a = 1 := by
  unfold splitE at h
  unfold splitA splitB splitE
  by_cases hi : inL l a = true
  · rw [if_pos hi] at h; exact absurd rfl h
  · rw [if_neg hi, if_neg hi, if_neg hi]; exact ⟨rfl, rfl, rfl⟩
theorem split_sizes {l : Ln} {a : Int} (h : splitE l a = 0) : (splitA l a).ls = l.ls ∧ (splitB l a).ls = l.ls ∧ (splitA l a).cs.length ≤ l.cs.length ∧ (splitB l a).cs.length ≤ l.cs.length ∧ (∀ x ∈ (splitA l a).cs, x ∈ l.cs) ∧ (∀ x ∈ (splitB l a).cs, x ∈ l.cs) := by
  unfold splitE at h
  by_cases hi : inL l a = true
  · unfold splitA splitB
    rw [if_pos hi, if_pos hi]
    exact ⟨rfl, rfl, by simp; omega, by simp, fun x hx => List.mem_of_mem_take hx, fun x hx => List.mem_of_mem_drop hx⟩
  · rw [if_neg hi] at h; cases h
set_option maxRecDepth 100000 in
set_option maxHeartbeats 16000000 in
theorem linesBack_111 (w : World) {l : Ln} {A : Option Addr} {c : Nat} {B : Option Addr} {d : Nat} (hat : LnAt w w.heap.size l A B) (b1 : l.ls.length ≤ 1000000000000000) (b2 : l.cs.length ≤ 1000000000000000) (hz : ∀ x ∈ l.cs, x.h.size ≤ 1000000000000000) (hlong : longL l = false) (l1 : l.ls.length ≤ 1000) (l2 : l.cs.length ≤ 20000) (fi : FineC l.cs) (hmay : mayL l = true) (at_ : Int) (hi : (indentL l).2 = 0) (hs : splitE l at_ = 0) (hk : 0 < l.k) (hT : Tb w) :
    Calls Tryd.prog 7 #[.agg #[.int .i64 l.q, .slice A l.ls.length c, .int .i64 l.k, .slice B l.cs.length d], .int .i64 at_] w fun e w' => e = .returned (.bool true) ∧ Below w.heap.size w w' := by
  have T := hid hT
  have HZ := hid hz
  have HL := hid hlong
  have FI := hid fi
  have MB := hid hmay
  have B9 : Hid (l.ls.length ≤ 1000000000) := hid (by omega)
  have C9 : Hid (l.cs.length ≤ 1000000000) := hid (by omega)
  have K := hid (KL.start w [⟨l, A, B⟩] (by simpa using hat))
  obtain ⟨p1, p2, p3, p4, p5, p6, p7, p8⟩ := mayL_parts hmay
  have mu1 : mu l = l.ls.length + l.q.toNat + (if 0 < l.k then 1 else 0) := rfl
  obtain ⟨N, hN⟩ : ∃ N, mu l = N := ⟨_, rfl⟩
  rw [if_pos hk, hN] at mu1
  have e1 : IntKind.i64.wrap ((l.ls.length : Int) + l.q) = (l.ls.length : Int) + l.q := IntWalk.i64_in _ (by omega)
  have e2 : IntKind.i64.wrap ((l.ls.length : Int) + l.q + 1) = (N : Int) := by rw [show (l.ls.length : Int) + l.q + 1 = (N : Int) from by omega]; exact IntWalk.i64_in _ (by omega)
  have g0 : (0 : Int) < l.k := hk
  obtain ⟨M1, hM1⟩ : ∃ x, (indentL l).1 = x := ⟨_, rfl⟩
  have hI : indentL l = (M1, 0) := Prod.ext hM1 hi
  have IND := hid hI
  obtain ⟨ho, hmm, hcc⟩ := indent_outdent hI
  have OUT := hid ho
  have I9 : Hid (M1.ls.length ≤ 1000000000) := hid (by have := (mayL_parts hmm).2.2.1; omega)
  have J9 : Hid (M1.cs.length ≤ 1000000000) := hid (by rw [hcc]; omega)
  have FM : Hid (FineC M1.cs) := hid (by rw [hcc]; exact fi)
  clear hM1 hI ho hmm hcc
  obtain ⟨hj, hmb⟩ := split_join hs
  obtain ⟨s1, s2, s3, s4, s5, s6⟩ := split_sizes hs
  obtain ⟨a, ha⟩ : ∃ x, splitA l at_ = x := ⟨_, rfl⟩
  obtain ⟨b, hb⟩ : ∃ x, splitB l at_ = x := ⟨_, rfl⟩
  rw [ha] at hj s1 s3 s5
  rw [hb] at hj hmb s2 s4 s6
  have SA := hid ha
  have SB := hid hb
  have SE := hid hs
  have JN := hid hj
  have MBB := hid hmb
  have AL : Hid (a.ls.length ≤ 1000000000) := hid (by rw [s1]; omega)
  have AC : Hid (a.cs.length ≤ 1000000000) := hid (by omega)
  have BL : Hid (b.ls.length ≤ 1000000000) := hid (by rw [s2]; omega)
  have BC : Hid (b.cs.length ≤ 1000000000) := hid (by omega)
  have FA : Hid (FineC a.cs) := hid (fun x hx => fi x (s5 x hx))
  have FB : Hid (FineC b.cs) := hid (fun x hx => fi x (s6 x hx))
  clear hj hmb s1 s2 s3 s4 s5 s6 ha hb
  have hNb : N ≤ 13 := by omega
  have HN := hid hN
  clear hT hz hlong l1 l2 fi hmay hat hi hs hk p1 p2 p3 p4 p5 p6 p7 p8 mu1 hN
  go_enter Tryd.func7, Tryd.ntmps7
  go_wp2_with (first
    | ((with_reducible show wpList _ _ _ _ _ _); refine Tryd.klBox (by rfl) _ (by rfl) (some 2) (by rfl) (by rfl) K ?_; intro g1 V1 K1; clear K; (have K := K1); clear K1)
    | ((with_reducible show wpList _ _ _ _ _ _); refine Tryd.klLoad (by rfl) _ (by rfl) K (by rfl) (by repeat (first | exact List.mem_cons_self | refine List.mem_cons_of_mem _ ?_)) ?_)
    | (go_at_call 9; (with_reducible refine (lLong_any l A _ c B _ d _ rfl rfl _ (K.out.at_ (r := ⟨l, A, B⟩) (by simp)) b1 b2 HZ.out).mono ?_); rintro e W1 ⟨rfl, hb⟩; rw [HL.out]; (have K2 := hid (K.out.later hb)); clear hb K; (have K := K2); clear K2)
    | (go_at_call 18; (with_reducible refine (lMay_any l A _ c B _ d _ rfl rfl _ (K.out.at_ (r := ⟨l, A, B⟩) (by simp)) B9.out C9.out FI.out (Utf8Tabs_below T.out K.out.b)).mono ?_); rintro e W2 ⟨rfl, hb⟩; rw [MB.out]; (have K2 := hid (K.out.later hb)); clear hb K; (have K := K2); clear K2)
    | (go_at_call 24; (with_reducible refine (lIndent_any l A _ c B _ d _ rfl rfl _ (K.out.at_ (r := ⟨l, A, B⟩) (by simp)) B9.out C9.out FI.out (Utf8Tabs_below T.out K.out.b)).mono ?_); rintro e W3 hc; unfold RetLnE at hc; rw [IND.out] at hc; dsimp only at hc; obtain ⟨A5, c5, B5, d5, rfl, le1, le2, wr3, hb3⟩ := hc; simp only [lnV]; clear le1 le2; (have K2 := hid (K.out.add hb3 wr3)); clear hb3 wr3 K; (have K := K2); clear K2)
    | ((with_reducible show wpList _ _ _ _ _ _); refine Tryd.klAlloc (by rfl) (by rfl) (some 5) (by rfl) K ?_; intro g5 V1 K1; clear K; (have K := K1); clear K1)
    | ((with_reducible show wpList _ _ _ _ _ _); refine Tryd.klStore (by rfl) (.tmp 5) _ (by rfl) [] (by exact K) (by rfl) (by rfl) (by exact ⟨rfl, rfl, rfl, rfl⟩) ?_; intro V2 K1; (dsimp only [List.cons_append, List.nil_append] at K1); clear K; (have K := K1); clear K1)
    | (go_at_call 25; (with_reducible refine (lOutdent_any M1 A5 _ c5 B5 _ d5 _ rfl rfl _ (K.out.at_ (r := ⟨M1, A5, B5⟩) (by simp)) I9.out J9.out FM.out (Utf8Tabs_below T.out K.out.b)).mono ?_); rintro e W3 hc; unfold RetLnE at hc; rw [OUT.out] at hc; dsimp only at hc; obtain ⟨A7, c7, B7, d7, rfl, le1, le2, wr3, hb3⟩ := hc; simp only [lnV]; clear le1 le2; (have K2 := hid (K.out.add hb3 wr3)); clear hb3 wr3 K; (have K := K2); clear K2)
    | ((with_reducible show wpList _ _ _ _ _ _); refine Tryd.klAlloc (by rfl) (by rfl) (some 7) (by rfl) K ?_; intro g7 V1 K1; clear K; (have K := K1); clear K1)
    | ((with_reducible show wpList _ _ _ _ _ _); refine Tryd.klStore (by rfl) (.tmp 7) _ (by rfl) [] (by exact K) (by rfl) (by rfl) (by exact ⟨rfl, rfl, rfl, rfl⟩) ?_; intro V2 K1; (dsimp only [List.cons_append, List.nil_append] at K1); clear K; (have K := K1); clear K1)
    | (go_at_call 20; (with_reducible refine (lSame_any l l A7 _ c7 B7 _ d7 A _ c B _ d _ _ rfl rfl rfl rfl _ (K.out.at_ (r := ⟨l, A7, B7⟩) (by simp)) (K.out.at_ (r := ⟨l, A, B⟩) (by simp)) B9.out C9.out).mono ?_); rintro e W4 ⟨rfl, hb⟩; rw [decide_eq_true (rfl : l = l)]; (have K2 := hid (K.out.later hb)); clear hb K; (have K := K2); clear K2)
    | (go_at_call 12; (with_reducible refine (lSplit_any l A _ c B _ d _ rfl rfl _ (K.out.at_ (r := ⟨l, A, B⟩) (by simp)) B9.out C9.out FI.out (Utf8Tabs_below T.out K.out.b) at_).mono ?_); rintro e W3 hc; unfold RetSplit at hc; rw [SA.out, SB.out, SE.out] at hc; obtain ⟨A91, c91, X91, d91, A92, c92, X92, d92, rfl, w1, w2, ap, -, hb3⟩ := hc; simp only [lnV]; (have K2 := hid (K.out.addW2 hb3 w1 w2 ap)); clear hb3 w1 w2 ap K; (have K := K2); clear K2)
    | ((with_reducible show wpList _ _ _ _ _ _); refine Tryd.klAlloc (by rfl) (by rfl) (some 9) (by rfl) K ?_; intro g9 V1 K1; clear K; (have K := K1); clear K1)
    | ((with_reducible show wpList _ _ _ _ _ _); refine Tryd.klAlloc (by rfl) (by rfl) (some 10) (by rfl) K ?_; intro g10 V1 K1; clear K; (have K := K1); clear K1)
    | ((with_reducible show wpList _ _ _ _ _ _); refine Tryd.klStore (by rfl) (.tmp 9) _ (by rfl) [_] (by exact K) (by rfl) (by rfl) (by exact ⟨rfl, rfl, rfl, rfl⟩) ?_; intro V2 K1; (dsimp only [List.cons_append, List.nil_append] at K1); clear K; (have K := K1); clear K1)
    | ((with_reducible show wpList _ _ _ _ _ _); refine Tryd.klStore (by rfl) (.tmp 10) _ (by rfl) [] (by exact K) (by rfl) (by rfl) (by exact ⟨rfl, rfl, rfl, rfl⟩) ?_; intro V2 K1; (dsimp only [List.cons_append, List.nil_append] at K1); clear K; (have K := K1); clear K1)
    | (go_at_call 15; (with_reducible refine (lJoin_any a b A91 c91 X91 d91 _ A92 c92 X92 d92 _ _ (K.out.atW (r := ⟨a, A91, X91⟩) (by simp)) (K.out.atW (r := ⟨b, A92, X92⟩) (by simp)) AL.out AC.out BL.out BC.out FA.out FB.out (Utf8Tabs_below T.out K.out.b)).mono ?_); rintro e W3 hc; unfold RetLnE at hc; rw [JN.out] at hc; dsimp only at hc; obtain ⟨A12, c12, B12, d12, rfl, -, -, wr3, hb3⟩ := hc; simp only [lnV]; (have K2 := hid (K.out.add hb3 wr3)); clear hb3 wr3 K; (have K := K2); clear K2)
    | ((with_reducible show wpList _ _ _ _ _ _); refine Tryd.klAlloc (by rfl) (by rfl) (some 12) (by rfl) K ?_; intro g12 V1 K1; clear K; (have K := K1); clear K1)
    | ((with_reducible show wpList _ _ _ _ _ _); refine Tryd.klStore (by rfl) (.tmp 12) _ (by rfl) [] (by exact K) (by rfl) (by rfl) (by exact ⟨rfl, rfl, rfl, rfl⟩) ?_; intro V2 K1; (dsimp only [List.cons_append, List.nil_append] at K1); clear K; (have K := K1); clear K1)
    | (go_at_call 20; (with_reducible refine (lSame_any l l A12 _ c12 B12 _ d12 A _ c B _ d _ _ rfl rfl rfl rfl _ (K.out.at_ (r := ⟨l, A12, B12⟩) (by simp)) (K.out.at_ (r := ⟨l, A, B⟩) (by simp)) B9.out C9.out).mono ?_); rintro e W4 ⟨rfl, hb⟩; rw [decide_eq_true (rfl : l = l)]; (have K2 := hid (K.out.later hb)); clear hb K; (have K := K2); clear K2)
    | (go_at_call 18; (with_reducible refine (lMay_any b A92 _ c92 X92 _ d92 _ rfl rfl _ (K.out.atW (r := ⟨b, A92, X92⟩) (by simp)) BL.out BC.out FB.out (Utf8Tabs_below T.out K.out.b)).mono ?_); rintro e W2 ⟨rfl, hb⟩; rw [MBB.out]; (have K2 := hid (K.out.later hb)); clear hb K; (have K := K2); clear K2; obtain ⟨⟨_, _, _, _⟩, _, _, _, _⟩ := K.out.cellsOf (g := g1) (by repeat (first | exact List.mem_cons_self | refine List.mem_cons_of_mem _ ?_)))
    | ((with_reducible show wpList _ _ _ _ _ _); refine Tryd.klAlloc (by rfl) (by rfl) (some 15) (by rfl) K ?_; intro g15 V1 K1; clear K; (have K := K1); clear K1)
    | ((with_reducible show wpList _ _ _ _ _ _); refine Tryd.klStore (by rfl) (.tmp 15) _ (by rfl) [] (by exact K) (by rfl) (by rfl) (by exact ⟨rfl, rfl, rfl, rfl⟩) ?_; intro V2 K1; (dsimp only [List.cons_append, List.nil_append] at K1); clear K; (have K := K1); clear K1))
  go_loopw [16] (fun i wr => ∃ (k : Nat) (M : Ln) (A' : Option Addr) (c' : Nat) (B' : Option Addr) (d' : Nat), k ≤ N ∧ i = .int .i64 k ∧ Hid (mayL M = true) ∧ Hid (mu M + k = N) ∧ Hid (M.cs = l.cs) ∧ Hid (KL w wr [⟨g15, .int .i64 M.q, .slice A' M.ls.length c', .int .i64 M.k, .slice B' M.cs.length d'⟩, ⟨g1, .int .i64 l.q, .slice A l.ls.length c, .int .i64 l.k, .slice B l.cs.length d⟩] [⟨M, A', B'⟩, ⟨l, A, B⟩] [])) (fun i _ => N - (intOf i).toNat)
  case atStart => exact ⟨0, l, A, c, B, d, Nat.zero_le _, rfl, MB, HN, hid rfl, hid (K.out.less (by repeat (first | exact List.Sublist.slnil | refine List.Sublist.cons_cons _ ?_ | refine List.Sublist.cons _ ?_)) (by simp) (List.nil_sublist _))⟩
  case round =>
    clear K
    obtain ⟨k, M, A', c', B', d', hk, rfl, hmm, hmu, hcs, K⟩ := hrel
    have FM' : Hid (FineC M.cs) := hid (by rw [hcs.out]; exact FI.out)
    have N9 : Hid (M.ls.length ≤ 1000000000) := hid (by have := (mayL_parts hmm.out).2.2.1; omega)
    have O9 : Hid (M.cs.length ≤ 1000000000) := hid (by rw [hcs.out]; exact C9.out)
    by_cases hlt : k < N
    · have hi : (k : Int) < (N : Int) := by omega
      obtain ⟨f1, f2, f3, f4⟩ := free_step hmm.out (by have := hmu.out; omega)
      obtain ⟨M2, hM2⟩ : ∃ x, (freeL M).1 = x := ⟨_, rfl⟩
      have EQ : Hid (freeL M = (M2, 0)) := hid (Prod.ext hM2 f1)
      rw [hM2] at f2 f3 f4
      have F2 := hid f2
      have F3 := hid f3
      have F4 := hid f4
      clear f1 f2 f3 f4 hM2
      go_wp2_with (first
        | ((with_reducible show wpList _ _ _ _ _ _); refine Tryd.klLoad (by rfl) _ (by rfl) K (by rfl) (by repeat (first | exact List.mem_cons_self | refine List.mem_cons_of_mem _ ?_)) ?_)
        | (go_at_call 32; (with_reducible refine (lFree_any M A' _ c' B' _ d' _ rfl rfl _ (K.out.at_ (r := ⟨M, A', B'⟩) (by simp)) N9.out O9.out FM'.out (Utf8Tabs_below T.out K.out.b)).mono ?_); rintro e W3 hc; unfold RetLnE at hc; rw [EQ.out] at hc; dsimp only at hc; obtain ⟨A3, c3, B3, d3, rfl, le1, le2, wr3, hb3⟩ := hc; simp only [lnV]; clear le1 le2; (have K2 := hid (K.out.add hb3 wr3)); clear hb3 wr3 K; (have K := K2); clear K2)
        | ((with_reducible show wpList _ _ _ _ _ _); refine Tryd.klAlloc (by rfl) (by rfl) (some 17) (by rfl) K ?_; intro g17 V1 K1; clear K; (have K := K1); clear K1)
        | ((with_reducible show wpList _ _ _ _ _ _); refine Tryd.klStore (by rfl) (.tmp 17) _ (by rfl) [] (by exact K) (by rfl) (by rfl) (by exact ⟨rfl, rfl, rfl, rfl⟩) ?_; intro V2 K1; (dsimp only [List.cons_append, List.nil_append] at K1); clear K; (have K := K1); clear K1)
        | ((with_reducible show wpList _ _ _ _ _ _); refine Tryd.klStore (by rfl) (.tmp 15) _ (by rfl) [_] (by exact K) (by rfl) (by rfl) (by exact ⟨rfl, rfl, rfl, rfl⟩) ?_; intro V2 K1; (dsimp only [List.cons_append, List.nil_append] at K1); clear K; (have K := K1); clear K1))
      go_roundw
      case rel => exact ⟨k + 1, M2, A3, c3, B3, d3, by omega, by go_num, F2, hid (by have := F3.out; have := hmu.out; omega), hid (F4.out.trans hcs.out), hid (K.out.less (by simp) (by simp) (List.Sublist.refl _))⟩
      case measure => simp [intOf]; omega
    · have hi : ¬ (k : Int) < (N : Int) := by omega
      obtain ⟨f1, f2, f3, f4⟩ := free_end hmm.out (by have := hmu.out; omega)
      obtain rfl : M = ⟨0, [], 0, l.cs⟩ := Ln.ext' f2 f3 f4 hcs.out
      have EQ := hid f1
      clear f1 f2 f3 f4 hcs hmu hmm
      dsimp only at K N9 O9 FM'
      go_wp2_with (first
        | ((with_reducible show wpList _ _ _ _ _ _); refine Tryd.klLoad (by rfl) _ (by rfl) K (by rfl) (by repeat (first | exact List.mem_cons_self | refine List.mem_cons_of_mem _ ?_)) ?_)
        | (go_at_call 32; refine (lFree_any ⟨0, [], 0, l.cs⟩ A' _ c' B' _ d' _ rfl rfl _ (K.out.at_ (r := ⟨⟨0, [], 0, l.cs⟩, A', B'⟩) (by simp)) N9.out O9.out FM'.out (Utf8Tabs_below T.out K.out.b)).mono ?_; rintro e W3 hc; unfold RetLnE at hc; rw [EQ.out] at hc; dsimp only at hc; obtain ⟨A19, c19, B19, d19, rfl, -, -, wr3, hb3⟩ := hc; simp only [lnV]; (have K2 := hid (K.out.add hb3 wr3)); clear hb3 wr3 K; (have K := K2); clear K2)
        | ((with_reducible show wpList _ _ _ _ _ _); refine Tryd.klAlloc (by rfl) (by rfl) (some 19) (by rfl) K ?_; intro g19 V1 K1; clear K; (have K := K1); clear K1)
        | ((with_reducible show wpList _ _ _ _ _ _); refine Tryd.klStore (by rfl) (.tmp 19) _ (by rfl) [] (by exact K) (by rfl) (by rfl) (by exact ⟨rfl, rfl, rfl, rfl⟩) ?_; intro V2 K1; (dsimp only [List.cons_append, List.nil_append] at K1); clear K; (have K := K1); clear K1; obtain ⟨⟨_, _, _, _⟩, _, _, _, _⟩ := K.out.cellsOf (g := g15) (by repeat (first | exact List.mem_cons_self | refine List.mem_cons_of_mem _ ?_)); obtain ⟨⟨_, _, _, _⟩, _, _, _, _⟩ := K.out.cellsOf (g := g1) (by repeat (first | exact List.mem_cons_self | refine List.mem_cons_of_mem _ ?_)))
        | (go_at_call 34; (with_reducible refine (refSame_any B' B l.cs l.cs _ _ d' d _ _ rfl rfl _ (K.out.at_ (r := ⟨⟨0, [], 0, l.cs⟩, A', B'⟩) (by simp)).cs (K.out.at_ (r := ⟨l, A, B⟩) (by simp)).cs C9.out).mono ?_); rintro e w6 ⟨rfl, hq⟩; rw [decide_eq_true (rfl : l.cs = l.cs)]; (have K2 := hid (K.out.quiet hq)); clear hq K; (have K := K2); clear K2)
        | (go_at_call 10; (with_reducible refine (lAwake_any _ (Utf8Tabs_below T.out K.out.b)).mono ?_); rintro e W9 ⟨rfl, hb⟩; (have K2 := hid (K.out.later hb)); clear hb K; (have K := K2); clear K2))
      go_ret
      exact ⟨rfl, K.out.b⟩
set_option maxRecDepth 100000 in
set_option maxHeartbeats 16000000 in
theorem linesBack_110 (w : World) {l : Ln} {A : Option Addr} {c : Nat} {B : Option Addr} {d : Nat} (hat : LnAt w w.heap.size l A B) (b1 : l.ls.length ≤ 1000000000000000) (b2 : l.cs.length ≤ 1000000000000000) (hz : ∀ x ∈ l.cs, x.h.size ≤ 1000000000000000) (hlong : longL l = false) (l1 : l.ls.length ≤ 1000) (l2 : l.cs.length ≤ 20000) (fi : FineC l.cs) (hmay : mayL l = true) (at_ : Int) (hi : (indentL l).2 = 0) (hs : splitE l at_ = 0) (hk : ¬ 0 < l.k) (hT : Tb w) :
    Calls Tryd.prog 7 #[.agg #[.int .i64 l.q, .slice A l.ls.length c, .int .i64 l.k, .slice B l.cs.length d], .int .i64 at_] w fun e w' => e = .returned (.bool true) ∧ Below w.heap.size w w' := by
  have T := hid hT
  have HZ := hid hz
  have HL := hid hlong
  have FI := hid fi
  have MB := hid hmay
  have B9 : Hid (l.ls.length ≤ 1000000000) := hid (by omega)
  have C9 : Hid (l.cs.length ≤ 1000000000) := hid (by omega)
  have K := hid (KL.start w [⟨l, A, B⟩] (by simpa using hat))
  obtain ⟨p1, p2, p3, p4, p5, p6, p7, p8⟩ := mayL_parts hmay
  have mu1 : mu l = l.ls.length + l.q.toNat + (if 0 < l.k then 1 else 0) := rfl
  obtain ⟨N, hN⟩ : ∃ N, mu l = N := ⟨_, rfl⟩
  rw [if_neg hk, hN] at mu1
  have e1 : IntKind.i64.wrap ((l.ls.length : Int) + l.q) = (N : Int) := by rw [show (l.ls.length : Int) + l.q = (N : Int) from by omega]; exact IntWalk.i64_in _ (by omega)
  have g0 : ¬ (0 : Int) < l.k := hk
  obtain ⟨M1, hM1⟩ : ∃ x, (indentL l).1 = x := ⟨_, rfl⟩
  have hI : indentL l = (M1, 0) := Prod.ext hM1 hi
  have IND := hid hI
  obtain ⟨ho, hmm, hcc⟩ := indent_outdent hI
  have OUT := hid ho
  have I9 : Hid (M1.ls.length ≤ 1000000000) := hid (by have := (mayL_parts hmm).2.2.1; omega)
  have J9 : Hid (M1.cs.length ≤ 1000000000) := hid (by rw [hcc]; omega)
  have FM : Hid (FineC M1.cs) := hid (by rw [hcc]; exact fi)
  clear hM1 hI ho hmm hcc
  obtain ⟨hj, hmb⟩ := split_join hs
  obtain ⟨s1, s2, s3, s4, s5, s6⟩ := split_sizes hs
  obtain ⟨a, ha⟩ : ∃ x, splitA l at_ = x := ⟨_, rfl⟩
  obtain ⟨b, hb⟩ : ∃ x, splitB l at_ = x := ⟨_, rfl⟩
  rw [ha] at hj s1 s3 s5
  rw [hb] at hj hmb s2 s4 s6
  have SA := hid ha
  have SB := hid hb
  have SE := hid hs
  have JN := hid hj
  have MBB := hid hmb
  have AL : Hid (a.ls.length ≤ 1000000000) := hid (by rw [s1]; omega)
  have AC : Hid (a.cs.length ≤ 1000000000) := hid (by omega)
  have BL : Hid (b.ls.length ≤ 1000000000) := hid (by rw [s2]; omega)
  have BC : Hid (b.cs.length ≤ 1000000000) := hid (by omega)
  have FA : Hid (FineC a.cs) := hid (fun x hx => fi x (s5 x hx))
  have FB : Hid (FineC b.cs) := hid (fun x hx => fi x (s6 x hx))
  clear hj hmb s1 s2 s3 s4 s5 s6 ha hb
  have hNb : N ≤ 13 := by omega
  have HN := hid hN
  clear hT hz hlong l1 l2 fi hmay hat hi hs hk p1 p2 p3 p4 p5 p6 p7 p8 mu1 hN
  go_enter Tryd.func7, Tryd.ntmps7
  go_wp2_with (first
    | ((with_reducible show wpList _ _ _ _ _ _); refine Tryd.klBox (by rfl) _ (by rfl) (some 2) (by rfl) (by rfl) K ?_; intro g1 V1 K1; clear K; (have K := K1); clear K1)
    | ((with_reducible show wpList _ _ _ _ _ _); refine Tryd.klLoad (by rfl) _ (by rfl) K (by rfl) (by repeat (first | exact List.mem_cons_self | refine List.mem_cons_of_mem _ ?_)) ?_)
    | (go_at_call 9; (with_reducible refine (lLong_any l A _ c B _ d _ rfl rfl _ (K.out.at_ (r := ⟨l, A, B⟩) (by simp)) b1 b2 HZ.out).mono ?_); rintro e W1 ⟨rfl, hb⟩; rw [HL.out]; (have K2 := hid (K.out.later hb)); clear hb K; (have K := K2); clear K2)
    | (go_at_call 18; (with_reducible refine (lMay_any l A _ c B _ d _ rfl rfl _ (K.out.at_ (r := ⟨l, A, B⟩) (by simp)) B9.out C9.out FI.out (Utf8Tabs_below T.out K.out.b)).mono ?_); rintro e W2 ⟨rfl, hb⟩; rw [MB.out]; (have K2 := hid (K.out.later hb)); clear hb K; (have K := K2); clear K2)
    | (go_at_call 24; (with_reducible refine (lIndent_any l A _ c B _ d _ rfl rfl _ (K.out.at_ (r := ⟨l, A, B⟩) (by simp)) B9.out C9.out FI.out (Utf8Tabs_below T.out K.out.b)).mono ?_); rintro e W3 hc; unfold RetLnE at hc; rw [IND.out] at hc; dsimp only at hc; obtain ⟨A5, c5, B5, d5, rfl, le1, le2, wr3, hb3⟩ := hc; simp only [lnV]; clear le1 le2; (have K2 := hid (K.out.add hb3 wr3)); clear hb3 wr3 K; (have K := K2); clear K2)
    | ((with_reducible show wpList _ _ _ _ _ _); refine Tryd.klAlloc (by rfl) (by rfl) (some 5) (by rfl) K ?_; intro g5 V1 K1; clear K; (have K := K1); clear K1)
    | ((with_reducible show wpList _ _ _ _ _ _); refine Tryd.klStore (by rfl) (.tmp 5) _ (by rfl) [] (by exact K) (by rfl) (by rfl) (by exact ⟨rfl, rfl, rfl, rfl⟩) ?_; intro V2 K1; (dsimp only [List.cons_append, List.nil_append] at K1); clear K; (have K := K1); clear K1)
    | (go_at_call 25; (with_reducible refine (lOutdent_any M1 A5 _ c5 B5 _ d5 _ rfl rfl _ (K.out.at_ (r := ⟨M1, A5, B5⟩) (by simp)) I9.out J9.out FM.out (Utf8Tabs_below T.out K.out.b)).mono ?_); rintro e W3 hc; unfold RetLnE at hc; rw [OUT.out] at hc; dsimp only at hc; obtain ⟨A7, c7, B7, d7, rfl, le1, le2, wr3, hb3⟩ := hc; simp only [lnV]; clear le1 le2; (have K2 := hid (K.out.add hb3 wr3)); clear hb3 wr3 K; (have K := K2); clear K2)
    | ((with_reducible show wpList _ _ _ _ _ _); refine Tryd.klAlloc (by rfl) (by rfl) (some 7) (by rfl) K ?_; intro g7 V1 K1; clear K; (have K := K1); clear K1)
    | ((with_reducible show wpList _ _ _ _ _ _); refine Tryd.klStore (by rfl) (.tmp 7) _ (by rfl) [] (by exact K) (by rfl) (by rfl) (by exact ⟨rfl, rfl, rfl, rfl⟩) ?_; intro V2 K1; (dsimp only [List.cons_append, List.nil_append] at K1); clear K; (have K := K1); clear K1)
    | (go_at_call 20; (with_reducible refine (lSame_any l l A7 _ c7 B7 _ d7 A _ c B _ d _ _ rfl rfl rfl rfl _ (K.out.at_ (r := ⟨l, A7, B7⟩) (by simp)) (K.out.at_ (r := ⟨l, A, B⟩) (by simp)) B9.out C9.out).mono ?_); rintro e W4 ⟨rfl, hb⟩; rw [decide_eq_true (rfl : l = l)]; (have K2 := hid (K.out.later hb)); clear hb K; (have K := K2); clear K2)
    | (go_at_call 12; (with_reducible refine (lSplit_any l A _ c B _ d _ rfl rfl _ (K.out.at_ (r := ⟨l, A, B⟩) (by simp)) B9.out C9.out FI.out (Utf8Tabs_below T.out K.out.b) at_).mono ?_); rintro e W3 hc; unfold RetSplit at hc; rw [SA.out, SB.out, SE.out] at hc; obtain ⟨A91, c91, X91, d91, A92, c92, X92, d92, rfl, w1, w2, ap, -, hb3⟩ := hc; simp only [lnV]; (have K2 := hid (K.out.addW2 hb3 w1 w2 ap)); clear hb3 w1 w2 ap K; (have K := K2); clear K2)
    | ((with_reducible show wpList _ _ _ _ _ _); refine Tryd.klAlloc (by rfl) (by rfl) (some 9) (by rfl) K ?_; intro g9 V1 K1; clear K; (have K := K1); clear K1)
    | ((with_reducible show wpList _ _ _ _ _ _); refine Tryd.klAlloc (by rfl) (by rfl) (some 10) (by rfl) K ?_; intro g10 V1 K1; clear K; (have K := K1); clear K1)
    | ((with_reducible show wpList _ _ _ _ _ _); refine Tryd.klStore (by rfl) (.tmp 9) _ (by rfl) [_] (by exact K) (by rfl) (by rfl) (by exact ⟨rfl, rfl, rfl, rfl⟩) ?_; intro V2 K1; (dsimp only [List.cons_append, List.nil_append] at K1); clear K; (have K := K1); clear K1)
    | ((with_reducible show wpList _ _ _ _ _ _); refine Tryd.klStore (by rfl) (.tmp 10) _ (by rfl) [] (by exact K) (by rfl) (by rfl) (by exact ⟨rfl, rfl, rfl, rfl⟩) ?_; intro V2 K1; (dsimp only [List.cons_append, List.nil_append] at K1); clear K; (have K := K1); clear K1)
    | (go_at_call 15; (with_reducible refine (lJoin_any a b A91 c91 X91 d91 _ A92 c92 X92 d92 _ _ (K.out.atW (r := ⟨a, A91, X91⟩) (by simp)) (K.out.atW (r := ⟨b, A92, X92⟩) (by simp)) AL.out AC.out BL.out BC.out FA.out FB.out (Utf8Tabs_below T.out K.out.b)).mono ?_); rintro e W3 hc; unfold RetLnE at hc; rw [JN.out] at hc; dsimp only at hc; obtain ⟨A12, c12, B12, d12, rfl, -, -, wr3, hb3⟩ := hc; simp only [lnV]; (have K2 := hid (K.out.add hb3 wr3)); clear hb3 wr3 K; (have K := K2); clear K2)
    | ((with_reducible show wpList _ _ _ _ _ _); refine Tryd.klAlloc (by rfl) (by rfl) (some 12) (by rfl) K ?_; intro g12 V1 K1; clear K; (have K := K1); clear K1)
    | ((with_reducible show wpList _ _ _ _ _ _); refine Tryd.klStore (by rfl) (.tmp 12) _ (by rfl) [] (by exact K) (by rfl) (by rfl) (by exact ⟨rfl, rfl, rfl, rfl⟩) ?_; intro V2 K1; (dsimp only [List.cons_append, List.nil_append] at K1); clear K; (have K := K1); clear K1)
    | (go_at_call 20; (with_reducible refine (lSame_any l l A12 _ c12 B12 _ d12 A _ c B _ d _ _ rfl rfl rfl rfl _ (K.out.at_ (r := ⟨l, A12, B12⟩) (by simp)) (K.out.at_ (r := ⟨l, A, B⟩) (by simp)) B9.out C9.out).mono ?_); rintro e W4 ⟨rfl, hb⟩; rw [decide_eq_true (rfl : l = l)]; (have K2 := hid (K.out.later hb)); clear hb K; (have K := K2); clear K2)
    | (go_at_call 18; (with_reducible refine (lMay_any b A92 _ c92 X92 _ d92 _ rfl rfl _ (K.out.atW (r := ⟨b, A92, X92⟩) (by simp)) BL.out BC.out FB.out (Utf8Tabs_below T.out K.out.b)).mono ?_); rintro e W2 ⟨rfl, hb⟩; rw [MBB.out]; (have K2 := hid (K.out.later hb)); clear hb K; (have K := K2); clear K2; obtain ⟨⟨_, _, _, _⟩, _, _, _, _⟩ := K.out.cellsOf (g := g1) (by repeat (first | exact List.mem_cons_self | refine List.mem_cons_of_mem _ ?_)))
    | ((with_reducible show wpList _ _ _ _ _ _); refine Tryd.klAlloc (by rfl) (by rfl) (some 15) (by rfl) K ?_; intro g15 V1 K1; clear K; (have K := K1); clear K1)
    | ((with_reducible show wpList _ _ _ _ _ _); refine Tryd.klStore (by rfl) (.tmp 15) _ (by rfl) [] (by exact K) (by rfl) (by rfl) (by exact ⟨rfl, rfl, rfl, rfl⟩) ?_; intro V2 K1; (dsimp only [List.cons_append, List.nil_append] at K1); clear K; (have K := K1); clear K1))
  go_loopw [16] (fun i wr => ∃ (k : Nat) (M : Ln) (A' : Option Addr) (c' : Nat) (B' : Option Addr) (d' : Nat), k ≤ N ∧ i = .int .i64 k ∧ Hid (mayL M = true) ∧ Hid (mu M + k = N) ∧ Hid (M.cs = l.cs) ∧ Hid (KL w wr [⟨g15, .int .i64 M.q, .slice A' M.ls.length c', .int .i64 M.k, .slice B' M.cs.length d'⟩, ⟨g1, .int .i64 l.q, .slice A l.ls.length c, .int .i64 l.k, .slice B l.cs.length d⟩] [⟨M, A', B'⟩, ⟨l, A, B⟩] [])) (fun i _ => N - (intOf i).toNat)
  case atStart => exact ⟨0, l, A, c, B, d, Nat.zero_le _, rfl, MB, HN, hid rfl, hid (K.out.less (by repeat (first | exact List.Sublist.slnil | refine List.Sublist.cons_cons _ ?_ | refine List.Sublist.cons _ ?_)) (by simp) (List.nil_sublist _))⟩
  case round =>
    clear K
    obtain ⟨k, M, A', c', B', d', hk, rfl, hmm, hmu, hcs, K⟩ := hrel
    have FM' : Hid (FineC M.cs) := hid (by rw [hcs.out]; exact FI.out)
    have N9 : Hid (M.ls.length ≤ 1000000000) := hid (by have := (mayL_parts hmm.out).2.2.1; omega)
    have O9 : Hid (M.cs.length ≤ 1000000000) := hid (by rw [hcs.out]; exact C9.out)
    by_cases hlt : k < N
    · have hi : (k : Int) < (N : Int) := by omega
      obtain ⟨f1, f2, f3, f4⟩ := free_step hmm.out (by have := hmu.out; omega)
      obtain ⟨M2, hM2⟩ : ∃ x, (freeL M).1 = x := ⟨_, rfl⟩
      have EQ : Hid (freeL M = (M2, 0)) := hid (Prod.ext hM2 f1)
      rw [hM2] at f2 f3 f4
      have F2 := hid f2
      have F3 := hid f3
      have F4 := hid f4
      clear f1 f2 f3 f4 hM2
      go_wp2_with (first
        | ((with_reducible show wpList _ _ _ _ _ _); refine Tryd.klLoad (by rfl) _ (by rfl) K (by rfl) (by repeat (first | exact List.mem_cons_self | refine List.mem_cons_of_mem _ ?_)) ?_)
        | (go_at_call 32; (with_reducible refine (lFree_any M A' _ c' B' _ d' _ rfl rfl _ (K.out.at_ (r := ⟨M, A', B'⟩) (by simp)) N9.out O9.out FM'.out (Utf8Tabs_below T.out K.out.b)).mono ?_); rintro e W3 hc; unfold RetLnE at hc; rw [EQ.out] at hc; dsimp only at hc; obtain ⟨A3, c3, B3, d3, rfl, le1, le2, wr3, hb3⟩ := hc; simp only [lnV]; clear le1 le2; (have K2 := hid (K.out.add hb3 wr3)); clear hb3 wr3 K; (have K := K2); clear K2)
        | ((with_reducible show wpList _ _ _ _ _ _); refine Tryd.klAlloc (by rfl) (by rfl) (some 17) (by rfl) K ?_; intro g17 V1 K1; clear K; (have K := K1); clear K1)
        | ((with_reducible show wpList _ _ _ _ _ _); refine Tryd.klStore (by rfl) (.tmp 17) _ (by rfl) [] (by exact K) (by rfl) (by rfl) (by exact ⟨rfl, rfl, rfl, rfl⟩) ?_; intro V2 K1; (dsimp only [List.cons_append, List.nil_append] at K1); clear K; (have K := K1); clear K1)
        | ((with_reducible show wpList _ _ _ _ _ _); refine Tryd.klStore (by rfl) (.tmp 15) _ (by rfl) [_] (by exact K) (by rfl) (by rfl) (by exact ⟨rfl, rfl, rfl, rfl⟩) ?_; intro V2 K1; (dsimp only [List.cons_append, List.nil_append] at K1); clear K; (have K := K1); clear K1))
      go_roundw
      case rel => exact ⟨k + 1, M2, A3, c3, B3, d3, by omega, by go_num, F2, hid (by have := F3.out; have := hmu.out; omega), hid (F4.out.trans hcs.out), hid (K.out.less (by simp) (by simp) (List.Sublist.refl _))⟩
      case measure => simp [intOf]; omega
    · have hi : ¬ (k : Int) < (N : Int) := by omega
      obtain ⟨f1, f2, f3, f4⟩ := free_end hmm.out (by have := hmu.out; omega)
      obtain rfl : M = ⟨0, [], 0, l.cs⟩ := Ln.ext' f2 f3 f4 hcs.out
      have EQ := hid f1
      clear f1 f2 f3 f4 hcs hmu hmm
      dsimp only at K N9 O9 FM'
      go_wp2_with (first
        | ((with_reducible show wpList _ _ _ _ _ _); refine Tryd.klLoad (by rfl) _ (by rfl) K (by rfl) (by repeat (first | exact List.mem_cons_self | refine List.mem_cons_of_mem _ ?_)) ?_)
        | (go_at_call 32; refine (lFree_any ⟨0, [], 0, l.cs⟩ A' _ c' B' _ d' _ rfl rfl _ (K.out.at_ (r := ⟨⟨0, [], 0, l.cs⟩, A', B'⟩) (by simp)) N9.out O9.out FM'.out (Utf8Tabs_below T.out K.out.b)).mono ?_; rintro e W3 hc; unfold RetLnE at hc; rw [EQ.out] at hc; dsimp only at hc; obtain ⟨A19, c19, B19, d19, rfl, -, -, wr3, hb3⟩ := hc; simp only [lnV]; (have K2 := hid (K.out.add hb3 wr3)); clear hb3 wr3 K; (have K := K2); clear K2)
        | ((with_reducible show wpList _ _ _ _ _ _); refine Tryd.klAlloc (by rfl) (by rfl) (some 19) (by rfl) K ?_; intro g19 V1 K1; clear K; (have K := K1); clear K1)
        | ((with_reducible show wpList _ _ _ _ _ _); refine Tryd.klStore (by rfl) (.tmp 19) _ (by rfl) [] (by exact K) (by rfl) (by rfl) (by exact ⟨rfl, rfl, rfl, rfl⟩) ?_; intro V2 K1; (dsimp only [List.cons_append, List.nil_append] at K1); clear K; (have K := K1); clear K1; obtain ⟨⟨_, _, _, _⟩, _, _, _, _⟩ := K.out.cellsOf (g := g15) (by repeat (first | exact List.mem_cons_self | refine List.mem_cons_of_mem _ ?_)); obtain ⟨⟨_, _, _, _⟩, _, _, _, _⟩ := K.out.cellsOf (g := g1) (by repeat (first | exact List.mem_cons_self | refine List.mem_cons_of_mem _ ?_)))
        | (go_at_call 34; (with_reducible refine (refSame_any B' B l.cs l.cs _ _ d' d _ _ rfl rfl _ (K.out.at_ (r := ⟨⟨0, [], 0, l.cs⟩, A', B'⟩) (by simp)).cs (K.out.at_ (r := ⟨l, A, B⟩) (by simp)).cs C9.out).mono ?_); rintro e w6 ⟨rfl, hq⟩; rw [decide_eq_true (rfl : l.cs = l.cs)]; (have K2 := hid (K.out.quiet hq)); clear hq K; (have K := K2); clear K2)
        | (go_at_call 10; (with_reducible refine (lAwake_any _ (Utf8Tabs_below T.out K.out.b)).mono ?_); rintro e W9 ⟨rfl, hb⟩; (have K2 := hid (K.out.later hb)); clear hb K; (have K := K2); clear K2))
      go_ret
      exact ⟨rfl, K.out.b⟩
set_option maxRecDepth 100000 in
set_option maxHeartbeats 16000000 in
theorem linesBack_101 (w : World) {l : Ln} {A : Option Addr} {c : Nat} {B : Option Addr} {d : Nat} (hat : LnAt w w.heap.size l A B) (b1 : l.ls.length ≤ 1000000000000000) (b2 : l.cs.length ≤ 1000000000000000) (hz : ∀ x ∈ l.cs, x.h.size ≤ 1000000000000000) (hlong : longL l = false) (l1 : l.ls.length ≤ 1000) (l2 : l.cs.length ≤ 20000) (fi : FineC l.cs) (hmay : mayL l = true) (at_ : Int) (hi : (indentL l).2 = 0) (hs : splitE l at_ ≠ 0) (hk : 0 < l.k) (hT : Tb w) :
    Calls Tryd.prog 7 #[.agg #[.int .i64 l.q, .slice A l.ls.length c, .int .i64 l.k, .slice B l.cs.length d], .int .i64 at_] w fun e w' => e = .returned (.bool true) ∧ Below w.heap.size w w' := by
  have T := hid hT
  have HZ := hid hz
  have HL := hid hlong
  have FI := hid fi
  have MB := hid hmay
  have B9 : Hid (l.ls.length ≤ 1000000000) := hid (by omega)
  have C9 : Hid (l.cs.length ≤ 1000000000) := hid (by omega)
  have K := hid (KL.start w [⟨l, A, B⟩] (by simpa using hat))
  obtain ⟨p1, p2, p3, p4, p5, p6, p7, p8⟩ := mayL_parts hmay
  have mu1 : mu l = l.ls.length + l.q.toNat + (if 0 < l.k then 1 else 0) := rfl
  obtain ⟨N, hN⟩ : ∃ N, mu l = N := ⟨_, rfl⟩
  rw [if_pos hk, hN] at mu1
  have e1 : IntKind.i64.wrap ((l.ls.length : Int) + l.q) = (l.ls.length : Int) + l.q := IntWalk.i64_in _ (by omega)
  have e2 : IntKind.i64.wrap ((l.ls.length : Int) + l.q + 1) = (N : Int) := by rw [show (l.ls.length : Int) + l.q + 1 = (N : Int) from by omega]; exact IntWalk.i64_in _ (by omega)
  have g0 : (0 : Int) < l.k := hk
  obtain ⟨M1, hM1⟩ : ∃ x, (indentL l).1 = x := ⟨_, rfl⟩
  have hI : indentL l = (M1, 0) := Prod.ext hM1 hi
  have IND := hid hI
  obtain ⟨ho, hmm, hcc⟩ := indent_outdent hI
  have OUT := hid ho
  have I9 : Hid (M1.ls.length ≤ 1000000000) := hid (by have := (mayL_parts hmm).2.2.1; omega)
  have J9 : Hid (M1.cs.length ≤ 1000000000) := hid (by rw [hcc]; omega)
  have FM : Hid (FineC M1.cs) := hid (by rw [hcc]; exact fi)
  clear hM1 hI ho hmm hcc
  obtain ⟨ha, hb, he⟩ := split_no hs
  have SA := hid ha
  have SB := hid hb
  have SE := hid he
  clear ha hb he
  have hNb : N ≤ 13 := by omega
  have HN := hid hN
  clear hT hz hlong l1 l2 fi hmay hat hi hs hk p1 p2 p3 p4 p5 p6 p7 p8 mu1 hN
  go_enter Tryd.func7, Tryd.ntmps7
  go_wp2_with (first
    | ((with_reducible show wpList _ _ _ _ _ _); refine Tryd.klBox (by rfl) _ (by rfl) (some 2) (by rfl) (by rfl) K ?_; intro g1 V1 K1; clear K; (have K := K1); clear K1)
    | ((with_reducible show wpList _ _ _ _ _ _); refine Tryd.klLoad (by rfl) _ (by rfl) K (by rfl) (by repeat (first | exact List.mem_cons_self | refine List.mem_cons_of_mem _ ?_)) ?_)
    | (go_at_call 9; (with_reducible refine (lLong_any l A _ c B _ d _ rfl rfl _ (K.out.at_ (r := ⟨l, A, B⟩) (by simp)) b1 b2 HZ.out).mono ?_); rintro e W1 ⟨rfl, hb⟩; rw [HL.out]; (have K2 := hid (K.out.later hb)); clear hb K; (have K := K2); clear K2)
    | (go_at_call 18; (with_reducible refine (lMay_any l A _ c B _ d _ rfl rfl _ (K.out.at_ (r := ⟨l, A, B⟩) (by simp)) B9.out C9.out FI.out (Utf8Tabs_below T.out K.out.b)).mono ?_); rintro e W2 ⟨rfl, hb⟩; rw [MB.out]; (have K2 := hid (K.out.later hb)); clear hb K; (have K := K2); clear K2)
    | (go_at_call 24; (with_reducible refine (lIndent_any l A _ c B _ d _ rfl rfl _ (K.out.at_ (r := ⟨l, A, B⟩) (by simp)) B9.out C9.out FI.out (Utf8Tabs_below T.out K.out.b)).mono ?_); rintro e W3 hc; unfold RetLnE at hc; rw [IND.out] at hc; dsimp only at hc; obtain ⟨A5, c5, B5, d5, rfl, le1, le2, wr3, hb3⟩ := hc; simp only [lnV]; clear le1 le2; (have K2 := hid (K.out.add hb3 wr3)); clear hb3 wr3 K; (have K := K2); clear K2)
    | ((with_reducible show wpList _ _ _ _ _ _); refine Tryd.klAlloc (by rfl) (by rfl) (some 5) (by rfl) K ?_; intro g5 V1 K1; clear K; (have K := K1); clear K1)
    | ((with_reducible show wpList _ _ _ _ _ _); refine Tryd.klStore (by rfl) (.tmp 5) _ (by rfl) [] (by exact K) (by rfl) (by rfl) (by exact ⟨rfl, rfl, rfl, rfl⟩) ?_; intro V2 K1; (dsimp only [List.cons_append, List.nil_append] at K1); clear K; (have K := K1); clear K1)
    | (go_at_call 25; (with_reducible refine (lOutdent_any M1 A5 _ c5 B5 _ d5 _ rfl rfl _ (K.out.at_ (r := ⟨M1, A5, B5⟩) (by simp)) I9.out J9.out FM.out (Utf8Tabs_below T.out K.out.b)).mono ?_); rintro e W3 hc; unfold RetLnE at hc; rw [OUT.out] at hc; dsimp only at hc; obtain ⟨A7, c7, B7, d7, rfl, le1, le2, wr3, hb3⟩ := hc; simp only [lnV]; clear le1 le2; (have K2 := hid (K.out.add hb3 wr3)); clear hb3 wr3 K; (have K := K2); clear K2)
    | ((with_reducible show wpList _ _ _ _ _ _); refine Tryd.klAlloc (by rfl) (by rfl) (some 7) (by rfl) K ?_; intro g7 V1 K1; clear K; (have K := K1); clear K1)
    | ((with_reducible show wpList _ _ _ _ _ _); refine Tryd.klStore (by rfl) (.tmp 7) _ (by rfl) [] (by exact K) (by rfl) (by rfl) (by exact ⟨rfl, rfl, rfl, rfl⟩) ?_; intro V2 K1; (dsimp only [List.cons_append, List.nil_append] at K1); clear K; (have K := K1); clear K1)
    | (go_at_call 20; (with_reducible refine (lSame_any l l A7 _ c7 B7 _ d7 A _ c B _ d _ _ rfl rfl rfl rfl _ (K.out.at_ (r := ⟨l, A7, B7⟩) (by simp)) (K.out.at_ (r := ⟨l, A, B⟩) (by simp)) B9.out C9.out).mono ?_); rintro e W4 ⟨rfl, hb⟩; rw [decide_eq_true (rfl : l = l)]; (have K2 := hid (K.out.later hb)); clear hb K; (have K := K2); clear K2)
    | (go_at_call 12; (with_reducible refine (lSplit_any l A _ c B _ d _ rfl rfl _ (K.out.at_ (r := ⟨l, A, B⟩) (by simp)) B9.out C9.out FI.out (Utf8Tabs_below T.out K.out.b) at_).mono ?_); rintro e W3 hc; unfold RetSplit at hc; rw [SA.out, SB.out, SE.out] at hc; obtain ⟨A91, c91, X91, d91, A92, c92, X92, d92, rfl, w1, w2, ap, -, hb3⟩ := hc; simp only [lnV]; clear w1 w2 ap; (have K2 := hid (K.out.later hb3)); clear hb3 K; (have K := K2); clear K2)
    | ((with_reducible show wpList _ _ _ _ _ _); refine Tryd.klAlloc (by rfl) (by rfl) (some 9) (by rfl) K ?_; intro g9 V1 K1; clear K; (have K := K1); clear K1)
    | ((with_reducible show wpList _ _ _ _ _ _); refine Tryd.klAlloc (by rfl) (by rfl) (some 10) (by rfl) K ?_; intro g10 V1 K1; clear K; (have K := K1); clear K1)
    | ((with_reducible show wpList _ _ _ _ _ _); refine Tryd.klStore (by rfl) (.tmp 9) _ (by rfl) [_] (by exact K) (by rfl) (by rfl) (by exact ⟨rfl, rfl, rfl, rfl⟩) ?_; intro V2 K1; (dsimp only [List.cons_append, List.nil_append] at K1); clear K; (have K := K1); clear K1)
    | ((with_reducible show wpList _ _ _ _ _ _); refine Tryd.klStore (by rfl) (.tmp 10) _ (by rfl) [] (by exact K) (by rfl) (by rfl) (by exact ⟨rfl, rfl, rfl, rfl⟩) ?_; intro V2 K1; (dsimp only [List.cons_append, List.nil_append] at K1); clear K; (have K := K1); clear K1; obtain ⟨⟨_, _, _, _⟩, _, _, _, _⟩ := K.out.cellsOf (g := g1) (by repeat (first | exact List.mem_cons_self | refine List.mem_cons_of_mem _ ?_)))
    | ((with_reducible show wpList _ _ _ _ _ _); refine Tryd.klAlloc (by rfl) (by rfl) (some 15) (by rfl) K ?_; intro g15 V1 K1; clear K; (have K := K1); clear K1)
    | ((with_reducible show wpList _ _ _ _ _ _); refine Tryd.klStore (by rfl) (.tmp 15) _ (by rfl) [] (by exact K) (by rfl) (by rfl) (by exact ⟨rfl, rfl, rfl, rfl⟩) ?_; intro V2 K1; (dsimp only [List.cons_append, List.nil_append] at K1); clear K; (have K := K1); clear K1))
  go_loopw [16] (fun i wr => ∃ (k : Nat) (M : Ln) (A' : Option Addr) (c' : Nat) (B' : Option Addr) (d' : Nat), k ≤ N ∧ i = .int .i64 k ∧ Hid (mayL M = true) ∧ Hid (mu M + k = N) ∧ Hid (M.cs = l.cs) ∧ Hid (KL w wr [⟨g15, .int .i64 M.q, .slice A' M.ls.length c', .int .i64 M.k, .slice B' M.cs.length d'⟩, ⟨g1, .int .i64 l.q, .slice A l.ls.length c, .int .i64 l.k, .slice B l.cs.length d⟩] [⟨M, A', B'⟩, ⟨l, A, B⟩] [])) (fun i _ => N - (intOf i).toNat)
  case atStart => exact ⟨0, l, A, c, B, d, Nat.zero_le _, rfl, MB, HN, hid rfl, hid (K.out.less (by repeat (first | exact List.Sublist.slnil | refine List.Sublist.cons_cons _ ?_ | refine List.Sublist.cons _ ?_)) (by simp) (List.nil_sublist _))⟩
  case round =>
    clear K
    obtain ⟨k, M, A', c', B', d', hk, rfl, hmm, hmu, hcs, K⟩ := hrel
    have FM' : Hid (FineC M.cs) := hid (by rw [hcs.out]; exact FI.out)
    have N9 : Hid (M.ls.length ≤ 1000000000) := hid (by have := (mayL_parts hmm.out).2.2.1; omega)
    have O9 : Hid (M.cs.length ≤ 1000000000) := hid (by rw [hcs.out]; exact C9.out)
    by_cases hlt : k < N
    · have hi : (k : Int) < (N : Int) := by omega
      obtain ⟨f1, f2, f3, f4⟩ := free_step hmm.out (by have := hmu.out; omega)
      obtain ⟨M2, hM2⟩ : ∃ x, (freeL M).1 = x := ⟨_, rfl⟩
      have EQ : Hid (freeL M = (M2, 0)) := hid (Prod.ext hM2 f1)
      rw [hM2] at f2 f3 f4
      have F2 := hid f2
      have F3 := hid f3
      have F4 := hid f4
      clear f1 f2 f3 f4 hM2
      go_wp2_with (first
        | ((with_reducible show wpList _ _ _ _ _ _); refine Tryd.klLoad (by rfl) _ (by rfl) K (by rfl) (by repeat (first | exact List.mem_cons_self | refine List.mem_cons_of_mem _ ?_)) ?_)
        | (go_at_call 32; (with_reducible refine (lFree_any M A' _ c' B' _ d' _ rfl rfl _ (K.out.at_ (r := ⟨M, A', B'⟩) (by simp)) N9.out O9.out FM'.out (Utf8Tabs_below T.out K.out.b)).mono ?_); rintro e W3 hc; unfold RetLnE at hc; rw [EQ.out] at hc; dsimp only at hc; obtain ⟨A3, c3, B3, d3, rfl, le1, le2, wr3, hb3⟩ := hc; simp only [lnV]; clear le1 le2; (have K2 := hid (K.out.add hb3 wr3)); clear hb3 wr3 K; (have K := K2); clear K2)
        | ((with_reducible show wpList _ _ _ _ _ _); refine Tryd.klAlloc (by rfl) (by rfl) (some 17) (by rfl) K ?_; intro g17 V1 K1; clear K; (have K := K1); clear K1)
        | ((with_reducible show wpList _ _ _ _ _ _); refine Tryd.klStore (by rfl) (.tmp 17) _ (by rfl) [] (by exact K) (by rfl) (by rfl) (by exact ⟨rfl, rfl, rfl, rfl⟩) ?_; intro V2 K1; (dsimp only [List.cons_append, List.nil_append] at K1); clear K; (have K := K1); clear K1)
        | ((with_reducible show wpList _ _ _ _ _ _); refine Tryd.klStore (by rfl) (.tmp 15) _ (by rfl) [_] (by exact K) (by rfl) (by rfl) (by exact ⟨rfl, rfl, rfl, rfl⟩) ?_; intro V2 K1; (dsimp only [List.cons_append, List.nil_append] at K1); clear K; (have K := K1); clear K1))
      go_roundw
      case rel => exact ⟨k + 1, M2, A3, c3, B3, d3, by omega, by go_num, F2, hid (by have := F3.out; have := hmu.out; omega), hid (F4.out.trans hcs.out), hid (K.out.less (by simp) (by simp) (List.Sublist.refl _))⟩
      case measure => simp [intOf]; omega
    · have hi : ¬ (k : Int) < (N : Int) := by omega
      obtain ⟨f1, f2, f3, f4⟩ := free_end hmm.out (by have := hmu.out; omega)
      obtain rfl : M = ⟨0, [], 0, l.cs⟩ := Ln.ext' f2 f3 f4 hcs.out
      have EQ := hid f1
      clear f1 f2 f3 f4 hcs hmu hmm
      dsimp only at K N9 O9 FM'
      go_wp2_with (first
        | ((with_reducible show wpList _ _ _ _ _ _); refine Tryd.klLoad (by rfl) _ (by rfl) K (by rfl) (by repeat (first | exact List.mem_cons_self | refine List.mem_cons_of_mem _ ?_)) ?_)
        | (go_at_call 32; refine (lFree_any ⟨0, [], 0, l.cs⟩ A' _ c' B' _ d' _ rfl rfl _ (K.out.at_ (r := ⟨⟨0, [], 0, l.cs⟩, A', B'⟩) (by simp)) N9.out O9.out FM'.out (Utf8Tabs_below T.out K.out.b)).mono ?_; rintro e W3 hc; unfold RetLnE at hc; rw [EQ.out] at hc; dsimp only at hc; obtain ⟨A19, c19, B19, d19, rfl, -, -, wr3, hb3⟩ := hc; simp only [lnV]; (have K2 := hid (K.out.add hb3 wr3)); clear hb3 wr3 K; (have K := K2); clear K2)
        | ((with_reducible show wpList _ _ _ _ _ _); refine Tryd.klAlloc (by rfl) (by rfl) (some 19) (by rfl) K ?_; intro g19 V1 K1; clear K; (have K := K1); clear K1)
        | ((with_reducible show wpList _ _ _ _ _ _); refine Tryd.klStore (by rfl) (.tmp 19) _ (by rfl) [] (by exact K) (by rfl) (by rfl) (by exact ⟨rfl, rfl, rfl, rfl⟩) ?_; intro V2 K1; (dsimp only [List.cons_append, List.nil_append] at K1); clear K; (have K := K1); clear K1; obtain ⟨⟨_, _, _, _⟩, _, _, _, _⟩ := K.out.cellsOf (g := g15) (by repeat (first | exact List.mem_cons_self | refine List.mem_cons_of_mem _ ?_)); obtain ⟨⟨_, _, _, _⟩, _, _, _, _⟩ := K.out.cellsOf (g := g1) (by repeat (first | exact List.mem_cons_self | refine List.mem_cons_of_mem _ ?_)))
        | (go_at_call 34; (with_reducible refine (refSame_any B' B l.cs l.cs _ _ d' d _ _ rfl rfl _ (K.out.at_ (r := ⟨⟨0, [], 0, l.cs⟩, A', B'⟩) (by simp)).cs (K.out.at_ (r := ⟨l, A, B⟩) (by simp)).cs C9.out).mono ?_); rintro e w6 ⟨rfl, hq⟩; rw [decide_eq_true (rfl : l.cs = l.cs)]; (have K2 := hid (K.out.quiet hq)); clear hq K; (have K := K2); clear K2)
        | (go_at_call 10; (with_reducible refine (lAwake_any _ (Utf8Tabs_below T.out K.out.b)).mono ?_); rintro e W9 ⟨rfl, hb⟩; (have K2 := hid (K.out.later hb)); clear hb K; (have K := K2); clear K2))
      go_ret
      exact ⟨rfl, K.out.b⟩
set_option maxRecDepth 100000 in
set_option maxHeartbeats 16000000 in
theorem linesBack_100 (w : World) {l : Ln} {A : Option Addr} {c : Nat} {B : Option Addr} {d : Nat} (hat : LnAt w w.heap.size l A B) (b1 : l.ls.length ≤ 1000000000000000) (b2 : l.cs.length ≤ 1000000000000000) (hz : ∀ x ∈ l.cs, x.h.size ≤ 1000000000000000) (hlong : longL l = false) (l1 : l.ls.length ≤ 1000) (l2 : l.cs.length ≤ 20000) (fi : FineC l.cs) (hmay : mayL l = true) (at_ : Int) (hi : (indentL l).2 = 0) (hs : splitE l at_ ≠ 0) (hk : ¬ 0 < l.k) (hT : Tb w) :
    Calls Tryd.prog 7 #[.agg #[.int .i64 l.q, .slice A l.ls.length c, .int .i64 l.k, .slice B l.cs.length d], .int .i64 at_] w fun e w' => e = .returned (.bool true) ∧ Below w.heap.size w w' := by
  have T := hid hT
  have HZ := hid hz
  have HL := hid hlong
  have FI := hid fi
  have MB := hid hmay
  have B9 : Hid (l.ls.length ≤ 1000000000) := hid (by omega)
  have C9 : Hid (l.cs.length ≤ 1000000000) := hid (by omega)
  have K := hid (KL.start w [⟨l, A, B⟩] (by simpa using hat))
  obtain ⟨p1, p2, p3, p4, p5, p6, p7, p8⟩ := mayL_parts hmay
  have mu1 : mu l = l.ls.length + l.q.toNat + (if 0 < l.k then 1 else 0) := rfl
  obtain ⟨N, hN⟩ : ∃ N, mu l = N := ⟨_, rfl⟩
  rw [if_neg hk, hN] at mu1
  have e1 : IntKind.i64.wrap ((l.ls.length : Int) + l.q) = (N : Int) := by rw [show (l.ls.length : Int) + l.q = (N : Int) from by omega]; exact IntWalk.i64_in _ (by omega)
  have g0 : ¬ (0 : Int) < l.k := hk
  obtain ⟨M1, hM1⟩ : ∃ x, (indentL l).1 = x := ⟨_, rfl⟩
  have hI : indentL l = (M1, 0) := Prod.ext hM1 hi
  have IND := hid hI
  obtain ⟨ho, hmm, hcc⟩ := indent_outdent hI
  have OUT := hid ho
  have I9 : Hid (M1.ls.length ≤ 1000000000) := hid (by have := (mayL_parts hmm).2.2.1; omega)
  have J9 : Hid (M1.cs.length ≤ 1000000000) := hid (by rw [hcc]; omega)
  have FM : Hid (FineC M1.cs) := hid (by rw [hcc]; exact fi)
  clear hM1 hI ho hmm hcc
  obtain ⟨ha, hb, he⟩ := split_no hs
  have SA := hid ha
  have SB := hid hb
  have SE := hid he
  clear ha hb he
  have hNb : N ≤ 13 := by omega
  have HN := hid hN
  clear hT hz hlong l1 l2 fi hmay hat hi hs hk p1 p2 p3 p4 p5 p6 p7 p8 mu1 hN
  go_enter Tryd.func7, Tryd.ntmps7
  go_wp2_with (first
    | ((with_reducible show wpList _ _ _ _ _ _); refine Tryd.klBox (by rfl) _ (by rfl) (some 2) (by rfl) (by rfl) K ?_; intro g1 V1 K1; clear K; (have K := K1); clear K1)
    | ((with_reducible show wpList _ _ _ _ _ _); refine Tryd.klLoad (by rfl) _ (by rfl) K (by rfl) (by repeat (first | exact List.mem_cons_self | refine List.mem_cons_of_mem _ ?_)) ?_)
    | (go_at_call 9; (with_reducible refine (lLong_any l A _ c B _ d _ rfl rfl _ (K.out.at_ (r := ⟨l, A, B⟩) (by simp)) b1 b2 HZ.out).mono ?_); rintro e W1 ⟨rfl, hb⟩; rw [HL.out]; (have K2 := hid (K.out.later hb)); clear hb K; (have K := K2); clear K2)
    | (go_at_call 18; (with_reducible refine (lMay_any l A _ c B _ d _ rfl rfl _ (K.out.at_ (r := ⟨l, A, B⟩) (by simp)) B9.out C9.out FI.out (Utf8Tabs_below T.out K.out.b)).mono ?_); rintro e W2 ⟨rfl, hb⟩; rw [MB.out]; (have K2 := hid (K.out.later hb)); clear hb K; (have K := K2); clear K2)
    | (go_at_call 24; (with_reducible refine (lIndent_any l A _ c B _ d _ rfl rfl _ (K.out.at_ (r := ⟨l, A, B⟩) (by simp)) B9.out C9.out FI.out (Utf8Tabs_below T.out K.out.b)).mono ?_); rintro e W3 hc; unfold RetLnE at hc; rw [IND.out] at hc; dsimp only at hc; obtain ⟨A5, c5, B5, d5, rfl, le1, le2, wr3, hb3⟩ := hc; simp only [lnV]; clear le1 le2; (have K2 := hid (K.out.add hb3 wr3)); clear hb3 wr3 K; (have K := K2); clear K2)
    | ((with_reducible show wpList _ _ _ _ _ _); refine Tryd.klAlloc (by rfl) (by rfl) (some 5) (by rfl) K ?_; intro g5 V1 K1; clear K; (have K := K1); clear K1)
    | ((with_reducible show wpList _ _ _ _ _ _); refine Tryd.klStore (by rfl) (.tmp 5) _ (by rfl) [] (by exact K) (by rfl) (by rfl) (by exact ⟨rfl, rfl, rfl, rfl⟩) ?_; intro V2 K1; (dsimp only [List.cons_append, List.nil_append] at K1); clear K; (have K := K1); clear K1)
    | (go_at_call 25; (with_reducible refine (lOutdent_any M1 A5 _ c5 B5 _ d5 _ rfl rfl _ (K.out.at_ (r := ⟨M1, A5, B5⟩) (by simp)) I9.out J9.out FM.out (Utf8Tabs_below T.out K.out.b)).mono ?_); rintro e W3 hc; unfold RetLnE at hc; rw [OUT.out] at hc; dsimp only at hc; obtain ⟨A7, c7, B7, d7, rfl, le1, le2, wr3, hb3⟩ := hc; simp only [lnV]; clear le1 le2; (have K2 := hid (K.out.add hb3 wr3)); clear hb3 wr3 K; (have K := K2); clear K2)
    | ((with_reducible show wpList _ _ _ _ _ _); refine Tryd.klAlloc (by rfl) (by rfl) (some 7) (by rfl) K ?_; intro g7 V1 K1; clear K; (have K := K1); clear K1)
    | ((with_reducible show wpList _ _ _ _ _ _); refine Tryd.klStore (by rfl) (.tmp 7) _ (by rfl) [] (by exact K) (by rfl) (by rfl) (by exact ⟨rfl, rfl, rfl, rfl⟩) ?_; intro V2 K1; (dsimp only [List.cons_append, List.nil_append] at K1); clear K; (have K := K1); clear K1)
    | (go_at_call 20; (with_reducible refine (lSame_any l l A7 _ c7 B7 _ d7 A _ c B _ d _ _ rfl rfl rfl rfl _ (K.out.at_ (r := ⟨l, A7, B7⟩) (by simp)) (K.out.at_ (r := ⟨l, A, B⟩) (by simp)) B9.out C9.out).mono ?_); rintro e W4 ⟨rfl, hb⟩; rw [decide_eq_true (rfl : l = l)]; (have K2 := hid (K.out.later hb)); clear hb K; (have K := K2); clear K2)
    | (go_at_call 12; (with_reducible refine (lSplit_any l A _ c B _ d _ rfl rfl _ (K.out.at_ (r := ⟨l, A, B⟩) (by simp)) B9.out C9.out FI.out (Utf8Tabs_below T.out K.out.b) at_).mono ?_); rintro e W3 hc; unfold RetSplit at hc; rw [SA.out, SB.out, SE.out] at hc; obtain ⟨A91, c91, X91, d91, A92, c92, X92, d92, rfl, w1, w2, ap, -, hb3⟩ := hc; simp only [lnV]; clear w1 w2 ap; (have K2 := hid (K.out.later hb3)); clear hb3 K; (have K := K2); clear K2)
    | ((with_reducible show wpList _ _ _ _ _ _); refine Tryd.klAlloc (by rfl) (by rfl) (some 9) (by rfl) K ?_; intro g9 V1 K1; clear K; (have K := K1); clear K1)
    | ((with_reducible show wpList _ _ _ _ _ _); refine Tryd.klAlloc (by rfl) (by rfl) (some 10) (by rfl) K ?_; intro g10 V1 K1; clear K; (have K := K1); clear K1)
    | ((with_reducible show wpList _ _ _ _ _ _); refine Tryd.klStore (by rfl) (.tmp 9) _ (by rfl) [_] (by exact K) (by rfl) (by rfl) (by exact ⟨rfl, rfl, rfl, rfl⟩) ?_; intro V2 K1; (dsimp only [List.cons_append, List.nil_append] at K1); clear K; (have K := K1); clear K1)
    | ((with_reducible show wpList _ _ _ _ _ _); refine Tryd.klStore (by rfl) (.tmp 10) _ (by rfl) [] (by exact K) (by rfl) (by rfl) (by exact ⟨rfl, rfl, rfl, rfl⟩) ?_; intro V2 K1; (dsimp only [List.cons_append, List.nil_append] at K1); clear K; (have K := K1); clear K1; obtain ⟨⟨_, _, _, _⟩, _, _, _, _⟩ := K.out.cellsOf (g := g1) (by repeat (first | exact List.mem_cons_self | refine List.mem_cons_of_mem _ ?_)))
    | ((with_reducible show wpList _ _ _ _ _ _); refine Tryd.klAlloc (by rfl) (by rfl) (some 15) (by rfl) K ?_; intro g15 V1 K1; clear K; (have K := K1); clear K1)
    | ((with_reducible show wpList _ _ _ _ _ _); refine Tryd.klStore (by rfl) (.tmp 15) _ (by rfl) [] (by exact K) (by rfl) (by rfl) (by exact ⟨rfl, rfl, rfl, rfl⟩) ?_; intro V2 K1; (dsimp only [List.cons_append, List.nil_append] at K1); clear K; (have K := K1); clear K1))
  go_loopw [16] (fun i wr => ∃ (k : Nat) (M : Ln) (A' : Option Addr) (c' : Nat) (B' : Option Addr) (d' : Nat), k ≤ N ∧ i = .int .i64 k ∧ Hid (mayL M = true) ∧ Hid (mu M + k = N) ∧ Hid (M.cs = l.cs) ∧ Hid (KL w wr [⟨g15, .int .i64 M.q, .slice A' M.ls.length c', .int .i64 M.k, .slice B' M.cs.length d'⟩, ⟨g1, .int .i64 l.q, .slice A l.ls.length c, .int .i64 l.k, .slice B l.cs.length d⟩] [⟨M, A', B'⟩, ⟨l, A, B⟩] [])) (fun i _ => N - (intOf i).toNat)
  case atStart => exact ⟨0, l, A, c, B, d, Nat.zero_le _, rfl, MB, HN, hid rfl, hid (K.out.less (by repeat (first | exact List.Sublist.slnil | refine List.Sublist.cons_cons _ ?_ | refine List.Sublist.cons _ ?_)) (by simp) (List.nil_sublist _))⟩
  case round =>
    clear K
    obtain ⟨k, M, A', c', B', d', hk, rfl, hmm, hmu, hcs, K⟩ := hrel
    have FM' : Hid (FineC M.cs) := hid (by rw [hcs.out]; exact FI.out)
    have N9 : Hid (M.ls.length ≤ 1000000000) := hid (by have := (mayL_parts hmm.out).2.2.1; omega)
    have O9 : Hid (M.cs.length ≤ 1000000000) := hid (by rw [hcs.out]; exact C9.out)
    by_cases hlt : k < N
    · have hi : (k : Int) < (N : Int) := by omega
      obtain ⟨f1, f2, f3, f4⟩ := free_step hmm.out (by have := hmu.out; omega)
      obtain ⟨M2, hM2⟩ : ∃ x, (freeL M).1 = x := ⟨_, rfl⟩
      have EQ : Hid (freeL M = (M2, 0)) := hid (Prod.ext hM2 f1)
      rw [hM2] at f2 f3 f4
      have F2 := hid f2
      have F3 := hid f3
      have F4 := hid f4
      clear f1 f2 f3 f4 hM2
      go_wp2_with (first
        | ((with_reducible show wpList _ _ _ _ _ _); refine Tryd.klLoad (by rfl) _ (by rfl) K (by rfl) (by repeat (first | exact List.mem_cons_self | refine List.mem_cons_of_mem _ ?_)) ?_)
        | (go_at_call 32; (with_reducible refine (lFree_any M A' _ c' B' _ d' _ rfl rfl _ (K.out.at_ (r := ⟨M, A', B'⟩) (by simp)) N9.out O9.out FM'.out (Utf8Tabs_below T.out K.out.b)).mono ?_); rintro e W3 hc; unfold RetLnE at hc; rw [EQ.out] at hc; dsimp only at hc; obtain ⟨A3, c3, B3, d3, rfl, le1, le2, wr3, hb3⟩ := hc; simp only [lnV]; clear le1 le2; (have K2 := hid (K.out.add hb3 wr3)); clear hb3 wr3 K; (have K := K2); clear K2)
        | ((with_reducible show wpList _ _ _ _ _ _); refine Tryd.klAlloc (by rfl) (by rfl) (some 17) (by rfl) K ?_; intro g17 V1 K1; clear K; (have K := K1); clear K1)
        | ((with_reducible show wpList _ _ _ _ _ _); refine Tryd.klStore (by rfl) (.tmp 17) _ (by rfl) [] (by exact K) (by rfl) (by rfl) (by exact ⟨rfl, rfl, rfl, rfl⟩) ?_; intro V2 K1; (dsimp only [List.cons_append, List.nil_append] at K1); clear K; (have K := K1); clear K1)
        | ((with_reducible show wpList _ _ _ _ _ _); refine Tryd.klStore (by rfl) (.tmp 15) _ (by rfl) [_] (by exact K) (by rfl) (by rfl) (by exact ⟨rfl, rfl, rfl, rfl⟩) ?_; intro V2 K1; (dsimp only [List.cons_append, List.nil_append] at K1); clear K; (have K := K1); clear K1))
      go_roundw
      case rel => exact ⟨k + 1, M2, A3, c3, B3, d3, by omega, by go_num, F2, hid (by have := F3.out; have := hmu.out; omega), hid (F4.out.trans hcs.out), hid (K.out.less (by simp) (by simp) (List.Sublist.refl _))⟩
      case measure => simp [intOf]; omega
    · have hi : ¬ (k : Int) < (N : Int) := by omega
      obtain ⟨f1, f2, f3, f4⟩ := free_end hmm.out (by have := hmu.out; omega)
      obtain rfl : M = ⟨0, [], 0, l.cs⟩ := Ln.ext' f2 f3 f4 hcs.out
      have EQ := hid f1
      clear f1 f2 f3 f4 hcs hmu hmm
      dsimp only at K N9 O9 FM'
      go_wp2_with (first
        | ((with_reducible show wpList _ _ _ _ _ _); refine Tryd.klLoad (by rfl) _ (by rfl) K (by rfl) (by repeat (first | exact List.mem_cons_self | refine List.mem_cons_of_mem _ ?_)) ?_)
        | (go_at_call 32; refine (lFree_any ⟨0, [], 0, l.cs⟩ A' _ c' B' _ d' _ rfl rfl _ (K.out.at_ (r := ⟨⟨0, [], 0, l.cs⟩, A', B'⟩) (by simp)) N9.out O9.out FM'.out (Utf8Tabs_below T.out K.out.b)).mono ?_; rintro e W3 hc; unfold RetLnE at hc; rw [EQ.out] at hc; dsimp only at hc; obtain ⟨A19, c19, B19, d19, rfl, -, -, wr3, hb3⟩ := hc; simp only [lnV]; (have K2 := hid (K.out.add hb3 wr3)); clear hb3 wr3 K; (have K := K2); clear K2)
        | ((with_reducible show wpList _ _ _ _ _ _); refine Tryd.klAlloc (by rfl) (by rfl) (some 19) (by rfl) K ?_; intro g19 V1 K1; clear K; (have K := K1); clear K1)
        | ((with_reducible show wpList _ _ _ _ _ _); refine Tryd.klStore (by rfl) (.tmp 19) _ (by rfl) [] (by exact K) (by rfl) (by rfl) (by exact ⟨rfl, rfl, rfl, rfl⟩) ?_; intro V2 K1; (dsimp only [List.cons_append, List.nil_append] at K1); clear K; (have K := K1); clear K1; obtain ⟨⟨_, _, _, _⟩, _, _, _, _⟩ := K.out.cellsOf (g := g15) (by repeat (first | exact List.mem_cons_self | refine List.mem_cons_of_mem _ ?_)); obtain ⟨⟨_, _, _, _⟩, _, _, _, _⟩ := K.out.cellsOf (g := g1) (by repeat (first | exact List.mem_cons_self | refine List.mem_cons_of_mem _ ?_)))
        | (go_at_call 34; (with_reducible refine (refSame_any B' B l.cs l.cs _ _ d' d _ _ rfl rfl _ (K.out.at_ (r := ⟨⟨0, [], 0, l.cs⟩, A', B'⟩) (by simp)).cs (K.out.at_ (r := ⟨l, A, B⟩) (by simp)).cs C9.out).mono ?_); rintro e w6 ⟨rfl, hq⟩; rw [decide_eq_true (rfl : l.cs = l.cs)]; (have K2 := hid (K.out.quiet hq)); clear hq K; (have K := K2); clear K2)
        | (go_at_call 10; (with_reducible refine (lAwake_any _ (Utf8Tabs_below T.out K.out.b)).mono ?_); rintro e W9 ⟨rfl, hb⟩; (have K2 := hid (K.out.later hb)); clear hb K; (have K := K2); clear K2))
      go_ret
      exact ⟨rfl, K.out.b⟩
set_option maxRecDepth 100000 in
set_option maxHeartbeats 16000000 in
theorem linesBack_011 (w : World) {l : Ln} {A : Option Addr} {c : Nat} {B : Option Addr} {d : Nat} (hat : LnAt w w.heap.size l A B) (b1 : l.ls.length ≤ 1000000000000000) (b2 : l.cs.length ≤ 1000000000000000) (hz : ∀ x ∈ l.cs, x.h.size ≤ 1000000000000000) (hlong : longL l = false) (l1 : l.ls.length ≤ 1000) (l2 : l.cs.length ≤ 20000) (fi : FineC l.cs) (hmay : mayL l = true) (at_ : Int) (hi : (indentL l).2 ≠ 0) (hs : splitE l at_ = 0) (hk : 0 < l.k) (hT : Tb w) :
    Calls Tryd.prog 7 #[.agg #[.int .i64 l.q, .slice A l.ls.length c, .int .i64 l.k, .slice B l.cs.length d], .int .i64 at_] w fun e w' => e = .returned (.bool true) ∧ Below w.heap.size w w' := by
  have T := hid hT
  have HZ := hid hz
  have HL := hid hlong
  have FI := hid fi
  have MB := hid hmay
  have B9 : Hid (l.ls.length ≤ 1000000000) := hid (by omega)
  have C9 : Hid (l.cs.length ≤ 1000000000) := hid (by omega)
  have K := hid (KL.start w [⟨l, A, B⟩] (by simpa using hat))
  obtain ⟨p1, p2, p3, p4, p5, p6, p7, p8⟩ := mayL_parts hmay
  have mu1 : mu l = l.ls.length + l.q.toNat + (if 0 < l.k then 1 else 0) := rfl
  obtain ⟨N, hN⟩ : ∃ N, mu l = N := ⟨_, rfl⟩
  rw [if_pos hk, hN] at mu1
  have e1 : IntKind.i64.wrap ((l.ls.length : Int) + l.q) = (l.ls.length : Int) + l.q := IntWalk.i64_in _ (by omega)
  have e2 : IntKind.i64.wrap ((l.ls.length : Int) + l.q + 1) = (N : Int) := by rw [show (l.ls.length : Int) + l.q + 1 = (N : Int) from by omega]; exact IntWalk.i64_in _ (by omega)
  have g0 : (0 : Int) < l.k := hk
  have IND := hid (indent_no hmay hi)
  obtain ⟨hj, hmb⟩ := split_join hs
  obtain ⟨s1, s2, s3, s4, s5, s6⟩ := split_sizes hs
  obtain ⟨a, ha⟩ : ∃ x, splitA l at_ = x := ⟨_, rfl⟩
  obtain ⟨b, hb⟩ : ∃ x, splitB l at_ = x := ⟨_, rfl⟩
  rw [ha] at hj s1 s3 s5
  rw [hb] at hj hmb s2 s4 s6
  have SA := hid ha
  have SB := hid hb
  have SE := hid hs
  have JN := hid hj
  have MBB := hid hmb
  have AL : Hid (a.ls.length ≤ 1000000000) := hid (by rw [s1]; omega)
  have AC : Hid (a.cs.length ≤ 1000000000) := hid (by omega)
  have BL : Hid (b.ls.length ≤ 1000000000) := hid (by rw [s2]; omega)
  have BC : Hid (b.cs.length ≤ 1000000000) := hid (by omega)
  have FA : Hid (FineC a.cs) := hid (fun x hx => fi x (s5 x hx))
  have FB : Hid (FineC b.cs) := hid (fun x hx => fi x (s6 x hx))
  clear hj hmb s1 s2 s3 s4 s5 s6 ha hb
  have hNb : N ≤ 13 := by omega
  have HN := hid hN
  clear hT hz hlong l1 l2 fi hmay hat hi hs hk p1 p2 p3 p4 p5 p6 p7 p8 mu1 hN
  go_enter Tryd.func7, Tryd.ntmps7
  go_wp2_with (first
    | ((with_reducible show wpList _ _ _ _ _ _); refine Tryd.klBox (by rfl) _ (by rfl) (some 2) (by rfl) (by rfl) K ?_; intro g1 V1 K1; clear K; (have K := K1); clear K1)
    | ((with_reducible show wpList _ _ _ _ _ _); refine Tryd.klLoad (by rfl) _ (by rfl) K (by rfl) (by repeat (first | exact List.mem_cons_self | refine List.mem_cons_of_mem _ ?_)) ?_)
    | (go_at_call 9; (with_reducible refine (lLong_any l A _ c B _ d _ rfl rfl _ (K.out.at_ (r := ⟨l, A, B⟩) (by simp)) b1 b2 HZ.out).mono ?_); rintro e W1 ⟨rfl, hb⟩; rw [HL.out]; (have K2 := hid (K.out.later hb)); clear hb K; (have K := K2); clear K2)
    | (go_at_call 18; (with_reducible refine (lMay_any l A _ c B _ d _ rfl rfl _ (K.out.at_ (r := ⟨l, A, B⟩) (by simp)) B9.out C9.out FI.out (Utf8Tabs_below T.out K.out.b)).mono ?_); rintro e W2 ⟨rfl, hb⟩; rw [MB.out]; (have K2 := hid (K.out.later hb)); clear hb K; (have K := K2); clear K2)
    | (go_at_call 24; (with_reducible refine (lIndent_any l A _ c B _ d _ rfl rfl _ (K.out.at_ (r := ⟨l, A, B⟩) (by simp)) B9.out C9.out FI.out (Utf8Tabs_below T.out K.out.b)).mono ?_); rintro e W3 hc; unfold RetLnE at hc; rw [IND.out] at hc; dsimp only at hc; obtain ⟨A5, c5, B5, d5, rfl, le1, le2, wr3, hb3⟩ := hc; simp only [lnV]; clear le1 le2; (have K2 := hid (K.out.add hb3 wr3)); clear hb3 wr3 K; (have K := K2); clear K2)
    | ((with_reducible show wpList _ _ _ _ _ _); refine Tryd.klAlloc (by rfl) (by rfl) (some 5) (by rfl) K ?_; intro g5 V1 K1; clear K; (have K := K1); clear K1)
    | ((with_reducible show wpList _ _ _ _ _ _); refine Tryd.klStore (by rfl) (.tmp 5) _ (by rfl) [] (by exact K) (by rfl) (by rfl) (by exact ⟨rfl, rfl, rfl, rfl⟩) ?_; intro V2 K1; (dsimp only [List.cons_append, List.nil_append] at K1); clear K; (have K := K1); clear K1)
    | (go_at_call 12; (with_reducible refine (lSplit_any l A _ c B _ d _ rfl rfl _ (K.out.at_ (r := ⟨l, A, B⟩) (by simp)) B9.out C9.out FI.out (Utf8Tabs_below T.out K.out.b) at_).mono ?_); rintro e W3 hc; unfold RetSplit at hc; rw [SA.out, SB.out, SE.out] at hc; obtain ⟨A91, c91, X91, d91, A92, c92, X92, d92, rfl, w1, w2, ap, -, hb3⟩ := hc; simp only [lnV]; (have K2 := hid (K.out.addW2 hb3 w1 w2 ap)); clear hb3 w1 w2 ap K; (have K := K2); clear K2)
    | ((with_reducible show wpList _ _ _ _ _ _); refine Tryd.klAlloc (by rfl) (by rfl) (some 9) (by rfl) K ?_; intro g9 V1 K1; clear K; (have K := K1); clear K1)
    | ((with_reducible show wpList _ _ _ _ _ _); refine Tryd.klAlloc (by rfl) (by rfl) (some 10) (by rfl) K ?_; intro g10 V1 K1; clear K; (have K := K1); clear K1)
    | ((with_reducible show wpList _ _ _ _ _ _); refine Tryd.klStore (by rfl) (.tmp 9) _ (by rfl) [_] (by exact K) (by rfl) (by rfl) (by exact ⟨rfl, rfl, rfl, rfl⟩) ?_; intro V2 K1; (dsimp only [List.cons_append, List.nil_append] at K1); clear K; (have K := K1); clear K1)
    | ((with_reducible show wpList _ _ _ _ _ _); refine Tryd.klStore (by rfl) (.tmp 10) _ (by rfl) [] (by exact K) (by rfl) (by rfl) (by exact ⟨rfl, rfl, rfl, rfl⟩) ?_; intro V2 K1; (dsimp only [List.cons_append, List.nil_append] at K1); clear K; (have K := K1); clear K1)
    | (go_at_call 15; (with_reducible refine (lJoin_any a b A91 c91 X91 d91 _ A92 c92 X92 d92 _ _ (K.out.atW (r := ⟨a, A91, X91⟩) (by simp)) (K.out.atW (r := ⟨b, A92, X92⟩) (by simp)) AL.out AC.out BL.out BC.out FA.out FB.out (Utf8Tabs_below T.out K.out.b)).mono ?_); rintro e W3 hc; unfold RetLnE at hc; rw [JN.out] at hc; dsimp only at hc; obtain ⟨A12, c12, B12, d12, rfl, -, -, wr3, hb3⟩ := hc; simp only [lnV]; (have K2 := hid (K.out.add hb3 wr3)); clear hb3 wr3 K; (have K := K2); clear K2)
    | ((with_reducible show wpList _ _ _ _ _ _); refine Tryd.klAlloc (by rfl) (by rfl) (some 12) (by rfl) K ?_; intro g12 V1 K1; clear K; (have K := K1); clear K1)
    | ((with_reducible show wpList _ _ _ _ _ _); refine Tryd.klStore (by rfl) (.tmp 12) _ (by rfl) [] (by exact K) (by rfl) (by rfl) (by exact ⟨rfl, rfl, rfl, rfl⟩) ?_; intro V2 K1; (dsimp only [List.cons_append, List.nil_append] at K1); clear K; (have K := K1); clear K1)
    | (go_at_call 20; (with_reducible refine (lSame_any l l A12 _ c12 B12 _ d12 A _ c B _ d _ _ rfl rfl rfl rfl _ (K.out.at_ (r := ⟨l, A12, B12⟩) (by simp)) (K.out.at_ (r := ⟨l, A, B⟩) (by simp)) B9.out C9.out).mono ?_); rintro e W4 ⟨rfl, hb⟩; rw [decide_eq_true (rfl : l = l)]; (have K2 := hid (K.out.later hb)); clear hb K; (have K := K2); clear K2)
    | (go_at_call 18; (with_reducible refine (lMay_any b A92 _ c92 X92 _ d92 _ rfl rfl _ (K.out.atW (r := ⟨b, A92, X92⟩) (by simp)) BL.out BC.out FB.out (Utf8Tabs_below T.out K.out.b)).mono ?_); rintro e W2 ⟨rfl, hb⟩; rw [MBB.out]; (have K2 := hid (K.out.later hb)); clear hb K; (have K := K2); clear K2; obtain ⟨⟨_, _, _, _⟩, _, _, _, _⟩ := K.out.cellsOf (g := g1) (by repeat (first | exact List.mem_cons_self | refine List.mem_cons_of_mem _ ?_)))
    | ((with_reducible show wpList _ _ _ _ _ _); refine Tryd.klAlloc (by rfl) (by rfl) (some 15) (by rfl) K ?_; intro g15 V1 K1; clear K; (have K := K1); clear K1)
    | ((with_reducible show wpList _ _ _ _ _ _); refine Tryd.klStore (by rfl) (.tmp 15) _ (by rfl) [] (by exact K) (by rfl) (by rfl) (by exact ⟨rfl, rfl, rfl, rfl⟩) ?_; intro V2 K1; (dsimp only [List.cons_append, List.nil_append] at K1); clear K; (have K := K1); clear K1))
  go_loopw [16] (fun i wr => ∃ (k : Nat) (M : Ln) (A' : Option Addr) (c' : Nat) (B' : Option Addr) (d' : Nat), k ≤ N ∧ i = .int .i64 k ∧ Hid (mayL M = true) ∧ Hid (mu M + k = N) ∧ Hid (M.cs = l.cs) ∧ Hid (KL w wr [⟨g15, .int .i64 M.q, .slice A' M.ls.length c', .int .i64 M.k, .slice B' M.cs.length d'⟩, ⟨g1, .int .i64 l.q, .slice A l.ls.length c, .int .i64 l.k, .slice B l.cs.length d⟩] [⟨M, A', B'⟩, ⟨l, A, B⟩] [])) (fun i _ => N - (intOf i).toNat)
  case atStart => exact ⟨0, l, A, c, B, d, Nat.zero_le _, rfl, MB, HN, hid rfl, hid (K.out.less (by repeat (first | exact List.Sublist.slnil | refine List.Sublist.cons_cons _ ?_ | refine List.Sublist.cons _ ?_)) (by simp) (List.nil_sublist _))⟩
  case round =>
    clear K
    obtain ⟨k, M, A', c', B', d', hk, rfl, hmm, hmu, hcs, K⟩ := hrel
    have FM' : Hid (FineC M.cs) := hid (by rw [hcs.out]; exact FI.out)
    have N9 : Hid (M.ls.length ≤ 1000000000) := hid (by have := (mayL_parts hmm.out).2.2.1; omega)
    have O9 : Hid (M.cs.length ≤ 1000000000) := hid (by rw [hcs.out]; exact C9.out)
    by_cases hlt : k < N
    · have hi : (k : Int) < (N : Int) := by omega
      obtain ⟨f1, f2, f3, f4⟩ := free_step hmm.out (by have := hmu.out; omega)
      obtain ⟨M2, hM2⟩ : ∃ x, (freeL M).1 = x := ⟨_, rfl⟩
      have EQ : Hid (freeL M = (M2, 0)) := hid (Prod.ext hM2 f1)
      rw [hM2] at f2 f3 f4
      have F2 := hid f2
      have F3 := hid f3
      have F4 := hid f4
      clear f1 f2 f3 f4 hM2
      go_wp2_with (first
        | ((with_reducible show wpList _ _ _ _ _ _); refine Tryd.klLoad (by rfl) _ (by rfl) K (by rfl) (by repeat (first | exact List.mem_cons_self | refine List.mem_cons_of_mem _ ?_)) ?_)
        | (go_at_call 32; (with_reducible refine (lFree_any M A' _ c' B' _ d' _ rfl rfl _ (K.out.at_ (r := ⟨M, A', B'⟩) (by simp)) N9.out O9.out FM'.out (Utf8Tabs_below T.out K.out.b)).mono ?_); rintro e W3 hc; unfold RetLnE at hc; rw [EQ.out] at hc; dsimp only at hc; obtain ⟨A3, c3, B3, d3, rfl, le1, le2, wr3, hb3⟩ := hc; simp only [lnV]; clear le1 le2; (have K2 := hid (K.out.add hb3 wr3)); clear hb3 wr3 K; (have K := K2); clear K2)
        | ((with_reducible show wpList _ _ _ _ _ _); refine Tryd.klAlloc (by rfl) (by rfl) (some 17) (by rfl) K ?_; intro g17 V1 K1; clear K; (have K := K1); clear K1)
        | ((with_reducible show wpList _ _ _ _ _ _); refine Tryd.klStore (by rfl) (.tmp 17) _ (by rfl) [] (by exact K) (by rfl) (by rfl) (by exact ⟨rfl, rfl, rfl, rfl⟩) ?_; intro V2 K1; (dsimp only [List.cons_append, List.nil_append] at K1); clear K; (have K := K1); clear K1)
        | ((with_reducible show wpList _ _ _ _ _ _); refine Tryd.klStore (by rfl) (.tmp 15) _ (by rfl) [_] (by exact K) (by rfl) (by rfl) (by exact ⟨rfl, rfl, rfl, rfl⟩) ?_; intro V2 K1; (dsimp only [List.cons_append, List.nil_append] at K1); clear K; (have K := K1); clear K1))
      go_roundw
      case rel => exact ⟨k + 1, M2, A3, c3, B3, d3, by omega, by go_num, F2, hid (by have := F3.out; have := hmu.out; omega), hid (F4.out.trans hcs.out), hid (K.out.less (by simp) (by simp) (List.Sublist.refl _))⟩
      case measure => simp [intOf]; omega
    · have hi : ¬ (k : Int) < (N : Int) := by omega
      obtain ⟨f1, f2, f3, f4⟩ := free_end hmm.out (by have := hmu.out; omega)
      obtain rfl : M = ⟨0, [], 0, l.cs⟩ := Ln.ext' f2 f3 f4 hcs.out
      have EQ := hid f1
      clear f1 f2 f3 f4 hcs hmu hmm
      dsimp only at K N9 O9 FM'
      go_wp2_with (first
        | ((with_reducible show wpList _ _ _ _ _ _); refine Tryd.klLoad (by rfl) _ (by rfl) K (by rfl) (by repeat (first | exact List.mem_cons_self | refine List.mem_cons_of_mem _ ?_)) ?_)
        | (go_at_call 32; refine (lFree_any ⟨0, [], 0, l.cs⟩ A' _ c' B' _ d' _ rfl rfl _ (K.out.at_ (r := ⟨⟨0, [], 0, l.cs⟩, A', B'⟩) (by simp)) N9.out O9.out FM'.out (Utf8Tabs_below T.out K.out.b)).mono ?_; rintro e W3 hc; unfold RetLnE at hc; rw [EQ.out] at hc; dsimp only at hc; obtain ⟨A19, c19, B19, d19, rfl, -, -, wr3, hb3⟩ := hc; simp only [lnV]; (have K2 := hid (K.out.add hb3 wr3)); clear hb3 wr3 K; (have K := K2); clear K2)
        | ((with_reducible show wpList _ _ _ _ _ _); refine Tryd.klAlloc (by rfl) (by rfl) (some 19) (by rfl) K ?_; intro g19 V1 K1; clear K; (have K := K1); clear K1)
        | ((with_reducible show wpList _ _ _ _ _ _); refine Tryd.klStore (by rfl) (.tmp 19) _ (by rfl) [] (by exact K) (by rfl) (by rfl) (by exact ⟨rfl, rfl, rfl, rfl⟩) ?_; intro V2 K1; (dsimp only [List.cons_append, List.nil_append] at K1); clear K; (have K := K1); clear K1; obtain ⟨⟨_, _, _, _⟩, _, _, _, _⟩ := K.out.cellsOf (g := g15) (by repeat (first | exact List.mem_cons_self | refine List.mem_cons_of_mem _ ?_)); obtain ⟨⟨_, _, _, _⟩, _, _, _, _⟩ := K.out.cellsOf (g := g1) (by repeat (first | exact List.mem_cons_self | refine List.mem_cons_of_mem _ ?_)))
        | (go_at_call 34; (with_reducible refine (refSame_any B' B l.cs l.cs _ _ d' d _ _ rfl rfl _ (K.out.at_ (r := ⟨⟨0, [], 0, l.cs⟩, A', B'⟩) (by simp)).cs (K.out.at_ (r := ⟨l, A, B⟩) (by simp)).cs C9.out).mono ?_); rintro e w6 ⟨rfl, hq⟩; rw [decide_eq_true (rfl : l.cs = l.cs)]; (have K2 := hid (K.out.quiet hq)); clear hq K; (have K := K2); clear K2)
        | (go_at_call 10; (with_reducible refine (lAwake_any _ (Utf8Tabs_below T.out K.out.b)).mono ?_); rintro e W9 ⟨rfl, hb⟩; (have K2 := hid (K.out.later hb)); clear hb K; (have K := K2); clear K2))
      go_ret
      exact ⟨rfl, K.out.b⟩
set_option maxRecDepth 100000 in
set_option maxHeartbeats 16000000 in
theorem linesBack_010 (w : World) {l : Ln} {A : Option Addr} {c : Nat} {B : Option Addr} {d : Nat} (hat : LnAt w w.heap.size l A B) (b1 : l.ls.length ≤ 1000000000000000) (b2 : l.cs.length ≤ 1000000000000000) (hz : ∀ x ∈ l.cs, x.h.size ≤ 1000000000000000) (hlong : longL l = false) (l1 : l.ls.length ≤ 1000) (l2 : l.cs.length ≤ 20000) (fi : FineC l.cs) (hmay : mayL l = true) (at_ : Int) (hi : (indentL l).2 ≠ 0) (hs : splitE l at_ = 0) (hk : ¬ 0 < l.k) (hT : Tb w) :
    Calls Tryd.prog 7 #[.agg #[.int .i64 l.q, .slice A l.ls.length c, .int .i64 l.k, .slice B l.cs.length d], .int .i64 at_] w fun e w' => e = .returned (.bool true) ∧ Below w.heap.size w w' := by
  have T := hid hT
  have HZ := hid hz
  have HL := hid hlong
  have FI := hid fi
  have MB := hid hmay
  have B9 : Hid (l.ls.length ≤ 1000000000) := hid (by omega)
  have C9 : Hid (l.cs.length ≤ 1000000000) := hid (by omega)
  have K := hid (KL.start w [⟨l, A, B⟩] (by simpa using hat))
  obtain ⟨p1, p2, p3, p4, p5, p6, p7, p8⟩ := mayL_parts hmay
  have mu1 : mu l = l.ls.length + l.q.toNat + (if 0 < l.k then 1 else 0) := rfl
  obtain ⟨N, hN⟩ : ∃ N, mu l = N := ⟨_, rfl⟩
  rw [if_neg hk, hN] at mu1
  have e1 : IntKind.i64.wrap ((l.ls.length : Int) + l.q) = (N : Int) := by rw [show (l.ls.length : Int) + l.q = (N : Int) from by omega]; exact IntWalk.i64_in _ (by omega)
  have g0 : ¬ (0 : Int) < l.k := hk
  have IND := hid (indent_no hmay hi)
  obtain ⟨hj, hmb⟩ := split_join hs
  obtain ⟨s1, s2, s3, s4, s5, s6⟩ := split_sizes hs
  obtain ⟨a, ha⟩ : ∃ x, splitA l at_ = x := ⟨_, rfl⟩
  obtain ⟨b, hb⟩ : ∃ x, splitB l at_ = x := ⟨_, rfl⟩
  rw [ha] at hj s1 s3 s5
  rw [hb] at hj hmb s2 s4 s6
  have SA := hid ha
  have SB := hid hb
  have SE := hid hs
  have JN := hid hj
  have MBB := hid hmb
  have AL : Hid (a.ls.length ≤ 1000000000) := hid (by rw [s1]; omega)
  have AC : Hid (a.cs.length ≤ 1000000000) := hid (by omega)
  have BL : Hid (b.ls.length ≤ 1000000000) := hid (by rw [s2]; omega)
  have BC : Hid (b.cs.length ≤ 1000000000) := hid (by omega)
  have FA : Hid (FineC a.cs) := hid (fun x hx => fi x (s5 x hx))
  have FB : Hid (FineC b.cs) := hid (fun x hx => fi x (s6 x hx))
  clear hj hmb s1 s2 s3 s4 s5 s6 ha hb
  have hNb : N ≤ 13 := by omega
  have HN := hid hN
  clear hT hz hlong l1 l2 fi hmay hat hi hs hk p1 p2 p3 p4 p5 p6 p7 p8 mu1 hN
  go_enter Tryd.func7, Tryd.ntmps7
  go_wp2_with (first
    | ((with_reducible show wpList _ _ _ _ _ _); refine Tryd.klBox (by rfl) _ (by rfl) (some 2) (by rfl) (by rfl) K ?_; intro g1 V1 K1; clear K; (have K := K1); clear K1)
    | ((with_reducible show wpList _ _ _ _ _ _); refine Tryd.klLoad (by rfl) _ (by rfl) K (by rfl) (by repeat (first | exact List.mem_cons_self | refine List.mem_cons_of_mem _ ?_)) ?_)
    | (go_at_call 9; (with_reducible refine (lLong_any l A _ c B _ d _ rfl rfl _ (K.out.at_ (r := ⟨l, A, B⟩) (by simp)) b1 b2 HZ.out).mono ?_); rintro e W1 ⟨rfl, hb⟩; rw [HL.out]; (have K2 := hid (K.out.later hb)); clear hb K; (have K := K2); clear K2)
    | (go_at_call 18; (with_reducible refine (lMay_any l A _ c B _ d _ rfl rfl _ (K.out.at_ (r := ⟨l, A, B⟩) (by simp)) B9.out C9.out FI.out (Utf8Tabs_below T.out K.out.b)).mono ?_); rintro e W2 ⟨rfl, hb⟩; rw [MB.out]; (have K2 := hid (K.out.later hb)); clear hb K; (have K := K2); clear K2)
    | (go_at_call 24; (with_reducible refine (lIndent_any l A _ c B _ d _ rfl rfl _ (K.out.at_ (r := ⟨l, A, B⟩) (by simp)) B9.out C9.out FI.out (Utf8Tabs_below T.out K.out.b)).mono ?_); rintro e W3 hc; unfold RetLnE at hc; rw [IND.out] at hc; dsimp only at hc; obtain ⟨A5, c5, B5, d5, rfl, le1, le2, wr3, hb3⟩ := hc; simp only [lnV]; clear le1 le2; (have K2 := hid (K.out.add hb3 wr3)); clear hb3 wr3 K; (have K := K2); clear K2)
    | ((with_reducible show wpList _ _ _ _ _ _); refine Tryd.klAlloc (by rfl) (by rfl) (some 5) (by rfl) K ?_; intro g5 V1 K1; clear K; (have K := K1); clear K1)
    | ((with_reducible show wpList _ _ _ _ _ _); refine Tryd.klStore (by rfl) (.tmp 5) _ (by rfl) [] (by exact K) (by rfl) (by rfl) (by exact ⟨rfl, rfl, rfl, rfl⟩) ?_; intro V2 K1; (dsimp only [List.cons_append, List.nil_append] at K1); clear K; (have K := K1); clear K1)
    | (go_at_call 12; (with_reducible refine (lSplit_any l A _ c B _ d _ rfl rfl _ (K.out.at_ (r := ⟨l, A, B⟩) (by simp)) B9.out C9.out FI.out (Utf8Tabs_below T.out K.out.b) at_).mono ?_); rintro e W3 hc; unfold RetSplit at hc; rw [SA.out, SB.out, SE.out] at hc; obtain ⟨A91, c91, X91, d91, A92, c92, X92, d92, rfl, w1, w2, ap, -, hb3⟩ := hc; simp only [lnV]; (have K2 := hid (K.out.addW2 hb3 w1 w2 ap)); clear hb3 w1 w2 ap K; (have K := K2); clear K2)
    | ((with_reducible show wpList _ _ _ _ _ _); refine Tryd.klAlloc (by rfl) (by rfl) (some 9) (by rfl) K ?_; intro g9 V1 K1; clear K; (have K := K1); clear K1)
    | ((with_reducible show wpList _ _ _ _ _ _); refine Tryd.klAlloc (by rfl) (by rfl) (some 10) (by rfl) K ?_; intro g10 V1 K1; clear K; (have K := K1); clear K1)
    | ((with_reducible show wpList _ _ _ _ _ _); refine Tryd.klStore (by rfl) (.tmp 9) _ (by rfl) [_] (by exact K) (by rfl) (by rfl) (by exact ⟨rfl, rfl, rfl, rfl⟩) ?_; intro V2 K1; (dsimp only [List.cons_append, List.nil_append] at K1); clear K; (have K := K1); clear K1)
    | ((with_reducible show wpList _ _ _ _ _ _); refine Tryd.klStore (by rfl) (.tmp 10) _ (by rfl) [] (by exact K) (by rfl) (by rfl) (by exact ⟨rfl, rfl, rfl, rfl⟩) ?_; intro V2 K1; (dsimp only [List.cons_append, List.nil_append] at K1); clear K; (have K := K1); clear K1)
    | (go_at_call 15; (with_reducible refine (lJoin_any a b A91 c91 X91 d91 _ A92 c92 X92 d92 _ _ (K.out.atW (r := ⟨a, A91, X91⟩) (by simp)) (K.out.atW (r := ⟨b, A92, X92⟩) (by simp)) AL.out AC.out BL.out BC.out FA.out FB.out (Utf8Tabs_below T.out K.out.b)).mono ?_); rintro e W3 hc; unfold RetLnE at hc; rw [JN.out] at hc; dsimp only at hc; obtain ⟨A12, c12, B12, d12, rfl, -, -, wr3, hb3⟩ := hc; simp only [lnV]; (have K2 := hid (K.out.add hb3 wr3)); clear hb3 wr3 K; (have K := K2); clear K2)
    | ((with_reducible show wpList _ _ _ _ _ _); refine Tryd.klAlloc (by rfl) (by rfl) (some 12) (by rfl) K ?_; intro g12 V1 K1; clear K; (have K := K1); clear K1)
    | ((with_reducible show wpList _ _ _ _ _ _); refine Tryd.klStore (by rfl) (.tmp 12) _ (by rfl) [] (by exact K) (by rfl) (by rfl) (by exact ⟨rfl, rfl, rfl, rfl⟩) ?_; intro V2 K1; (dsimp only [List.cons_append, List.nil_append] at K1); clear K; (have K := K1); clear K1)
    | (go_at_call 20; (with_reducible refine (lSame_any l l A12 _ c12 B12 _ d12 A _ c B _ d _ _ rfl rfl rfl rfl _ (K.out.at_ (r := ⟨l, A12, B12⟩) (by simp)) (K.out.at_ (r := ⟨l, A, B⟩) (by simp)) B9.out C9.out).mono ?_); rintro e W4 ⟨rfl, hb⟩; rw [decide_eq_true (rfl : l = l)]; (have K2 := hid (K.out.later hb)); clear hb K; (have K := K2); clear K2)
    | (go_at_call 18; (with_reducible refine (lMay_any b A92 _ c92 X92 _ d92 _ rfl rfl _ (K.out.atW (r := ⟨b, A92, X92⟩) (by simp)) BL.out BC.out FB.out (Utf8Tabs_below T.out K.out.b)).mono ?_); rintro e W2 ⟨rfl, hb⟩; rw [MBB.out]; (have K2 := hid (K.out.later hb)); clear hb K; (have K := K2); clear K2; obtain ⟨⟨_, _, _, _⟩, _, _, _, _⟩ := K.out.cellsOf (g := g1) (by repeat (first | exact List.mem_cons_self | refine List.mem_cons_of_mem _ ?_)))
    | ((with_reducible show wpList _ _ _ _ _ _); refine Tryd.klAlloc (by rfl) (by rfl) (some 15) (by rfl) K ?_; intro g15 V1 K1; clear K; (have K := K1); clear K1)
    | ((with_reducible show wpList _ _ _ _ _ _); refine Tryd.klStore (by rfl) (.tmp 15) _ (by rfl) [] (by exact K) (by rfl) (by rfl) (by exact ⟨rfl, rfl, rfl, rfl⟩) ?_; intro V2 K1; (dsimp only [List.cons_append, List.nil_append] at K1); clear K; (have K := K1); clear K1))
  go_loopw [16] (fun i wr => ∃ (k : Nat) (M : Ln) (A' : Option Addr) (c' : Nat) (B' : Option Addr) (d' : Nat), k ≤ N ∧ i = .int .i64 k ∧ Hid (mayL M = true) ∧ Hid (mu M + k = N) ∧ Hid (M.cs = l.cs) ∧ Hid (KL w wr [⟨g15, .int .i64 M.q, .slice A' M.ls.length c', .int .i64 M.k, .slice B' M.cs.length d'⟩, ⟨g1, .int .i64 l.q, .slice A l.ls.length c, .int .i64 l.k, .slice B l.cs.length d⟩] [⟨M, A', B'⟩, ⟨l, A, B⟩] [])) (fun i _ => N - (intOf i).toNat)
  case atStart => exact ⟨0, l, A, c, B, d, Nat.zero_le _, rfl, MB, HN, hid rfl, hid (K.out.less (by repeat (first | exact List.Sublist.slnil | refine List.Sublist.cons_cons _ ?_ | refine List.Sublist.cons _ ?_)) (by simp) (List.nil_sublist _))⟩
  case round =>
    clear K
    obtain ⟨k, M, A', c', B', d', hk, rfl, hmm, hmu, hcs, K⟩ := hrel
    have FM' : Hid (FineC M.cs) := hid (by rw [hcs.out]; exact FI.out)
    have N9 : Hid (M.ls.length ≤ 1000000000) := hid (by have := (mayL_parts hmm.out).2.2.1; omega)
    have O9 : Hid (M.cs.length ≤ 1000000000) := hid (by rw [hcs.out]; exact C9.out)
    by_cases hlt : k < N
    · have hi : (k : Int) < (N : Int) := by omega
      obtain ⟨f1, f2, f3, f4⟩ := free_step hmm.out (by have := hmu.out; omega)
      obtain ⟨M2, hM2⟩ : ∃ x, (freeL M).1 = x := ⟨_, rfl⟩
      have EQ : Hid (freeL M = (M2, 0)) := hid (Prod.ext hM2 f1)
      rw [hM2] at f2 f3 f4
      have F2 := hid f2
      have F3 := hid f3
      have F4 := hid f4
      clear f1 f2 f3 f4 hM2
      go_wp2_with (first
        | ((with_reducible show wpList _ _ _ _ _ _); refine Tryd.klLoad (by rfl) _ (by rfl) K (by rfl) (by repeat (first | exact List.mem_cons_self | refine List.mem_cons_of_mem _ ?_)) ?_)
        | (go_at_call 32; (with_reducible refine (lFree_any M A' _ c' B' _ d' _ rfl rfl _ (K.out.at_ (r := ⟨M, A', B'⟩) (by simp)) N9.out O9.out FM'.out (Utf8Tabs_below T.out K.out.b)).mono ?_); rintro e W3 hc; unfold RetLnE at hc; rw [EQ.out] at hc; dsimp only at hc; obtain ⟨A3, c3, B3, d3, rfl, le1, le2, wr3, hb3⟩ := hc; simp only [lnV]; clear le1 le2; (have K2 := hid (K.out.add hb3 wr3)); clear hb3 wr3 K; (have K := K2); clear K2)
        | ((with_reducible show wpList _ _ _ _ _ _); refine Tryd.klAlloc (by rfl) (by rfl) (some 17) (by rfl) K ?_; intro g17 V1 K1; clear K; (have K := K1); clear K1)
        | ((with_reducible show wpList _ _ _ _ _ _); refine Tryd.klStore (by rfl) (.tmp 17) _ (by rfl) [] (by exact K) (by rfl) (by rfl) (by exact ⟨rfl, rfl, rfl, rfl⟩) ?_; intro V2 K1; (dsimp only [List.cons_append, List.nil_append] at K1); clear K; (have K := K1); clear K1)
        | ((with_reducible show wpList _ _ _ _ _ _); refine Tryd.klStore (by rfl) (.tmp 15) _ (by rfl) [_] (by exact K) (by rfl) (by rfl) (by exact ⟨rfl, rfl, rfl, rfl⟩) ?_; intro V2 K1; (dsimp only [List.cons_append, List.nil_append] at K1); clear K; (have K := K1); clear K1))
      go_roundw
      case rel => exact ⟨k + 1, M2, A3, c3, B3, d3, by omega, by go_num, F2, hid (by have := F3.out; have := hmu.out; omega), hid (F4.out.trans hcs.out), hid (K.out.less (by simp) (by simp) (List.Sublist.refl _))⟩
      case measure => simp [intOf]; omega
    · have hi : ¬ (k : Int) < (N : Int) := by omega
      obtain ⟨f1, f2, f3, f4⟩ := free_end hmm.out (by have := hmu.out; omega)
      obtain rfl : M = ⟨0, [], 0, l.cs⟩ := Ln.ext' f2 f3 f4 hcs.out
      have EQ := hid f1
      clear f1 f2 f3 f4 hcs hmu hmm
      dsimp only at K N9 O9 FM'
      go_wp2_with (first
        | ((with_reducible show wpList _ _ _ _ _ _); refine Tryd.klLoad (by rfl) _ (by rfl) K (by rfl) (by repeat (first | exact List.mem_cons_self | refine List.mem_cons_of_mem _ ?_)) ?_)
        | (go_at_call 32; refine (lFree_any ⟨0, [], 0, l.cs⟩ A' _ c' B' _ d' _ rfl rfl _ (K.out.at_ (r := ⟨⟨0, [], 0, l.cs⟩, A', B'⟩) (by simp)) N9.out O9.out FM'.out (Utf8Tabs_below T.out K.out.b)).mono ?_; rintro e W3 hc; unfold RetLnE at hc; rw [EQ.out] at hc; dsimp only at hc; obtain ⟨A19, c19, B19, d19, rfl, -, -, wr3, hb3⟩ := hc; simp only [lnV]; (have K2 := hid (K.out.add hb3 wr3)); clear hb3 wr3 K; (have K := K2); clear K2)
        | ((with_reducible show wpList _ _ _ _ _ _); refine Tryd.klAlloc (by rfl) (by rfl) (some 19) (by rfl) K ?_; intro g19 V1 K1; clear K; (have K := K1); clear K1)
        | ((with_reducible show wpList _ _ _ _ _ _); refine Tryd.klStore (by rfl) (.tmp 19) _ (by rfl) [] (by exact K) (by rfl) (by rfl) (by exact ⟨rfl, rfl, rfl, rfl⟩) ?_; intro V2 K1; (dsimp only [List.cons_append, List.nil_append] at K1); clear K; (have K := K1); clear K1; obtain ⟨⟨_, _, _, _⟩, _, _, _, _⟩ := K.out.cellsOf (g := g15) (by repeat (first | exact List.mem_cons_self | refine List.mem_cons_of_mem _ ?_)); obtain ⟨⟨_, _, _, _⟩, _, _, _, _⟩ := K.out.cellsOf (g := g1) (by repeat (first | exact List.mem_cons_self | refine List.mem_cons_of_mem _ ?_)))
        | (go_at_call 34; (with_reducible refine (refSame_any B' B l.cs l.cs _ _ d' d _ _ rfl rfl _ (K.out.at_ (r := ⟨⟨0, [], 0, l.cs⟩, A', B'⟩) (by simp)).cs (K.out.at_ (r := ⟨l, A, B⟩) (by simp)).cs C9.out).mono ?_); rintro e w6 ⟨rfl, hq⟩; rw [decide_eq_true (rfl : l.cs = l.cs)]; (have K2 := hid (K.out.quiet hq)); clear hq K; (have K := K2); clear K2)
        | (go_at_call 10; (with_reducible refine (lAwake_any _ (Utf8Tabs_below T.out K.out.b)).mono ?_); rintro e W9 ⟨rfl, hb⟩; (have K2 := hid (K.out.later hb)); clear hb K; (have K := K2); clear K2))
      go_ret
      exact ⟨rfl, K.out.b⟩
set_option maxRecDepth 100000 in
set_option maxHeartbeats 16000000 in
theorem linesBack_001 (w : World) {l : Ln} {A : Option Addr} {c : Nat} {B : Option Addr} {d : Nat} (hat : LnAt w w.heap.size l A B) (b1 : l.ls.length ≤ 1000000000000000) (b2 : l.cs.length ≤ 1000000000000000) (hz : ∀ x ∈ l.cs, x.h.size ≤ 1000000000000000) (hlong : longL l = false) (l1 : l.ls.length ≤ 1000) (l2 : l.cs.length ≤ 20000) (fi : FineC l.cs) (hmay : mayL l = true) (at_ : Int) (hi : (indentL l).2 ≠ 0) (hs : splitE l at_ ≠ 0) (hk : 0 < l.k) (hT : Tb w) :
    Calls Tryd.prog 7 #[.agg #[.int .i64 l.q, .slice A l.ls.length c, .int .i64 l.k, .slice B l.cs.length d], .int .i64 at_] w fun e w' => e = .returned (.bool true) ∧ Below w.heap.size w w' := by
  have T := hid hT
  have HZ := hid hz
  have HL := hid hlong
  have FI := hid fi
  have MB := hid hmay
  have B9 : Hid (l.ls.length ≤ 1000000000) := hid (by omega)
  have C9 : Hid (l.cs.length ≤ 1000000000) := hid (by omega)
  have K := hid (KL.start w [⟨l, A, B⟩] (by simpa using hat))
  obtain ⟨p1, p2, p3, p4, p5, p6, p7, p8⟩ := mayL_parts hmay
  have mu1 : mu l = l.ls.length + l.q.toNat + (if 0 < l.k then 1 else 0) := rfl
  obtain ⟨N, hN⟩ : ∃ N, mu l = N := ⟨_, rfl⟩
  rw [if_pos hk, hN] at mu1
  have e1 : IntKind.i64.wrap ((l.ls.length : Int) + l.q) = (l.ls.length : Int) + l.q := IntWalk.i64_in _ (by omega)
  have e2 : IntKind.i64.wrap ((l.ls.length : Int) + l.q + 1) = (N : Int) := by rw [show (l.ls.length : Int) + l.q + 1 = (N : Int) from by omega]; exact IntWalk.i64_in _ (by omega)
  have g0 : (0 : Int) < l.k := hk
  have IND := hid (indent_no hmay hi)
  obtain ⟨ha, hb, he⟩ := split_no hs
  have SA := hid ha
  have SB := hid hb
  have SE := hid he
  clear ha hb he
  have hNb : N ≤ 13 := by omega
  have HN := hid hN
  clear hT hz hlong l1 l2 fi hmay hat hi hs hk p1 p2 p3 p4 p5 p6 p7 p8 mu1 hN
  go_enter Tryd.func7, Tryd.ntmps7
  go_wp2_with (first
    | ((with_reducible show wpList _ _ _ _ _ _); refine Tryd.klBox (by rfl) _ (by rfl) (some 2) (by rfl) (by rfl) K ?_; intro g1 V1 K1; clear K; (have K := K1); clear K1)
    | ((with_reducible show wpList _ _ _ _ _ _); refine Tryd.klLoad (by rfl) _ (by rfl) K (by rfl) (by repeat (first | exact List.mem_cons_self | refine List.mem_cons_of_mem _ ?_)) ?_)
    | (go_at_call 9; (with_reducible refine (lLong_any l A _ c B _ d _ rfl rfl _ (K.out.at_ (r := ⟨l, A, B⟩) (by simp)) b1 b2 HZ.out).mono ?_); rintro e W1 ⟨rfl, hb⟩; rw [HL.out]; (have K2 := hid (K.out.later hb)); clear hb K; (have K := K2); clear K2)
    | (go_at_call 18; (with_reducible refine (lMay_any l A _ c B _ d _ rfl rfl _ (K.out.at_ (r := ⟨l, A, B⟩) (by simp)) B9.out C9.out FI.out (Utf8Tabs_below T.out K.out.b)).mono ?_); rintro e W2 ⟨rfl, hb⟩; rw [MB.out]; (have K2 := hid (K.out.later hb)); clear hb K; (have K := K2); clear K2)
    | (go_at_call 24; (with_reducible refine (lIndent_any l A _ c B _ d _ rfl rfl _ (K.out.at_ (r := ⟨l, A, B⟩) (by simp)) B9.out C9.out FI.out (Utf8Tabs_below T.out K.out.b)).mono ?_); rintro e W3 hc; unfold RetLnE at hc; rw [IND.out] at hc; dsimp only at hc; obtain ⟨A5, c5, B5, d5, rfl, le1, le2, wr3, hb3⟩ := hc; simp only [lnV]; clear le1 le2; (have K2 := hid (K.out.add hb3 wr3)); clear hb3 wr3 K; (have K := K2); clear K2)
    | ((with_reducible show wpList _ _ _ _ _ _); refine Tryd.klAlloc (by rfl) (by rfl) (some 5) (by rfl) K ?_; intro g5 V1 K1; clear K; (have K := K1); clear K1)
    | ((with_reducible show wpList _ _ _ _ _ _); refine Tryd.klStore (by rfl) (.tmp 5) _ (by rfl) [] (by exact K) (by rfl) (by rfl) (by exact ⟨rfl, rfl, rfl, rfl⟩) ?_; intro V2 K1; (dsimp only [List.cons_append, List.nil_append] at K1); clear K; (have K := K1); clear K1)
    | (go_at_call 12; (with_reducible refine (lSplit_any l A _ c B _ d _ rfl rfl _ (K.out.at_ (r := ⟨l, A, B⟩) (by simp)) B9.out C9.out FI.out (Utf8Tabs_below T.out K.out.b) at_).mono ?_); rintro e W3 hc; unfold RetSplit at hc; rw [SA.out, SB.out, SE.out] at hc; obtain ⟨A91, c91, X91, d91, A92, c92, X92, d92, rfl, w1, w2, ap, -, hb3⟩ := hc; simp only [lnV]; clear w1 w2 ap; (have K2 := hid (K.out.later hb3)); clear hb3 K; (have K := K2); clear K2)
    | ((with_reducible show wpList _ _ _ _ _ _); refine Tryd.klAlloc (by rfl) (by rfl) (some 9) (by rfl) K ?_; intro g9 V1 K1; clear K; (have K := K1); clear K1)
    | ((with_reducible show wpList _ _ _ _ _ _); refine Tryd.klAlloc (by rfl) (by rfl) (some 10) (by rfl) K ?_; intro g10 V1 K1; clear K; (have K := K1); clear K1)
    | ((with_reducible show wpList _ _ _ _ _ _); refine Tryd.klStore (by rfl) (.tmp 9) _ (by rfl) [_] (by exact K) (by rfl) (by rfl) (by exact ⟨rfl, rfl, rfl, rfl⟩) ?_; intro V2 K1; (dsimp only [List.cons_append, List.nil_append] at K1); clear K; (have K := K1); clear K1)
    | ((with_reducible show wpList _ _ _ _ _ _); refine Tryd.klStore (by rfl) (.tmp 10) _ (by rfl) [] (by exact K) (by rfl) (by rfl) (by exact ⟨rfl, rfl, rfl, rfl⟩) ?_; intro V2 K1; (dsimp only [List.cons_append, List.nil_append] at K1); clear K; (have K := K1); clear K1; obtain ⟨⟨_, _, _, _⟩, _, _, _, _⟩ := K.out.cellsOf (g := g1) (by repeat (first | exact List.mem_cons_self | refine List.mem_cons_of_mem _ ?_)))
    | ((with_reducible show wpList _ _ _ _ _ _); refine Tryd.klAlloc (by rfl) (by rfl) (some 15) (by rfl) K ?_; intro g15 V1 K1; clear K; (have K := K1); clear K1)
    | ((with_reducible show wpList _ _ _ _ _ _); refine Tryd.klStore (by rfl) (.tmp 15) _ (by rfl) [] (by exact K) (by rfl) (by rfl) (by exact ⟨rfl, rfl, rfl, rfl⟩) ?_; intro V2 K1; (dsimp only [List.cons_append, List.nil_append] at K1); clear K; (have K := K1); clear K1))
  go_loopw [16] (fun i wr => ∃ (k : Nat) (M : Ln) (A' : Option Addr) (c' : Nat) (B' : Option Addr) (d' : Nat), k ≤ N ∧ i = .int .i64 k ∧ Hid (mayL M = true) ∧ Hid (mu M + k = N) ∧ Hid (M.cs = l.cs) ∧ Hid (KL w wr [⟨g15, .int .i64 M.q, .slice A' M.ls.length c', .int .i64 M.k, .slice B' M.cs.length d'⟩, ⟨g1, .int .i64 l.q, .slice A l.ls.length c, .int .i64 l.k, .slice B l.cs.length d⟩] [⟨M, A', B'⟩, ⟨l, A, B⟩] [])) (fun i _ => N - (intOf i).toNat)
  case atStart => exact ⟨0, l, A, c, B, d, Nat.zero_le _, rfl, MB, HN, hid rfl, hid (K.out.less (by repeat (first | exact List.Sublist.slnil | refine List.Sublist.cons_cons _ ?_ | refine List.Sublist.cons _ ?_)) (by simp) (List.nil_sublist _))⟩
  case round =>
    clear K
    obtain ⟨k, M, A', c', B', d', hk, rfl, hmm, hmu, hcs, K⟩ := hrel
    have FM' : Hid (FineC M.cs) := hid (by rw [hcs.out]; exact FI.out)
    have N9 : Hid (M.ls.length ≤ 1000000000) := hid (by have := (mayL_parts hmm.out).2.2.1; omega)
    have O9 : Hid (M.cs.length ≤ 1000000000) := hid (by rw [hcs.out]; exact C9.out)
    by_cases hlt : k < N
    · have hi : (k : Int) < (N : Int) := by omega
      obtain ⟨f1, f2, f3, f4⟩ := free_step hmm.out (by have := hmu.out; omega)
      obtain ⟨M2, hM2⟩ : ∃ x, (freeL M).1 = x := ⟨_, rfl⟩
      have EQ : Hid (freeL M = (M2, 0)) := hid (Prod.ext hM2 f1)
      rw [hM2] at f2 f3 f4
      have F2 := hid f2
      have F3 := hid f3
      have F4 := hid f4
      clear f1 f2 f3 f4 hM2
      go_wp2_with (first
        | ((with_reducible show wpList _ _ _ _ _ _); refine Tryd.klLoad (by rfl) _ (by rfl) K (by rfl) (by repeat (first | exact List.mem_cons_self | refine List.mem_cons_of_mem _ ?_)) ?_)
        | (go_at_call 32; (with_reducible refine (lFree_any M A' _ c' B' _ d' _ rfl rfl _ (K.out.at_ (r := ⟨M, A', B'⟩) (by simp)) N9.out O9.out FM'.out (Utf8Tabs_below T.out K.out.b)).mono ?_); rintro e W3 hc; unfold RetLnE at hc; rw [EQ.out] at hc; dsimp only at hc; obtain ⟨A3, c3, B3, d3, rfl, le1, le2, wr3, hb3⟩ := hc; simp only [lnV]; clear le1 le2; (have K2 := hid (K.out.add hb3 wr3)); clear hb3 wr3 K; (have K := K2); clear K2)
        | ((with_reducible show wpList _ _ _ _ _ _); refine Tryd.klAlloc (by rfl) (by rfl) (some 17) (by rfl) K ?_; intro g17 V1 K1; clear K; (have K := K1); clear K1)
        | ((with_reducible show wpList _ _ _ _ _ _); refine Tryd.klStore (by rfl) (.tmp 17) _ (by rfl) [] (by exact K) (by rfl) (by rfl) (by exact ⟨rfl, rfl, rfl, rfl⟩) ?_; intro V2 K1; (dsimp only [List.cons_append, List.nil_append] at K1); clear K; (have K := K1); clear K1)
        | ((with_reducible show wpList _ _ _ _ _ _); refine Tryd.klStore (by rfl) (.tmp 15) _ (by rfl) [_] (by exact K) (by rfl) (by rfl) (by exact ⟨rfl, rfl, rfl, rfl⟩) ?_; intro V2 K1; (dsimp only [List.cons_append, List.nil_append] at K1); clear K; (have K := K1); clear K1))
      go_roundw
      case rel => exact ⟨k + 1, M2, A3, c3, B3, d3, by omega, by go_num, F2, hid (by have := F3.out; have := hmu.out; omega), hid (F4.out.trans hcs.out), hid (K.out.less (by simp) (by simp) (List.Sublist.refl _))⟩
      case measure => simp [intOf]; omega
    · have hi : ¬ (k : Int) < (N : Int) := by omega
      obtain ⟨f1, f2, f3, f4⟩ := free_end hmm.out (by have := hmu.out; omega)
      obtain rfl : M = ⟨0, [], 0, l.cs⟩ := Ln.ext' f2 f3 f4 hcs.out
      have EQ := hid f1
      clear f1 f2 f3 f4 hcs hmu hmm
      dsimp only at K N9 O9 FM'
      go_wp2_with (first
        | ((with_reducible show wpList _ _ _ _ _ _); refine Tryd.klLoad (by rfl) _ (by rfl) K (by rfl) (by repeat (first | exact List.mem_cons_self | refine List.mem_cons_of_mem _ ?_)) ?_)
        | (go_at_call 32; refine (lFree_any ⟨0, [], 0, l.cs⟩ A' _ c' B' _ d' _ rfl rfl _ (K.out.at_ (r := ⟨⟨0, [], 0, l.cs⟩, A', B'⟩) (by simp)) N9.out O9.out FM'.out (Utf8Tabs_below T.out K.out.b)).mono ?_; rintro e W3 hc; unfold RetLnE at hc; rw [EQ.out] at hc; dsimp only at hc; obtain ⟨A19, c19, B19, d19, rfl, -, -, wr3, hb3⟩ := hc; simp only [lnV]; (have K2 := hid (K.out.add hb3 wr3)); clear hb3 wr3 K; (have K := K2); clear K2)
        | ((with_reducible show wpList _ _ _ _ _ _); refine Tryd.klAlloc (by rfl) (by rfl) (some 19) (by rfl) K ?_; intro g19 V1 K1; clear K; (have K := K1); clear K1)
        | ((with_reducible show wpList _ _ _ _ _ _); refine Tryd.klStore (by rfl) (.tmp 19) _ (by rfl) [] (by exact K) (by rfl) (by rfl) (by exact ⟨rfl, rfl, rfl, rfl⟩) ?_; intro V2 K1; (dsimp only [List.cons_append, List.nil_append] at K1); clear K; (have K := K1); clear K1; obtain ⟨⟨_, _, _, _⟩, _, _, _, _⟩ := K.out.cellsOf (g := g15) (by repeat (first | exact List.mem_cons_self | refine List.mem_cons_of_mem _ ?_)); obtain ⟨⟨_, _, _, _⟩, _, _, _, _⟩ := K.out.cellsOf (g := g1) (by repeat (first | exact List.mem_cons_self | refine List.mem_cons_of_mem _ ?_)))
        | (go_at_call 34; (with_reducible refine (refSame_any B' B l.cs l.cs _ _ d' d _ _ rfl rfl _ (K.out.at_ (r := ⟨⟨0, [], 0, l.cs⟩, A', B'⟩) (by simp)).cs (K.out.at_ (r := ⟨l, A, B⟩) (by simp)).cs C9.out).mono ?_); rintro e w6 ⟨rfl, hq⟩; rw [decide_eq_true (rfl : l.cs = l.cs)]; (have K2 := hid (K.out.quiet hq)); clear hq K; (have K := K2); clear K2)
        | (go_at_call 10; (with_reducible refine (lAwake_any _ (Utf8Tabs_below T.out K.out.b)).mono ?_); rintro e W9 ⟨rfl, hb⟩; (have K2 := hid (K.out.later hb)); clear hb K; (have K := K2); clear K2))
      go_ret
      exact ⟨rfl, K.out.b⟩
set_option maxRecDepth 100000 in
set_option maxHeartbeats 16000000 in
theorem linesBack_000 (w : World) {l : Ln} {A : Option Addr} {c : Nat} {B : Option Addr} {d : Nat} (hat : LnAt w w.heap.size l A B) (b1 : l.ls.length ≤ 1000000000000000) (b2 : l.cs.length ≤ 1000000000000000) (hz : ∀ x ∈ l.cs, x.h.size ≤ 1000000000000000) (hlong : longL l = false) (l1 : l.ls.length ≤ 1000) (l2 : l.cs.length ≤ 20000) (fi : FineC l.cs) (hmay : mayL l = true) (at_ : Int) (hi : (indentL l).2 ≠ 0) (hs : splitE l at_ ≠ 0) (hk : ¬ 0 < l.k) (hT : Tb w) :
    Calls Tryd.prog 7 #[.agg #[.int .i64 l.q, .slice A l.ls.length c, .int .i64 l.k, .slice B l.cs.length d], .int .i64 at_] w fun e w' => e = .returned (.bool true) ∧ Below w.heap.size w w' := by
  have T := hid hT
  have HZ := hid hz
  have HL := hid hlong
  have FI := hid fi
  have MB := hid hmay
  have B9 : Hid (l.ls.length ≤ 1000000000) := hid (by omega)
  have C9 : Hid (l.cs.length ≤ 1000000000) := hid (by omega)
  have K := hid (KL.start w [⟨l, A, B⟩] (by simpa using hat))
  obtain ⟨p1, p2, p3, p4, p5, p6, p7, p8⟩ := mayL_parts hmay
  have mu1 : mu l = l.ls.length + l.q.toNat + (if 0 < l.k then 1 else 0) := rfl
  obtain ⟨N, hN⟩ : ∃ N, mu l = N := ⟨_, rfl⟩
  rw [if_neg hk, hN] at mu1
  have e1 : IntKind.i64.wrap ((l.ls.length : Int) + l.q) = (N : Int) := by rw [show (l.ls.length : Int) + l.q = (N : Int) from by omega]; exact IntWalk.i64_in _ (by omega)
  have g0 : ¬ (0 : Int) < l.k := hk
  have IND := hid (indent_no hmay hi)
  obtain ⟨ha, hb, he⟩ := split_no hs
  have SA := hid ha
  have SB := hid hb
  have SE := hid he
  clear ha hb he
  have hNb : N ≤ 13 := by omega
  have HN := hid hN
  clear hT hz hlong l1 l2 fi hmay hat hi hs hk p1 p2 p3 p4 p5 p6 p7 p8 mu1 hN
  go_enter Tryd.func7, Tryd.ntmps7
  go_wp2_with (first
    | ((with_reducible show wpList _ _ _ _ _ _); refine Tryd.klBox (by rfl) _ (by rfl) (some 2) (by rfl) (by rfl) K ?_; intro g1 V1 K1; clear K; (have K := K1); clear K1)
    | ((with_reducible show wpList _ _ _ _ _ _); refine Tryd.klLoad (by rfl) _ (by rfl) K (by rfl) (by repeat (first | exact List.mem_cons_self | refine List.mem_cons_of_mem _ ?_)) ?_)
    | (go_at_call 9; (with_reducible refine (lLong_any l A _ c B _ d _ rfl rfl _ (K.out.at_ (r := ⟨l, A, B⟩) (by simp)) b1 b2 HZ.out).mono ?_); rintro e W1 ⟨rfl, hb⟩; rw [HL.out]; (have K2 := hid (K.out.later hb)); clear hb K; (have K := K2); clear K2)
    | (go_at_call 18; (with_reducible refine (lMay_any l A _ c B _ d _ rfl rfl _ (K.out.at_ (r := ⟨l, A, B⟩) (by simp)) B9.out C9.out FI.out (Utf8Tabs_below T.out K.out.b)).mono ?_); rintro e W2 ⟨rfl, hb⟩; rw [MB.out]; (have K2 := hid (K.out.later hb)); clear hb K; (have K := K2); clear K2)
    | (go_at_call 24; (with_reducible refine (lIndent_any l A _ c B _ d _ rfl rfl _ (K.out.at_ (r := ⟨l, A, B⟩) (by simp)) B9.out C9.out FI.out (Utf8Tabs_below T.out K.out.b)).mono ?_); rintro e W3 hc; unfold RetLnE at hc; rw [IND.out] at hc; dsimp only at hc; obtain ⟨A5, c5, B5, d5, rfl, le1, le2, wr3, hb3⟩ := hc; simp only [lnV]; clear le1 le2; (have K2 := hid (K.out.add hb3 wr3)); clear hb3 wr3 K; (have K := K2); clear K2)
    | ((with_reducible show wpList _ _ _ _ _ _); refine Tryd.klAlloc (by rfl) (by rfl) (some 5) (by rfl) K ?_; intro g5 V1 K1; clear K; (have K := K1); clear K1)
    | ((with_reducible show wpList _ _ _ _ _ _); refine Tryd.klStore (by rfl) (.tmp 5) _ (by rfl) [] (by exact K) (by rfl) (by rfl) (by exact ⟨rfl, rfl, rfl, rfl⟩) ?_; intro V2 K1; (dsimp only [List.cons_append, List.nil_append] at K1); clear K; (have K := K1); clear K1)
    | (go_at_call 12; (with_reducible refine (lSplit_any l A _ c B _ d _ rfl rfl _ (K.out.at_ (r := ⟨l, A, B⟩) (by simp)) B9.out C9.out FI.out (Utf8Tabs_below T.out K.out.b) at_).mono ?_); rintro e W3 hc; unfold RetSplit at hc; rw [SA.out, SB.out, SE.out] at hc; obtain ⟨A91, c91, X91, d91, A92, c92, X92, d92, rfl, w1, w2, ap, -, hb3⟩ := hc; simp only [lnV]; clear w1 w2 ap; (have K2 := hid (K.out.later hb3)); clear hb3 K; (have K := K2); clear K2)
    | ((with_reducible show wpList _ _ _ _ _ _); refine Tryd.klAlloc (by rfl) (by rfl) (some 9) (by rfl) K ?_; intro g9 V1 K1; clear K; (have K := K1); clear K1)
    | ((with_reducible show wpList _ _ _ _ _ _); refine Tryd.klAlloc (by rfl) (by rfl) (some 10) (by rfl) K ?_; intro g10 V1 K1; clear K; (have K := K1); clear K1)
    | ((with_reducible show wpList _ _ _ _ _ _); refine Tryd.klStore (by rfl) (.tmp 9) _ (by rfl) [_] (by exact K) (by rfl) (by rfl) (by exact ⟨rfl, rfl, rfl, rfl⟩) ?_; intro V2 K1; (dsimp only [List.cons_append, List.nil_append] at K1); clear K; (have K := K1); clear K1)
    | ((with_reducible show wpList _ _ _ _ _ _); refine Tryd.klStore (by rfl) (.tmp 10) _ (by rfl) [] (by exact K) (by rfl) (by rfl) (by exact ⟨rfl, rfl, rfl, rfl⟩) ?_; intro V2 K1; (dsimp only [List.cons_append, List.nil_append] at K1); clear K; (have K := K1); clear K1; obtain ⟨⟨_, _, _, _⟩, _, _, _, _⟩ := K.out.cellsOf (g := g1) (by repeat (first | exact List.mem_cons_self | refine List.mem_cons_of_mem _ ?_)))
    | ((with_reducible show wpList _ _ _ _ _ _); refine Tryd.klAlloc (by rfl) (by rfl) (some 15) (by rfl) K ?_; intro g15 V1 K1; clear K; (have K := K1); clear K1)
    | ((with_reducible show wpList _ _ _ _ _ _); refine Tryd.klStore (by rfl) (.tmp 15) _ (by rfl) [] (by exact K) (by rfl) (by rfl) (by exact ⟨rfl, rfl, rfl, rfl⟩) ?_; intro V2 K1; (dsimp only [List.cons_append, List.nil_append] at K1); clear K; (have K := K1); clear K1))
  go_loopw [16] (fun i wr => ∃ (k : Nat) (M : Ln) (A' : Option Addr) (c' : Nat) (B' : Option Addr) (d' : Nat), k ≤ N ∧ i = .int .i64 k ∧ Hid (mayL M = true) ∧ Hid (mu M + k = N) ∧ Hid (M.cs = l.cs) ∧ Hid (KL w wr [⟨g15, .int .i64 M.q, .slice A' M.ls.length c', .int .i64 M.k, .slice B' M.cs.length d'⟩, ⟨g1, .int .i64 l.q, .slice A l.ls.length c, .int .i64 l.k, .slice B l.cs.length d⟩] [⟨M, A', B'⟩, ⟨l, A, B⟩] [])) (fun i _ => N - (intOf i).toNat)
  case atStart => exact ⟨0, l, A, c, B, d, Nat.zero_le _, rfl, MB, HN, hid rfl, hid (K.out.less (by repeat (first | exact List.Sublist.slnil | refine List.Sublist.cons_cons _ ?_ | refine List.Sublist.cons _ ?_)) (by simp) (List.nil_sublist _))⟩
  case round =>
    clear K
    obtain ⟨k, M, A', c', B', d', hk, rfl, hmm, hmu, hcs, K⟩ := hrel
    have FM' : Hid (FineC M.cs) := hid (by rw [hcs.out]; exact FI.out)
    have N9 : Hid (M.ls.length ≤ 1000000000) := hid (by have := (mayL_parts hmm.out).2.2.1; omega)
    have O9 : Hid (M.cs.length ≤ 1000000000) := hid (by rw [hcs.out]; exact C9.out)
    by_cases hlt : k < N
    · have hi : (k : Int) < (N : Int) := by omega
      obtain ⟨f1, f2, f3, f4⟩ := free_step hmm.out (by have := hmu.out; omega)
      obtain ⟨M2, hM2⟩ : ∃ x, (freeL M).1 = x := ⟨_, rfl⟩
      have EQ : Hid (freeL M = (M2, 0)) := hid (Prod.ext hM2 f1)
      rw [hM2] at f2 f3 f4
      have F2 := hid f2
      have F3 := hid f3
      have F4 := hid f4
      clear f1 f2 f3 f4 hM2
      go_wp2_with (first
        | ((with_reducible show wpList _ _ _ _ _ _); refine Tryd.klLoad (by rfl) _ (by rfl) K (by rfl) (by repeat (first | exact List.mem_cons_self | refine List.mem_cons_of_mem _ ?_)) ?_)
        | (go_at_call 32; (with_reducible refine (lFree_any M A' _ c' B' _ d' _ rfl rfl _ (K.out.at_ (r := ⟨M, A', B'⟩) (by simp)) N9.out O9.out FM'.out (Utf8Tabs_below T.out K.out.b)).mono ?_); rintro e W3 hc; unfold RetLnE at hc; rw [EQ.out] at hc; dsimp only at hc; obtain ⟨A3, c3, B3, d3, rfl, le1, le2, wr3, hb3⟩ := hc; simp only [lnV]; clear le1 le2; (have K2 := hid (K.out.add hb3 wr3)); clear hb3 wr3 K; (have K := K2); clear K2)
        | ((with_reducible show wpList _ _ _ _ _ _); refine Tryd.klAlloc (by rfl) (by rfl) (some 17) (by rfl) K ?_; intro g17 V1 K1; clear K; (have K := K1); clear K1)
        | ((with_reducible show wpList _ _ _ _ _ _); refine Tryd.klStore (by rfl) (.tmp 17) _ (by rfl) [] (by exact K) (by rfl) (by rfl) (by exact ⟨rfl, rfl, rfl, rfl⟩) ?_; intro V2 K1; (dsimp only [List.cons_append, List.nil_append] at K1); clear K; (have K := K1); clear K1)
        | ((with_reducible show wpList _ _ _ _ _ _); refine Tryd.klStore (by rfl) (.tmp 15) _ (by rfl) [_] (by exact K) (by rfl) (by rfl) (by exact ⟨rfl, rfl, rfl, rfl⟩) ?_; intro V2 K1; (dsimp only [List.cons_append, List.nil_append] at K1); clear K; (have K := K1); clear K1))
      go_roundw
      case rel => exact ⟨k + 1, M2, A3, c3, B3, d3, by omega, by go_num, F2, hid (by have := F3.out; have := hmu.out; omega), hid (F4.out.trans hcs.out), hid (K.out.less (by simp) (by simp) (List.Sublist.refl _))⟩
      case measure => simp [intOf]; omega
    · have hi : ¬ (k : Int) < (N : Int) := by omega
      obtain ⟨f1, f2, f3, f4⟩ := free_end hmm.out (by have := hmu.out; omega)
      obtain rfl : M = ⟨0, [], 0, l.cs⟩ := Ln.ext' f2 f3 f4 hcs.out
      have EQ := hid f1
      clear f1 f2 f3 f4 hcs hmu hmm
      dsimp only at K N9 O9 FM'
      go_wp2_with (first
        | ((with_reducible show wpList _ _ _ _ _ _); refine Tryd.klLoad (by rfl) _ (by rfl) K (by rfl) (by repeat (first | exact List.mem_cons_self | refine List.mem_cons_of_mem _ ?_)) ?_)
        | (go_at_call 32; refine (lFree_any ⟨0, [], 0, l.cs⟩ A' _ c' B' _ d' _ rfl rfl _ (K.out.at_ (r := ⟨⟨0, [], 0, l.cs⟩, A', B'⟩) (by simp)) N9.out O9.out FM'.out (Utf8Tabs_below T.out K.out.b)).mono ?_; rintro e W3 hc; unfold RetLnE at hc; rw [EQ.out] at hc; dsimp only at hc; obtain ⟨A19, c19, B19, d19, rfl, -, -, wr3, hb3⟩ := hc; simp only [lnV]; (have K2 := hid (K.out.add hb3 wr3)); clear hb3 wr3 K; (have K := K2); clear K2)
        | ((with_reducible show wpList _ _ _ _ _ _); refine Tryd.klAlloc (by rfl) (by rfl) (some 19) (by rfl) K ?_; intro g19 V1 K1; clear K; (have K := K1); clear K1)
        | ((with_reducible show wpList _ _ _ _ _ _); refine Tryd.klStore (by rfl) (.tmp 19) _ (by rfl) [] (by exact K) (by rfl) (by rfl) (by exact ⟨rfl, rfl, rfl, rfl⟩) ?_; intro V2 K1; (dsimp only [List.cons_append, List.nil_append] at K1); clear K; (have K := K1); clear K1; obtain ⟨⟨_, _, _, _⟩, _, _, _, _⟩ := K.out.cellsOf (g := g15) (by repeat (first | exact List.mem_cons_self | refine List.mem_cons_of_mem _ ?_)); obtain ⟨⟨_, _, _, _⟩, _, _, _, _⟩ := K.out.cellsOf (g := g1) (by repeat (first | exact List.mem_cons_self | refine List.mem_cons_of_mem _ ?_)))
        | (go_at_call 34; (with_reducible refine (refSame_any B' B l.cs l.cs _ _ d' d _ _ rfl rfl _ (K.out.at_ (r := ⟨⟨0, [], 0, l.cs⟩, A', B'⟩) (by simp)).cs (K.out.at_ (r := ⟨l, A, B⟩) (by simp)).cs C9.out).mono ?_); rintro e w6 ⟨rfl, hq⟩; rw [decide_eq_true (rfl : l.cs = l.cs)]; (have K2 := hid (K.out.quiet hq)); clear hq K; (have K := K2); clear K2)
        | (go_at_call 10; (with_reducible refine (lAwake_any _ (Utf8Tabs_below T.out K.out.b)).mono ?_); rintro e W9 ⟨rfl, hb⟩; (have K2 := hid (K.out.later hb)); clear hb K; (have K := K2); clear K2))
      go_ret
      exact ⟨rfl, K.out.b⟩
set_option maxRecDepth 100000 in
set_option maxHeartbeats 8000000 in
theorem linesBack_walk (w : World) {l : Ln} {A : Option Addr} {n c : Nat} {B : Option Addr} {m d : Nat} (hA : LineIn w l A n c B m d) (at_ : Int) (_ : (Lit.int .i64 at_).wf = true) (hT : Tb w) :
    Calls Tryd.prog 7 #[.agg #[.int .i64 l.q, .slice A n c, .int .i64 l.k, .slice B m d], .int .i64 at_] w fun e w' => e = .returned (.bool true) ∧ Below w.heap.size w w' := by
  have T := hid hT
  obtain ⟨rfl, hc, rfl, hd, hat, b1, b2, wf, hz, wq, wk⟩ := hA
  have HZ := hid hz
  have K := hid (KL.start w [⟨l, A, B⟩] (by simpa using hat))
  clear hc hd wq wk
  cases hb : longL l with
  | true =>
    have HL := hid hb
    clear hb wf
    clear hT hat hz
    go_enter Tryd.func7, Tryd.ntmps7
    go_wp2_with (first
      | ((with_reducible show wpList _ _ _ _ _ _); refine Tryd.klBox (by rfl) _ (by rfl) (some 2) (by rfl) (by rfl) K ?_; intro g1 V1 K1; clear K; (have K := K1); clear K1)
      | ((with_reducible show wpList _ _ _ _ _ _); refine Tryd.klLoad (by rfl) _ (by rfl) K (by rfl) (by repeat (first | exact List.mem_cons_self | refine List.mem_cons_of_mem _ ?_)) ?_)
      | (go_at_call 9; (with_reducible refine (lLong_any l A _ c B _ d _ rfl rfl _ (K.out.at_ (r := ⟨l, A, B⟩) (by simp)) b1 b2 HZ.out).mono ?_); rintro e W1 ⟨rfl, hb⟩; rw [HL.out]; (have K2 := hid (K.out.later hb)); clear hb K; (have K := K2); clear K2)
      | (go_at_call 10; (with_reducible refine (lAwake_any _ (Utf8Tabs_below T.out K.out.b)).mono ?_); rintro e W9 ⟨rfl, hb⟩; (have K2 := hid (K.out.later hb)); clear hb K; (have K := K2); clear K2))
    go_ret
    exact ⟨rfl, K.out.b⟩
  | false =>
    have HL := hid hb
    obtain ⟨l1, l2, fi⟩ := notLong hb wf
    have FI := hid fi
    have B9 : Hid (l.ls.length ≤ 1000000000) := hid (by omega)
    have C9 : Hid (l.cs.length ≤ 1000000000) := hid (by omega)
    have L1 := hid l1
    have hlong := hb
    clear hb
    cases hb : mayL l with
    | false =>
      have MB := hid hb
      clear hb hT hat hz wf fi l1 l2 hlong
      go_enter Tryd.func7, Tryd.ntmps7
      go_wp2_with (first
        | ((with_reducible show wpList _ _ _ _ _ _); refine Tryd.klBox (by rfl) _ (by rfl) (some 2) (by rfl) (by rfl) K ?_; intro g1 V1 K1; clear K; (have K := K1); clear K1)
        | ((with_reducible show wpList _ _ _ _ _ _); refine Tryd.klLoad (by rfl) _ (by rfl) K (by rfl) (by repeat (first | exact List.mem_cons_self | refine List.mem_cons_of_mem _ ?_)) ?_)
        | (go_at_call 9; (with_reducible refine (lLong_any l A _ c B _ d _ rfl rfl _ (K.out.at_ (r := ⟨l, A, B⟩) (by simp)) b1 b2 HZ.out).mono ?_); rintro e W1 ⟨rfl, hb⟩; rw [HL.out]; (have K2 := hid (K.out.later hb)); clear hb K; (have K := K2); clear K2)
        | (go_at_call 18; (with_reducible refine (lMay_any l A _ c B _ d _ rfl rfl _ (K.out.at_ (r := ⟨l, A, B⟩) (by simp)) B9.out C9.out FI.out (Utf8Tabs_below T.out K.out.b)).mono ?_); rintro e W2 ⟨rfl, hb⟩; rw [MB.out]; (have K2 := hid (K.out.later hb)); clear hb K; (have K := K2); clear K2)
        | (go_at_call 10; (with_reducible refine (lAwake_any _ (Utf8Tabs_below T.out K.out.b)).mono ?_); rintro e W9 ⟨rfl, hb⟩; (have K2 := hid (K.out.later hb)); clear hb K; (have K := K2); clear K2))
      go_ret
      exact ⟨rfl, K.out.b⟩
    | true =>
      by_cases hi : (indentL l).2 = 0 <;> by_cases hs : splitE l at_ = 0 <;> by_cases hk : 0 < l.k
      · exact linesBack_111 w hat b1 b2 hz hlong l1 l2 fi hb at_ hi hs hk hT
      · exact linesBack_110 w hat b1 b2 hz hlong l1 l2 fi hb at_ hi hs hk hT
      · exact linesBack_101 w hat b1 b2 hz hlong l1 l2 fi hb at_ hi hs hk hT
      · exact linesBack_100 w hat b1 b2 hz hlong l1 l2 fi hb at_ hi hs hk hT
      · exact linesBack_011 w hat b1 b2 hz hlong l1 l2 fi hb at_ hi hs hk hT
      · exact linesBack_010 w hat b1 b2 hz hlong l1 l2 fi hb at_ hi hs hk hT
      · exact linesBack_001 w hat b1 b2 hz hlong l1 l2 fi hb at_ hi hs hk hT
      · exact linesBack_000 w hat b1 b2 hz hlong l1 l2 fi hb at_ hi hs hk hT
end Go.Proofs.YtpldmiencoolhaaDoor
