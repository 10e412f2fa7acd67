/- The walk of the law BlocksTurn: it answers true. (Printed by wip/bldoc.py.) -/
import Derived.Test.YtblbfoniimnkcaaGreatDoorBgPl
import Derived.Test.YtblbfoniimnkcaaGreatDoorBlAwake
import Derived.Test.YtblbfoniimnkcaaGreatDoorDocLong
import Derived.Test.YtblbfoniimnkcaaGreatDoorBgRE
import Derived.Test.YtblbfoniimnkcaaGreatDoorBlIs
import Derived.Test.YtblbfoniimnkcaaGreatDoorBgBl
import Derived.Test.YtblbfoniimnkcaaGreatDoorBgOpen
import Derived.BigQuiet
import Derived.Deep.QuietTactic
namespace Go.Proofs.YtblbfoniimnkcaaGreatDoor
open Go.RowKit Go.Lib

theorem kgOldA {P : Program} {ops : Array Oper} {rest : List Oper} {o : Oper} {a : Act} {w0 w : World} {Q : Exit → Act → World → Prop} {bs : List BoxG} {ds : List DocR} (hw : Region.wanted o (yielded ops a.tmps) = true) (ty : TypeId) (x : Operand) (ho : o.op = .load ty x) (m : Nat) (d : TypeDesc) (hu : P.underlying ty = some d) (hd : d.isRow = true) (hi : (P.info? ty).map (·.size) = some m) {w1 : World} {bs1 : List BoxG} {ds1 : List DocR}
    (KO : Hid (KG w0 w1 bs1 ds1)) (K : Hid (KG w1 w bs ds)) {g off : Nat} (hx : a.eval x = .pointer (some ⟨g, off, none⟩)) {t : TypeId} {cs part : List Value} (hb : (⟨g, t, cs⟩ : BoxG) ∈ bs1) (hp : (cs.drop off).take m = part) (hn : part.length = m)
    (h : wpList P ops Q rest (a.put o.dst (.agg part.toArray)) w) : wpList P ops Q (o :: rest) a w :=
  wpList_loadV hw ty x ho hx (run_loadVar_addr w _ ty part d (fun j v hj => by
    rw [Addr.add_off]
    rw [K.out.b.cell (KO.out.lt hb)]
    refine KO.out.cell hb ?_
    rw [← hp, List.getElem?_take] at hj
    split at hj
    · rwa [List.getElem?_drop] at hj
    · cases hj) hu hd (by rw [hi, hn])) h
theorem okTurn {s : Stt} (ok : OkD s.d) (k kind : Int) (hk : k = 0 ∨ k = 1 ∨ k = 2 ∨ k = 3) : OkD (turnS s k kind).1.d := by
  cases hm : mayS s with
  | true =>
    rcases turnS_stay hm k kind with h | h | ⟨_, h2, _, _, h5, _⟩
    · rw [h]; exact okD_nil
    · rw [h]; exact okD_nil
    · exact ok.turnedS h2 h5
  | false =>
    have key : turnS s k kind = (zS, 1) := by
      rcases hk with rfl | rfl | rfl | rfl
      · unfold turnS formatS
        rw [if_pos rfl]
        split
        · exact eachS_no _ hm
        · rfl
      · unfold turnS
        rw [if_neg (by decide), if_pos rfl]
        exact eachS_no _ hm
      · unfold turnS
        rw [if_neg (by decide), if_neg (by decide), if_pos rfl]
        exact eachS_no _ hm
      · unfold turnS listS
        rw [if_neg (by decide), if_neg (by decide), if_neg (by decide)]
        split
        · split <;> exact eachS_no _ hm
        · rfl
    rw [key]
    exact okD_nil
set_option maxRecDepth 100000 in
set_option maxHeartbeats 32000000 in
theorem blocksTurn_walk (w : World) {s : Stt} {hs : List Hd} {A : Option Addr} {n c : Nat} (hS : StateIn w s hs A n c) (kind : Int) (_ : (Lit.int .i64 kind).wf = true) (hT : Tb w) :
    Calls Tryz.prog 4 #[stV s A n c, .int .i64 kind] w fun e w' => e = .returned (.bool true) ∧ Below w.heap.size w w' := by
  obtain ⟨d, ⟨al, aa⟩, ⟨fl, fa⟩, on, off⟩ := s
  obtain rfl : d = lnsOf hs := hS.d
  have BG := hid hS.big
  obtain rfl : n = hs.length := hS.doc.len
  have K := hid (KG.start w [⟨hs, A, false⟩] (by simpa using hS.doc.at_))
  have T := hid hT
  clear hT
  unfold stV
  dsimp only
  have WFA := hid (show (Lit.int .i64 on).wf = true from hS.w5)
  have WFB := hid (show (Lit.int .i64 off).wf = true from hS.w6)
  cases hb : longD (lnsOf hs) with
  | true =>
    have HL := hid hb
    clear hb hS
    go_enter Tryz.func4, Tryz.ntmps4
    go_wp2_with (first
      | go_big_skip
      | ((with_reducible show wpList _ _ _ _ _ _); refine kgBox (by rfl) 26 _ (by rfl) (some 2) (by rfl) (by rfl) [_, _, _, _, _, _, _] (by rfl) K ?_; intro g2 V1 K1; clear K; (have K := K1); clear K1)
      | ((with_reducible show wpList _ _ _ _ _ _); refine kgLoadA (by rfl) 26 _ (by rfl) 7 _ Tryz.underlying26 rfl (by kernel_rfl) K (by rfl) (by repeat (first | exact List.mem_cons_self | refine List.mem_cons_of_mem _ ?_)) (part := [_, _, _, _, _, _, _]) (by rfl) (by rfl) ?_)
      | (go_at_call 5; (with_reducible refine (long25_any hs A _ c _ al aa fl fa on off rfl _ (K.out.at_ (d := ⟨hs, A, false⟩) (by simp)) BG.out.1 BG.out.2).mono ?_); rintro e W1 ⟨rfl, hb⟩; rw [HL.out]; (have K2 := hid (K.out.later hb)); clear hb K; (have K := K2); clear K2)
      | (go_at_call 6; (with_reducible refine (awake25_any _ (Utf8Tabs_below T.out K.out.b)).mono ?_); rintro e W9 ⟨rfl, hb⟩; (have K2 := hid (K.out.later hb)); clear hb K; (have K := K2); clear K2))
    go_ret
    exact ⟨rfl, K.out.b⟩
  | false =>
    have HL := hid hb
    obtain ⟨okd, hz⟩ := hS.ok hb
    obtain ⟨l0, h2, hf⟩ := OkD.hs rfl okd
    have L0 := hid l0
    have H2 := hid h2
    have FI := hid hf
    have OKD := hid okd
    clear hb l0 h2 hf okd hS
    have ok0 := okTurn (s := ⟨lnsOf hs, ⟨al, aa⟩, ⟨fl, fa⟩, on, off⟩) OKD.out 0 kind (by simp)
    rw [show turnS ⟨lnsOf hs, ⟨al, aa⟩, ⟨fl, fa⟩, on, off⟩ 0 kind = formatS ⟨lnsOf hs, ⟨al, aa⟩, ⟨fl, fa⟩, on, off⟩ kind from rfl] at ok0
    obtain ⟨⟨⟨D0, ⟨pa0, pb0⟩, ⟨pc0, pd0⟩, pe0, pf0⟩, er0⟩, hr0⟩ : ∃ r, formatS ⟨lnsOf hs, ⟨al, aa⟩, ⟨fl, fa⟩, on, off⟩ kind = r := ⟨_, rfl⟩
    rw [hr0] at ok0
    have FX0 := hid hr0
    have OK0 := hid (show OkD D0 from ok0)
    clear hr0 ok0
    have ok1 := okTurn (s := ⟨lnsOf hs, ⟨al, aa⟩, ⟨fl, fa⟩, on, off⟩) OKD.out 1 kind (by simp)
    rw [show turnS ⟨lnsOf hs, ⟨al, aa⟩, ⟨fl, fa⟩, on, off⟩ 1 kind = eachS indentL ⟨lnsOf hs, ⟨al, aa⟩, ⟨fl, fa⟩, on, off⟩ from rfl] at ok1
    obtain ⟨⟨⟨D1, ⟨pa1, pb1⟩, ⟨pc1, pd1⟩, pe1, pf1⟩, er1⟩, hr1⟩ : ∃ r, eachS indentL ⟨lnsOf hs, ⟨al, aa⟩, ⟨fl, fa⟩, on, off⟩ = r := ⟨_, rfl⟩
    rw [hr1] at ok1
    have FX1 := hid hr1
    have OK1 := hid (show OkD D1 from ok1)
    clear hr1 ok1
    have ok2 := okTurn (s := ⟨lnsOf hs, ⟨al, aa⟩, ⟨fl, fa⟩, on, off⟩) OKD.out 2 kind (by simp)
    rw [show turnS ⟨lnsOf hs, ⟨al, aa⟩, ⟨fl, fa⟩, on, off⟩ 2 kind = eachS outdentL ⟨lnsOf hs, ⟨al, aa⟩, ⟨fl, fa⟩, on, off⟩ from rfl] at ok2
    obtain ⟨⟨⟨D2, ⟨pa2, pb2⟩, ⟨pc2, pd2⟩, pe2, pf2⟩, er2⟩, hr2⟩ : ∃ r, eachS outdentL ⟨lnsOf hs, ⟨al, aa⟩, ⟨fl, fa⟩, on, off⟩ = r := ⟨_, rfl⟩
    rw [hr2] at ok2
    have FX2 := hid hr2
    have OK2 := hid (show OkD D2 from ok2)
    clear hr2 ok2
    have ok3 := okTurn (s := ⟨lnsOf hs, ⟨al, aa⟩, ⟨fl, fa⟩, on, off⟩) OKD.out 3 kind (by simp)
    rw [show turnS ⟨lnsOf hs, ⟨al, aa⟩, ⟨fl, fa⟩, on, off⟩ 3 kind = listS ⟨lnsOf hs, ⟨al, aa⟩, ⟨fl, fa⟩, on, off⟩ kind from rfl] at ok3
    obtain ⟨⟨⟨D3, ⟨pa3, pb3⟩, ⟨pc3, pd3⟩, pe3, pf3⟩, er3⟩, hr3⟩ : ∃ r, listS ⟨lnsOf hs, ⟨al, aa⟩, ⟨fl, fa⟩, on, off⟩ kind = r := ⟨_, rfl⟩
    rw [hr3] at ok3
    have FX3 := hid hr3
    have OK3 := hid (show OkD D3 from ok3)
    clear hr3 ok3
    go_enter Tryz.func4, Tryz.ntmps4
    go_wp2_with (first
      | go_big_skip
      | ((with_reducible show wpList _ _ _ _ _ _); refine kgBox (by rfl) 26 _ (by rfl) (some 2) (by rfl) (by rfl) [_, _, _, _, _, _, _] (by rfl) K ?_; intro g2 V1 K1; clear K; (have K := K1); clear K1)
      | ((with_reducible show wpList _ _ _ _ _ _); refine kgLoadA (by rfl) 26 _ (by rfl) 7 _ Tryz.underlying26 rfl (by kernel_rfl) K (by rfl) (by repeat (first | exact List.mem_cons_self | refine List.mem_cons_of_mem _ ?_)) (part := [_, _, _, _, _, _, _]) (by rfl) (by rfl) ?_)
      | ((with_reducible show wpList _ _ _ _ _ _); refine kgOldA (by rfl) 26 _ (by rfl) 7 _ Tryz.underlying26 rfl (by kernel_rfl) KO K (by rfl) (by repeat (first | exact List.mem_cons_self | refine List.mem_cons_of_mem _ ?_)) (part := [_, _, _, _, _, _, _]) (by rfl) (by rfl) ?_)
      | (go_at_call 5; (with_reducible refine (long25_any hs A _ c _ al aa fl fa on off rfl _ (K.out.at_ (d := ⟨hs, A, false⟩) (by simp)) BG.out.1 BG.out.2).mono ?_); rintro e W1 ⟨rfl, hb⟩; rw [HL.out]; (have K2 := hid (K.out.later hb)); clear hb K; (have K := K2); clear K2)
      | (go_at_call 6; (with_reducible refine (awake25_any _ (Utf8Tabs_below T.out K.out.b)).mono ?_); rintro e W9 ⟨rfl, hb⟩; (have K2 := hid (K.out.later hb)); clear hb K; (have K := K2); clear K2)
      | (go_at_call 11; (with_reducible refine (rOwn23_any hs A _ c _ rfl _ (K.out.at_ (d := ⟨hs, A, false⟩) (by simp)) L0.out H2.out al aa fl fa on off).mono ?_); rintro e W4 ⟨A3, n3, c3, hs3, rfl, q1, q2, q3, ho, hb3⟩; dsimp only at q3; unfold stV; dsimp only; (obtain rfl : n3 = hs3.length := q1); (have Q3 := hid q3); (have CP : Hid (∀ z ∈ hs3, z.l.ls.length ≤ z.c) := hid (fun z hz => (ho.lines z hz).c)); (have KO := hid (K.out.addW hb3 ho)); (have HD3 := hid (KO.out.at_ (d := ⟨hs3, A3, true⟩) (by simp))); (have HDS := hid (KO.out.at_ (d := ⟨hs, A, false⟩) (by simp))); (have T4 := hid (Utf8Tabs_below T.out KO.out.b)); clear T; (have T := T4); clear T4 q2 q3 ho hb3 K; (have K := hid (KG.start W4 [⟨hs3, A3, false⟩, ⟨hs, A, false⟩] (by simpa using ⟨HD3.out, HDS.out⟩))))
      | ((with_reducible show wpList _ _ _ _ _ _); refine kgAlloc (by rfl) 26 (by rfl) (some 5) (by rfl) [.slice none 0 0, .int .i64 0, .int .i64 0, .int .i64 0, .int .i64 0, .int .i64 0, .int .i64 0] (fun _ => by kernel_rfl) K ?_; intro g5 V1 K1; clear K; (have K := K1); clear K1)
      | ((with_reducible show wpList _ _ _ _ _ _); refine kgStore (by rfl) 26 (.tmp 5) _ (by rfl) 7 (by kernel_rfl) [] (by exact K) (by rfl) (by rfl) [_, _, _, _, _, _, _] (by rfl) (by rfl) (by simp) (by simp [Value.oneCell']) (cs := [_, _, _, _, _, _, _]) (by rfl) ?_; intro V2 K1; (dsimp only [List.cons_append, List.nil_append] at K1); clear K; (have K := K1); clear K1)
      | ((with_reducible show wpList _ _ _ _ _ _); refine kgAlloc (by rfl) 26 (by rfl) (some 6) (by rfl) [.slice none 0 0, .int .i64 0, .int .i64 0, .int .i64 0, .int .i64 0, .int .i64 0, .int .i64 0] (fun _ => by kernel_rfl) K ?_; intro g6 V1 K1; clear K; (have K := K1); clear K1)
      | ((with_reducible show wpList _ _ _ _ _ _); refine kgStore (by rfl) 26 (.tmp 6) _ (by rfl) 7 (by kernel_rfl) [] (by exact K) (by rfl) (by rfl) [_, _, _, _, _, _, _] (by rfl) (by rfl) (by simp) (by simp [Value.oneCell']) (cs := [_, _, _, _, _, _, _]) (by rfl) ?_; intro V2 K1; (dsimp only [List.cons_append, List.nil_append] at K1); clear K; (have K := K1); clear K1)
      | ((with_reducible show wpList _ _ _ _ _ _); refine kgStore (by rfl) 26 (.tmp 6) _ (by rfl) 7 (by kernel_rfl) [_] (by exact K) (by rfl) (by rfl) [_, _, _, _, _, _, _] (by rfl) (by rfl) (by simp) (by simp [Value.oneCell']) (cs := [_, _, _, _, _, _, _]) (by rfl) ?_; intro V2 K1; (dsimp only [List.cons_append, List.nil_append] at K1); clear K; (have K := K1); clear K1)
      | ((with_reducible show wpList _ _ _ _ _ _); refine kgAlloc (by rfl) 26 (by rfl) (some 8) (by rfl) [.slice none 0 0, .int .i64 0, .int .i64 0, .int .i64 0, .int .i64 0, .int .i64 0, .int .i64 0] (fun _ => by kernel_rfl) K ?_; intro g8 V1 K1; clear K; (have K := K1); clear K1)
      | ((with_reducible show wpList _ _ _ _ _ _); refine kgStore (by rfl) 26 (.tmp 8) _ (by rfl) 7 (by kernel_rfl) [] (by exact K) (by rfl) (by rfl) [_, _, _, _, _, _, _] (by rfl) (by rfl) (by simp) (by simp [Value.oneCell']) (cs := [_, _, _, _, _, _, _]) (by rfl) ?_; intro V2 K1; (dsimp only [List.cons_append, List.nil_append] at K1); clear K; (have K := K1); clear K1)
      | (go_at_call 12; (with_reducible refine (bFormat_any hs A _ c _ rfl _ (K.out.at_ (d := ⟨hs, A, false⟩) (by simp)) L0.out H2.out FI.out (Utf8Tabs_below T.out K.out.b) al aa fl fa on off kind).mono ?_); rintro e W5 hc; unfold RetStE at hc; rw [FX0.out] at hc; obtain ⟨Ap0, np0, cp0, hsp0, rfl, q1, q2, q3, ho, hb3⟩ := hc; dsimp only at q3; unfold stV; dsimp only; (obtain rfl : np0 = hsp0.length := q1); (have Qp0 := hid q3); (have K2 := hid (K.out.addW hb3 ho)); clear q2 q3 ho hb3 K; (have K := K2); clear K2)
      | (go_at_call 15; (with_reducible refine (bIndent_any hs A _ c _ rfl _ (K.out.at_ (d := ⟨hs, A, false⟩) (by simp)) L0.out H2.out FI.out (Utf8Tabs_below T.out K.out.b) al aa fl fa on off).mono ?_); rintro e W5 hc; unfold RetStE at hc; rw [FX1.out] at hc; obtain ⟨Ap1, np1, cp1, hsp1, rfl, q1, q2, q3, ho, hb3⟩ := hc; dsimp only at q3; unfold stV; dsimp only; (obtain rfl : np1 = hsp1.length := q1); (have Qp1 := hid q3); (have K2 := hid (K.out.addW hb3 ho)); clear q2 q3 ho hb3 K; (have K := K2); clear K2)
      | (go_at_call 16; (with_reducible refine (bOutdent_any hs A _ c _ rfl _ (K.out.at_ (d := ⟨hs, A, false⟩) (by simp)) L0.out H2.out FI.out (Utf8Tabs_below T.out K.out.b) al aa fl fa on off).mono ?_); rintro e W5 hc; unfold RetStE at hc; rw [FX2.out] at hc; obtain ⟨Ap2, np2, cp2, hsp2, rfl, q1, q2, q3, ho, hb3⟩ := hc; dsimp only at q3; unfold stV; dsimp only; (obtain rfl : np2 = hsp2.length := q1); (have Qp2 := hid q3); (have K2 := hid (K.out.addW hb3 ho)); clear q2 q3 ho hb3 K; (have K := K2); clear K2)
      | (go_at_call 17; (with_reducible refine (bList_any hs A _ c _ rfl _ (K.out.at_ (d := ⟨hs, A, false⟩) (by simp)) L0.out H2.out FI.out (Utf8Tabs_below T.out K.out.b) al aa fl fa on off kind).mono ?_); rintro e W5 hc; unfold RetStE at hc; rw [FX3.out] at hc; obtain ⟨Ap3, np3, cp3, hsp3, rfl, q1, q2, q3, ho, hb3⟩ := hc; dsimp only at q3; unfold stV; dsimp only; (obtain rfl : np3 = hsp3.length := q1); (have Qp3 := hid q3); (have K2 := hid (K.out.addW hb3 ho)); clear q2 q3 ho hb3 K; (have K := K2); clear K2)
      | (go_at_call 13; (with_reducible refine (rEach25_0 hs3 A3 _ c3 _ rfl _ (K.out.at_ (d := ⟨hs3, A3, false⟩) (by simp)) (OkD.hs Q3.out OKD.out).1 (OkD.hs Q3.out OKD.out).2.1 (OkD.hs Q3.out OKD.out).2.2 CP.out al aa fl fa on off WFA.out WFB.out kind).mono ?_); rintro e W5 hc; unfold RetStE at hc; rw [Q3.out, FX0.out] at hc; obtain ⟨Ar0, nr0, cr0, hsr0, rfl, q1, q2, q3, ho, hb3⟩ := hc; dsimp only at q3; unfold stV; dsimp only; (obtain rfl : nr0 = hsr0.length := q1); (have Qr0 := hid q3); (have K2 := hid (K.out.addW hb3 ho)); clear q2 q3 ho hb3 K; (have K := K2); clear K2)
      | (go_at_call 13; (with_reducible refine (rEach25_1 hs3 A3 _ c3 _ rfl _ (K.out.at_ (d := ⟨hs3, A3, false⟩) (by simp)) (OkD.hs Q3.out OKD.out).1 (OkD.hs Q3.out OKD.out).2.1 (OkD.hs Q3.out OKD.out).2.2 CP.out al aa fl fa on off WFA.out WFB.out _).mono ?_); rintro e W5 hc; unfold RetStE at hc; rw [Q3.out, FX1.out] at hc; obtain ⟨Ar1, nr1, cr1, hsr1, rfl, q1, q2, q3, ho, hb3⟩ := hc; dsimp only at q3; unfold stV; dsimp only; (obtain rfl : nr1 = hsr1.length := q1); (have Qr1 := hid q3); (have K2 := hid (K.out.addW hb3 ho)); clear q2 q3 ho hb3 K; (have K := K2); clear K2)
      | (go_at_call 13; (with_reducible refine (rEach25_2 hs3 A3 _ c3 _ rfl _ (K.out.at_ (d := ⟨hs3, A3, false⟩) (by simp)) (OkD.hs Q3.out OKD.out).1 (OkD.hs Q3.out OKD.out).2.1 (OkD.hs Q3.out OKD.out).2.2 CP.out al aa fl fa on off WFA.out WFB.out _).mono ?_); rintro e W5 hc; unfold RetStE at hc; rw [Q3.out, FX2.out] at hc; obtain ⟨Ar2, nr2, cr2, hsr2, rfl, q1, q2, q3, ho, hb3⟩ := hc; dsimp only at q3; unfold stV; dsimp only; (obtain rfl : nr2 = hsr2.length := q1); (have Qr2 := hid q3); (have K2 := hid (K.out.addW hb3 ho)); clear q2 q3 ho hb3 K; (have K := K2); clear K2)
      | (go_at_call 18; (with_reducible refine (rList25_any hs3 A3 _ c3 _ rfl _ (K.out.at_ (d := ⟨hs3, A3, false⟩) (by simp)) (OkD.hs Q3.out OKD.out).1 (OkD.hs Q3.out OKD.out).2.1 (OkD.hs Q3.out OKD.out).2.2 CP.out al aa fl fa on off kind WFA.out WFB.out).mono ?_); rintro e W5 hc; unfold RetStE at hc; rw [Q3.out, FX3.out] at hc; obtain ⟨Ar3, nr3, cr3, hsr3, rfl, q1, q2, q3, ho, hb3⟩ := hc; dsimp only at q3; unfold stV; dsimp only; (obtain rfl : nr3 = hsr3.length := q1); (have Qr3 := hid q3); (have K2 := hid (K.out.addW hb3 ho)); clear q2 q3 ho hb3 K; (have K := K2); clear K2)
      | (go_at_call 14; (with_reducible refine (is25_any hsp3 hsr3 Ap3 Ar3 _ cp3 _ cr3 _ rfl rfl _ _ (K.out.docW (hs := hsp3) (A := Ap3) (by simp)) (K.out.at_ (d := ⟨hsr3, Ar3, true⟩) (by simp)) (OkD.hs Qp3.out OK3.out).1 (OkD.hs Qp3.out OK3.out).2.1 pa3 pb3 pc3 pd3 pe3 pf3 er3 (Qp3.out.trans Qr3.out.symm)).mono ?_); rintro e W7 ⟨rfl, ho⟩; (have K2 := hid (K.out.wrote ho (by simp) (ds' := [⟨hs3, A3, false⟩, ⟨hs, A, false⟩]) (by simpa using ⟨HD3.out, HDS.out⟩))); clear ho K; (have K := K2); clear K2)
      | (go_at_call 14; (with_reducible refine (is25_any hsp2 hsr2 Ap2 Ar2 _ cp2 _ cr2 _ rfl rfl _ _ (K.out.docW (hs := hsp2) (A := Ap2) (by simp)) (K.out.at_ (d := ⟨hsr2, Ar2, true⟩) (by simp)) (OkD.hs Qp2.out OK2.out).1 (OkD.hs Qp2.out OK2.out).2.1 pa2 pb2 pc2 pd2 pe2 pf2 er2 (Qp2.out.trans Qr2.out.symm)).mono ?_); rintro e W7 ⟨rfl, ho⟩; (have K2 := hid (K.out.wrote ho (by simp) (ds' := [⟨hs3, A3, false⟩, ⟨hs, A, false⟩]) (by simpa using ⟨HD3.out, HDS.out⟩))); clear ho K; (have K := K2); clear K2)
      | (go_at_call 14; (with_reducible refine (is25_any hsp1 hsr1 Ap1 Ar1 _ cp1 _ cr1 _ rfl rfl _ _ (K.out.docW (hs := hsp1) (A := Ap1) (by simp)) (K.out.at_ (d := ⟨hsr1, Ar1, true⟩) (by simp)) (OkD.hs Qp1.out OK1.out).1 (OkD.hs Qp1.out OK1.out).2.1 pa1 pb1 pc1 pd1 pe1 pf1 er1 (Qp1.out.trans Qr1.out.symm)).mono ?_); rintro e W7 ⟨rfl, ho⟩; (have K2 := hid (K.out.wrote ho (by simp) (ds' := [⟨hs3, A3, false⟩, ⟨hs, A, false⟩]) (by simpa using ⟨HD3.out, HDS.out⟩))); clear ho K; (have K := K2); clear K2)
      | (go_at_call 14; (with_reducible refine (is25_any hsp0 hsr0 Ap0 Ar0 _ cp0 _ cr0 _ rfl rfl _ _ (K.out.docW (hs := hsp0) (A := Ap0) (by simp)) (K.out.at_ (d := ⟨hsr0, Ar0, true⟩) (by simp)) (OkD.hs Qp0.out OK0.out).1 (OkD.hs Qp0.out OK0.out).2.1 pa0 pb0 pc0 pd0 pe0 pf0 er0 (Qp0.out.trans Qr0.out.symm)).mono ?_); rintro e W7 ⟨rfl, ho⟩; (have K2 := hid (K.out.wrote ho (by simp) (ds' := [⟨hs3, A3, false⟩, ⟨hs, A, false⟩]) (by simpa using ⟨HD3.out, HDS.out⟩))); clear ho K; (have K := K2); clear K2)
      | (go_at_call 19; (with_reducible refine (rSame23_yes hs hs3 A A3 _ _ c c3 _ _ rfl rfl _ (K.out.at_ (d := ⟨hs, A, false⟩) (by simp)) (K.out.at_ (d := ⟨hs3, A3, false⟩) (by simp)) L0.out H2.out al aa fl fa on off Q3.out.symm).mono ?_); rintro e W8 ⟨rfl, hb⟩; (have K2 := hid (K.out.later hb)); clear hb K; (have K := K2); clear K2))
    go_ret
    exact ⟨rfl, KO.out.b.trans (K.out.b.mono KO.out.b.size)⟩
end Go.Proofs.YtblbfoniimnkcaaGreatDoor
