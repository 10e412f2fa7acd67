/- The walk of law25's awake. (Printed by wip/bldoc.py.) -/
import Derived.Test.YtblbfoniimnkcaaGreatDoorBgBl
import Derived.BigQuiet
import Derived.Deep.QuietTactic
namespace Go.Proofs.YtblbfoniimnkcaaGreatDoor
open Go.RowKit Go.Lib

theorem kgElemJ {P : Program} {ops : Array Oper} {rest : List Oper} {o : Oper} {a : Act} {w0 w : World} {Q : Exit → Act → World → Prop} {bs : List BoxG} {ds : List DocR} (hw : Region.wanted o (yielded ops a.tmps) = true) (ty : TypeId) (x : Operand) (ho : o.op = .load ty x) (d : TypeDesc) (hu : P.underlying ty = some d) (hd : d.isRow = false)
    (K : Hid (KG w0 w bs ds)) {ad : Addr} (k j : Nat) (hx : a.eval x = .pointer (some ((ad.add (k * 4)).add j))) {hs : List Hd} {b : Bool} (hm : (⟨hs, some ad, b⟩ : DocR) ∈ ds) {l : Hd} (hl : hs[k]? = some l) {v : Value} (hv : (encH l)[j]? = some v)
    (h : wpList P ops Q rest (a.put o.dst v) w) : wpList P ops Q (o :: rest) a w :=
  wpList_loadV hw ty x ho hx (run_loadVar_one w _ ty v d (by
    obtain ⟨ad', e, _, hc⟩ := (K.out.at_ hm).row (by intro e; have : hs = [] := e; rw [this] at hl; simp at hl)
    injection e with e
    subst e
    exact hc k l hl j v hv) hu hd) h
abbrev awD : List Ln := [⟨0, [], 0, []⟩, ⟨0, [0], 0, []⟩, ⟨0, [], 0, []⟩]
abbrev awS : Stt := ⟨awD, ⟨0, 0⟩, ⟨1, 0⟩, 0, 0⟩
def awH (g : Nat) : List Hd := [⟨⟨0, [], 0, []⟩, none, 0, none, 0⟩, ⟨⟨0, [0], 0, []⟩, some ⟨g, 0, none⟩, 1, none, 0⟩, ⟨⟨0, [], 0, []⟩, none, 0, none, 0⟩]
abbrev awA : List Ln := [⟨0, [], 1, []⟩, ⟨0, [0], 0, []⟩, ⟨0, [], 0, []⟩]
abbrev awB : List Ln := [⟨1, [], 0, []⟩, ⟨0, [0, 0], 0, []⟩, ⟨0, [], 0, []⟩]
abbrev awC : List Ln := [⟨0, [0], 0, []⟩, ⟨0, [0], 0, []⟩, ⟨0, [], 0, []⟩]
theorem awFA (g : Nat) : formatS ⟨lnsOf (awH g), ⟨0, 0⟩, ⟨1, 0⟩, 0, 0⟩ 1 = (⟨awA, ⟨0, 0⟩, ⟨1, 0⟩, 0, 0⟩, 0) := by show formatS awS 1 = _; decide +kernel
theorem awFA2 : formatS ⟨awA, ⟨0, 0⟩, ⟨1, 0⟩, 0, 0⟩ 1 = (⟨[], ⟨0, 0⟩, ⟨0, 0⟩, 0, 0⟩, 7) := by decide +kernel
theorem awFB (g : Nat) : eachS indentL ⟨lnsOf (awH g), ⟨0, 0⟩, ⟨1, 0⟩, 0, 0⟩ = (⟨awB, ⟨0, 0⟩, ⟨1, 0⟩, 0, 0⟩, 0) := by show eachS indentL awS = _; decide +kernel
theorem awFC (g : Nat) : listS ⟨lnsOf (awH g), ⟨0, 0⟩, ⟨1, 0⟩, 0, 0⟩ 0 = (⟨awC, ⟨0, 0⟩, ⟨1, 0⟩, 0, 0⟩, 0) := by show listS awS 0 = _; decide +kernel
theorem awFD : listS ⟨awC, ⟨0, 0⟩, ⟨1, 0⟩, 0, 0⟩ 0 = (⟨[⟨0, [], 0, []⟩, ⟨0, [], 0, []⟩, ⟨0, [], 0, []⟩], ⟨0, 0⟩, ⟨1, 0⟩, 0, 0⟩, 0) := by decide +kernel
theorem awFK (g : Nat) : kindS ⟨lnsOf (awH g), ⟨0, 0⟩, ⟨1, 0⟩, 0, 0⟩ = (0, false) := by show kindS awS = _; decide +kernel
theorem awFL (g : Nat) : listedS ⟨lnsOf (awH g), ⟨0, 0⟩, ⟨1, 0⟩, 0, 0⟩ 0 = (false, true) := by show listedS awS 0 = _; decide +kernel
def awOk (d : List Ln) : Bool := decide (d.length = 3) && d.all fun l => decide (l.ls.length ≤ 2) && decide (l.cs = [])
theorem awSmall {hs : List Hd} {d : List Ln} (h : lnsOf hs = d) (ho : awOk d = true) : hs.length ≤ 1000 ∧ (∀ x ∈ hs, x.l.ls.length ≤ 1000000 ∧ x.l.cs.length ≤ 1000000) ∧ (∀ x ∈ hs, FineC x.l.cs) := by
  unfold awOk at ho
  simp only [Bool.and_eq_true, decide_eq_true_eq] at ho
  have key : ∀ x ∈ hs, x.l.ls.length ≤ 2 ∧ x.l.cs = [] := fun x hx => by
    have h1 : x.l ∈ d := by rw [← h]; exact List.mem_map_of_mem hx
    have h2 := List.all_eq_true.1 ho.2 _ h1
    simpa using h2
  refine ⟨by rw [← lnsOf_len, h]; omega, fun x hx => ?_, fun x hx => ?_⟩
  · obtain ⟨h1, h2⟩ := key x hx
    exact ⟨by omega, by rw [h2]; simp⟩
  · rw [(key x hx).2]
    exact fun _ h => by cases h
theorem lns3 {hs : List Hd} {a b c : Ln} (h : lnsOf hs = [a, b, c]) : ∃ x y z, hs = [x, y, z] ∧ x.l = a ∧ y.l = b ∧ z.l = c := by
  match hs, h with
  | [x, y, z], h =>
    simp [lnsOf] at h
    exact ⟨x, y, z, rfl, h.1, h.2.1, h.2.2⟩
theorem awDoc (w : World) (g : Nat) (hg : w.heap.size = g) : KG w ((w.alloc (.cells #[.int .i64 0] 3)).alloc (.cells #[.int .i64 0, .slice none 0 0, .int .i64 0, .slice none 0 0, .int .i64 0, .slice (some ⟨g, 0, none⟩) 1 1, .int .i64 0, .slice none 0 0, .int .i64 0, .slice none 0 0, .int .i64 0, .slice none 0 0] 46)) [] [⟨awH g, some ⟨g + 1, 0, none⟩, true⟩] := by
  subst hg
  have hb : Below w.heap.size w ((w.alloc (.cells #[.int .i64 0] 3)).alloc (.cells #[.int .i64 0, .slice none 0 0, .int .i64 0, .slice none 0 0, .int .i64 0, .slice (some ⟨w.heap.size, 0, none⟩) 1 1, .int .i64 0, .slice none 0 0, .int .i64 0, .slice none 0 0, .int .i64 0, .slice none 0 0] 46)) := ((Below.refl _ _).alloc (Nat.le_refl _) _).alloc (by simp) _
  have k := KG.start w [] (by simp)
  refine k.addW hb ⟨fun _ => ⟨w.heap.size + 1, 0, _, rfl, by omega, by have := heap_alloc_new (w.alloc (.cells #[.int .i64 0] 3)) (.cells #[.int .i64 0, .slice none 0 0, .int .i64 0, .slice none 0 0, .int .i64 0, .slice (some ⟨w.heap.size, 0, none⟩) 1 1, .int .i64 0, .slice none 0 0, .int .i64 0, .slice none 0 0, .int .i64 0, .slice none 0 0] 46); rwa [World.size_alloc] at this, by simp [awH], rfl⟩, fun x hx => ?_⟩
  unfold awH at hx
  simp only [List.mem_cons, List.not_mem_nil, or_false] at hx
  rcases hx with rfl | rfl | rfl
  · exact ⟨⟨Wr.nil, Wr.nil⟩, Nat.le_refl _, Nat.le_refl _⟩
  · refine ⟨⟨fun _ => ⟨w.heap.size, 0, _, rfl, Nat.le_refl _, (heap_alloc_old _ _ (by simp)).trans (heap_alloc_new w _), by simp, rfl⟩, Wr.nil⟩, Nat.le_refl _, Nat.le_refl _⟩
  · exact ⟨⟨Wr.nil, Wr.nil⟩, Nat.le_refl _, Nat.le_refl _⟩
set_option maxRecDepth 100000 in
set_option maxHeartbeats 16000000 in
theorem awake25_any (w : World) (hT : Tb w) : Calls Tryz.prog 6 #[] w (IsBool true w) := by
  have T := hid hT
  obtain ⟨g, hg⟩ : ∃ g, w.heap.size = g := ⟨_, rfl⟩
  have KD := hid (awDoc w g hg)
  have S0 := hid (awSmall (hs := awH g) (d := awD) rfl (by decide +kernel))
  clear hT
  go_enter Tryz.func6, Tryz.ntmps6
  go_upto_region 11 with (first
    | go_big_skip
    | ((with_reducible show wpList _ _ _ _ _ _); refine kgAlloc (w0 := w) (bs := []) (ds := [⟨awH g, some ⟨g + 1, 0, none⟩, true⟩]) (by rfl) 26 (by rfl) (some 1) (by rfl) [.slice none 0 0, .int .i64 0, .int .i64 0, .int .i64 0, .int .i64 0, .int .i64 0, .int .i64 0] (fun _ => by kernel_rfl) (by exact KD) ?_; intro g1 V1 K1; (have K := K1); clear K1 KD)
    | ((with_reducible show wpList _ _ _ _ _ _); refine kgAlloc (by rfl) 26 (by rfl) (some 2) (by rfl) [.slice none 0 0, .int .i64 0, .int .i64 0, .int .i64 0, .int .i64 0, .int .i64 0, .int .i64 0] (fun _ => by kernel_rfl) K ?_; intro g2 V1 K1; clear K; (have K := K1); clear K1)
    | ((with_reducible show wpList _ _ _ _ _ _); refine kgAlloc (by rfl) 26 (by rfl) (some 4) (by rfl) [.slice none 0 0, .int .i64 0, .int .i64 0, .int .i64 0, .int .i64 0, .int .i64 0, .int .i64 0] (fun _ => by kernel_rfl) K ?_; intro g4 V1 K1; clear K; (have K := K1); clear K1)
    | ((with_reducible show wpList _ _ _ _ _ _); refine kgAlloc (by rfl) 26 (by rfl) (some 6) (by rfl) [.slice none 0 0, .int .i64 0, .int .i64 0, .int .i64 0, .int .i64 0, .int .i64 0, .int .i64 0] (fun _ => by kernel_rfl) K ?_; intro g6 V1 K1; clear K; (have K := K1); clear K1)
    | ((with_reducible show wpList _ _ _ _ _ _); refine kgAlloc (by rfl) 26 (by rfl) (some 8) (by rfl) [.slice none 0 0, .int .i64 0, .int .i64 0, .int .i64 0, .int .i64 0, .int .i64 0, .int .i64 0] (fun _ => by kernel_rfl) K ?_; intro g8 V1 K1; clear K; (have K := K1); clear K1)
    | ((with_reducible show wpList _ _ _ _ _ _); refine kgAlloc (by rfl) 26 (by rfl) (some 10) (by rfl) [.slice none 0 0, .int .i64 0, .int .i64 0, .int .i64 0, .int .i64 0, .int .i64 0, .int .i64 0] (fun _ => by kernel_rfl) K ?_; intro g10 V1 K1; clear K; (have K := K1); clear K1)
    | ((with_reducible show wpList _ _ _ _ _ _); refine kgStore (by rfl) 26 (.tmp 1) _ (by rfl) 7 (by kernel_rfl) [] (by exact K) (by rfl) (by rfl) [_, _, _, _, _, _, _] (by rfl) (by rfl) (by simp) (by simp [Value.oneCell']) (cs := [_, _, _, _, _, _, _]) (by rfl) ?_; intro V2 K1; (dsimp only [List.cons_append, List.nil_append] at K1); clear K; (have K := K1); clear K1)
    | ((with_reducible show wpList _ _ _ _ _ _); refine kgStore (by rfl) 26 (.tmp 2) _ (by rfl) 7 (by kernel_rfl) [] (by exact K) (by rfl) (by rfl) [_, _, _, _, _, _, _] (by rfl) (by rfl) (by simp) (by simp [Value.oneCell']) (cs := [_, _, _, _, _, _, _]) (by rfl) ?_; intro V2 K1; (dsimp only [List.cons_append, List.nil_append] at K1); clear K; (have K := K1); clear K1)
    | ((with_reducible show wpList _ _ _ _ _ _); refine kgStore (by rfl) 26 (.tmp 4) _ (by rfl) 7 (by kernel_rfl) [] (by exact K) (by rfl) (by rfl) [_, _, _, _, _, _, _] (by rfl) (by rfl) (by simp) (by simp [Value.oneCell']) (cs := [_, _, _, _, _, _, _]) (by rfl) ?_; intro V2 K1; (dsimp only [List.cons_append, List.nil_append] at K1); clear K; (have K := K1); clear K1)
    | ((with_reducible show wpList _ _ _ _ _ _); refine kgStore (by rfl) 26 (.tmp 6) _ (by rfl) 7 (by kernel_rfl) [] (by exact K) (by rfl) (by rfl) [_, _, _, _, _, _, _] (by rfl) (by rfl) (by simp) (by simp [Value.oneCell']) (cs := [_, _, _, _, _, _, _]) (by rfl) ?_; intro V2 K1; (dsimp only [List.cons_append, List.nil_append] at K1); clear K; (have K := K1); clear K1)
    | ((with_reducible show wpList _ _ _ _ _ _); refine kgStore (by rfl) 26 (.tmp 8) _ (by rfl) 7 (by kernel_rfl) [] (by exact K) (by rfl) (by rfl) [_, _, _, _, _, _, _] (by rfl) (by rfl) (by simp) (by simp [Value.oneCell']) (cs := [_, _, _, _, _, _, _]) (by rfl) ?_; intro V2 K1; (dsimp only [List.cons_append, List.nil_append] at K1); clear K; (have K := K1); clear K1)
    | ((with_reducible show wpList _ _ _ _ _ _); refine kgStore (by rfl) 26 (.tmp 10) _ (by rfl) 7 (by kernel_rfl) [] (by exact K) (by rfl) (by rfl) [_, _, _, _, _, _, _] (by rfl) (by rfl) (by simp) (by simp [Value.oneCell']) (cs := [_, _, _, _, _, _, _]) (by rfl) ?_; intro V2 K1; (dsimp only [List.cons_append, List.nil_append] at K1); clear K; (have K := K1); clear K1)
    | ((with_reducible show wpList _ _ _ _ _ _); refine kgLoadA (by rfl) 26 _ (by rfl) 7 _ Tryz.underlying26 rfl (by kernel_rfl) K (by rfl) (by repeat (first | exact List.mem_cons_self | refine List.mem_cons_of_mem _ ?_)) (part := [_, _, _, _, _, _, _]) (by rfl) (by rfl) ?_)
    | ((with_reducible show wpList _ _ _ _ _ _); refine kgLoad1 (by rfl) 22 _ (by rfl) _ Tryz.underlying22 rfl K (by rfl) (by repeat (first | exact List.mem_cons_self | refine List.mem_cons_of_mem _ ?_)) (by rfl) ?_)
    | (go_at_call 12; (with_reducible refine (bFormat_any (awH g) (some ⟨g + 1, 0, none⟩) 3 3 _ rfl _ (K.out.at_ (d := ⟨(awH g), some ⟨g + 1, 0, none⟩, true⟩) (by repeat (first | exact List.mem_cons_self | refine List.mem_cons_of_mem _ ?_))) S0.out.1 S0.out.2.1 S0.out.2.2 (Utf8Tabs_below T.out K.out.b) 0 0 1 0 0 0 1).mono ?_); rintro e W3 hc; unfold RetStE at hc; rw [awFA] at hc; obtain ⟨AA, nA, cA, hA, rfl, q1, q2, q3, ho, hb3⟩ := hc; dsimp only at q3; unfold stV; dsimp only; (have LA := hid q3); obtain ⟨xA, yA, zA, rfl, ex, ey, ez⟩ := lns3 q3; (have XA := hid ex); (have YA := hid ey); (have SA := hid (awSmall LA.out (by decide +kernel))); obtain ⟨adA, rfl, -⟩ := ho.at_.row (by simp); (obtain rfl : nA = 3 := q1); (have K2 := hid (K.out.addW hb3 ho)); clear q2 q3 ho hb3 ex ey ez K; (have K := K2); clear K2)
    | (go_at_call 12; (with_reducible refine (bFormat_any [xA, yA, zA] (some adA) 3 cA _ rfl _ (K.out.at_ (d := ⟨[xA, yA, zA], some adA, true⟩) (by repeat (first | exact List.mem_cons_self | refine List.mem_cons_of_mem _ ?_))) SA.out.1 SA.out.2.1 SA.out.2.2 (Utf8Tabs_below T.out K.out.b) 0 0 1 0 0 0 1).mono ?_); rintro e W3 hc; unfold RetStE at hc; rw [LA.out, awFA2] at hc; obtain ⟨AZ, nZ, cZ, hZ, rfl, q1, q2, q3, ho, hb3⟩ := hc; dsimp only at q3; unfold stV; dsimp only; (have K2 := hid (K.out.addW hb3 ho)); clear q1 q2 q3 ho hb3 K; (have K := K2); clear K2)
    | (go_at_call 15; (with_reducible refine (bIndent_any (awH g) (some ⟨g + 1, 0, none⟩) 3 3 _ rfl _ (K.out.at_ (d := ⟨(awH g), some ⟨g + 1, 0, none⟩, true⟩) (by repeat (first | exact List.mem_cons_self | refine List.mem_cons_of_mem _ ?_))) S0.out.1 S0.out.2.1 S0.out.2.2 (Utf8Tabs_below T.out K.out.b) 0 0 1 0 0 0).mono ?_); rintro e W3 hc; unfold RetStE at hc; rw [awFB] at hc; obtain ⟨AB, nB, cB, hB, rfl, q1, q2, q3, ho, hb3⟩ := hc; dsimp only at q3; unfold stV; dsimp only; (have LB := hid q3); obtain ⟨xB, yB, zB, rfl, ex, ey, ez⟩ := lns3 q3; (have XB := hid ex); (have YB := hid ey); (have SB := hid (awSmall LB.out (by decide +kernel))); obtain ⟨adB, rfl, -⟩ := ho.at_.row (by simp); (obtain rfl : nB = 3 := q1); (have K2 := hid (K.out.addW hb3 ho)); clear q2 q3 ho hb3 ex ey ez K; (have K := K2); clear K2)
    | (go_at_call 17; (with_reducible refine (bList_any (awH g) (some ⟨g + 1, 0, none⟩) 3 3 _ rfl _ (K.out.at_ (d := ⟨(awH g), some ⟨g + 1, 0, none⟩, true⟩) (by repeat (first | exact List.mem_cons_self | refine List.mem_cons_of_mem _ ?_))) S0.out.1 S0.out.2.1 S0.out.2.2 (Utf8Tabs_below T.out K.out.b) 0 0 1 0 0 0 0).mono ?_); rintro e W3 hc; unfold RetStE at hc; rw [awFC] at hc; obtain ⟨AC, nC, cC, hC, rfl, q1, q2, q3, ho, hb3⟩ := hc; dsimp only at q3; unfold stV; dsimp only; (have LC := hid q3); obtain ⟨xC, yC, zC, rfl, ex, ey, ez⟩ := lns3 q3; (have XC := hid ex); (have YC := hid ey); (have SC := hid (awSmall LC.out (by decide +kernel))); obtain ⟨adC, rfl, -⟩ := ho.at_.row (by simp); (obtain rfl : nC = 3 := q1); (have K2 := hid (K.out.addW hb3 ho)); clear q2 q3 ho hb3 ex ey ez K; (have K := K2); clear K2)
    | (go_at_call 17; (with_reducible refine (bList_any [xC, yC, zC] (some adC) 3 cC _ rfl _ (K.out.at_ (d := ⟨[xC, yC, zC], some adC, true⟩) (by repeat (first | exact List.mem_cons_self | refine List.mem_cons_of_mem _ ?_))) SC.out.1 SC.out.2.1 SC.out.2.2 (Utf8Tabs_below T.out K.out.b) 0 0 1 0 0 0 0).mono ?_); rintro e W3 hc; unfold RetStE at hc; rw [LC.out, awFD] at hc; obtain ⟨AD, nD, cD, hD, rfl, q1, q2, q3, ho, hb3⟩ := hc; dsimp only at q3; unfold stV; dsimp only; (have LD := hid q3); obtain ⟨xD, yD, zD, rfl, ex, ey, ez⟩ := lns3 q3; (have XD := hid ex); (have YD := hid ey); (have SD := hid (awSmall LD.out (by decide +kernel))); obtain ⟨adD, rfl, -⟩ := ho.at_.row (by simp); (obtain rfl : nD = 3 := q1); (have K2 := hid (K.out.addW hb3 ho)); clear q2 q3 ho hb3 ex ey ez K; (have K := K2); clear K2)
    | (go_at_call 7; (with_reducible refine (bKind_any (awH g) (some ⟨g + 1, 0, none⟩) 3 3 _ rfl _ (K.out.at_ (d := ⟨(awH g), some ⟨g + 1, 0, none⟩, true⟩) (by repeat (first | exact List.mem_cons_self | refine List.mem_cons_of_mem _ ?_))) S0.out.1 S0.out.2.1 S0.out.2.2 (Utf8Tabs_below T.out K.out.b) 0 0 1 0 0 0).mono ?_); rintro e W3 ⟨rfl, hb⟩; rw [awFK]; dsimp only; (have K2 := hid (K.out.later hb)); clear hb K; (have K := K2); clear K2)
    | (go_at_call 9; (with_reducible refine (bListed_any (awH g) (some ⟨g + 1, 0, none⟩) 3 3 _ rfl _ (K.out.at_ (d := ⟨(awH g), some ⟨g + 1, 0, none⟩, true⟩) (by repeat (first | exact List.mem_cons_self | refine List.mem_cons_of_mem _ ?_))) S0.out.1 S0.out.2.1 S0.out.2.2 (Utf8Tabs_below T.out K.out.b) 0 0 1 0 0 0 0).mono ?_); rintro e W3 ⟨rfl, hb⟩; rw [awFL]; dsimp only; (have K2 := hid (K.out.later hb)); clear hb K; (have K := K2); clear K2))
  dsimp only [List.append, List.append_eq, List.cons_append, List.nil_append]
  go_wp2_with (first
    | go_big_skip
    | ((with_reducible show wpList _ _ _ _ _ _); refine kgLoad1 (by rfl) 22 _ (by rfl) _ Tryz.underlying22 rfl K (by rfl) (by repeat (first | exact List.mem_cons_self | refine List.mem_cons_of_mem _ ?_)) (by rfl) ?_)
    | ((with_reducible show wpList _ _ _ _ _ _); refine kgElemJ (by rfl) 3 (.tmp 86) (by rfl) _ Tryz.underlying3 rfl K 0 2 (by rfl) (hs := [xA, yA, zA]) (by repeat (first | exact List.mem_cons_self | refine List.mem_cons_of_mem _ ?_)) (l := xA) (by rfl) (v := .int .i64 1) (by rw [show (encH xA)[2]? = some (Value.int .i64 xA.l.k) from rfl, XA.out]) ?_)
    | ((with_reducible show wpList _ _ _ _ _ _); refine kgElemJ (by rfl) 3 (.tmp 102) (by rfl) _ Tryz.underlying3 rfl K 0 0 (by rfl) (hs := [xB, yB, zB]) (by repeat (first | exact List.mem_cons_self | refine List.mem_cons_of_mem _ ?_)) (l := xB) (by rfl) (v := .int .i64 1) (by rw [show (encH xB)[0]? = some (Value.int .i64 xB.l.q) from rfl, XB.out]) ?_)
    | ((with_reducible show wpList _ _ _ _ _ _); refine kgElemJ (by rfl) 43 (.tmp 110) (by rfl) _ Tryz.underlying43 rfl K 1 1 (by rfl) (hs := [xB, yB, zB]) (by repeat (first | exact List.mem_cons_self | refine List.mem_cons_of_mem _ ?_)) (l := yB) (by rfl) (v := .slice yB.A 2 yB.c) (by rw [show (encH yB)[1]? = some (Value.slice yB.A yB.l.ls.length yB.c) from rfl, YB.out]; rfl) ?_)
    | ((with_reducible show wpList _ _ _ _ _ _); refine kgElemJ (by rfl) 43 (.tmp 123) (by rfl) _ Tryz.underlying43 rfl K 0 1 (by rfl) (hs := [xC, yC, zC]) (by repeat (first | exact List.mem_cons_self | refine List.mem_cons_of_mem _ ?_)) (l := xC) (by rfl) (v := .slice xC.A 1 xC.c) (by rw [show (encH xC)[1]? = some (Value.slice xC.A xC.l.ls.length xC.c) from rfl, XC.out]; rfl) ?_)
    | ((with_reducible show wpList _ _ _ _ _ _); refine kgElemJ (by rfl) 43 (.tmp 136) (by rfl) _ Tryz.underlying43 rfl K 1 1 (by rfl) (hs := [xD, yD, zD]) (by repeat (first | exact List.mem_cons_self | refine List.mem_cons_of_mem _ ?_)) (l := yD) (by rfl) (v := .slice yD.A 0 yD.c) (by rw [show (encH yD)[1]? = some (Value.slice yD.A yD.l.ls.length yD.c) from rfl, YD.out]; rfl) ?_))
  go_ret
  exact ⟨rfl, K.out.b⟩
end Go.Proofs.YtblbfoniimnkcaaGreatDoor
