/- The walk of law06's awake. (Printed by wip/lnlaw.py.) -/
import Derived.Test.YtpldmiencoolhaaDoorLnLaws
import Derived.Test.YtpldmiencoolhaaDoorLnSplit
import Derived.Test.YtpldmiencoolhaaDoorLnTIndent
import Derived.Test.YtpldmiencoolhaaDoorLnTOutdent
import Derived.Test.YtpldmiencoolhaaDoorLnTList
import Derived.BigQuiet
import Derived.Deep.QuietTactic
namespace Go.Proofs.YtpldmiencoolhaaDoor
open Go.RowKit Go.Lib

abbrev hLn : Ln := ⟨0, [], 2, [⟨97, 0, .empty⟩, ⟨98, 0, .empty⟩]⟩
theorem litH_wr (w : World) : LnWr (w.alloc (.cells #[.int .i32 97, .int .i64 0, .string .empty, .int .i32 98, .int .i64 0, .string .empty] 44)) w.heap.size hLn none (some ⟨w.heap.size, 0, none⟩) :=
  ⟨Wr.nil, fun _ => ⟨w.heap.size, 0, _, rfl, Nat.le_refl _, heap_alloc_new w _, by simp, rfl⟩⟩
theorem litI_at (w : World) (x : Int) (k : Int) : LnAt (w.alloc (.cells #[.int .i64 x] 3)) (w.alloc (.cells #[.int .i64 x] 3)).heap.size ⟨0, [x], k, []⟩ (some ⟨w.heap.size, 0, none⟩) none :=
  LnWr.at_ (base := w.heap.size) ⟨fun _ => ⟨w.heap.size, 0, _, rfl, Nat.le_refl _, heap_alloc_new w _, by simp, rfl⟩, Wr.nil⟩
theorem litII_at (w : World) (x y : Int) : LnAt (w.alloc (.cells #[.int .i64 x, .int .i64 y] 3)) (w.alloc (.cells #[.int .i64 x, .int .i64 y] 3)).heap.size ⟨0, [x, y], 0, []⟩ (some ⟨w.heap.size, 0, none⟩) none :=
  LnWr.at_ (base := w.heap.size) ⟨fun _ => ⟨w.heap.size, 0, _, rfl, Nat.le_refl _, heap_alloc_new w _, by simp, rfl⟩, Wr.nil⟩
theorem fineH : FineC hLn.cs := by
  intro x hx
  rcases List.mem_cons.1 hx with rfl | hx
  · exact ⟨by decide, by decide, by decide⟩
  · rcases List.mem_cons.1 hx with rfl | hx
    · exact ⟨by decide, by decide, by decide⟩
    · cases hx
theorem fine0 : FineC ([] : List Cl) := fun x hx => by cases hx
theorem mayH : mayL hLn = true := by decide +kernel
theorem splitH : splitA hLn 2 = hLn ∧ splitB hLn 2 = ⟨0, [], 0, []⟩ ∧ splitE hLn 2 = 0 := by decide +kernel
theorem indentI : indentL ⟨0, [0, 1], 0, []⟩ = (⟨0, [0, 1, 1], 0, []⟩, 0) := by decide +kernel
theorem outdent0 : outdentL ⟨0, [], 0, []⟩ = (⟨0, [], 0, []⟩, 7) := by decide +kernel
theorem listH : listL hLn 1 = (⟨0, [1], 0, hLn.cs⟩, 0) := by decide +kernel
theorem mayNot : mayL ⟨0, [0], 1, []⟩ = false := by decide +kernel
theorem awakeBoxes {w0 w : World} {b1 b2 b3 b4 b5 b6 : BoxR} {rs ws : List RowL} (K : Hid (KL w0 w [b1, b2, b3, b4, b5, b6] rs ws)) :
    ((w.cell? ⟨b1.g, 0, none⟩ = some b1.a ∧ w.cell? ⟨b1.g, 1, none⟩ = some b1.b ∧ w.cell? ⟨b1.g, 2, none⟩ = some b1.c ∧ w.cell? ⟨b1.g, 3, none⟩ = some b1.d) ∧ w.frozen? ⟨b1.g, 0, none⟩ = false ∧ w.frozen? ⟨b1.g, 1, none⟩ = false ∧ w.frozen? ⟨b1.g, 2, none⟩ = false ∧ w.frozen? ⟨b1.g, 3, none⟩ = false) ∧
    ((w.cell? ⟨b3.g, 0, none⟩ = some b3.a ∧ w.cell? ⟨b3.g, 1, none⟩ = some b3.b ∧ w.cell? ⟨b3.g, 2, none⟩ = some b3.c ∧ w.cell? ⟨b3.g, 3, none⟩ = some b3.d) ∧ w.frozen? ⟨b3.g, 0, none⟩ = false ∧ w.frozen? ⟨b3.g, 1, none⟩ = false ∧ w.frozen? ⟨b3.g, 2, none⟩ = false ∧ w.frozen? ⟨b3.g, 3, none⟩ = false) ∧
    ((w.cell? ⟨b4.g, 0, none⟩ = some b4.a ∧ w.cell? ⟨b4.g, 1, none⟩ = some b4.b ∧ w.cell? ⟨b4.g, 2, none⟩ = some b4.c ∧ w.cell? ⟨b4.g, 3, none⟩ = some b4.d) ∧ w.frozen? ⟨b4.g, 0, none⟩ = false ∧ w.frozen? ⟨b4.g, 1, none⟩ = false ∧ w.frozen? ⟨b4.g, 2, none⟩ = false ∧ w.frozen? ⟨b4.g, 3, none⟩ = false) ∧
    ((w.cell? ⟨b5.g, 0, none⟩ = some b5.a ∧ w.cell? ⟨b5.g, 1, none⟩ = some b5.b ∧ w.cell? ⟨b5.g, 2, none⟩ = some b5.c ∧ w.cell? ⟨b5.g, 3, none⟩ = some b5.d) ∧ w.frozen? ⟨b5.g, 0, none⟩ = false ∧ w.frozen? ⟨b5.g, 1, none⟩ = false ∧ w.frozen? ⟨b5.g, 2, none⟩ = false ∧ w.frozen? ⟨b5.g, 3, none⟩ = false) :=
  ⟨(K.out.bx b1 (by simp)).2.cells, (K.out.bx b3 (by simp)).2.cells, (K.out.bx b4 (by simp)).2.cells, (K.out.bx b5 (by simp)).2.cells⟩
set_option maxRecDepth 100000 in
set_option maxHeartbeats 8000000 in
theorem lAwake_any (w : World) (hT : Tb w) : Calls Tryd.prog 10 #[] w (IsBool true w) := by
  have T := hid hT
  have K := hid (KL.start w [] (by simp))
  clear hT
  go_enter Tryd.func10, Tryd.ntmps10
  go_wp2_with (first
    | ((with_reducible show wpList _ _ _ _ _ _); refine Tryd.klAlloc (w0 := w) (bs := []) (rs := [⟨hLn, none, some ⟨w.heap.size, 0, none⟩⟩]) (ws := []) (by rfl) (by rfl) (some 1) (by rfl) (by exact hid (K.out.add ((Below.refl _ _).alloc (Nat.le_refl _) _) (litH_wr w))) ?_; intro g1 V1 K1; clear K; (have K := K1); clear K1)
    | ((with_reducible show wpList _ _ _ _ _ _); refine Tryd.klStore (by rfl) (.tmp 1) _ (by rfl) [] (by exact K) (by rfl) (by rfl) (by exact ⟨rfl, rfl, rfl, rfl⟩) ?_; intro V2 K1; (dsimp only [List.cons_append, List.nil_append] at K1); clear K; (have K := K1); clear K1)
    | ((with_reducible show wpList _ _ _ _ _ _); refine Tryd.klLoad (by rfl) _ (by rfl) K (by rfl) (by repeat (first | exact List.mem_cons_self | refine List.mem_cons_of_mem _ ?_)) ?_)
    | (go_at_call 12; (refine (lSplit_any hLn none _ 0 (some ⟨w.heap.size, 0, none⟩) _ 2 _ rfl rfl _ (K.out.at_ (r := ⟨hLn, none, some ⟨w.heap.size, 0, none⟩⟩) (by simp)) (by decide) (by decide) fineH (Utf8Tabs_below T.out K.out.b) 2).mono ?_); rintro e W3 hc; unfold RetSplit at hc; rw [splitH.1, splitH.2.1, splitH.2.2] at hc; obtain ⟨A2, c2, B2, d2, A3, c3, B3, d3, rfl, wr2, wr3, -, -, hb3⟩ := hc; simp only [lnV]; clear wr2 wr3; (have K2 := hid (K.out.later hb3)); clear hb3 K; (have K := K2); clear K2)
    | ((with_reducible show wpList _ _ _ _ _ _); refine Tryd.klAlloc (by rfl) (by rfl) (some 2) (by rfl) K ?_; intro g2 V1 K1; clear K; (have K := K1); clear K1)
    | ((with_reducible show wpList _ _ _ _ _ _); refine Tryd.klAlloc (by rfl) (by rfl) (some 3) (by rfl) K ?_; intro g3 V1 K1; clear K; (have K := K1); clear K1)
    | ((with_reducible show wpList _ _ _ _ _ _); refine Tryd.klStore (by rfl) (.tmp 2) _ (by rfl) [_] (by exact K) (by rfl) (by rfl) (by exact ⟨rfl, rfl, rfl, rfl⟩) ?_; intro V2 K1; (dsimp only [List.cons_append, List.nil_append] at K1); clear K; (have K := K1); clear K1)
    | ((with_reducible show wpList _ _ _ _ _ _); refine Tryd.klStore (by rfl) (.tmp 3) _ (by rfl) [] (by exact K) (by rfl) (by rfl) (by exact ⟨rfl, rfl, rfl, rfl⟩) ?_; intro V2 K1; (dsimp only [List.cons_append, List.nil_append] at K1); clear K; (have K := K1); clear K1)
    | (go_at_call 24; (have K2 := hid (K.out.later ((Below.refl _ _).alloc (Nat.le_refl _) (.cells #[.int .i64 0, .int .i64 1] 3)))); clear K; (have K := K2); clear K2; (refine (lIndent_any ⟨0, [0, 1], 0, []⟩ _ _ 2 none _ 0 _ rfl rfl _ (litII_at _ 0 1) (by decide) (by decide) fine0 (Utf8Tabs_below T.out K.out.b)).mono ?_); rintro e W3 hc; unfold RetLnE at hc; rw [indentI] at hc; dsimp only at hc; obtain ⟨A5, c5, B5, d5, rfl, -, -, wr3, hb3⟩ := hc; simp only [lnV]; (have K2 := hid (K.out.add hb3 wr3)); clear hb3 wr3 K; (have K := K2); clear K2)
    | ((with_reducible show wpList _ _ _ _ _ _); refine Tryd.klAlloc (by rfl) (by rfl) (some 5) (by rfl) K ?_; intro g5 V1 K1; clear K; (have K := K1); clear K1)
    | ((with_reducible show wpList _ _ _ _ _ _); refine Tryd.klStore (by rfl) (.tmp 5) _ (by rfl) [] (by exact K) (by rfl) (by rfl) (by exact ⟨rfl, rfl, rfl, rfl⟩) ?_; intro V2 K1; (dsimp only [List.cons_append, List.nil_append] at K1); clear K; (have K := K1); clear K1)
    | (go_at_call 25; (refine (lOutdent_any ⟨0, [], 0, []⟩ none _ 0 none _ 0 0 rfl rfl _ ⟨SlAt.nil, SlAt.nil⟩ (by decide) (by decide) fine0 (Utf8Tabs_below T.out K.out.b)).mono ?_); rintro e W3 hc; unfold RetLnE at hc; rw [outdent0] at hc; dsimp only at hc; obtain ⟨A7, c7, B7, d7, rfl, -, -, wr3, hb3⟩ := hc; simp only [lnV]; (have K2 := hid (K.out.add hb3 wr3)); clear hb3 wr3 K; (have K := K2); clear K2)
    | ((with_reducible show wpList _ _ _ _ _ _); refine Tryd.klAlloc (by rfl) (by rfl) (some 7) (by rfl) K ?_; intro g7 V1 K1; clear K; (have K := K1); clear K1)
    | ((with_reducible show wpList _ _ _ _ _ _); refine Tryd.klStore (by rfl) (.tmp 7) _ (by rfl) [] (by exact K) (by rfl) (by rfl) (by exact ⟨rfl, rfl, rfl, rfl⟩) ?_; intro V2 K1; (dsimp only [List.cons_append, List.nil_append] at K1); clear K; (have K := K1); clear K1)
    | (go_at_call 28; (refine (lList_any hLn none _ 0 (some ⟨w.heap.size, 0, none⟩) _ 2 _ rfl rfl _ (K.out.at_ (r := ⟨hLn, none, some ⟨w.heap.size, 0, none⟩⟩) (by simp)) (by decide) (by decide) fineH (Utf8Tabs_below T.out K.out.b) 1).mono ?_); rintro e W3 hc; unfold RetLnE at hc; rw [listH] at hc; dsimp only at hc; obtain ⟨A9, c9, B9, d9, rfl, -, -, wr3, hb3⟩ := hc; simp only [lnV]; (have K2 := hid (K.out.add hb3 wr3)); clear hb3 wr3 K; (have K := K2); clear K2)
    | ((with_reducible show wpList _ _ _ _ _ _); refine Tryd.klAlloc (by rfl) (by rfl) (some 9) (by rfl) K ?_; intro g9 V1 K1; clear K; (have K := K1); clear K1)
    | ((with_reducible show wpList _ _ _ _ _ _); refine Tryd.klStore (by rfl) (.tmp 9) _ (by rfl) [] (by exact K) (by rfl) (by rfl) (by exact ⟨rfl, rfl, rfl, rfl⟩) ?_; intro V2 K1; (dsimp only [List.cons_append, List.nil_append] at K1); clear K; (have K := K1); clear K1; (obtain ⟨⟨⟨_, _, _, _⟩, _, _, _, _⟩, ⟨⟨_, _, _, _⟩, _, _, _, _⟩, ⟨⟨_, _, _, _⟩, _, _, _, _⟩, ⟨⟨_, _, _, _⟩, _, _, _, _⟩⟩ := awakeBoxes K); obtain ⟨ad, x, rfl, -, hx, x0⟩ := (K.out.at_ (r := ⟨⟨0, [0, 1, 1], 0, []⟩, A5, B5⟩) (by simp)).ls.atI (k := 2) (by simp); (obtain rfl : x = 1 := by simpa using hx.symm); (have x1 : V2.cell? ⟨ad.block, ad.off + 2, none⟩ = some (.int .i64 1) := x0); clear hx x0)
    | (go_at_call 18; (have K2 := hid (K.out.later ((Below.refl _ _).alloc (Nat.le_refl _) (.cells #[.int .i64 0] 3)))); clear K; (have K := K2); clear K2; (refine (lMay_any ⟨0, [0], 1, []⟩ _ _ 1 none _ 0 _ rfl rfl _ (litI_at _ 0 1) (by decide) (by decide) fine0 (Utf8Tabs_below T.out K.out.b)).mono ?_); rintro e W4 ⟨rfl, hb⟩; rw [mayNot]; (have K2 := hid (K.out.later hb)); clear hb K; (have K := K2); clear K2))
  go_ret
  exact ⟨rfl, K.out.b⟩
end Go.Proofs.YtpldmiencoolhaaDoor
