/- The walks of slices.Delete on attributes, attrs.Drop, the reference's Drop. -/
import Derived.Test.YtapjlkiffgfbfaaDoorAttPut2
import Derived.Deep.AppendLies
import Derived.Deep.RegionLaw
import Derived.Lib.SliceRun
import Derived.Deep.MidRow
namespace Go.Proofs.YtapjlkiffgfbfaaDoor
open Go.RowKit Go.Lib

/-! ### many values of a row of one's own, stored -/
def setMany : List Value → Nat → List Value → List Value
  | vs, _, [] => vs
  | vs, o, u :: us => setMany (vs.set o u) (o + 1) us
theorem setMany_len : ∀ (us vs : List Value) (o : Nat), (setMany vs o us).length = vs.length
  | [], _, _ => rfl
  | u :: us, vs, o => by rw [setMany, setMany_len us]; simp
theorem setMany_take : ∀ (us vs : List Value) (o : Nat), o + us.length ≤ vs.length → (setMany vs o us).take (o + us.length) = vs.take o ++ us
  | [], vs, o, _ => by simp [setMany]
  | u :: us, vs, o, h => by
    simp only [List.length_cons] at h ⊢
    rw [setMany, show o + (us.length + 1) = o + 1 + us.length from by omega, setMany_take us (vs.set o u) (o + 1) (by simp; omega)]
    rw [List.take_add_one, List.getElem?_set, if_pos rfl, if_pos (by omega), List.take_set_of_le (Nat.le_refl _)]
    simp
theorem setMany_low : ∀ (us vs : List Value) (o k : Nat), k ≤ o → (setMany vs o us).take k = vs.take k
  | [], _, _, _, _ => rfl
  | u :: us, vs, o, k, h => by
    rw [setMany, setMany_low us _ (o + 1) k (by omega), List.take_set_of_le h]
theorem ownsRow_setCells {base g n cap : Nat} {e : TypeId} {sz : Nat} : ∀ (us : List Value) (w : World) (o : Nat) (vs : List Value), w.ownsRow base e sz (.slice (some ⟨g, 0, none⟩) n cap) n vs →
    (w.setCells g o us).ownsRow base e sz (.slice (some ⟨g, 0, none⟩) n cap) n (setMany vs o us)
  | [], _, _, _, h => h
  | u :: us, _, o, _, h => ownsRow_setCells us _ (o + 1) _ (World.ownsRow.stored h o u).1
theorem ownsRow_first {base g n cap m : Nat} {e : TypeId} {sz : Nat} {w : World} {vs : List Value} (h : w.ownsRow base e sz (.slice (some ⟨g, 0, none⟩) n cap) n vs) (hm : m ≤ n) :
    w.ownsRow base e sz (.slice (some ⟨g, 0, none⟩) m cap) m (vs.take (m * sz)) := by
  have hle : m * sz ≤ n * sz := Nat.mul_le_mul_right _ hm
  refine ⟨by rw [List.length_take, h.1]; omega, ?_⟩
  rcases h.2 with ⟨h', _⟩ | ⟨g', cap', cur, h', hb, hg, hnc, hcm, hcs, htake⟩
  · simp at h'
  · simp only [Value.slice.injEq, Option.some.injEq, Addr.mk.injEq, and_true, true_and] at h'
    obtain ⟨rfl, rfl⟩ := h'
    exact .inr ⟨g, cap, cur, rfl, hb, hg, by omega, hcm, hcs, by rw [← htake, List.take_take, Nat.min_eq_left hle]⟩
theorem below_setCells3 {B : Nat} {w0 : World} : ∀ (vs : List Value) (b o : Nat) (w : World), Below B w0 w → B ≤ b → Below B w0 (w.setCells b o vs)
  | [], _, _, _, h, _ => h
  | v :: vs, b, o, _, h, hB => below_setCells3 vs b (o + 1) _ (h.setCell hB v) hB
theorem flat_take : ∀ (cs : List At) (k : Nat), (cs.flatMap encA).take (k * 2) = (cs.take k).flatMap encA
  | [], k => by simp
  | c :: cs, 0 => by simp
  | c :: cs, k + 1 => by
    rw [List.flatMap_cons, List.take_succ_cons, List.flatMap_cons, ← flat_take cs k, show (k + 1) * 2 = (encA c).length + k * 2 from by rw [encA_len]; omega, List.take_append, List.take_of_length_le (by omega)]
    congr 1
    rw [show (encA c).length + k * 2 - (encA c).length = k * 2 from by omega]

theorem run_clearA (w : World) (ty : TypeId) (b o c : Nat) (hc : ∀ j, j < 2 → (w.cell? ⟨b, o + j, none⟩).isSome = true) (hf : ∀ j, j < 2 → w.frozen? ⟨b, o + j, none⟩ = false) :
    (Builtin.clear_ #[39] ty #[.slice (some ⟨b, o, none⟩) 1 c]).run Tryd.prog w = .ok (.tuple #[]) (w.setCells b o [.string ⟨#[]⟩, .string ⟨#[]⟩]) := by
  have hst := run_storeCells_cells (P := Tryd.prog) b o [.string ⟨#[]⟩, .string ⟨#[]⟩] 0 w (by simpa using hc) (by simpa using hf) (by intro v hv; simp at hv; subst hv; rfl)
  simp only [Nat.add_zero] at hst
  have hz : (Builtin.zeroCells (Value.agg #[.string ⟨#[]⟩, .string ⟨#[]⟩]).cells 1).toList = [.string ⟨#[]⟩, .string ⟨#[]⟩] := by kernel_rfl
  simp [Builtin.clear_, run_underlying Tryd.underlying39, hz, hst]

def DelPost (base : Nat) (w : World) (ys : List At) (e : Ending) (w' : World) : Prop := ∃ v, e = .returned v ∧ Own encA 2 52 w' base v ys ∧ Below base w w'
set_option maxRecDepth 100000 in
set_option maxHeartbeats 4000000 in
theorem delete_any (g n cap base i : Nat) (xs : List At) (w : World) (ho : Own encA 2 52 w base (.slice (some ⟨g, 0, none⟩) n cap) xs) (hn : n = xs.length) (hi : i < xs.length) (hl : xs.length ≤ 1000000000) :
    Calls Tryd.prog 70 #[.slice (some ⟨g, 0, none⟩) n cap, .int .i64 (i : Nat), .int .i64 ((i : Int) + 1)] w (DelPost base w (xs.take i ++ xs.drop (i + 1))) := by
  have ho0 := ho
  unfold Own at ho0
  rw [← hn] at ho0
  have hg : base ≤ g := (ho.lt g rfl).1
  obtain ⟨hnc, hcm⟩ : n ≤ cap ∧ cap ≤ maxLen := by
    rcases ho0.2 with ⟨h', _⟩ | ⟨g', cap', cur, h', _, _, h1, h2, _⟩
    · simp at h'
    · simp only [Value.slice.injEq, Option.some.injEq, Addr.mk.injEq, and_true, true_and] at h'
      obtain ⟨rfl, rfl⟩ := h'
      exact ⟨h1, h2⟩
  obtain ⟨news, hnews⟩ : ∃ news, (xs.drop (i + 1)).flatMap encA = news := ⟨_, rfl⟩
  have hlen : news.length = (n - (i + 1)) * 2 := by rw [← hnews, length_flat encA_len, List.length_drop, hn]
  have s1 := hid hlen
  have hnewsAt : ∀ t u, news[t]? = some u → (xs.flatMap encA)[(i + 1) * 2 + t]? = some u := fun t u hu => by
    have e : xs.flatMap encA = (xs.take (i + 1)).flatMap encA ++ news := by
      rw [← hnews, ← List.flatMap_append, List.take_append_drop]
    have hl2 : ((xs.take (i + 1)).flatMap encA).length = (i + 1) * 2 := by rw [length_flat encA_len, List.length_take]; omega
    rw [e, List.getElem?_append_right (by rw [hl2]; omega), hl2, show (i + 1) * 2 + t - (i + 1) * 2 = t from by omega]
    exact hu
  have hcells : ∀ t u, news[t]? = some u → w.cell? ⟨g, (i + 1) * 2 + t, none⟩ = some u := fun t u hu => by
    have ht := (List.getElem?_eq_some_iff.1 hu).1
    rw [World.ownsRow.cellAt ho0 _ (by omega)]
    exact hnewsAt t u hu
  obtain ⟨A, hA, hsrc⟩ : ∃ A : Addr, (if cap = i + 1 then some (⟨g, 0, none⟩ : Addr) else some ⟨g, (i + 1) * 2, none⟩) = some A ∧ Hid (∀ t u, news[t]? = some u → w.drew.cell? (A.add t) = some u) := by
    by_cases h : cap = i + 1
    · refine ⟨⟨g, 0, none⟩, by simp [h], fun t u hu => ?_⟩
      have ht := (List.getElem?_eq_some_iff.1 hu).1
      omega
    · refine ⟨⟨g, (i + 1) * 2, none⟩, by simp [h], fun t u hu => ?_⟩
      rw [Addr.add_mid]
      exact hcells t u hu
  have s2 := hid (show ∀ u ∈ news, u.oneCell' = true from fun u hu => by
    rw [← hnews] at hu
    obtain ⟨x, _, hx⟩ := List.mem_flatMap.1 hu
    exact encA_one x u hx)
  have s3 := hid (show ∀ t, t < news.length → (w.drew.cell? ⟨g, 0 + i * 2 + t, none⟩).isSome = true ∧ w.drew.frozen? ⟨g, 0 + i * 2 + t, none⟩ = false from fun t ht => by
    rw [hlen] at ht
    refine ⟨?_, World.ownsRow.frozenAt ho0 _⟩
    show (w.cell? _).isSome = true
    rw [World.ownsRow.cellAt ho0 _ (by omega), List.getElem?_eq_getElem (by rw [length_flat encA_len]; omega)]
    rfl)
  obtain ⟨W1, hW1⟩ : ∃ W1, w.drew.setCells g (0 + i * 2) news = W1 := ⟨_, rfl⟩
  have hO1 : W1.ownsRow base 52 2 (.slice (some ⟨g, 0, none⟩) n cap) n (setMany (xs.flatMap encA) (0 + i * 2) news) := by
    rw [← hW1]; exact ownsRow_setCells news w.drew _ _ ho0
  have hB1 : Below base w W1 := by rw [← hW1]; exact below_setCells3 _ _ _ _ (Below.refl _ _).drew hg
  have hW := hid hW1
  have hcl : ∀ ty c, (Builtin.clear_ #[39] ty #[.slice (some ⟨g, (i + (n - (i + 1))) * 2, none⟩) (n - (i + (n - (i + 1)))) c]).run Tryd.prog W1 = .ok (.tuple #[]) (W1.setCells g ((i + (n - (i + 1))) * 2) [.string ⟨#[]⟩, .string ⟨#[]⟩]) := fun ty c => by
    rw [show n - (i + (n - (i + 1))) = 1 from by omega]
    exact run_clearA W1 ty g _ c (fun j hj => by
      rw [World.ownsRow.cellAt hO1 _ (by omega), List.getElem?_eq_getElem (by rw [setMany_len, length_flat encA_len]; omega)]
      rfl) (fun j _ => World.ownsRow.frozenAt hO1 _)
  have fin := hid (show Own encA 2 52 (W1.setCells g ((i + (n - (i + 1))) * 2) [.string ⟨#[]⟩, .string ⟨#[]⟩]) base (.slice (some ⟨g, 0, none⟩) (i + (n - (i + 1))) cap) (xs.take i ++ xs.drop (i + 1)) from by
    have h2 := ownsRow_setCells [.string ⟨#[]⟩, .string ⟨#[]⟩] W1 ((i + (n - (i + 1))) * 2) _ hO1
    have h3 := ownsRow_first h2 (m := i + (n - (i + 1))) (by omega)
    rw [setMany_low _ _ _ _ (Nat.le_refl _)] at h3
    have e1 : (i + (n - (i + 1))) * 2 = 0 + i * 2 + news.length := by rw [hlen]; omega
    rw [e1, setMany_take _ _ _ (by rw [length_flat encA_len]; omega), ← e1, Nat.zero_add, flat_take, ← hnews, ← List.flatMap_append] at h3
    unfold Own
    have e2 : (xs.take i ++ xs.drop (i + 1)).length = i + (n - (i + 1)) := by rw [List.length_append, List.length_take, List.length_drop]; omega
    rw [e2]
    exact h3)
  have finB := hid (below_setCells3 [.string ⟨#[]⟩, .string ⟨#[]⟩] g ((i + (n - (i + 1))) * 2) _ hB1 hg)
  have hi0 : (Tryd.prog.info? 52).map (·.size) = some 2 := by kernel_rfl
  obtain ⟨inf, hinf, hsz⟩ := Option.map_eq_some_iff.1 hi0
  have hin : (i : Int) + 1 ≤ (n : Int) := by omega
  have hic : i ≤ cap := by omega
  have hjc : i + 1 ≤ cap := by omega
  have hne : ((i : Int) == (i : Int) + 1) = false := beq_eq_false_iff_ne.2 (by omega)
  have w1 : IntKind.i64.wrap ((i : Int) + 1) = (i : Int) + 1 := IntWalk.i64_in _ (by unfold maxLen at hcm; omega)
  have w2 : ((i : Int) + 1).toNat = i + 1 := by omega
  have w3 : (0 : Int) ≤ (i : Int) + 1 := by omega
  have mixed : Tryd.prog.follows Departure.mixedOrders = true := by kernel_rfl
  clear hO1 hB1 hW1 hnewsAt hcells hlen hnews ho0 ho hi0 hn
  go_enter Tryd.func70, Tryd.ntmps70
  go_wp2_with fail
  go_region_law_o (refine step_append_room rfl (.tmp 22) (.tmp 25) 39 rfl 52 inf 2 Tryd.underlying39 hinf hsz g 0 i cap (by simp [Act.eval, Act.put]) A (n - (i + 1)) (cap - (i + 1)) news (by simp [Act.eval, Act.put]) s1.out hsrc.out s2.out (by omega) s3.out ?_; rw [hW.out])
  go_wp2
  go_ret
  exact ⟨_, rfl, fin.out, finB.out⟩

/-! ### Drop -/
def dropL (xs : List At) (m : ByteArray) : List At := match findN xs m with | some i => xs.take i ++ xs.drop (i + 1) | none => []
def dropE (xs : List At) (m : ByteArray) : Int := match findN xs m with | some _ => 0 | none => 2
set_option maxRecDepth 100000 in
set_option maxHeartbeats 4000000 in
theorem drop_any (A : Option Addr) (xs : List At) (n c B : Nat) (hn : n = xs.length) (m : ByteArray) (w : World) (hA : SlAt encA 2 w B A xs) (hl : xs.length ≤ 1000000000) :
    Calls Tryd.prog 44 #[.slice A n c, .string m] w (AnsA w (dropL xs m) (dropE xs m)) := by
  subst hn
  have HS := hid (hA.live (fun _ => by rw [encA_len]; omega))
  cases hf : findN xs m with
  | none =>
    have HK := hid (findK_no hf)
    have E1 := hid (show dropL xs m = [] by unfold dropL; rw [hf])
    have E2 := hid (show dropE xs m = 2 by unfold dropE; rw [hf])
    clear hf hA
    go_enter Tryd.func44, Tryd.ntmps44
    go_wp2_with (go_at_call 69; refine (at_any A xs _ c _ rfl m _ HS.out hl).mono ?_; rintro e w1 ⟨rfl, hb1⟩; rw [HK.out]; (have B1 := hid hb1); clear hb1)
    go_ret2
    exact ansA_mk E1.out.symm E2.out.symm Own.nil B1.out
  | some i =>
    have HK := hid (findK_some hf)
    have E1 := hid (show dropL xs m = xs.take i ++ xs.drop (i + 1) by unfold dropL; rw [hf])
    have E2 := hid (show dropE xs m = 0 by unfold dropE; rw [hf])
    have hlt := findN_lt hf
    clear hf hA
    go_enter Tryd.func44, Tryd.ntmps44
    go_wp2_with (first
      | (go_at_call 69; refine (at_any A xs _ c _ rfl m _ HS.out hl).mono ?_; rintro e w1 ⟨rfl, hb1⟩; rw [HK.out]; (have B1 := hid hb1); clear hb1)
      | (go_at_call 68; refine (cloneA_any A xs _ c _ rfl _ (HS.out.below B1.out) hl).mono ?_; rintro e w2 ⟨v2, rfl, ho2, hb2⟩; obtain ⟨A2, n2, c2, rfl, hn2⟩ := ho2.shape; obtain ⟨g, rfl⟩ : ∃ g, A2 = some ⟨g, 0, none⟩ := (by (rcases ho2.2 with ⟨_, h0⟩ | ⟨g, _, _, hv, _⟩); (· omega); (· (injection hv with hv); exact ⟨g, hv⟩)); (have O2 := hid (ho2.based B1.out.size)); (have B2 := hid (B1.out.trans (hb2.mono B1.out.size))); clear ho2 hb2)
      | (go_at_call 70; refine (delete_any g n2 c2 w.heap.size i xs _ O2.out hn2.out hlt hl).mono ?_; rintro e w3 ⟨v3, rfl, ho3, hb3⟩; (have O3 := hid ho3); (have B3 := hid (B2.out.trans hb3)); clear ho3 hb3))
    go_ret2
    exact ansA_mk E1.out.symm E2.out.symm O3.out B3.out
end Go.Proofs.YtapjlkiffgfbfaaDoor
