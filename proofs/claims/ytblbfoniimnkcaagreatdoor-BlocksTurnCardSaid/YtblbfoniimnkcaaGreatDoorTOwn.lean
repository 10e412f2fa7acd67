/- The walks of typing.Own, typing.Span. (Printed by wip/bldoc.py.) -/
import Derived.Test.YtblbfoniimnkcaaGreatDoorDocOwn
import Derived.Test.YtblbfoniimnkcaaGreatDoorBgKg
import Derived.Test.YtblbfoniimnkcaaGreatDoorBgOpen
import Derived.Test.YtblbfoniimnkcaaGreatDoorBgCmp
import Derived.RegionTactic
import Derived.BigQuiet
import Derived.Deep.QuietTactic
namespace Go.Proofs.YtblbfoniimnkcaaGreatDoor
open Go.RowKit Go.Lib

/-- What a call hands back: a state in new memory. -/
def RetSt (s : Stt) (w : World) (e : Ending) (w' : World) : Prop := ∃ A n c hs, e = .returned (stV s A n c) ∧ n = hs.length ∧ n ≤ c ∧ lnsOf hs = s.d ∧ DocW w' w.heap.size A hs ∧ Below w.heap.size w w'
/-- .. and an error. -/
def RetStE (r : Stt × Int) (w : World) (e : Ending) (w' : World) : Prop := ∃ A n c hs, e = .returned (.tuple #[stV r.1 A n c, .int .i64 r.2]) ∧ n = hs.length ∧ n ≤ c ∧ lnsOf hs = r.1.d ∧ DocW w' w.heap.size A hs ∧ Below w.heap.size w w'
set_option maxRecDepth 100000 in
set_option maxHeartbeats 4000000 in
theorem tOwn_any (hs : List Hd) (A : Option Addr) (n c C : Nat) (hn : n = hs.length) (w : World) (hd : DocAt w C A hs) (h1 : hs.length ≤ 1000) (h2 : ∀ h ∈ hs, h.l.ls.length ≤ 1000000 ∧ h.l.cs.length ≤ 1000000) (al aa fl fa on off : Int) :
    Calls Tryz.prog 44 #[.agg #[.slice A n c, .int .i64 al, .int .i64 aa, .int .i64 fl, .int .i64 fa, .int .i64 on, .int .i64 off]] w (RetSt ⟨lnsOf hs, ⟨al, aa⟩, ⟨fl, fa⟩, on, off⟩ w) := by
  subst hn
  have D0 := hid h2
  have L0 := hid h1
  have K := hid (KG.start w [⟨hs, A, false⟩] (by simpa using hd.live))
  clear hd h2
  go_enter Tryz.func44, Tryz.ntmps44
  go_wp2_with (first
    | go_big_skip
    | ((with_reducible show wpList _ _ _ _ _ _); refine kgBox (by rfl) 26 _ (by rfl) (some 1) (by rfl) (by rfl) [_, _, _, _, _, _, _] (by rfl) K ?_; intro g1 V1 K1; clear K; (have K := K1); clear K1)
    | ((with_reducible show wpList _ _ _ _ _ _); refine kgAlloc (by rfl) 26 (by rfl) (some 2) (by rfl) [.slice none 0 0, .int .i64 0, .int .i64 0, .int .i64 0, .int .i64 0, .int .i64 0, .int .i64 0] (fun _ => by kernel_rfl) K ?_; intro g2 V1 K1; clear K; (have K := K1); clear K1)
    | ((with_reducible show wpList _ _ _ _ _ _); refine kgLoad1 (by rfl) 22 _ (by rfl) _ Tryz.underlying22 rfl K (by rfl) (by repeat (first | exact List.mem_cons_self | refine List.mem_cons_of_mem _ ?_)) (by rfl) ?_)
    | ((with_reducible show wpList _ _ _ _ _ _); refine kgLoadA (by rfl) 26 _ (by rfl) 7 _ Tryz.underlying26 rfl (by kernel_rfl) K (by rfl) (by repeat (first | exact List.mem_cons_self | refine List.mem_cons_of_mem _ ?_)) (part := [_, _, _, _, _, _, _]) (by rfl) (by rfl) ?_)
    | (go_at_call 65; (with_reducible refine (dOwn_any hs A _ c _ rfl _ (K.out.at_ (d := ⟨hs, A, false⟩) (by simp)) L0.out D0.out).mono ?_); rintro e W3 ⟨A3, n3, c3, hs3, rfl, q1, q2, q3, ho, hb3⟩; (have Q1 := hid q1); (have Q2 := hid q2); (have Q3 := hid q3); (have K2 := hid (K.out.addW hb3 ho)); clear q1 q2 q3 ho hb3 K; (have K := K2); clear K2)
    | ((with_reducible show wpList _ _ _ _ _ _); refine kgStore (by rfl) 22 (.tmp 6) _ (by rfl) 1 (by kernel_rfl) [_] (by exact K) (by rfl) (v := .slice A3 n3 c3) (by rfl) [.slice A3 n3 c3] (by rfl) (by rfl) (by simp) (by simp [Value.oneCell']) (cs := [_, _, _, _, _, _, _]) (by rfl) ?_; intro V2 K1; (dsimp only [List.cons_append, List.nil_append] at K1); clear K; (have K := K1); clear K1)
    | ((with_reducible show wpList _ _ _ _ _ _); refine kgStore (by rfl) 26 (.tmp 2) _ (by rfl) 7 (by kernel_rfl) [] (by exact K) (by rfl) (by rfl) [_, _, _, _, _, _, _] (by rfl) (by rfl) (by simp) (by simp [Value.oneCell']) (cs := [_, _, _, _, _, _, _]) (by rfl) ?_; intro V2 K1; (dsimp only [List.cons_append, List.nil_append] at K1); clear K; (have K := K1); clear K1))
  refine bodyPost_ret (results_c Tryz.results44 (by rfl) (K.out.loadA (off := 0) (n := 7) (by repeat (first | exact List.mem_cons_self | refine List.mem_cons_of_mem _ ?_)) Tryz.underlying26 rfl (by kernel_rfl) (part := [_, _, _, _, _, _, _]) (by rfl) (by rfl))) rfl ?_
  exact ⟨A3, n3, c3, hs3, rfl, Q1.out, Q2.out, Q3.out, K.out.docW (by simp), K.out.b⟩
end Go.Proofs.YtblbfoniimnkcaaGreatDoor
