/- deduplaw06.SpaceAdds, every script. -/
import Derived.Test.YtpcgmlnipeigjaaSs
namespace Go.Proofs.Ytpcgmlnipeigjaa.H
open Go.RowKit Go.Shelf Go.Proofs.YtpcgmlnipeigjaaW.PrintWords Go.Proofs.YtpcgmlnipeigjaaW.PrintLast Go.Proofs.YtpcgmlnipeigjaaW.PrintMore
set_option linter.unusedVariables false
set_option linter.unusedSimpArgs false
set_option maxRecDepth 100000 in
set_option maxHeartbeats 4000000 in
theorem adds_bad (first count : Int) (A : Option Addr) (n c : Nat) (w : World) (hb : okN first count = false) :
    Calls Try.prog 4 #[.agg #[.int .i64 first, .int .i64 count, .slice A n c]] w fun e w' => e = .returned (.bool true) ∧ Below w.heap.size w w' := by
  have hu24 := Try.underlying24
  have HB := Aside0.mk hb
  have HR := Aside0.mk (show Boxed ((w.alloc (.cells #[.int .i64 first, .int .i64 count, .slice A n c] 24)).alloc (.cells #[.bool false] 4)) (w.heap.size + 1) 4 (.bool false) from alloc_new' (by simp) _)
  have HBb := Aside0.mk (below_alloc (below_alloc (Below.refl w.heap.size w) (.cells #[.int .i64 first, .int .i64 count, .slice A n c] 24)) (.cells #[.bool false] 4))
  clear hb
  refine callsIn_wide.1 (callsIn_of_wp_marks (n := 0) Try.func4 rfl trivial ?_ rfl)
  refine wpIn_wide.2 ?_
  simp only [Try.ntmps4, List.size_toArray, List.length_cons, List.length_nil, Nat.reduceAdd, Nat.reduceSub, Array.replicate_succ, Array.replicate_zero, List.push_toArray, List.append_toArray, List.nil_append, List.cons_append]
  go_wp2_with (first
    | (go_at_call 10; refine (begin_bad first count A n c _ HB.out).mono ?_; rintro e w1 ⟨rfl, hBl⟩; have hR1 : Boxed w1 (w.heap.size + 1) 4 (.bool false) := (hBl.block _ (blk_lt HR.out)).trans HR.out; have f2 := hR1.frozen; have k2 := hR1.cell; have HR1 := Aside0.mk hR1; have HB1 := Aside0.mk (below_step HBb.out hBl); clear hBl hR1))
  have hs := HR1.out.set (.bool true)
  have hc := hs.cell
  refine ⟨.bool true, ?_, rfl, HB1.out.setCell (p := ⟨w.heap.size + 1, 0, none⟩) (by show w.heap.size ≤ w.heap.size + 1; omega) _⟩
  simp [results, Try.f4, go_sem, hc]
theorem adds_any (first count : Int) (A : Option Addr) (c : Nat) (ops : List Op4) (w : World) (ho : OpsAt w A ops) (hol : ops.length ≤ 9223372036854775807) :
    Calls Try.prog 4 #[.agg #[.int .i64 first, .int .i64 count, .slice A ops.length c]] w fun e w' => e = .returned (.bool true) ∧ Below w.heap.size w w' := by
  cases hb : okN first count with
  | false => exact adds_bad first count A _ c w hb
  | true => exact adds_good first count A c ops w hb ho hol
end Go.Proofs.Ytpcgmlnipeigjaa.H
