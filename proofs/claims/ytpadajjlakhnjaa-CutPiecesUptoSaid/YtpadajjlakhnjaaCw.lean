/- (*Cutter).made, New, Write, End as contracts. -/
import Derived.Test.YtpadajjlakhnjaaPc
import Derived.Test.YtpadajjlakhnjaaHm
namespace Go.Proofs.Ytpadajjlakhnjaa.H
open Go.RowKit Go.Shelf Go.Proofs.YtpadajjlakhnjaaW.PrintWords Go.Proofs.YtpadajjlakhnjaaW.PrintLast Go.Proofs.YtpadajjlakhnjaaW.PrintMore
set_option linter.unusedVariables false
set_option linter.unusedSimpArgs false

/-- A Cutter's block (type 60; the reference's: 52): the shape, and the slice of what is left. -/
def CutAt (w : World) (X t : Nat) (a0 a1 a2 a3 : Int) (v : Value) : Prop := w.heap[X]? = some (.cells #[.int .i64 a0, .int .i64 a1, .int .i64 a2, .int .u64 a3, v] t (0, 0))
theorem CutAt.c0 {w : World} {X t : Nat} {a0 a1 a2 a3 : Int} {v : Value} (h : CutAt w X t a0 a1 a2 a3 v) : w.cell? ⟨X, 0, none⟩ = some (.int .i64 a0) := (blk_cell h 0).trans rfl
theorem CutAt.c1 {w : World} {X t : Nat} {a0 a1 a2 a3 : Int} {v : Value} (h : CutAt w X t a0 a1 a2 a3 v) : w.cell? ⟨X, 1, none⟩ = some (.int .i64 a1) := (blk_cell h 1).trans rfl
theorem CutAt.c2 {w : World} {X t : Nat} {a0 a1 a2 a3 : Int} {v : Value} (h : CutAt w X t a0 a1 a2 a3 v) : w.cell? ⟨X, 2, none⟩ = some (.int .i64 a2) := (blk_cell h 2).trans rfl
theorem CutAt.c3 {w : World} {X t : Nat} {a0 a1 a2 a3 : Int} {v : Value} (h : CutAt w X t a0 a1 a2 a3 v) : w.cell? ⟨X, 3, none⟩ = some (.int .u64 a3) := (blk_cell h 3).trans rfl
theorem CutAt.c4 {w : World} {X t : Nat} {a0 a1 a2 a3 : Int} {v : Value} (h : CutAt w X t a0 a1 a2 a3 v) : w.cell? ⟨X, 4, none⟩ = some v := (blk_cell h 4).trans rfl
theorem CutAt.f4 {w : World} {X t : Nat} {a0 a1 a2 a3 : Int} {v : Value} (h : CutAt w X t a0 a1 a2 a3 v) : w.frozen? ⟨X, 4, none⟩ = false := by
  unfold CutAt at h
  simp [World.frozen?, h]
theorem CutAt.set {w : World} {X t : Nat} {a0 a1 a2 a3 : Int} {v : Value} (v' : Value) (h : CutAt w X t a0 a1 a2 a3 v) : CutAt (w.setCell ⟨X, 4, none⟩ v') X t a0 a1 a2 a3 v' := by
  unfold CutAt at *
  obtain ⟨hlt, hk⟩ := Array.getElem?_eq_some_iff.1 h
  show (w.heap.modify X _)[X]? = _
  rw [Array.getElem?_eq_getElem (by rw [Array.size_modify]; exact hlt), Array.getElem_modify_self, hk]
  rfl

set_option maxHeartbeats 1000000 in
theorem made_yes (X : Nat) (a0 a1 a2 a3 : Int) (v : Value) (w : World) (hX : CutAt w X 60 a0 a1 a2 a3 v) (h1 : 0 < a1) : Calls Try.prog 28 #[.pointer (some ⟨X, 0, none⟩)] w fun e w' => e = .returned (.bool true) ∧ Below w.heap.size w w' := by
  have hu24 := Try.underlying24
  have hu60 := Try.underlying60
  have hx1 := hX.c1
  have hd : decide (0 < a1) = true := decide_eq_true h1
  clear hX h1
  go_enter Try.func28, Try.ntmps28
  go_wp2
  go_ret
  exact ⟨rfl, Below.refl _ _⟩

set_option maxHeartbeats 1000000 in
theorem new_good (a0 a1 a2 a3 : Int) (w : World) (hc : check a0 a1 a2 = 0) : Calls Try.prog 21 #[.agg #[.int .i64 a0, .int .i64 a1, .int .i64 a2, .int .u64 a3]] w fun e w' => ∃ X, e = .returned (.tuple #[.pointer (some ⟨X, 0, none⟩), .int .i64 0]) ∧ w.heap.size ≤ X ∧ CutAt w' X 60 a0 a1 a2 a3 (.slice none 0 0) ∧ Below w.heap.size w w' := by
  have hu24 := Try.underlying24
  have hu60 := Try.underlying60
  have HC := Aside0.mk hc
  clear hc
  go_enter Try.func21, Try.ntmps21
  go_wp2_with (go_at_call 11; refine (check_any a0 a1 a2 a3 _).mono ?_; rintro e w1 ⟨rfl, hB⟩; rw [HC.out]; have hq := (hB.block w.heap.size (by simp)).trans (blk_new w _); have hq1 := (blk_cell hq 0).trans rfl; have hq2 := (blk_cell hq 1).trans rfl; have hq3 := (blk_cell hq 2).trans rfl; have hq4 := (blk_cell hq 3).trans rfl; have HB := Aside0.mk (below_step (below_alloc (Below.refl _ _) _) hB); clear hB hq)
  go_ret2
  exact ⟨w1.heap.size, rfl, HB.out.size, World.alloc_heap_new w1 _, below_alloc HB.out _⟩
set_option maxHeartbeats 1000000 in
theorem new_bad (e0 a0 a1 a2 a3 : Int) (w : World) (he : e0 ≠ 0) (hc : check a0 a1 a2 = e0) : Calls Try.prog 21 #[.agg #[.int .i64 a0, .int .i64 a1, .int .i64 a2, .int .u64 a3]] w fun e w' => e = .returned (.tuple #[.pointer none, .int .i64 e0]) ∧ Below w.heap.size w w' := by
  have hu24 := Try.underlying24
  have he0 : (e0 != 0) = true := bne_iff_ne.mpr he
  have HC := Aside0.mk hc
  clear hc he
  go_enter Try.func21, Try.ntmps21
  go_wp2_with (go_at_call 11; refine (check_any a0 a1 a2 a3 _).mono ?_; rintro e w1 ⟨rfl, hB⟩; rw [HC.out]; have HB := Aside0.mk (below_step (below_alloc (Below.refl _ _) _) hB); clear hB)
  go_ret2
  exact ⟨rfl, HB.out⟩
end Go.Proofs.Ytpadajjlakhnjaa.H
