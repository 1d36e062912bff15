/- The functions of package cut that compute: Check, gear, bits.Len, first, Next, as contracts. -/
import Derived.Test.YtpadajjlakhnjaaProg
import Derived.Test.YtpadajjlakhnjaaPl
import Derived.WalkKit
import Derived.WalkSpells
import Derived.StillTailTactics
import Derived.Laws.BitsLemmas
import Derived.KernelRfl
namespace Go.Proofs.Ytpadajjlakhnjaa.H
open Go.RowKit Go.Proofs.YtpadajjlakhnjaaW.PrintWords Go.Proofs.YtpadajjlakhnjaaW.PrintLast Go.Proofs.YtpadajjlakhnjaaW.PrintMore
set_option linter.unusedVariables false
set_option linter.unusedSimpArgs false

set_option maxHeartbeats 1000000 in
theorem check_n1 (a0 a1 a2 a3 : Int) (w : World) (h0 : decide (16 ≤ a1) = false) :
    Calls Try.prog 11 #[.agg #[.int .i64 a0, .int .i64 a1, .int .i64 a2, .int .u64 a3]] w fun e w' => e = .returned (.int .i64 50) ∧ Below w.heap.size w w' := by
  have hu24 := Try.underlying24

  go_enter Try.func11, Try.ntmps11
  go_wp2
  go_ret
  exact ⟨rfl, below_alloc (Below.refl _ _) _⟩

set_option maxHeartbeats 1000000 in
theorem check_n2 (a0 a1 a2 a3 : Int) (w : World) (h0 : decide (16 ≤ a1) = true) (h1 : decide (a1 ≤ 65536) = false) :
    Calls Try.prog 11 #[.agg #[.int .i64 a0, .int .i64 a1, .int .i64 a2, .int .u64 a3]] w fun e w' => e = .returned (.int .i64 50) ∧ Below w.heap.size w w' := by
  have hu24 := Try.underlying24
  have q0 : 16 ≤ a1 := of_decide_eq_true h0
  go_enter Try.func11, Try.ntmps11
  go_wp2
  go_ret
  exact ⟨rfl, below_alloc (Below.refl _ _) _⟩

set_option maxHeartbeats 1000000 in
theorem check_n3 (a0 a1 a2 a3 : Int) (w : World) (h0 : decide (16 ≤ a1) = true) (h1 : decide (a1 ≤ 65536) = true) (h2 : (Go.bits .and .i64 a1 (a1 - 1) == 0) = false) :
    Calls Try.prog 11 #[.agg #[.int .i64 a0, .int .i64 a1, .int .i64 a2, .int .u64 a3]] w fun e w' => e = .returned (.int .i64 50) ∧ Below w.heap.size w w' := by
  have hu24 := Try.underlying24
  have q0 : 16 ≤ a1 := of_decide_eq_true h0
  have q1 : a1 ≤ 65536 := of_decide_eq_true h1
  go_enter Try.func11, Try.ntmps11
  go_wp2
  go_ret
  exact ⟨rfl, below_alloc (Below.refl _ _) _⟩

set_option maxHeartbeats 1000000 in
theorem check_n4 (a0 a1 a2 a3 : Int) (w : World) (h0 : decide (16 ≤ a1) = true) (h1 : decide (a1 ≤ 65536) = true) (h2 : (Go.bits .and .i64 a1 (a1 - 1) == 0) = true) (h3 : decide (a0 < 1) = true) :
    Calls Try.prog 11 #[.agg #[.int .i64 a0, .int .i64 a1, .int .i64 a2, .int .u64 a3]] w fun e w' => e = .returned (.int .i64 50) ∧ Below w.heap.size w w' := by
  have hu24 := Try.underlying24
  have q0 : 16 ≤ a1 := of_decide_eq_true h0
  have q1 : a1 ≤ 65536 := of_decide_eq_true h1
  go_enter Try.func11, Try.ntmps11
  go_wp2
  go_ret
  exact ⟨rfl, below_alloc (Below.refl _ _) _⟩

set_option maxHeartbeats 1000000 in
theorem check_n5 (a0 a1 a2 a3 : Int) (w : World) (h0 : decide (16 ≤ a1) = true) (h1 : decide (a1 ≤ 65536) = true) (h2 : (Go.bits .and .i64 a1 (a1 - 1) == 0) = true) (h3 : decide (a0 < 1) = false) (h4 : decide (a1 < a0) = true) :
    Calls Try.prog 11 #[.agg #[.int .i64 a0, .int .i64 a1, .int .i64 a2, .int .u64 a3]] w fun e w' => e = .returned (.int .i64 50) ∧ Below w.heap.size w w' := by
  have hu24 := Try.underlying24
  have q0 : 16 ≤ a1 := of_decide_eq_true h0
  have q1 : a1 ≤ 65536 := of_decide_eq_true h1
  go_enter Try.func11, Try.ntmps11
  go_wp2
  go_ret
  exact ⟨rfl, below_alloc (Below.refl _ _) _⟩

set_option maxHeartbeats 1000000 in
theorem check_n6 (a0 a1 a2 a3 : Int) (w : World) (h0 : decide (16 ≤ a1) = true) (h1 : decide (a1 ≤ 65536) = true) (h2 : (Go.bits .and .i64 a1 (a1 - 1) == 0) = true) (h3 : decide (a0 < 1) = false) (h4 : decide (a1 < a0) = false) (h5 : decide (a2 < a1) = true) :
    Calls Try.prog 11 #[.agg #[.int .i64 a0, .int .i64 a1, .int .i64 a2, .int .u64 a3]] w fun e w' => e = .returned (.int .i64 50) ∧ Below w.heap.size w w' := by
  have hu24 := Try.underlying24
  have q0 : 16 ≤ a1 := of_decide_eq_true h0
  have q1 : a1 ≤ 65536 := of_decide_eq_true h1
  go_enter Try.func11, Try.ntmps11
  go_wp2
  go_ret
  exact ⟨rfl, below_alloc (Below.refl _ _) _⟩

set_option maxHeartbeats 1000000 in
theorem check_n7 (a0 a1 a2 a3 : Int) (w : World) (h0 : decide (16 ≤ a1) = true) (h1 : decide (a1 ≤ 65536) = true) (h2 : (Go.bits .and .i64 a1 (a1 - 1) == 0) = true) (h3 : decide (a0 < 1) = false) (h4 : decide (a1 < a0) = false) (h5 : decide (a2 < a1) = false) (h6 : decide (8 * a1 < a2) = true) :
    Calls Try.prog 11 #[.agg #[.int .i64 a0, .int .i64 a1, .int .i64 a2, .int .u64 a3]] w fun e w' => e = .returned (.int .i64 50) ∧ Below w.heap.size w w' := by
  have hu24 := Try.underlying24
  have q0 : 16 ≤ a1 := of_decide_eq_true h0
  have q1 : a1 ≤ 65536 := of_decide_eq_true h1
  go_enter Try.func11, Try.ntmps11
  go_wp2
  go_ret
  exact ⟨rfl, below_alloc (Below.refl _ _) _⟩

set_option maxHeartbeats 1000000 in
theorem check_ok' (a0 a1 a2 a3 : Int) (w : World) (h0 : decide (16 ≤ a1) = true) (h1 : decide (a1 ≤ 65536) = true) (h2 : (Go.bits .and .i64 a1 (a1 - 1) == 0) = true) (h3 : decide (a0 < 1) = false) (h4 : decide (a1 < a0) = false) (h5 : decide (a2 < a1) = false) (h6 : decide (8 * a1 < a2) = false) :
    Calls Try.prog 11 #[.agg #[.int .i64 a0, .int .i64 a1, .int .i64 a2, .int .u64 a3]] w fun e w' => e = .returned (.int .i64 0) ∧ Below w.heap.size w w' := by
  have hu24 := Try.underlying24
  have q0 : 16 ≤ a1 := of_decide_eq_true h0
  have q1 : a1 ≤ 65536 := of_decide_eq_true h1
  go_enter Try.func11, Try.ntmps11
  go_wp2
  go_ret
  exact ⟨rfl, below_alloc (Below.refl _ _) _⟩

theorem check_any (a0 a1 a2 a3 : Int) (w : World) :
    Calls Try.prog 11 #[.agg #[.int .i64 a0, .int .i64 a1, .int .i64 a2, .int .u64 a3]] w fun e w' => e = .returned (.int .i64 (check a0 a1 a2)) ∧ Below w.heap.size w w' := by
  by_cases h0 : 16 ≤ a1
  · by_cases h1 : a1 ≤ 65536
    · by_cases h2 : a1 ∈ pows
      · have hb : (Go.bits .and .i64 a1 (a1 - 1) == 0) = true := by rw [beq_iff_eq]; exact (pow_of a1 h0 h1).2 h2
        by_cases h3 : a0 < 1
        · rw [check_bad (by omega)]
          exact check_n4 a0 a1 a2 a3 w (decide_eq_true h0) (decide_eq_true h1) hb (decide_eq_true h3)
        · by_cases h4 : a1 < a0
          · rw [check_bad (by omega)]
            exact check_n5 a0 a1 a2 a3 w (decide_eq_true h0) (decide_eq_true h1) hb (decide_eq_false h3) (decide_eq_true h4)
          · by_cases h5 : a2 < a1
            · rw [check_bad (by omega)]
              exact check_n6 a0 a1 a2 a3 w (decide_eq_true h0) (decide_eq_true h1) hb (decide_eq_false h3) (decide_eq_false h4) (decide_eq_true h5)
            · by_cases h6 : 8 * a1 < a2
              · rw [check_bad (by omega)]
                exact check_n7 a0 a1 a2 a3 w (decide_eq_true h0) (decide_eq_true h1) hb (decide_eq_false h3) (decide_eq_false h4) (decide_eq_false h5) (decide_eq_true h6)
              · rw [show check a0 a1 a2 = 0 from if_pos ⟨h2, by omega, by omega, by omega, by omega⟩]
                exact check_ok' a0 a1 a2 a3 w (decide_eq_true h0) (decide_eq_true h1) hb (decide_eq_false h3) (decide_eq_false h4) (decide_eq_false h5) (decide_eq_false h6)
      · rw [show check a0 a1 a2 = 50 from if_neg (fun h => h2 h.1)]
        exact check_n3 a0 a1 a2 a3 w (decide_eq_true h0) (decide_eq_true h1) (by rw [beq_eq_false_iff_ne]; exact fun h => h2 ((pow_of a1 h0 h1).1 h))
    · rw [show check a0 a1 a2 = 50 from if_neg (fun h => by have := pows_bound h.1; omega)]
      exact check_n2 a0 a1 a2 a3 w (decide_eq_true h0) (decide_eq_false h1)
  · rw [show check a0 a1 a2 = 50 from if_neg (fun h => by have := pows_bound h.1; omega)]
    exact check_n1 a0 a1 a2 a3 w (decide_eq_false h0)

set_option maxHeartbeats 1000000 in
theorem gear_any (a0 a1 a2 a3 b : Int) (w : World) :
    Calls Try.prog 30 #[.agg #[.int .i64 a0, .int .i64 a1, .int .i64 a2, .int .u64 a3], .int .u8 b] w fun e w' => e = .returned (.int .u64 (gearV a3 b)) ∧ Below w.heap.size w w' := by
  have hu24 := Try.underlying24
  go_enter Try.func30, Try.ntmps30
  go_wp2
  go_ret
  exact ⟨rfl, below_alloc (Below.refl _ _) _⟩

set_option maxRecDepth 100000 in
set_option maxHeartbeats 4000000 in
theorem len_any {a : Int} (h : a ∈ pows) (w : World) : Calls Try.prog 29 #[.int .u64 a] w fun e w' => e = .returned (.int .i64 (lg a + 1)) ∧ w = w' := by
  rcases pows_cases h with rfl | rfl | rfl | rfl | rfl | rfl | rfl | rfl | rfl | rfl | rfl | rfl | rfl
  all_goals
    go_enter Try.func29, Try.ntmps29
    go_wp2
    go_ret
    exact ⟨by kernel_rfl, rfl⟩
end Go.Proofs.Ytpadajjlakhnjaa.H
