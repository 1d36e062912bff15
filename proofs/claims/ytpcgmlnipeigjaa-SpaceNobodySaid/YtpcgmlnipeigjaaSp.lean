/- Package space: a Space that New did not give: nothing is told of it. -/
import Derived.Test.YtpcgmlnipeigjaaSn
namespace Go.Proofs.Ytpcgmlnipeigjaa.H
open Go.RowKit Go.Shelf Go.Proofs.YtpcgmlnipeigjaaW.PrintWords Go.Proofs.YtpcgmlnipeigjaaW.PrintLast Go.Proofs.YtpcgmlnipeigjaaW.PrintMore
set_option linter.unusedVariables false
set_option linter.unusedSimpArgs false
attribute [local go_sem] Oper.semAt_some

/-- New did not give it. -/
def NotMade (w : World) (p : Option Addr) : Prop := p = none ∨ ∃ X, p = some ⟨X, 0, none⟩ ∧ w.cell? ⟨X, 1, none⟩ = some (.slice none 0 0)
theorem NotMade.below {w w' : World} {p : Option Addr} (h : NotMade w p) (hb : Below w.heap.size w w') : NotMade w' p := by
  rcases h with rfl | ⟨X, rfl, hx⟩
  · exact .inl rfl
  · exact .inr ⟨X, rfl, cell_later hb hx⟩
set_option maxHeartbeats 1000000 in
theorem made_no (p : Option Addr) (w : World) (h : NotMade w p) : Calls Try.prog 32 #[.pointer p] w fun e w' => e = .returned (.bool false) ∧ Below w.heap.size w w' := by
  have hu54 := Try.underlying54
  rcases h with rfl | ⟨X, rfl, hx1⟩
  · go_enter Try.func32, Try.ntmps32
    go_wp2
    go_ret
    exact ⟨rfl, Below.refl _ _⟩
  · have e1 := fun W => run_neq_slice_nil (P := Try.prog) W 51 5 none 0 0 Try.underlying51
    go_enter Try.func32, Try.ntmps32
    go_wp2
    go_ret
    exact ⟨rfl, Below.refl _ _⟩

set_option maxHeartbeats 1000000 in
theorem mark_no (p : Option Addr) (a0 a1 : Int) (w : World) (h : NotMade w p) : Calls Try.prog 17 #[.pointer p, .agg #[.int .i64 a0, .int .i64 a1]] w fun e w' => e = .returned (.int .i64 6) ∧ Below w.heap.size w w' := by
  have hu54 := Try.underlying54
  have hu31 := Try.underlying31
  have HB0 := Aside0.mk (below_alloc (Below.refl w.heap.size w) (.cells #[.int .i64 a0, .int .i64 a1] 31))
  have HN := Aside0.mk (h.below (below_alloc (Below.refl w.heap.size w) (.cells #[.int .i64 a0, .int .i64 a1] 31)))
  clear h
  go_enter Try.func17, Try.ntmps17
  go_wp2_with (go_at_call 32; refine (made_no p _ HN.out).mono ?_; rintro e w1 ⟨rfl, hB⟩; have HB := Aside0.mk (below_step HB0.out hB); clear hB)
  go_ret
  exact ⟨rfl, HB.out⟩

set_option maxHeartbeats 1000000 in
theorem back_no (p : Option Addr) (a0 a1 what : Int) (w : World) (h : NotMade w p) : Calls Try.prog 35 #[.pointer p, .agg #[.int .i64 a0, .int .i64 a1], .int .u8 what] w fun e w' => e = .returned (.int .i64 6) ∧ Below w.heap.size w w' := by
  have hu54 := Try.underlying54
  have hu31 := Try.underlying31
  have HB0 := Aside0.mk (below_alloc (Below.refl w.heap.size w) (.cells #[.int .i64 a0, .int .i64 a1] 31))
  have HN := Aside0.mk (h.below (below_alloc (Below.refl w.heap.size w) (.cells #[.int .i64 a0, .int .i64 a1] 31)))
  clear h
  go_enter Try.func35, Try.ntmps35
  go_wp2_with (go_at_call 32; refine (made_no p _ HN.out).mono ?_; rintro e w1 ⟨rfl, hB⟩; have HB := Aside0.mk (below_step HB0.out hB); clear hB)
  go_ret
  exact ⟨rfl, HB.out⟩

set_option maxHeartbeats 1000000 in
theorem free_no (p : Option Addr) (a0 a1 : Int) (w : World) (h : NotMade w p) : Calls Try.prog 12 #[.pointer p, .agg #[.int .i64 a0, .int .i64 a1]] w fun e w' => e = .returned (.int .i64 6) ∧ Below w.heap.size w w' := by
  have hu31 := Try.underlying31
  have HB0 := Aside0.mk (below_alloc (Below.refl w.heap.size w) (.cells #[.int .i64 a0, .int .i64 a1] 31))
  have HN := Aside0.mk (h.below (below_alloc (Below.refl w.heap.size w) (.cells #[.int .i64 a0, .int .i64 a1] 31)))
  clear h
  go_enter Try.func12, Try.ntmps12
  go_wp2_with (go_at_call 35; refine (back_no p a0 a1 _ _ HN.out).mono ?_; rintro e w1 ⟨rfl, hB⟩; have HB := Aside0.mk (below_step HB0.out hB); clear hB)
  go_ret
  exact ⟨rfl, HB.out⟩

set_option maxHeartbeats 1000000 in
theorem later_no (p : Option Addr) (a0 a1 : Int) (w : World) (h : NotMade w p) : Calls Try.prog 13 #[.pointer p, .agg #[.int .i64 a0, .int .i64 a1]] w fun e w' => e = .returned (.int .i64 6) ∧ Below w.heap.size w w' := by
  have hu31 := Try.underlying31
  have HB0 := Aside0.mk (below_alloc (Below.refl w.heap.size w) (.cells #[.int .i64 a0, .int .i64 a1] 31))
  have HN := Aside0.mk (h.below (below_alloc (Below.refl w.heap.size w) (.cells #[.int .i64 a0, .int .i64 a1] 31)))
  clear h
  go_enter Try.func13, Try.ntmps13
  go_wp2_with (go_at_call 35; refine (back_no p a0 a1 _ _ HN.out).mono ?_; rintro e w1 ⟨rfl, hB⟩; have HB := Aside0.mk (below_step HB0.out hB); clear hB)
  go_ret
  exact ⟨rfl, HB.out⟩

set_option maxHeartbeats 1000000 in
theorem reserve_no (p : Option Addr) (n : Int) (w : World) (h : NotMade w p) : Calls Try.prog 15 #[.pointer p, .int .i64 n] w fun e w' => e = .returned (.int .i64 6) ∧ Below w.heap.size w w' := by
  have hu54 := Try.underlying54
  have hu31 := Try.underlying31
  have HB0 := Aside0.mk (Below.refl w.heap.size w)
  have HN := Aside0.mk (h.below (Below.refl w.heap.size w))
  clear h
  go_enter Try.func15, Try.ntmps15
  go_wp2_with (go_at_call 32; refine (made_no p _ HN.out).mono ?_; rintro e w1 ⟨rfl, hB⟩; have HB := Aside0.mk (below_step HB0.out hB); clear hB)
  go_ret
  exact ⟨rfl, HB.out⟩

set_option maxHeartbeats 1000000 in
theorem release_no (p : Option Addr) (n : Int) (w : World) (h : NotMade w p) : Calls Try.prog 16 #[.pointer p, .int .i64 n] w fun e w' => e = .returned (.int .i64 6) ∧ Below w.heap.size w w' := by
  have hu54 := Try.underlying54
  have hu31 := Try.underlying31
  have HB0 := Aside0.mk (Below.refl w.heap.size w)
  have HN := Aside0.mk (h.below (Below.refl w.heap.size w))
  clear h
  go_enter Try.func16, Try.ntmps16
  go_wp2_with (go_at_call 32; refine (made_no p _ HN.out).mono ?_; rintro e w1 ⟨rfl, hB⟩; have HB := Aside0.mk (below_step HB0.out hB); clear hB)
  go_ret
  exact ⟨rfl, HB.out⟩

set_option maxHeartbeats 1000000 in
theorem settle_no (p : Option Addr) (w : World) (h : NotMade w p) : Calls Try.prog 14 #[.pointer p] w fun e w' => e = .returned (.int .i64 0) ∧ Below w.heap.size w w' := by
  have hu54 := Try.underlying54
  have hu31 := Try.underlying31
  have HB0 := Aside0.mk (Below.refl w.heap.size w)
  have HN := Aside0.mk (h.below (Below.refl w.heap.size w))
  clear h
  go_enter Try.func14, Try.ntmps14
  go_wp2_with (go_at_call 32; refine (made_no p _ HN.out).mono ?_; rintro e w1 ⟨rfl, hB⟩; have HB := Aside0.mk (below_step HB0.out hB); clear hB)
  go_ret
  exact ⟨rfl, HB.out⟩

set_option maxHeartbeats 1000000 in
theorem left_no (p : Option Addr) (w : World) (h : NotMade w p) : Calls Try.prog 21 #[.pointer p] w fun e w' => e = .returned (.int .i64 0) ∧ Below w.heap.size w w' := by
  have hu54 := Try.underlying54
  have hu31 := Try.underlying31
  have HB0 := Aside0.mk (Below.refl w.heap.size w)
  have HN := Aside0.mk (h.below (Below.refl w.heap.size w))
  clear h
  go_enter Try.func21, Try.ntmps21
  go_wp2_with (go_at_call 32; refine (made_no p _ HN.out).mono ?_; rintro e w1 ⟨rfl, hB⟩; have HB := Aside0.mk (below_step HB0.out hB); clear hB)
  go_ret
  exact ⟨rfl, HB.out⟩

set_option maxHeartbeats 1000000 in
theorem used_no (p : Option Addr) (w : World) (h : NotMade w p) : Calls Try.prog 19 #[.pointer p] w fun e w' => e = .returned (.int .i64 0) ∧ Below w.heap.size w w' := by
  have hu54 := Try.underlying54
  have hu31 := Try.underlying31
  have HB0 := Aside0.mk (Below.refl w.heap.size w)
  have HN := Aside0.mk (h.below (Below.refl w.heap.size w))
  clear h
  go_enter Try.func19, Try.ntmps19
  go_wp2_with (go_at_call 32; refine (made_no p _ HN.out).mono ?_; rintro e w1 ⟨rfl, hB⟩; have HB := Aside0.mk (below_step HB0.out hB); clear hB)
  go_ret
  exact ⟨rfl, HB.out⟩

set_option maxHeartbeats 1000000 in
theorem waiting_no (p : Option Addr) (w : World) (h : NotMade w p) : Calls Try.prog 20 #[.pointer p] w fun e w' => e = .returned (.int .i64 0) ∧ Below w.heap.size w w' := by
  have hu54 := Try.underlying54
  have hu31 := Try.underlying31
  have HB0 := Aside0.mk (Below.refl w.heap.size w)
  have HN := Aside0.mk (h.below (Below.refl w.heap.size w))
  clear h
  go_enter Try.func20, Try.ntmps20
  go_wp2_with (go_at_call 32; refine (made_no p _ HN.out).mono ?_; rintro e w1 ⟨rfl, hB⟩; have HB := Aside0.mk (below_step HB0.out hB); clear hB)
  go_ret
  exact ⟨rfl, HB.out⟩

set_option maxHeartbeats 1000000 in
theorem made_no_q (p : Option Addr) (w : World) (h : NotMade w p) : Calls Try.prog 32 #[.pointer p] w fun e w' => e = .returned (.bool false) ∧ w' = w := by
  have hu54 := Try.underlying54
  rcases h with rfl | ⟨X, rfl, hx1⟩
  · go_enter Try.func32, Try.ntmps32
    go_wp2
    go_ret
    exact ⟨rfl, rfl⟩
  · have e1 := fun W => run_neq_slice_nil (P := Try.prog) W 51 5 none 0 0 Try.underlying51
    go_enter Try.func32, Try.ntmps32
    go_wp2
    go_ret
    exact ⟨rfl, rfl⟩
set_option maxRecDepth 100000 in
set_option maxHeartbeats 2000000 in
theorem has_no (p : Option Addr) (n : Int) (w : World) (h : NotMade w p) : Calls Try.prog 28 #[.pointer p, .int .i64 n] w fun e w' => e = .returned (.bool false) ∧ Below w.heap.size w w' := by
  have hu54 := Try.underlying54
  have hN : ∀ k, NotMade (w.drewN k) p := fun k => h.below (pw_below_drewN (Below.refl _ _) k)
  have HN := Aside0.mk hN
  clear h hN
  go_enter Try.func28, Try.ntmps28
  go_wp2
  go_quiet ((go_at_call 32; exact Calls.quiet_of_same (made_no_q p _ (HN.out _))))
  go_wp2
  go_ret
  exact ⟨rfl, pw_below_drewN (Below.refl _ _) _⟩

set_option maxHeartbeats 1000000 in
theorem bits_no (p : Option Addr) (w : World) (h : NotMade w p) : Calls Try.prog 29 #[.pointer p] w fun e w' => e = .returned (.string ByteArray.empty) ∧ Below w.heap.size w w' := by
  have hu54 := Try.underlying54
  have hu31 := Try.underlying31
  have HB0 := Aside0.mk (Below.refl w.heap.size w)
  have HN := Aside0.mk (h.below (Below.refl w.heap.size w))
  clear h
  go_enter Try.func29, Try.ntmps29
  go_wp2_with (go_at_call 32; refine (made_no p _ HN.out).mono ?_; rintro e w1 ⟨rfl, hB⟩; have HB := Aside0.mk (below_step HB0.out hB); clear hB)
  go_ret
  exact ⟨rfl, HB.out⟩

set_option maxHeartbeats 1000000 in
theorem fork_no (p : Option Addr) (w : World) (h : NotMade w p) : Calls Try.prog 24 #[.pointer p] w fun e w' => e = .returned (.pointer none) ∧ Below w.heap.size w w' := by
  have hu54 := Try.underlying54
  have hu31 := Try.underlying31
  have HB0 := Aside0.mk (Below.refl w.heap.size w)
  have HN := Aside0.mk (h.below (Below.refl w.heap.size w))
  clear h
  go_enter Try.func24, Try.ntmps24
  go_wp2_with (go_at_call 32; refine (made_no p _ HN.out).mono ?_; rintro e w1 ⟨rfl, hB⟩; have HB := Aside0.mk (below_step HB0.out hB); clear hB)
  go_ret
  exact ⟨rfl, HB.out⟩

end Go.Proofs.Ytpcgmlnipeigjaa.H
