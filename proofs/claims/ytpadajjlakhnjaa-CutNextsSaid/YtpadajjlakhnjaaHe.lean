/- deduplaw05.CutNexts as a contract: it answers true. -/
import Derived.Test.YtpadajjlakhnjaaHc
import Derived.Test.YtpadajjlakhnjaaRf
import Derived.Deep.RegionHeld3
import Derived.BigQuiet
import Derived.Deep.QuietTactic
namespace Go.Proofs.Ytpadajjlakhnjaa.H
open Go.RowKit Go.Shelf Go.Proofs.YtpadajjlakhnjaaW.PrintWords Go.Proofs.YtpadajjlakhnjaaW.PrintLast Go.Proofs.YtpadajjlakhnjaaW.PrintMore
set_option linter.unusedVariables false
set_option linter.unusedSimpArgs false

theorem pair_beq_false (a : Int) : (a != a) = false := by simp

set_option maxRecDepth 100000 in
set_option maxHeartbeats 4000000 in
theorem nexts_any (a0 a1 a2 a3 : Int) (A : Option Addr) (c : Nat) (l : List Int) (w : World) (hr : Kd.C (Kd.int .u8) w A l.length l) (hlc : l.length ≤ c) (hl : l.length ≤ 140737488355328) :
    Calls Try.prog 3 #[.agg #[.int .i64 a0, .int .i64 a1, .int .i64 a2, .int .u64 a3], .slice A l.length c] w fun e w' => e = .returned (.bool true) ∧ Below w.heap.size w w' := by
  have hu24 := Try.underlying24
  obtain ⟨N, hN⟩ : ∃ N, nextV a0 a1 a2 a3 l = N := ⟨_, rfl⟩
  obtain ⟨E, hE⟩ : ∃ E, check a0 a1 a2 = E := ⟨_, rfl⟩
  have HN := Aside0.mk hN
  have HE := Aside0.mk hE
  have HR := Aside0.mk hr
  have HL := Aside0.mk hlc
  have HM := Aside0.mk hl
  clear hr hlc hl hN hE
  have hE0 : Kd.R (Kd.int .u8) 5 ((w.alloc (.cells #[.int .i64 a0, .int .i64 a1, .int .i64 a2, .int .u64 a3] 24)).alloc (.cells #[] 5)) w.heap.size (fun k => w.heap.size ≤ k) (.slice (some ⟨w.heap.size + 1, 0, none⟩) 0 0) [] := by
    have h := R_empty (Kd.int .u8) 5 (w.alloc (.cells #[.int .i64 a0, .int .i64 a1, .int .i64 a2, .int .u64 a3] 24))
    rw [World.size_alloc] at h
    exact Kd.R_mono (Kd.R_lower h (by omega)) (fun k hk => by omega)
  have HE0 := Aside0.mk hE0
  clear hE0
  go_enter Try.func3, Try.ntmps3
  go_wp2_with (first
    | (at_builtin; refine Kd.R_append_rows (Kd.int .u8) (w0 := w) w.heap.size rfl (.tmp 11) (.tmp 12) 25 5 (.int .u8 0) 1 rfl Try.underlying25 info5 rfl (by decide) (by omega) (.slice (some ⟨w.heap.size + 1, 0, none⟩) 0 0) [] l _ _ _ (fun k => w.heap.size ≤ k) (fun _ => False) rfl rfl ?aO ?aC (fun _ _ h => h) (fun _ h => h.elim) ?aF ?aB ?aS ?aL ?_; (case aO => exact HE0.out); (case aC => exact Kd.C_alloc (Kd.C_alloc HR.out _) _); (case aF => intro k hk; simp at hk; omega); (case aB => exact below_alloc (below_alloc (Below.refl _ _) _) _); (case aS => simp; omega); (case aL => have := HM.out; simp; omega); intro v1 w1 hR1 hB1 hg1 _; simp only [List.nil_append] at hR1; obtain ⟨A2, c2, rfl⟩ := Kd.R_slice hR1; have hRC := R_C hR1; have hq := ((hg1.block w.heap.size (by simp; omega) (by simp [Value.ownBlock])).trans (Below.heap_alloc _ _ _ (by simp))).trans (blk_new w _); have hq1 := (blk_cell hq 0).trans rfl; have hq2 := (blk_cell hq 1).trans rfl; have hq3 := (blk_cell hq 2).trans rfl; have hq4 := (blk_cell hq 3).trans rfl; have HQ := Aside0.mk hq; have HC2 := Aside0.mk hRC.2; have HB1 := Aside0.mk hB1; clear hR1 hB1 hg1 hq hRC)
    | (go_at_call 8; refine (next_any a0 a1 a2 a3 A2 c2 l _ HC2.out.2).mono ?_; rintro e w2 ⟨rfl, hB⟩; rw [HN.out, HE.out]; clear hq1 hq2 hq3 hq4; have hq := (hB.block w.heap.size (blk_lt HQ.out)).trans HQ.out; have hq1 := (blk_cell hq 0).trans rfl; have hq2 := (blk_cell hq 1).trans rfl; have hq3 := (blk_cell hq 2).trans rfl; have hq4 := (blk_cell hq 3).trans rfl; have HQ2 := Aside0.mk hq; have HC3 := Aside0.mk (Kd.C_below HC2.out.2 hB); have HB2 := Aside0.mk (below_step HB1.out hB); clear hB hq)
    | (go_at_call 9; refine (ref_next_any a0 a1 a2 a3 A c l _ (Kd.C_below HR.out HB2.out) HL.out).mono ?_; rintro e w3 ⟨rfl, hB⟩; rw [HN.out, HE.out]; clear hq1 hq2 hq3 hq4; have hq := (hB.block w.heap.size (blk_lt HQ2.out)).trans HQ2.out; have hq1 := (blk_cell hq 0).trans rfl; have hq2 := (blk_cell hq 1).trans rfl; have hq3 := (blk_cell hq 2).trans rfl; have hq4 := (blk_cell hq 3).trans rfl; have HQ3 := Aside0.mk hq; have HC4 := Aside0.mk (Kd.C_below HC3.out hB); have HB3 := Aside0.mk (below_step HB2.out hB); clear hB hq))
  clear hq1 hq2 hq3 hq4
  have hx1 : w3.cell? ⟨w.heap.size, 0, none⟩ = some (.int .i64 a0) := (blk_cell HQ3.out 0).trans rfl
  have hx2 : w3.cell? ⟨w.heap.size, 1, none⟩ = some (.int .i64 a1) := (blk_cell HQ3.out 1).trans rfl
  have hx3 : w3.cell? ⟨w.heap.size, 2, none⟩ = some (.int .i64 a2) := (blk_cell HQ3.out 2).trans rfl
  have hx4 : w3.cell? ⟨w.heap.size, 3, none⟩ = some (.int .u64 a3) := (blk_cell HQ3.out 3).trans rfl
  have hB3 := HB3.out
  have hC4 := HC4.out
  go_region_held3 (fun w' => w'.cell? ⟨w.heap.size, 0, none⟩ = some (.int .i64 a0) ∧ w'.cell? ⟨w.heap.size, 1, none⟩ = some (.int .i64 a1) ∧ w'.cell? ⟨w.heap.size, 2, none⟩ = some (.int .i64 a2) ∧ w'.cell? ⟨w.heap.size, 3, none⟩ = some (.int .u64 a3) ∧ Kd.C (Kd.int .u8) w' A2 l.length l ∧ Below w.heap.size w w') (first | exact ⟨hx1, hx2, hx3, hx4, Kd.C_drew hC4, below_drew hB3⟩ | exact ⟨cell_later hB hx1, cell_later hB hx2, cell_later hB hx3, cell_later hB hx4, Kd.C_below (Kd.C_drew hC4) hB, below_step (below_drew hB3) hB⟩ | (obtain ⟨k1, k2, k3, k4, k5, k6⟩ := ‹_ ∧ _ ∧ _ ∧ _ ∧ _ ∧ _›; exact ⟨cell_later hB k1, cell_later hB k2, cell_later hB k3, cell_later hB k4, Kd.C_below k5 hB, below_step k6 hB⟩)) (first | (go_at_call 10; refine (lives_any _).mono ?_; rintro e w' ⟨rfl, hB⟩) | (go_at_call 11; refine (check_any a0 a1 a2 a3 _).mono ?_; rintro e w' ⟨rfl, hB⟩; rw [HE.out]) | (go_at_call 12; refine (ref_check_any a0 a1 a2 a3 _).mono ?_; rintro e w' ⟨rfl, hB⟩; rw [HE.out]))
  obtain ⟨_, _, _, _, k5, k6⟩ := ‹_ ∧ _ ∧ _ ∧ _ ∧ _ ∧ _›
  have K5 := Aside0.mk k5
  have K6 := Aside0.mk k6
  have hll : (l.length : Int) ≤ 9223372036854775807 := by have := HM.out; omega
  clear k5 k6 hx1 hx2 hx3 hx4 hB3 hC4 hB
  go_wp2
  go_loopw [10] (fun ii wr => ∃ i : Int, ii = .int .i64 i ∧ 0 ≤ i ∧ i ≤ l.length ∧ Aside0 (Below w.heap.size w wr) ∧ Aside0 (Kd.C (Kd.int .u8) wr A2 l.length l)) (fun ii _ => (l.length - intOf ii).toNat)
  case atStart => exact ⟨0, rfl, Int.le_refl _, by omega, K6, K5⟩
  case round =>
    obtain ⟨i, rfl, i0, i1, HBr, HCr⟩ := hrel
    by_cases hlt : i < (l.length : Int)
    · have hlt1 : decide (i < (l.length : Int)) = true := decide_eq_true hlt
      obtain ⟨ad1, e1, hc1⟩ := Kd.at_int (Kd.C_below HR.out HBr.out) i i0 hlt
      obtain ⟨ad2, e2, hc2⟩ := Kd.at_int HCr.out i i0 hlt
      cases e1
      cases e2
      have w3 : IntKind.i64.wrap (i + 1) = i + 1 := by rw [IntKind.wrap_i64]; omega
      go_wp2
      go_quiet (fail)
      go_wp2
      go_roundw
      case rel => exact ⟨i + 1, rfl, by omega, by omega, ⟨by first | exact pw_below_drewN HBr.out _ | exact below_drew HBr.out⟩, ⟨by first | exact Kd.C_drewN HCr.out _ | exact Kd.C_drew HCr.out⟩⟩
      case measure => simp [intOf]; omega
    · have hlt1 : decide (i < (l.length : Int)) = false := decide_eq_false hlt
      go_wp2
      go_ret
      exact ⟨rfl, HBr.out⟩
end Go.Proofs.Ytpadajjlakhnjaa.H
