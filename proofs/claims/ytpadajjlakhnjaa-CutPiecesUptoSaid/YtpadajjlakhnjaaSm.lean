/- deduplaw05.same, and the reference's Check and Mix, as contracts. -/
import Derived.Test.YtpadajjlakhnjaaHb
import Derived.BigQuiet
import Derived.Deep.QuietTactic
namespace Go.Proofs.Ytpadajjlakhnjaa.H
open Go.RowKit Go.Shelf Go.Proofs.YtpadajjlakhnjaaW.PrintWords Go.Proofs.YtpadajjlakhnjaaW.PrintLast Go.Proofs.YtpadajjlakhnjaaW.PrintMore
set_option linter.unusedVariables false
set_option linter.unusedSimpArgs false

theorem ne_self_false (a : Int) : (a != a) = false := by simp
set_option maxHeartbeats 1000000 in
theorem same_any (A0 A1 : Option Addr) (c0 c1 : Nat) (l : List Int) (w : World) (hr0 : Kd.C (Kd.int .i64) w A0 l.length l) (hc0 : l.length ≤ c0) (hr1 : Kd.C (Kd.int .i64) w A1 l.length l) (hc1 : l.length ≤ c1) :
    Calls Try.prog 15 #[.slice A0 l.length c0, .slice A1 l.length c1] w fun e w' => e = .returned (.bool true) ∧ Below w.heap.size w w' := by
  have H0 := Aside0.mk hr0
  have H1 := Aside0.mk hr1
  have hll : (l.length : Int) ≤ 9223372036854775807 := by have := hr0.2.1; omega
  clear hr0 hc0 hr1 hc1
  go_enter Try.func15, Try.ntmps15
  go_wp2
  go_loopw [5] (fun ii wr => ∃ i : Int, ii = .int .i64 i ∧ 0 ≤ i ∧ i ≤ l.length ∧ Aside0 (Below w.heap.size w wr)) (fun ii _ => (l.length - intOf ii).toNat)
  case atStart => exact ⟨0, rfl, Int.le_refl _, by omega, ⟨Below.refl _ _⟩⟩
  case round =>
    obtain ⟨i, rfl, i0, i1, HBr⟩ := hrel
    by_cases hlt : i < (l.length : Int)
    · have hlt1 : decide (i < (l.length : Int)) = true := decide_eq_true hlt
      obtain ⟨ad1, e1, hc1⟩ := Kd.at_int (Kd.C_below H0.out HBr.out) i i0 hlt
      obtain ⟨ad2, e2, hc2⟩ := Kd.at_int (Kd.C_below H1.out HBr.out) i i0 hlt
      cases e1
      cases e2
      have w3 : wrap64 (i + 1) = i + 1 := by unfold wrap64; omega
      go_wp2
      go_quiet (fail)
      go_wp2
      go_roundw
      case rel => exact ⟨i + 1, by first | rfl | rw [w3], by omega, by omega, ⟨by first | exact pw_below_drewN HBr.out _ | exact below_drew HBr.out⟩⟩
      case measure => simp [intOf]; omega
    · have hlt1 : decide (i < (l.length : Int)) = false := decide_eq_false hlt
      go_wp2
      go_ret
      exact ⟨rfl, HBr.out⟩

/-- Which powers have come when k rounds are over. -/
def PowSt (a1 : Int) (k : Nat) (p : Int) (pw : Bool) : Prop := k ≤ 13 ∧ p = (pows ++ [131072]).getD k 0 ∧ (pw = true ↔ a1 ∈ pows.take k)
theorem pow_round {a1 p : Int} {k : Nat} {pw : Bool} (h : PowSt a1 k p pw) :
    (decide (p ≤ 65536) = false ∧ (pw = true ↔ a1 ∈ pows)) ∨ (decide (p ≤ 65536) = true ∧ k < 13 ∧ ∃ p', wrap64 (2 * p) = p' ∧ PowSt a1 (k + 1) p' (pw || (a1 == p))) := by
  obtain ⟨hk, rfl, hp⟩ := h
  have hc : k = 0 ∨ k = 1 ∨ k = 2 ∨ k = 3 ∨ k = 4 ∨ k = 5 ∨ k = 6 ∨ k = 7 ∨ k = 8 ∨ k = 9 ∨ k = 10 ∨ k = 11 ∨ k = 12 ∨ k = 13 := by omega
  rcases hc with rfl | rfl | rfl | rfl | rfl | rfl | rfl | rfl | rfl | rfl | rfl | rfl | rfl | rfl
  all_goals first
    | (exact .inl ⟨by decide, by simpa [pows] using hp⟩)
    | (refine .inr ⟨by decide, by omega, _, rfl, by omega, by decide +kernel, ?_⟩
       rw [Bool.or_eq_true, hp, beq_iff_eq]
       simp [pows, or_assoc])
theorem check_cases (a0 a1 a2 : Int) (pw : Bool) (h : pw = true ↔ a1 ∈ pows) :
    (pw = false ∧ check a0 a1 a2 = 50) ∨ (pw = true ∧ wrap64 (8 * a1) = 8 * a1 ∧ ((decide (a0 < 1) = true ∧ check a0 a1 a2 = 50) ∨ (decide (a0 < 1) = false ∧ ((decide (a1 < a0) = true ∧ check a0 a1 a2 = 50) ∨ (decide (a1 < a0) = false ∧
      ((decide (a2 < a1) = true ∧ check a0 a1 a2 = 50) ∨ (decide (a2 < a1) = false ∧ ((decide (8 * a1 < a2) = true ∧ check a0 a1 a2 = 50) ∨ (decide (8 * a1 < a2) = false ∧ check a0 a1 a2 = 0))))))))) := by
  by_cases hp : a1 ∈ pows
  · refine .inr ⟨h.2 hp, by have := pows_bound hp; unfold wrap64; omega, ?_⟩
    by_cases h3 : a0 < 1
    · exact .inl ⟨decide_eq_true h3, check_bad (by omega)⟩
    refine .inr ⟨decide_eq_false h3, ?_⟩
    by_cases h4 : a1 < a0
    · exact .inl ⟨decide_eq_true h4, check_bad (by omega)⟩
    refine .inr ⟨decide_eq_false h4, ?_⟩
    by_cases h5 : a2 < a1
    · exact .inl ⟨decide_eq_true h5, check_bad (by omega)⟩
    refine .inr ⟨decide_eq_false h5, ?_⟩
    by_cases h6 : 8 * a1 < a2
    · exact .inl ⟨decide_eq_true h6, check_bad (by omega)⟩
    exact .inr ⟨decide_eq_false h6, if_pos ⟨hp, by omega, by omega, by omega, by omega⟩⟩
  · exact .inl ⟨by cases pw with | false => rfl | true => exact absurd (h.1 rfl) hp, if_neg (fun x => hp x.1)⟩
set_option maxHeartbeats 2000000 in
theorem ref_check_any (a0 a1 a2 a3 : Int) (w : World) :
    Calls Try.prog 12 #[.agg #[.int .i64 a0, .int .i64 a1, .int .i64 a2, .int .u64 a3]] w fun e w' => e = .returned (.int .i64 (check a0 a1 a2)) ∧ Below w.heap.size w w' := by
  have hu24 := Try.underlying24
  have hq : (w.alloc (.cells #[.int .i64 a0, .int .i64 a1, .int .i64 a2, .int .u64 a3] 24)).heap[w.heap.size]? = some (.cells #[.int .i64 a0, .int .i64 a1, .int .i64 a2, .int .u64 a3] 24 (0, 0)) := blk_new w _
  have HQ := Aside0.mk hq
  clear hq
  obtain ⟨E, hE⟩ : ∃ E, check a0 a1 a2 = E := ⟨_, rfl⟩
  rw [hE]
  have HE := Aside0.mk hE
  clear hE
  go_enter Try.func12, Try.ntmps12
  go_wp2
  go_loopw [3, 4] (fun bv pv wr => ∃ (k : Nat) (p : Int) (pw : Bool), bv = .bool pw ∧ pv = .int .i64 p ∧ Aside0 (PowSt a1 k p pw) ∧ Aside0 (wr.heap[w.heap.size]? = some (.cells #[.int .i64 a0, .int .i64 a1, .int .i64 a2, .int .u64 a3] 24 (0, 0))) ∧ Aside0 (Below w.heap.size w wr)) (fun _ pv _ => (131072 - intOf pv).toNat)
  case atStart => exact ⟨0, 16, false, rfl, rfl, ⟨by decide, by decide, by simp⟩, HQ, ⟨below_alloc (Below.refl _ _) _⟩⟩
  case round =>
    obtain ⟨k, p, pw, rfl, rfl, HP, HB, HW⟩ := hrel
    clear HQ
    have hq1 : wr.cell? ⟨w.heap.size, 0, none⟩ = some (.int .i64 a0) := (blk_cell HB.out 0).trans rfl
    have hq2 : wr.cell? ⟨w.heap.size, 1, none⟩ = some (.int .i64 a1) := (blk_cell HB.out 1).trans rfl
    have hq3 : wr.cell? ⟨w.heap.size, 2, none⟩ = some (.int .i64 a2) := (blk_cell HB.out 2).trans rfl
    rcases pow_round HP.out with ⟨g, hm⟩ | ⟨g, hk, p', u1, hn⟩
    · rcases check_cases a0 a1 a2 pw hm with ⟨rfl, e⟩ | ⟨rfl, u8, ⟨g1, e⟩ | ⟨g1, ⟨g2, e⟩ | ⟨g2, ⟨g3, e⟩ | ⟨g3, ⟨g4, e⟩ | ⟨g4, e⟩⟩⟩⟩⟩
      all_goals
        obtain rfl := HE.out.symm.trans e
        clear e hm HE
        go_wp2
        go_ret
        exact ⟨rfl, HW.out⟩
    · have HN := Aside0.mk hn
      have hmz : (131072 - p').toNat < (131072 - p).toNat := by
        obtain ⟨h1, h2, _⟩ := HP.out
        obtain ⟨h3, h4, _⟩ := hn
        have hc : k = 0 ∨ k = 1 ∨ k = 2 ∨ k = 3 ∨ k = 4 ∨ k = 5 ∨ k = 6 ∨ k = 7 ∨ k = 8 ∨ k = 9 ∨ k = 10 ∨ k = 11 ∨ k = 12 := by omega
        rw [h2, h4]
        rcases hc with rfl | rfl | rfl | rfl | rfl | rfl | rfl | rfl | rfl | rfl | rfl | rfl | rfl <;> decide
      have HZ := Aside0.mk hmz
      clear hn hmz
      cases pw with
      | true =>
        go_wp2
        go_roundw
        case rel => exact ⟨k + 1, p', true, rfl, by first | rfl | rw [u1], HN, HB, HW⟩
        case measure => have := HZ.out; simp [intOf]; omega
      | false =>
        go_wp2
        go_roundw
        case rel => exact ⟨k + 1, p', a1 == p, rfl, by first | rfl | rw [u1], by simpa using HN, HB, HW⟩
        case measure => have := HZ.out; simp [intOf]; omega

set_option maxHeartbeats 1000000 in
theorem mix_any (s b : Int) (w : World) :
    Calls Try.prog 31 #[.int .u64 (IntKind.u64.wrap (s + (IntKind.u64.wrap b)))] w fun e w' => e = .returned (.int .u64 (gearV s b)) ∧ Below w.heap.size w w' := by
  obtain ⟨x, hx⟩ : ∃ x, IntKind.u64.wrap (s + (IntKind.u64.wrap b)) = x := ⟨_, rfl⟩
  unfold gearV
  rw [hx]
  go_enter Try.func31, Try.ntmps31
  go_wp2
  go_ret
  exact ⟨rfl, Below.refl _ _⟩
end Go.Proofs.Ytpadajjlakhnjaa.H
