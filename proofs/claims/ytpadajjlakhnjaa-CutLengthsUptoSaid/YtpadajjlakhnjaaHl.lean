/- deduplaw05.CutLengths as a contract: it answers true. -/
import Derived.Test.YtpadajjlakhnjaaHk
import Derived.RangeFuncNested
import Derived.BigQuiet
import Derived.Deep.QuietTactic
namespace Go.Proofs.Ytpadajjlakhnjaa.H
open Go.RowKit Go.Shelf Go.Proofs.YtpadajjlakhnjaaW.PrintWords Go.Proofs.YtpadajjlakhnjaaW.PrintLast Go.Proofs.YtpadajjlakhnjaaW.PrintMore
set_option linter.unusedVariables false
set_option linter.unusedSimpArgs false
attribute [local go_sem] Oper.semAt_some

theorem round_facts {M : List Int} {a0 a2 i sj : Int} (g1 : ∀ x ∈ M, 1 ≤ x ∧ x ≤ a2) (g3 : ∀ k : Nat, k + 1 < M.length → a0 ≤ rd M k) (hs : M.sum ≤ 17592186044415) (h0 : 0 ≤ i) (hi : i < M.length) (hsj : (M.take i.toNat).sum = sj) :
    ∃ r sj', rd M i = r ∧ (M.take (i + 1).toNat).sum = sj' ∧ decide (r < 1) = false ∧ decide (a2 < r) = false ∧ wrap64 ((M.length : Int) - 1) = M.length - 1 ∧
    wrap64 (sj + r) = sj' ∧ wrap64 (i + 1) = i + 1 ∧
    (decide (i < (M.length : Int) - 1) = false ∨ (decide (i < (M.length : Int) - 1) = true ∧ decide (r < a0) = false)) := by
  obtain ⟨j, rfl⟩ := Int.eq_ofNat_of_zero_le h0
  simp only [Int.toNat_natCast] at hsj
  have hj : j < M.length := by omega
  have hst := sum_take M j hj
  have hm := g1 _ (rd_mem M j hj)
  have h1 := sum_take_le M (fun x hx => (g1 x hx).1) (j + 1)
  have hn := sum_nonneg M (fun x hx => (g1 x hx).1)
  have e : ((j : Int) + 1).toNat = j + 1 := by omega
  refine ⟨_, _, rfl, rfl, decide_eq_false (by omega), decide_eq_false (by omega), by unfold wrap64; omega, by rw [e, hst, hsj]; unfold wrap64; omega, by unfold wrap64; omega, ?_⟩
  by_cases h : (j : Int) < (M.length : Int) - 1
  · exact .inr ⟨decide_eq_true h, decide_eq_false (Int.not_lt.2 (g3 j (by omega)))⟩
  · exact .inl (decide_eq_false h)

set_option maxRecDepth 100000 in
set_option maxHeartbeats 4000000 in
theorem lengths_law (a0 a1 a2 a3 : Int) (A : Option Addr) (c : Nat) (l : List Int) (most : Int) (w : World) (hr : Kd.C (Kd.int .u8) w A l.length l) (hlc : l.length ≤ c) (hl : l.length ≤ 17592186044415) :
    Calls Try.prog 4 #[.agg #[.int .i64 a0, .int .i64 a1, .int .i64 a2, .int .u64 a3], .slice A l.length c, .int .i64 most] w fun e w' => e = .returned (.bool true) ∧ Below w.heap.size w w' := by
  have hu24 := Try.underlying24
  obtain ⟨M, hM⟩ : ∃ M, lensV a0 a1 a2 a3 l = M := ⟨_, rfl⟩
  obtain ⟨E, hE⟩ : ∃ E, check a0 a1 a2 = E := ⟨_, rfl⟩
  have HM := Aside0.mk hM
  have HE := Aside0.mk hE
  have HR := Aside0.mk hr
  have HC := Aside0.mk hlc
  have HL := Aside0.mk hl
  have HB := Aside0.mk (Below.refl w.heap.size w)
  clear hr hlc hl hM hE
  refine callsIn_wide.1 (callsIn_of_wp_marks (n := 0) Try.func4 rfl trivial ?_ rfl)
  refine wpIn_wide.2 ?_
  simp only [Try.ntmps4, List.size_toArray, List.length_cons, List.length_nil, Nat.reduceAdd, Nat.reduceSub, Array.replicate_succ, Array.replicate_zero, List.push_toArray, List.append_toArray, List.nil_append, List.cons_append]
  go_wp2_with (first
    | (go_at_call 10; refine (lives_any _).mono ?_; rintro e w1 ⟨rfl, hB⟩; have hq := (hB.block w.heap.size (by simp; omega)).trans ((Below.heap_alloc _ _ _ (by simp; omega)).trans ((Below.heap_alloc _ _ _ (by simp)).trans (blk_new w _))); have hq1 := (blk_cell hq 0).trans rfl; have hq2 := (blk_cell hq 1).trans rfl; have hq3 := (blk_cell hq 2).trans rfl; have hq4 := (blk_cell hq 3).trans rfl; have HQ := Aside0.mk hq; have HB1 := Aside0.mk hB; clear hB hq)
    | (go_at_call 13; refine (lengths_any a0 a1 a2 a3 A c l _ (Kd.C_below (Kd.C_alloc (Kd.C_alloc (Kd.C_alloc HR.out _) _) _) HB1.out) HL.out).mono ?_; rintro e w2 ⟨v1, rfl, hR, hB⟩; rw [HE.out]; rw [HM.out] at hR; obtain ⟨A1, c1, rfl⟩ := Kd.R_slice hR; clear hq1 hq2 hq3 hq4; have hq := (hB.block w.heap.size (blk_lt HQ.out)).trans HQ.out; have hq1 := (blk_cell hq 0).trans rfl; have hq2 := (blk_cell hq 1).trans rfl; have hq3 := (blk_cell hq 2).trans rfl; have hq4 := (blk_cell hq 3).trans rfl; have HQ2 := Aside0.mk hq; have HR1 := Aside0.mk hR; have HB2 := Aside0.mk hB; clear hB hR hq)
    | (go_at_call 14; go_must (refine (ref_lengths_any a0 a1 a2 a3 A c l _ (Kd.C_below (Kd.C_below (Kd.C_alloc (Kd.C_alloc (Kd.C_alloc HR.out _) _) _) HB1.out) HB2.out) HC.out HL.out).mono ?_; rintro e w3 ⟨v2, rfl, hR, hB⟩; rw [HE.out]; rw [HM.out] at hR; obtain ⟨A2, c2, rfl⟩ := Kd.R_slice hR; clear hq1 hq2 hq3 hq4; have hq := (hB.block w.heap.size (blk_lt HQ2.out)).trans HQ2.out; have HQ3 := Aside0.mk hq; have HR2 := Aside0.mk hR; have HB3 := Aside0.mk hB; clear hB hR hq))
    | (go_at_call 15; (with_reducible refine (same_any _ _ _ _ M _ (Kd.C_alloc (Kd.C_below (R_C HR1.out).2.2 HB3.out) _) (R_C HR1.out).2.1 (Kd.C_alloc (R_C HR2.out).2.2 _) (R_C HR2.out).2.1).mono ?_); rintro e w4 ⟨rfl, hB⟩; have hq := (hB.block w.heap.size (by have := blk_lt HQ3.out; simp; omega)).trans ((Below.heap_alloc _ _ _ (blk_lt HQ3.out)).trans HQ3.out); have hq1 := (blk_cell hq 0).trans rfl; have hq2 := (blk_cell hq 1).trans rfl; have hq3 := (blk_cell hq 2).trans rfl; have hq4 := (blk_cell hq 3).trans rfl; have hz4 : w3.heap.size + 1 ≤ w4.heap.size := (by simpa using hB.size); have hz3 := blk_lt HQ3.out; have hz : w.heap.size < w4.heap.size := (by omega); have HQ4 := Aside0.mk hq; have HB4 := Aside0.mk hB; clear hB hq hz3)
    | (go_at_call 16; refine (cuts_any a0 a1 a2 a3 A l c _ (Kd.C_alloc (Kd.C_alloc (Kd.C_below (Kd.C_alloc (Kd.C_below (Kd.C_below (Kd.C_below (Kd.C_alloc (Kd.C_alloc (Kd.C_alloc HR.out _) _) _) HB1.out) HB2.out) HB3.out) _) HB4.out) _) _) (by have := HL.out; omega)).mono ?_; rintro e w5 ⟨b1, b2, v, rfl, hb1, hb2, h1, h2, hR5, hB5⟩; obtain ⟨A5, c5, rfl⟩ := Kd.R_slice hR5; clear hq1 hq2 hq3 hq4; have HB51 := Aside0.mk hb1; have HB52 := Aside0.mk hb2; have H1 := Aside0.mk h1; have H2 := Aside0.mk h2; have HR5 := Aside0.mk hR5; have HB5 := Aside0.mk hB5; clear hb1 hb2 h1 h2 hR5 hB5))
  rename_i Kn hKn
  -- what lies in w5
  have B01 : Below w.heap.size w w1 := below_step (below_alloc (below_alloc (below_alloc (Below.refl _ _) _) _) _) HB1.out
  have B03 : Below w.heap.size w w3 := below_step (below_step B01 HB2.out) HB3.out
  have B05 : Below w.heap.size w w5 := below_step (below_alloc (below_alloc (below_step (below_alloc B03 _) HB4.out) _) _) HB5.out
  have E15 : Below w1.heap.size w1 w5 := below_step (below_alloc (below_alloc (below_step (below_alloc (below_step HB2.out HB3.out) _) HB4.out) _) _) HB5.out
  have C25 : Below w2.heap.size w2 w5 := below_step (below_alloc (below_alloc (below_step (below_alloc HB3.out _) HB4.out) _) _) HB5.out
  have D35 : Below w3.heap.size w3 w5 := below_step (below_alloc (below_alloc (below_step (below_alloc (Below.refl _ _) _) HB4.out) _) _) HB5.out
  have F35 : Below (w3.heap.size + 1) (w3.alloc (.cells #[.slice A2 M.length c2] 32)) w5 := by
    have := below_step (below_alloc (below_alloc HB4.out (.cells #[.int .i64 0] 3)) (.cells #[.int .i64 0] 3)) HB5.out
    rwa [World.size_alloc] at this
  have E45 : Below w4.heap.size w4 w5 := below_step (below_alloc (below_alloc (Below.refl _ _) _) _) HB5.out
  have s1 : w.heap.size + 3 ≤ w1.heap.size := by have := HB1.out.size; simpa using this
  have s2 : w1.heap.size ≤ w2.heap.size := HB2.out.size
  have s3 : w2.heap.size ≤ w3.heap.size := HB3.out.size
  have s5 : w4.heap.size + 2 ≤ w5.heap.size := by have := HB5.out.size; simpa using this
  have hq5 : w5.heap[w.heap.size]? = some (.cells #[.int .i64 a0, .int .i64 a1, .int .i64 a2, .int .u64 a3] 24) := (E45.block _ hz).trans HQ4.out
  have hm5 : Boxed w5 (w.heap.size + 1) 3 (.int .i64 most) := (E15.block _ (by omega)).trans ((HB1.out.block _ (by simp)).trans ((Below.heap_alloc _ _ _ (by simp)).trans (by have := World.alloc_heap_new (w.alloc (.cells #[.int .i64 a0, .int .i64 a1, .int .i64 a2, .int .u64 a3] 24)) (.cells #[.int .i64 most] 3); rwa [World.size_alloc] at this)))
  have ho5 : Boxed w5 (w.heap.size + 1 + 1) 4 (.bool false) := (E15.block _ (by omega)).trans ((HB1.out.block _ (by simp)).trans (by have := World.alloc_heap_new ((w.alloc (.cells #[.int .i64 a0, .int .i64 a1, .int .i64 a2, .int .u64 a3] 24)).alloc (.cells #[.int .i64 most] 3)) (.cells #[.bool false] 4); rwa [World.size_alloc, World.size_alloc] at this))
  have hM5 : Boxed w5 w3.heap.size 32 (.slice A2 M.length c2) := (F35.block _ (by simp)).trans (World.alloc_heap_new w3 _)
  have hat5 : Boxed w5 w4.heap.size 3 (.int .i64 0) := (HB5.out.block _ (by simp; omega)).trans ((Below.heap_alloc _ _ _ (by simp)).trans (World.alloc_heap_new w4 _))
  have hi5 : Boxed w5 (w4.heap.size + 1) 3 (.int .i64 0) := (HB5.out.block _ (by simp)).trans (by have := World.alloc_heap_new (w4.alloc (.cells #[.int .i64 0] 3)) (.cells #[.int .i64 0] 3); rwa [World.size_alloc] at this)
  have hC1 : Kd.C (Kd.int .i64) w5 A1 M.length M := Kd.C_below (R_C HR1.out).2.2 C25
  have hC2 : Kd.C (Kd.int .i64) w5 A2 M.length M := Kd.C_below (R_C HR2.out).2.2 D35
  have hA1 : ∀ ad, A1 = some ad → ad.block < w2.heap.size := fun ad e => by obtain ⟨_, _, cs, h⟩ := R_block HR1.out ad e; exact blk_lt h
  have hA2 : ∀ ad, A2 = some ad → ad.block < w3.heap.size := fun ad e => by obtain ⟨_, _, cs, h⟩ := R_block HR2.out ad e; exact blk_lt h
  have hA5 : ∀ ad, A5 = some ad → w4.heap.size + 2 ≤ ad.block ∧ ad.block < w5.heap.size := fun ad e => by obtain ⟨h0, _, cs, h⟩ := R_block HR5.out ad e; exact ⟨by simpa using h0, blk_lt h⟩
  have hb1 : w4.heap.size + 2 ≤ b1 := by simpa using HB51.out
  have hb2 : w4.heap.size + 2 ≤ b2 := by simpa using HB52.out
  have hb1' := blk_lt H1.out
  have hb2' := blk_lt H2.out
  have hC5 := R_C HR5.out
  obtain ⟨S, hS⟩ : ∃ S : Nat → Prop, S = fun k => k < w5.heap.size ∧ k ≠ w4.heap.size ∧ k ≠ w4.heap.size + 1 := ⟨_, rfl⟩
  have hSlt : ∀ k, S k → k < w5.heap.size := fun k h => by rw [hS] at h; exact h.1
  have tail : ∀ (D : Nat) (W : World) (i : Int), w5.heap.size ≤ D → W.heap[D]? = some (.deferred (some [])) → Keeps S w5 W → Below w.heap.size w W → Boxed W (w4.heap.size + 1) 3 (.int .i64 i) → (i = M.length ∨ most ≤ i) →
      Kn { tmps := #[.agg #[.int .i64 a0, .int .i64 a1, .int .i64 a2, .int .u64 a3], .slice A l.length c, .int .i64 most, .pointer (some ⟨w.heap.size, 0, none⟩), undef, .pointer (some ⟨w.heap.size + 1, 0, none⟩), .pointer (some ⟨w.heap.size + 1 + 1, 0, none⟩), .slice A1 M.length c1, .int .i64 E, .pointer (some ⟨w3.heap.size, 0, none⟩), .int .i64 E, .pointer (some ⟨w4.heap.size, 0, none⟩), .pointer (some ⟨w4.heap.size + 1, 0, none⟩), undef, undef, undef, undef, .bool true, .bool false, .tuple #[.slice A1 M.length c1, .int .i64 E], .agg #[.int .i64 a0, .int .i64 a1, .int .i64 a2, .int .u64 a3], .slice A l.length c, .tuple #[.slice A1 M.length c1, .int .i64 E], .slice A1 M.length c1, .int .i64 E, .tuple #[.slice A2 M.length c2, .int .i64 E], .agg #[.int .i64 a0, .int .i64 a1, .int .i64 a2, .int .u64 a3], .slice A l.length c, .tuple #[.slice A2 M.length c2, .int .i64 E], .slice A2 M.length c2, .int .i64 E, .int .i64 E, .int .i64 E, .bool false, .bool false, .slice A1 M.length c1, .slice A2 M.length c2, .bool true, .bool false, .bool false, .agg #[.int .i64 a0, .int .i64 a1, .int .i64 a2, .int .u64 a3], .slice A l.length c, .func (.func 27) #[] #[.pointer (some ⟨b1, 0, none⟩), .pointer (some ⟨b2, 0, none⟩)], undef, undef, undef, undef, undef, undef, undef, undef, undef, undef, undef, undef, undef, undef, undef, undef, undef, undef, undef, undef, undef, undef, undef, undef, undef, undef, undef, undef, undef, undef, undef, undef, undef, undef, undef, undef, undef, undef, undef, undef, undef, undef, undef, undef, undef, undef, undef, undef, undef, undef, undef, undef, undef, undef, undef, undef, undef, undef, undef, undef, undef, undef, undef, undef, undef, undef, undef, undef, undef, undef, undef, undef, undef, undef, undef, undef, undef, undef, undef, undef, undef, undef, undef, undef, undef, undef], defers := [{ target := .collected D, args := #[] }] } W := by
    intro D W i hD hK hkp hB hi him
    have hSy : ∀ k, k < w4.heap.size → W.heap[k]? = w5.heap[k]? := fun k hk => hkp k (by rw [hS]; exact ⟨by omega, by omega, by omega⟩)
    have hqW := (hSy w.heap.size hz).trans hq5
    have hx3 : W.cell? ⟨w.heap.size, 2, none⟩ = some (.int .i64 a2) := (blk_cell hqW 2).trans rfl
    have hx1 : W.cell? ⟨w.heap.size, 0, none⟩ = some (.int .i64 a0) := (blk_cell hqW 0).trans rfl
    have hmW : Boxed W (w.heap.size + 1) 3 (.int .i64 most) := (hSy _ (by omega)).trans hm5
    have hoW : Boxed W (w.heap.size + 1 + 1) 4 (.bool false) := (hSy _ (by omega)).trans ho5
    have hMW : Boxed W w3.heap.size 32 (.slice A2 M.length c2) := (hSy _ (by omega)).trans hM5
    have hcm := hmW.cell
    have hco := hoW.cell
    have hfo := hoW.frozen
    have hcM := hMW.cell
    have hci := hi.cell
    have hCW : Kd.C (Kd.int .i64) W A1 M.length M := C_keeps hC1 (fun ad e => hSy _ (by have := hA1 ad e; omega))
    have HS := lensV_spec a0 a1 a2 a3 l
    rw [HM.out, HE.out] at HS
    obtain ⟨g1, g2, g3, g4⟩ := HS
    have HQW := Aside0.mk hqW
    have HBW := Aside0.mk hB
    have HKW := Aside0.mk hK
    have HOW := Aside0.mk hoW
    have G1 := Aside0.mk g1
    have G2 := Aside0.mk g2
    have G3 := Aside0.mk g3
    have HCW := Aside0.mk hCW
    have HHI := Aside0.mk hi
    have hll := HL.out
    have hms : M.sum ≤ l.length := by
      by_cases h : E = 0
      · have := g2 h; omega
      · have : M = [] := by rw [← HM.out]; unfold lensV; rw [HE.out, if_neg h]
        subst this; simp
    clear hqW hB hK g1 g2 g3 hCW hSy hmW hMW hkp hoW hi hq5 hm5 ho5 hM5 hat5 hi5 hC1 hC2 hC5 B01 B03 B05 E15 C25 D35 F35 E45
    refine hKn _ _ ?_
    clear hKn
    have hg : decide (i < most) = false ∨ (decide (i < most) = true ∧ (i != (M.length : Int)) = false) := by
      by_cases h : i < most
      · exact .inr ⟨decide_eq_true h, by have : i = M.length := him.resolve_right (by omega); simp [this]⟩
      · exact .inl (decide_eq_false h)
    rcases hg with hg | ⟨hg, hg2⟩
    all_goals go_wp2
    all_goals
      go_loopw [15, 16] (fun sv kv wr => ∃ (j sj : Int), sv = .int .i64 sj ∧ kv = .int .i64 j ∧ 0 ≤ j ∧ j ≤ M.length ∧ Aside0 ((M.take j.toNat).sum = sj) ∧ Aside0 (Below W.heap.size W wr)) (fun _ kv _ => (M.length - intOf kv).toNat)
      case atStart => exact ⟨0, 0, rfl, rfl, Int.le_refl _, by omega, ⟨rfl⟩, ⟨Below.refl _ _⟩⟩
      case round =>
        obtain ⟨j, sj, rfl, rfl, hj0, hj, HSJ, HBr⟩ := hrel
        have hqr := (HBr.out.block _ (blk_lt HQW.out)).trans HQW.out
        have hxr3 : wr.cell? ⟨w.heap.size, 2, none⟩ = some (.int .i64 a2) := (blk_cell hqr 2).trans rfl
        have hxr1 : wr.cell? ⟨w.heap.size, 0, none⟩ = some (.int .i64 a0) := (blk_cell hqr 0).trans rfl
        have hoWr : Boxed wr (w.heap.size + 1 + 1) 4 (.bool false) := (HBr.out.block _ (blk_lt HOW.out)).trans HOW.out
        have hcor := hoWr.cell
        have hfor := hoWr.frozen
        clear hx3 hx1 hcm hco hfo hcM hci hqr
        by_cases hlt : j < (M.length : Int)
        · have hlt1 : decide (j < (M.length : Int)) = true := decide_eq_true hlt
          obtain ⟨ad1, e1, hc1⟩ := Kd.at_int (Kd.C_below HCW.out HBr.out) j hj0 hlt
          cases e1
          obtain ⟨r, sj', hrr, hsj', t1, t2, u3, u4, u5, hgg⟩ := round_facts (a0 := a0) (a2 := a2) G1.out G3.out (Int.le_trans hms (by omega)) hj0 hlt HSJ.out
          rw [hrr] at hc1
          have HSJ' := Aside0.mk hsj'
          clear hrr hsj'
          rcases hgg with hgg | ⟨hgg, hgg2⟩
          all_goals
            go_wp2
            go_quiet (fail)
            go_wp2
            go_roundw
            case rel => exact ⟨j + 1, sj', by rw [u4], by first | rfl | rw [u5], by omega, by omega, HSJ', ⟨by first | exact pw_below_drewN HBr.out _ | exact below_drew HBr.out⟩⟩
            case measure => simp [intOf]; omega
        · have hlt1 : decide (j < (M.length : Int)) = false := decide_eq_false hlt
          have hje : j.toNat = M.length := by omega
          have hsj : sj = M.sum := by rw [← HSJ.out, hje, List.take_length]
          have hge : (E != 0) = true ∨ ((E != 0) = false ∧ (sj == (l.length : Int)) = true) := by
            by_cases h : E = 0
            · exact .inr ⟨by simp [h], by rw [hsj, G2.out h]; simp⟩
            · exact .inl (by simpa using h)
          clear hsj hje
          rcases hge with hge | ⟨hge, hge2⟩
          all_goals
            go_wp2
            have hne : w.heap.size + 1 + 1 ≠ D := by omega
            have hKr : (wr.setCell ⟨w.heap.size + 1 + 1, 0, none⟩ (.bool true)).heap[D]? = some (.deferred (some [])) := (Below.heap_setCell _ _ _ _ (by exact fun e => hne e.symm)).trans ((HBr.out.block D (blk_lt HKW.out)).trans HKW.out)
            have hx6 := hoWr.set (.bool true)
            have hB6 : Below w.heap.size w (wr.setCell ⟨w.heap.size + 1 + 1, 0, none⟩ (.bool true)) := (below_step HBW.out HBr.out).setCell (p := ⟨w.heap.size + 1 + 1, 0, none⟩) (by show w.heap.size ≤ w.heap.size + 1 + 1; omega) _
            refine ⟨by simp, .inl ⟨_, _, rfl, run_takeDeferred hKr, ?_⟩⟩
            have hc5 := cell_kept hx6.cell (grownBy_putObj' _ D (.deferred none)) (fun r e => by cases e; exact ⟨_, hKr, rfl⟩)
            refine ⟨.bool true, ?_, rfl, hB6.trans (belowK_b (w := w) (Nat.le_refl _) _ D _ _ (by omega) hKr rfl rfl)⟩
            simp [results, Try.f4, go_sem, hc5]
  have hFF : E = 0 → Fst (firstV a0 a1 a2 a3) l := fun h => fst_of a3 (by rw [HE.out]; exact h) l
  have hMM : E = 0 → M = lens (firstV a0 a1 a2 a3) l.length l := fun h => by rw [← HM.out]; unfold lensV; rw [HE.out, if_pos h]
  have hM0 : E ≠ 0 → M = [] := fun h => by rw [← HM.out]; unfold lensV; rw [HE.out, if_neg h]
  have hSk : ∀ k, Sk b1 b2 A5 k → S k := by
    rintro k (rfl | rfl | ⟨ad, e, rfl⟩)
    · rw [hS]; exact ⟨hb1', by omega, by omega⟩
    · rw [hS]; exact ⟨hb2', by omega, by omega⟩
    · rw [hS]; have := hA5 ad e; exact ⟨this.2, by omega, by omega⟩
  have hSkL : ∀ k, Sk b1 b2 A5 k → k < w5.heap.size := fun k h => hSlt k (hSk k h)
  have hCs := cuts_stops 2 E a0 a1 a2 a3 (firstV a0 a1 a2 a3) l b1 b2 A5 c5 hFF (fun h A c m w hm => first_any a0 a1 a2 a3 A c m w (by rw [HE.out]; exact h) hm) HE.out w5 H1.out H2.out hC5.2.2 hC5.2.1 hSkL
  refine (wpIn_wide (n := 3)).1 ?_
  refine wpIn_rangeFunc_ownG (F := Fence.wide) rfl (by decide) (gf := 27) (lb := #[.pointer (some ⟨b1, 0, none⟩), .pointer (some ⟨b2, 0, none⟩)]) rfl trivial (enters_of Try.func27 (by kernel_rfl) rfl)
    hCs Keeps.t (Keeps.b hSkL) (Below.refl _ _) (fun _ => rfl)
    (fun pre W => (((Boxed W w4.heap.size 3 (.int .i64 (pre.map Prod.snd).sum) ∧ Boxed W (w4.heap.size + 1) 3 (.int .i64 (pre.length : Int))) ∧ Keeps S w5 W) ∧ Below w.heap.size w W) ∧ (pre = [] ∨ Spart E (firstV a0 a1 a2 a3) l pre))
    (fun c pre W => (c = .exit 0 → (Boxed W (w4.heap.size + 1) 3 (.int .i64 ((pre.length : Int) - 1)) ∧ Keeps S w5 W) ∧ Below w.heap.size w W) ∧ (c = .exit 0 ∧ most ≤ (pre.length : Int) - 1 ∨ c = .ret ∧ ¬ Spart E (firstV a0 a1 a2 a3) l pre))
    (OwnFrom.and (OwnFrom.and (OwnFrom.and (OwnFrom.and (Own.from (boxed_own _ _ _) _) (Own.from (boxed_own _ _ _) _)) (ownFrom_keeps hSlt hSlt)) (ownFrom_below (Nat.le_refl _) (by omega))) (ownFrom_pure _ _))
    (fun c => OwnFrom.and (fun st X Y row hs hg hr e => OwnFrom.and (OwnFrom.and (Own.from (boxed_own (w4.heap.size + 1) 3 (fun pre : List (Int × Int) => .int .i64 ((pre.length : Int) - 1))) _) (ownFrom_keeps hSlt hSlt)) (ownFrom_below (Nat.le_refl _) (by omega)) st X Y row (hs e) hg hr) (ownFrom_pure _ _))
    ⟨⟨⟨⟨hat5, hi5⟩, fun _ _ => rfl⟩, B05⟩, .inl rfl⟩
    (fun x => { tmps := #[.agg #[.int .i64 a0, .int .i64 a1, .int .i64 a2, .int .u64 a3], .slice A l.length c, .int .i64 most, .pointer (some ⟨w.heap.size, 0, none⟩), undef, .pointer (some ⟨w.heap.size + 1, 0, none⟩), .pointer (some ⟨w.heap.size + 1 + 1, 0, none⟩), .slice A1 M.length c1, .int .i64 E, .pointer (some ⟨w3.heap.size, 0, none⟩), .int .i64 E, .pointer (some ⟨w4.heap.size, 0, none⟩), .pointer (some ⟨w4.heap.size + 1, 0, none⟩), .int .i64 x.1, .int .i64 x.2, undef, undef, .bool true, .bool false, .tuple #[.slice A1 M.length c1, .int .i64 E], .agg #[.int .i64 a0, .int .i64 a1, .int .i64 a2, .int .u64 a3], .slice A l.length c, .tuple #[.slice A1 M.length c1, .int .i64 E], .slice A1 M.length c1, .int .i64 E, .tuple #[.slice A2 M.length c2, .int .i64 E], .agg #[.int .i64 a0, .int .i64 a1, .int .i64 a2, .int .u64 a3], .slice A l.length c, .tuple #[.slice A2 M.length c2, .int .i64 E], .slice A2 M.length c2, .int .i64 E, .int .i64 E, .int .i64 E, .bool false, .bool false, .slice A1 M.length c1, .slice A2 M.length c2, .bool true, .bool false, .bool false, .agg #[.int .i64 a0, .int .i64 a1, .int .i64 a2, .int .u64 a3], .slice A l.length c, .func (.func 27) #[] #[.pointer (some ⟨b1, 0, none⟩), .pointer (some ⟨b2, 0, none⟩)], .int .i64 x.1, .int .i64 x.2, undef, undef, undef, undef, undef, undef, undef, undef, undef, undef, undef, undef, undef, undef, undef, undef, undef, undef, undef, undef, undef, undef, undef, undef, undef, undef, undef, undef, undef, undef, undef, undef, undef, undef, undef, undef, undef, undef, undef, undef, undef, undef, undef, undef, undef, undef, undef, undef, undef, undef, undef, undef, undef, undef, undef, undef, undef, undef, undef, undef, undef, undef, undef, undef, undef, undef, undef, undef, undef, undef, undef, undef, undef, undef, undef, undef, undef, undef, undef, undef, undef, undef, undef, undef], defers := [] }) ?assign ?body ?done ?stop
  case assign =>
    intro l x W K hK
    gi_wp2
    exact hK
  case body =>
    rintro lp pre x W ⟨⟨⟨⟨hv, hi⟩, hk⟩, hB⟩, hg⟩ hlt
    obtain ⟨s, hs⟩ : ∃ s, (pre.map Prod.snd).sum = s := ⟨_, rfl⟩
    obtain ⟨k, hkk⟩ : ∃ k : Int, (pre.length : Int) = k := ⟨_, rfl⟩
    rw [hs] at hv
    rw [hkk] at hi
    have hcs := round_cases (x := x) (most := most) hFF hMM hM0 hg HL.out hs hkk
    have hSy : ∀ k, k < w4.heap.size → W.heap[k]? = w5.heap[k]? := fun k hk' => hk k (by rw [hS]; exact ⟨by omega, by omega, by omega⟩)
    have hmW : Boxed W (w.heap.size + 1) 3 (.int .i64 most) := (hSy _ (by omega)).trans hm5
    have hoW : Boxed W (w.heap.size + 1 + 1) 4 (.bool false) := (hSy _ (by omega)).trans ho5
    have hMW : Boxed W w3.heap.size 32 (.slice A2 M.length c2) := (hSy _ (by omega)).trans hM5
    have hCW : Kd.C (Kd.int .i64) W A2 M.length M := C_keeps hC2 (fun ad e => hSy _ (by have := hA2 ad e; omega))
    have hcv := hv.cell
    have hfv := hv.frozen
    have hci := hi.cell
    have hfi := hi.frozen
    have hcm := hmW.cell
    have hco := hoW.cell
    have hfo := hoW.frozen
    have hcM := hMW.cell
    have HV := Aside0.mk hv
    have HI := Aside0.mk hi
    have HK := Aside0.mk hk
    have HBW := Aside0.mk hB
    have HCW := Aside0.mk hCW
    have HSK := Aside0.mk hSk
    have HSS := Aside0.mk hS
    have HG := Aside0.mk (And.intro hs hkk)
    clear hq5 hm5 ho5 hM5 hat5 hi5 hC1 hC2 hC5 B01 B03 B05 E15 C25 D35 F35 E45 tail hKn hSy hmW hoW hMW hCW hv hi hk hB hFF hMM hM0 hCs hSk hSkL hS hSlt hA1 hA2 hA5 hs hkk hg hlt
    rcases hcs with ⟨c1, d1⟩ | ⟨c1, ⟨c2, d1⟩ | ⟨c2, k0, k1, ⟨c3, d1⟩ | ⟨c3, ⟨c4, d1⟩ | ⟨c4, d1, s', u1, u2, u3, u4⟩⟩⟩⟩
    · gi_wp2
      have e : (((pre ++ [x]).length : Int) - 1) = k := by have := HG.out.2; simp; omega
      exact ⟨KeepsFrom.refl _ _, fun _ => ⟨⟨by rw [e]; exact HI.out, HK.out⟩, HBW.out⟩, .inl ⟨rfl, by rw [e]; exact d1⟩⟩
    · gi_wp2
      exact ⟨(KeepsOthers.setCell _ _ _).from _, (fun e => by cases e), .inr ⟨rfl, d1⟩⟩
    · gi_wp2
      exact ⟨(KeepsOthers.setCell _ _ _).from _, (fun e => by cases e), .inr ⟨rfl, d1⟩⟩
    · obtain ⟨ad1, e1, hc1⟩ := Kd.at_int HCW.out k k0 k1
      cases e1
      gi_wp2
      exact ⟨(KeepsOthers.setCell _ _ _).from _, (fun e => by cases e), .inr ⟨rfl, d1⟩⟩
    · obtain ⟨ad1, e1, hc1⟩ := Kd.at_int HCW.out k k0 k1
      cases e1
      have hne1 : w4.heap.size ≠ w4.heap.size + 1 := by omega
      gi_wp2
      have hx : Boxed ((W.setCell ⟨w4.heap.size, 0, none⟩ (.int .i64 s')).setCell ⟨w4.heap.size + 1, 0, none⟩ (.int .i64 (k + 1))) w4.heap.size 3 (.int .i64 s') := (HV.out.set (.int .i64 s')).other (by omega) _
      have hy : Boxed ((W.setCell ⟨w4.heap.size, 0, none⟩ (.int .i64 s')).setCell ⟨w4.heap.size + 1, 0, none⟩ (.int .i64 (k + 1))) (w4.heap.size + 1) 3 (.int .i64 (k + 1)) := (HI.out.other (by omega) _).set _
      have hkS : Keeps S W ((W.setCell ⟨w4.heap.size, 0, none⟩ (.int .i64 s')).setCell ⟨w4.heap.size + 1, 0, none⟩ (.int .i64 (k + 1))) := fun j hj => by
        rw [HSS.out] at hj
        rw [Below.heap_setCell _ _ _ _ hj.2.2, Below.heap_setCell _ _ _ _ hj.2.1]
      have hbS := ((Below.refl w.heap.size W).setCell (p := ⟨w4.heap.size, 0, none⟩) (Nat.le_of_lt hz) (.int .i64 s')).setCell (p := ⟨w4.heap.size + 1, 0, none⟩) (by show w.heap.size ≤ w4.heap.size + 1; omega) (.int .i64 (k + 1))
      exact ⟨((KeepsOthers.setCell _ _ _).trans (KeepsOthers.setCell _ _ _)).from _, fun j hj => hkS j (HSK.out j hj), ⟨⟨⟨by rw [u3]; exact hx, by rw [u4]; exact hy⟩, HK.out.t hkS⟩, HBW.out.trans hbS⟩, .inr d1⟩
  case done =>
    rintro D ys W hD hS' ⟨⟨⟨⟨hv, hi⟩, hk⟩, hB⟩, _⟩ hK
    exact tail D W _ hD hK hk hB hi (.inl (by rw [snone_length hFF hMM hM0 hS']))
  case stop =>
    rintro D c pre W hD hSp ⟨hh, ⟨rfl, hm⟩ | ⟨rfl, hn⟩⟩ hK
    · obtain ⟨⟨hi, hk⟩, hB⟩ := hh rfl
      gi_wp2
      exact tail D W _ hD hK hk hB hi (.inr hm)
    · exact absurd hSp hn
end Go.Proofs.Ytpadajjlakhnjaa.H
