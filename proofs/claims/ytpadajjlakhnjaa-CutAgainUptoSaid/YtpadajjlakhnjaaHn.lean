/- deduplaw05.CutAgain as a contract: it answers true. -/
import Derived.Test.YtpadajjlakhnjaaHm
import Derived.BigQuiet
import Derived.Deep.QuietTactic
namespace Go.Proofs.Ytpadajjlakhnjaa.H
open Go.RowKit Go.Shelf Go.Proofs.YtpadajjlakhnjaaW.PrintWords Go.Proofs.YtpadajjlakhnjaaW.PrintLast Go.Proofs.YtpadajjlakhnjaaW.PrintMore
set_option linter.unusedVariables false
set_option linter.unusedSimpArgs false

/-- The lengths from the k-th on are those of what is left there. -/
theorem lens_drop {F : List Int → Int} (hF : ∀ m, 0 < m.length → 1 ≤ F m ∧ F m ≤ m.length) (n : Nat) : ∀ (l : List Int) (k : Nat), l.length ≤ n → k ≤ (lens F n l).length →
    ∃ m, m ≤ l.length ∧ (m : Int) + ((lens F n l).drop k).sum = l.length ∧ (lens F n l).drop k = lens F (l.drop m).length (l.drop m) := by
  have hF1 : ∀ m, 0 < m.length → 1 ≤ F m := fun m hm => (hF m hm).1
  have hsum : ∀ (n : Nat) (l : List Int), l.length ≤ n → (lens F n l).sum = l.length := by
    intro n
    induction n with
    | zero => intro l h; obtain rfl : l = [] := by cases l; rfl; simp at h
              simp [lens]
    | succ n ih =>
      intro l h
      by_cases h0 : l = []
      · subst h0; simp [lens]
      · have := hF l (List.length_pos_iff.2 h0)
        simp only [lens]
        rw [if_neg h0, List.sum_cons, ih _ (by simp; omega)]
        simp
        omega
  induction n with
  | zero =>
    intro l k h hk
    obtain rfl : l = [] := by cases l; rfl; simp at h
    exact ⟨0, by simp, by simp [lens], by simp [lens]⟩
  | succ n ih =>
    intro l k h hk
    cases k with
    | zero => exact ⟨0, Nat.zero_le _, by simpa using hsum _ l h, by simpa using lens_fuel F hF1 (n + 1) l l.length h (Nat.le_refl _)⟩
    | succ k =>
      by_cases h0 : l = []
      · subst h0; simp [lens] at hk
      · have hp := hF l (List.length_pos_iff.2 h0)
        have e : lens F (n + 1) l = F l :: lens F n (l.drop (F l).toNat) := by simp only [lens]; rw [if_neg h0]
        rw [e] at hk ⊢
        obtain ⟨m, m1, m2, m3⟩ := ih (l.drop (F l).toNat) k (by simp; omega) (by simpa using hk)
        simp only [List.length_drop] at m1 m2
        refine ⟨(F l).toNat + m, by omega, ?_, ?_⟩
        · simp only [List.drop_succ_cons]; omega
        · simp only [List.drop_succ_cons]; rw [m3, List.drop_drop]
/-- Two texts with the same bytes at their end are cut alike behind a cut that both have there. -/
theorem again_eq (a0 a1 a2 a3 : Int) (a b t : List Int) (k j : Nat) (n : Int) (hk : k < (lensV a0 a1 a2 a3 (a ++ t)).length) (hj : j < (lensV a0 a1 a2 a3 (b ++ t)).length)
    (h1 : n = tot (lensV a0 a1 a2 a3 (a ++ t)) k) (h2 : n = tot (lensV a0 a1 a2 a3 (b ++ t)) j) (hn : n ≤ t.length) : (lensV a0 a1 a2 a3 (a ++ t)).drop k = (lensV a0 a1 a2 a3 (b ++ t)).drop j := by
  unfold lensV at *
  by_cases hc : check a0 a1 a2 = 0
  · rw [if_pos hc] at *
    rw [if_pos hc] at *
    have hF : ∀ m : List Int, 0 < m.length → 1 ≤ firstV a0 a1 a2 a3 m ∧ firstV a0 a1 a2 a3 m ≤ m.length := fun m hm => by have := firstV_bound a3 hc m; exact ⟨this.2.2.2.1 hm, this.2.1⟩
    obtain ⟨m, m1, m2, m3⟩ := lens_drop hF _ (a ++ t) k (Nat.le_refl _) (by omega)
    obtain ⟨p, p1, p2, p3⟩ := lens_drop hF _ (b ++ t) j (Nat.le_refl _) (by omega)
    unfold tot at h1 h2
    simp only [Int.toNat_natCast] at h1 h2
    rw [m3, p3]
    rw [← h1] at m2
    rw [← h2] at p2
    simp only [List.length_append] at m2 p2 m1 p1
    have e1 : (a ++ t).drop m = t.drop (m - a.length) := by rw [List.drop_append, List.drop_eq_nil_of_le (by omega), List.nil_append]
    have e2 : (b ++ t).drop p = t.drop (p - b.length) := by rw [List.drop_append, List.drop_eq_nil_of_le (by omega), List.nil_append]
    rw [e1, e2, show m - a.length = p - b.length by omega]
  · rw [if_neg hc] at hk
    simp at hk

theorem back_facts {M : List Int} {i s : Int} (g1 : ∀ x ∈ M, 1 ≤ x) (hs : M.sum ≤ 17592186044415) (h1 : i ≤ M.length) (h0 : 0 < i) (hsj : s = tot M i) :
    ∃ i' s' r, i - 1 = i' ∧ 0 ≤ i' ∧ i' < M.length ∧ rd M i' = r ∧ wrap64 (i - 1) = i' ∧ wrap64 (s + r) = s' ∧ s' = tot M i' := by
  have h2 := tot_step (M := M) (i := i - 1) (by omega) (by omega)
  rw [show i - 1 + 1 = i by omega] at h2
  have h3 := tot_pos g1 (i - 1)
  have hn := sum_nonneg M g1
  refine ⟨i - 1, tot M (i - 1), _, rfl, by omega, by omega, rfl, by unfold wrap64; omega, by unfold wrap64; omega, rfl⟩

theorem fore_facts {M : List Int} {k s : Int} (g1 : ∀ x ∈ M, 1 ≤ x) (hs : M.sum ≤ 17592186044415) (h0 : 0 ≤ k) (h1 : k < M.length) (hsj : s = tot M k) :
    ∃ s' r, rd M k = r ∧ wrap64 (s - r) = s' ∧ wrap64 (k + 1) = k + 1 ∧ s' = tot M (k + 1) ∧ 1 ≤ s := by
  have h2 := tot_step h0 h1
  have h3 := tot_pos g1 k
  have h4 := tot_pos g1 (k + 1)
  have hn := sum_nonneg M g1
  refine ⟨tot M (k + 1), _, rfl, by unfold wrap64; omega, by unfold wrap64; omega, rfl, ?_⟩
  have := h3.2.1 h0 h1
  omega

set_option maxRecDepth 100000 in
set_option maxHeartbeats 4000000 in
theorem again_law (a0 a1 a2 a3 : Int) (A : Option Addr) (ca : Nat) (la : List Int) (B : Option Addr) (cb : Nat) (lb : List Int) (T : Option Addr) (ct : Nat) (lt : List Int) (w : World)
    (hA : Kd.C (Kd.int .u8) w A la.length la) (hca : la.length ≤ ca) (hla : la.length ≤ 1048576) (hB : Kd.C (Kd.int .u8) w B lb.length lb) (hcb : lb.length ≤ cb) (hlb : lb.length ≤ 1048576) (hT : Kd.C (Kd.int .u8) w T lt.length lt) (hct : lt.length ≤ ct) (hlt : lt.length ≤ 1048576) :
    Calls Try.prog 5 #[.agg #[.int .i64 a0, .int .i64 a1, .int .i64 a2, .int .u64 a3], .slice A la.length ca, .slice B lb.length cb, .slice T lt.length ct] w fun e w' => e = .returned (.bool true) ∧ Below w.heap.size w w' := by
  have hu24 := Try.underlying24
  obtain ⟨L, hL⟩ : ∃ L, lensV a0 a1 a2 a3 (la ++ lt) = L := ⟨_, rfl⟩
  obtain ⟨M, hM⟩ : ∃ M, lensV a0 a1 a2 a3 (lb ++ lt) = M := ⟨_, rfl⟩
  obtain ⟨E, hE⟩ : ∃ E, check a0 a1 a2 = E := ⟨_, rfl⟩
  have sl := lensV_spec a0 a1 a2 a3 (la ++ lt)
  have sm := lensV_spec a0 a1 a2 a3 (lb ++ lt)
  have HE := Aside0.mk hE
  have HA := Aside0.mk hA
  have HB := Aside0.mk hB
  have HT := Aside0.mk hT
  have HLE := Aside0.mk (And.intro hla (And.intro hlb hlt))
  obtain ⟨X, hX⟩ : ∃ X, la ++ lt = X := ⟨_, rfl⟩
  obtain ⟨Y, hY⟩ : ∃ Y, lb ++ lt = Y := ⟨_, rfl⟩
  have hxl : X.length = la.length + lt.length := by rw [← hX, List.length_append]
  have hyl : Y.length = lb.length + lt.length := by rw [← hY, List.length_append]
  have HX := Aside0.mk hX
  have HY := Aside0.mk hY
  rw [hX] at hL sl
  rw [hY] at hM sm
  rw [hL] at sl
  rw [hM] at sm
  have HSL := Aside0.mk sl
  have HSM := Aside0.mk sm
  have HLL := Aside0.mk hL
  have HMM := Aside0.mk hM
  have HXL := Aside0.mk (show X.length ≤ 17592186044415 by omega)
  have HYL := Aside0.mk (show Y.length ≤ 17592186044415 by omega)
  clear hA hca hla hB hcb hlb hT hct hlt hL hM hE sl sm hX hY hxl hyl
  go_enter Try.func5, Try.ntmps5
  go_wp2_with (first
    | (go_at_call 10; refine (lives_any _).mono ?_; rintro e w1 ⟨rfl, hB⟩; have hq := (hB.block w.heap.size (by simp)).trans (blk_new w _); have HQ := Aside0.mk hq; have HB1 := Aside0.mk (below_step (below_alloc (Below.refl w.heap.size w) _) hB); have hz1 := blk_lt HQ.out; clear hB hq)
    | (at_builtin; refine Kd.R_append_rows (Kd.int .u8) (w0 := w1) w1.heap.size rfl (.tmp 23) (.tmp 24) 25 5 (.int .u8 0) 1 rfl Try.underlying25 info5 rfl (by decide) (by omega) (.slice (some ⟨w1.heap.size, 0, none⟩) 0 0) ([]) la _ _ _ (fun k => w1.heap.size ≤ k) (fun _ => False) rfl rfl ?aO ?aC (fun _ _ h => h) (fun _ h => h.elim) ?aF ?aB ?aS ?aL ?_; (case aO => exact R_empty _ _ _); (case aC => exact Kd.C_alloc (Kd.C_below HA.out HB1.out) _); (case aF => intro k hk; simp at hk; omega); (case aB => exact below_alloc (Below.refl _ _) _); (case aS => simp); (case aL => have := HLE.out; simp; omega); intro v2 w2 hR2 hb2 _ _; simp only [List.nil_append] at hR2; obtain ⟨A2, c2, rfl⟩ := Kd.R_slice hR2; have HR2 := Aside0.mk hR2; have HB2 := Aside0.mk hb2; clear hR2 hb2)
    | (at_builtin; refine Kd.R_append_rows (Kd.int .u8) (w0 := w1) w1.heap.size rfl (.tmp 25) (.tmp 26) 25 5 (.int .u8 0) 1 rfl Try.underlying25 info5 rfl (by decide) (by omega) (.slice A2 la.length c2) (la) lt _ _ _ (fun k => w1.heap.size ≤ k) (fun _ => False) rfl rfl ?aO ?aC (fun _ _ h => h) (fun _ h => h.elim) ?aF ?aB ?aS ?aL ?_; (case aO => exact HR2.out); (case aC => exact Kd.C_below HT.out (below_step HB1.out HB2.out)); (case aF => intro k hk; have := HB2.out.size; omega); (case aB => exact HB2.out); (case aS => exact HB2.out.size); (case aL => have := HLE.out; omega); intro v3 w3 hR3 hb3 _ _; rw [HX.out] at hR3; obtain ⟨A3, c3, rfl⟩ := Kd.R_slice hR3; have HR3 := Aside0.mk hR3; have HB3 := Aside0.mk (below_step HB1.out hb3); have HC3 := Aside0.mk hb3; clear hR3 hb3)
    | (at_builtin; refine Kd.R_append_rows (Kd.int .u8) (w0 := w3) w3.heap.size rfl (.tmp 28) (.tmp 29) 25 5 (.int .u8 0) 1 rfl Try.underlying25 info5 rfl (by decide) (by omega) (.slice (some ⟨w3.heap.size, 0, none⟩) 0 0) ([]) lb _ _ _ (fun k => w3.heap.size ≤ k) (fun _ => False) rfl rfl ?aO ?aC (fun _ _ h => h) (fun _ h => h.elim) ?aF ?aB ?aS ?aL ?_; (case aO => exact R_empty _ _ _); (case aC => exact Kd.C_alloc (Kd.C_below HB.out HB3.out) _); (case aF => intro k hk; simp at hk; omega); (case aB => exact below_alloc (Below.refl _ _) _); (case aS => simp); (case aL => have := HLE.out; simp; omega); intro v4 w4 hR4 hb4 _ _; simp only [List.nil_append] at hR4; obtain ⟨A4, c4, rfl⟩ := Kd.R_slice hR4; have HR4 := Aside0.mk hR4; have HB4 := Aside0.mk hb4; clear hR4 hb4)
    | (at_builtin; refine Kd.R_append_rows (Kd.int .u8) (w0 := w3) w3.heap.size rfl (.tmp 30) (.tmp 31) 25 5 (.int .u8 0) 1 rfl Try.underlying25 info5 rfl (by decide) (by omega) (.slice A4 lb.length c4) (lb) lt _ _ _ (fun k => w3.heap.size ≤ k) (fun _ => False) rfl rfl ?aO ?aC (fun _ _ h => h) (fun _ h => h.elim) ?aF ?aB ?aS ?aL ?_; (case aO => exact HR4.out); (case aC => exact Kd.C_below HT.out (below_step HB3.out HB4.out)); (case aF => intro k hk; have := HB4.out.size; omega); (case aB => exact HB4.out); (case aS => exact HB4.out.size); (case aL => have := HLE.out; omega); intro v5 w5 hR5 hb5 _ _; rw [HY.out] at hR5; obtain ⟨A5, c5, rfl⟩ := Kd.R_slice hR5; have HR5 := Aside0.mk hR5; have hq := (hb5.block w.heap.size (by have := HC3.out.size; omega)).trans ((HC3.out.block w.heap.size hz1).trans HQ.out); have hq1 := (blk_cell hq 0).trans rfl; have hq2 := (blk_cell hq 1).trans rfl; have hq3 := (blk_cell hq 2).trans rfl; have hq4 := (blk_cell hq 3).trans rfl; have HQ5 := Aside0.mk hq; clear hq; have HB5 := Aside0.mk (below_step HB3.out hb5); have HC5 := Aside0.mk hb5; clear hR5 hb5)
    | (go_at_call 13; (with_reducible refine (lengths_any a0 a1 a2 a3 A3 c3 X _ (Kd.C_below (R_C HR3.out).2.2 HC5.out) HXL.out).mono ?_); rintro e w6 ⟨v6, rfl, hR, hB⟩; rw [HE.out]; rw [HLL.out] at hR; obtain ⟨A6, c6, rfl⟩ := Kd.R_slice hR; clear hq1 hq2 hq3 hq4; have hq := (hB.block w.heap.size (blk_lt HQ5.out)).trans HQ5.out; have hq1 := (blk_cell hq 0).trans rfl; have hq2 := (blk_cell hq 1).trans rfl; have hq3 := (blk_cell hq 2).trans rfl; have hq4 := (blk_cell hq 3).trans rfl; have HQ6 := Aside0.mk hq; have HR6 := Aside0.mk hR; have HB6 := Aside0.mk hB; clear hB hR hq)
    | (go_at_call 13; (with_reducible refine (lengths_any a0 a1 a2 a3 A5 c5 Y _ (Kd.C_below (R_C HR5.out).2.2 HB6.out) HYL.out).mono ?_); rintro e w7 ⟨v7, rfl, hR, hB⟩; rw [HE.out]; rw [HMM.out] at hR; obtain ⟨A7, c7, rfl⟩ := Kd.R_slice hR; clear hq1 hq2 hq3 hq4; have hq := (hB.block w.heap.size (blk_lt HQ6.out)).trans HQ6.out; have hq1 := (blk_cell hq 0).trans rfl; have hq2 := (blk_cell hq 1).trans rfl; have hq3 := (blk_cell hq 2).trans rfl; have hq4 := (blk_cell hq 3).trans rfl; have HQ7 := Aside0.mk hq; have HR7 := Aside0.mk hR; have HB7 := Aside0.mk hB; clear hB hR hq)
    | (go_at_call 12; refine (ref_check_any a0 a1 a2 a3 _).mono ?_; rintro e w8 ⟨rfl, hB⟩; rw [HE.out]; clear hq1 hq2 hq3 hq4; have HB8 := Aside0.mk hB; clear hB))
  have BW : Below w.heap.size w w8 := below_step (below_step (below_step (below_step HB3.out HC5.out) HB6.out) HB7.out) HB8.out
  have CL := Aside0.mk (And.intro (R_C HR6.out).2.1 (Kd.C_below (Kd.C_below (R_C HR6.out).2.2 HB7.out) HB8.out))
  have CM := Aside0.mk (And.intro (R_C HR7.out).2.1 (Kd.C_below (R_C HR7.out).2.2 HB8.out))
  have HBW := Aside0.mk BW
  obtain ⟨gl1, gl2, gl3, gl4⟩ := HSL.out
  obtain ⟨gm1, gm2, gm3, gm4⟩ := HSM.out
  have hLs : L.sum ≤ 17592186044415 := by
    by_cases h : E = 0
    · have := gl2 (by rw [HE.out]; exact h); have := HXL.out; omega
    · have : L = [] := by rw [← HLL.out]; unfold lensV; rw [HE.out, if_neg h]
      subst this; simp
  have hMs : M.sum ≤ 17592186044415 := by
    by_cases h : E = 0
    · have := gm2 (by rw [HE.out]; exact h); have := HYL.out; omega
    · have : M = [] := by rw [← HMM.out]; unfold lensV; rw [HE.out, if_neg h]
      subst this; simp
  have GL := Aside0.mk (fun x hx => (gl1 x hx).1)
  have GM := Aside0.mk (fun x hx => (gm1 x hx).1)
  have HLs := Aside0.mk hLs
  have HMs := Aside0.mk hMs
  have hLn : (L.length : Int) ≤ 17592186044415 := Int.le_trans (sum_nonneg L GL.out) hLs
  have hMn : (M.length : Int) ≤ 17592186044415 := Int.le_trans (sum_nonneg M GM.out) hMs
  clear BW gl1 gl2 gl3 gl4 gm1 gm2 gm3 gm4 hLs hMs
  go_loopw [15, 17] (fun iv sv wr => ∃ (i s : Int), iv = .int .i64 i ∧ sv = .int .i64 s ∧ 0 ≤ i ∧ i ≤ L.length ∧ Aside0 (s = tot L i) ∧ Aside0 (Below w8.heap.size w8 wr)) (fun iv _ _ => (intOf iv).toNat)
  case atStart => exact ⟨L.length, 0, rfl, rfl, by omega, by omega, ⟨by rw [tot_end]⟩, ⟨Below.refl _ _⟩⟩
  case round =>
    obtain ⟨i, s, rfl, rfl, i0, i1, HT1, HBr⟩ := hrel
    by_cases hgd : 0 < i ∧ s < lt.length
    · have g1 : decide (0 < i) = true := decide_eq_true hgd.1
      have g2 : decide (s < (lt.length : Int)) = true := decide_eq_true hgd.2
      obtain ⟨i', s', r, hi', f1, f2, f3, f4, f5, f6⟩ := back_facts GL.out HLs.out i1 hgd.1 HT1.out
      obtain ⟨ad1, e1, hc1⟩ := Kd.at_int (Kd.C_below CL.out.2 HBr.out) i' f1 f2
      cases e1
      rw [f3] at hc1
      have HT2 := Aside0.mk f6
      clear f3 f6 hgd
      go_wp2
      go_roundw
      case rel => exact ⟨i', s', by first | rfl | rw [f4], by first | rfl | rw [f5], by omega, by omega, HT2, HBr⟩
      case measure => simp [intOf]; omega
    · have hg : decide (0 < i) = false ∨ (decide (0 < i) = true ∧ decide (s < (lt.length : Int)) = false) := by
        by_cases h : 0 < i
        · exact .inr ⟨decide_eq_true h, decide_eq_false (fun h2 => hgd ⟨h, h2⟩)⟩
        · exact .inl (decide_eq_false h)
      clear hgd
      rcases hg with g1 | ⟨g1, g2⟩
      all_goals
        go_wp2
        clear g1
        go_loopw [16, 18] (fun jv tv wt => ∃ (j t : Int), jv = .int .i64 j ∧ tv = .int .i64 t ∧ 0 ≤ j ∧ j ≤ M.length ∧ Aside0 (t = tot M j) ∧ Aside0 (Below w8.heap.size w8 wt)) (fun jv _ _ => (intOf jv).toNat)
        case atStart => exact ⟨M.length, 0, rfl, rfl, by omega, by omega, ⟨by rw [tot_end]⟩, HBr⟩
        case round =>
          obtain ⟨j, t, rfl, rfl, j0, j1, HT3, HBt⟩ := hrel
          by_cases hgd : 0 < j ∧ t < lt.length
          · have g1 : decide (0 < j) = true := decide_eq_true hgd.1
            have g2 : decide (t < (lt.length : Int)) = true := decide_eq_true hgd.2
            obtain ⟨i', s', r, hi', f1, f2, f3, f4, f5, f6⟩ := back_facts GM.out HMs.out j1 hgd.1 HT3.out
            obtain ⟨ad1, e1, hc1⟩ := Kd.at_int (Kd.C_below CM.out.2 HBt.out) i' f1 f2
            cases e1
            rw [f3] at hc1
            have HT4 := Aside0.mk f6
            clear f3 f6 hgd
            go_wp2
            go_roundw
            case rel => exact ⟨i', s', by first | rfl | rw [f4], by first | rfl | rw [f5], by omega, by omega, HT4, HBt⟩
            case measure => simp [intOf]; omega
          · have hg : decide (0 < j) = false ∨ (decide (0 < j) = true ∧ decide (t < (lt.length : Int)) = false) := by
              by_cases h : 0 < j
              · exact .inr ⟨decide_eq_true h, decide_eq_false (fun h2 => hgd ⟨h, h2⟩)⟩
              · exact .inl (decide_eq_false h)
            clear hgd
            rcases hg with g1 | ⟨g1, g2⟩
            all_goals
              go_wp2
              clear g1
              go_loopw [17, 19, 20] (fun sv av kv wk => ∃ (s k : Int), sv = .int .i64 s ∧ av = .int .i64 0 ∧ kv = .int .i64 k ∧ 0 ≤ k ∧ k ≤ L.length ∧ Aside0 (s = tot L k) ∧ Aside0 (Below w8.heap.size w8 wk)) (fun _ _ kv _ => (L.length - intOf kv).toNat)
              case atStart => exact ⟨_, _, rfl, rfl, rfl, i0, i1, HT1, HBt⟩
              case round =>
                obtain ⟨s2, k, rfl, rfl, rfl, k0, k1, HT5, HBk⟩ := hrel
                by_cases hk : k < (L.length : Int)
                · have g1 : decide (k < (L.length : Int)) = true := decide_eq_true hk
                  obtain ⟨s3, r, f3, f4, f5, f6, f7⟩ := fore_facts GL.out HLs.out k0 hk HT5.out
                  obtain ⟨ad1, e1, hc1⟩ := Kd.at_int (Kd.C_below CL.out.2 HBk.out) k k0 hk
                  cases e1
                  rw [f3] at hc1
                  have HT6 := Aside0.mk f6
                  have F7 := Aside0.mk f7
                  clear f3 f6 f7
                  by_cases hle : s2 ≤ (lt.length : Int)
                  · have g2 : decide (s2 ≤ (lt.length : Int)) = true := decide_eq_true hle
                    have HLe := Aside0.mk hle
                    clear hle
                    have hs21 := F7.out
                    have n0 : (s2 == 0) = false := by simp; omega
                    clear hs21
                    obtain ⟨R, hRR⟩ : ∃ R, L.drop k.toNat = R := ⟨_, rfl⟩
                    have HRR := Aside0.mk hRR
                    clear hRR
                    have HSX := Aside0.mk (show s2 = tot L (k.toNat : Int) by rw [Int.toNat_of_nonneg k0]; exact HT5.out)
                    go_wp2_with (first
                      | (go_at_call 17; refine (place_any M A7 c7 t j s2 _ GM.out HMs.out (Kd.C_below CM.out.2 HBk.out) j0 j1 HT3.out).mono ?_; intro e w9 hP; obtain ⟨r9, rfl, hr9, hB9⟩ := hP.out; clear hP; have HR9 := Aside0.mk hr9; have hc9 := cell_later hB9 hc1; have HB9 := Aside0.mk (below_step HBk.out hB9); clear hr9 hB9 hc1; rcases r9 with _ | _)
                      | (go_at_call 18; (with_reducible refine (behind_any L (some ad1) c6 s2 k.toNat _ GL.out HLs.out (Kd.C_below CL.out.2 HB9.out) CL.out.1 (by omega) HSX.out).mono ?_); intro e w10 hP; have hP' := hP.out; rw [HRR.out] at hP'; obtain ⟨A10, c10, rfl, hl10, hC10, hB10⟩ := hP'; clear hP; have HC10 := Aside0.mk (And.intro hl10 hC10); have HB10 := Aside0.mk hB10; clear hl10 hC10 hB10)
                      | (go_at_call 18; obtain ⟨k2, hk2, ht2⟩ := (by simpa using HR9.out : ∃ k : Nat, k < M.length ∧ tot M k = s2); have heq := again_eq a0 a1 a2 a3 la lb lt k.toNat k2 s2 (by rw [HX.out, HLL.out]; omega) (by rw [HY.out, HMM.out]; exact hk2) (by rw [HX.out, HLL.out]; exact HSX.out) (by rw [HY.out, HMM.out]; exact ht2.symm) HLe.out; rw [HX.out, HY.out, HLL.out, HMM.out, HRR.out] at heq; (with_reducible refine (behind_any M A7 c7 s2 k2 _ GM.out HMs.out (Kd.C_below (Kd.C_below CM.out.2 HB9.out) HB10.out) CM.out.1 hk2 ht2.symm).mono ?_); intro e w11 hP; have hP' := hP.out; rw [← heq] at hP'; obtain ⟨A11, c11, rfl, hl11, hC11, hB11⟩ := hP'; clear hP; have HC11 := Aside0.mk (And.intro hl11 hC11); have HB11 := Aside0.mk hB11; clear hl11 hC11 hB11 heq hk2 ht2)
                      | (go_at_call 15; (with_reducible refine (same_any A10 A11 c10 c11 R _ (Kd.C_below HC10.out.2 HB11.out) HC10.out.1 HC11.out.2 HC11.out.1).mono ?_); rintro e w12 ⟨rfl, hB⟩; have HB12 := Aside0.mk hB; clear hB))
                    · exact ⟨⟨s3, k + 1, by rw [f4], rfl, by first | rfl | rw [f5], by omega, by omega, HT6, HB9⟩, by simp [intOf]; omega⟩
                    · go_ret
                      exact ⟨rfl, below_step (below_step (below_step (below_step HBW.out HB9.out) HB10.out) HB11.out) HB12.out⟩
                  · have g2 : decide (s2 ≤ (lt.length : Int)) = false := decide_eq_false hle
                    clear hle
                    go_wp2
                    go_roundw
                    case rel => exact ⟨s3, k + 1, by first | rfl | rw [f4], rfl, by first | rfl | rw [f5], by omega, by omega, HT6, HBk⟩
                    case measure => simp [intOf]; omega
                · have g1 : decide (k < (L.length : Int)) = false := decide_eq_false hk
                  go_wp2
                  go_ret
                  exact ⟨rfl, below_step HBW.out HBk.out⟩
end Go.Proofs.Ytpadajjlakhnjaa.H
