/- The reference of package space: Mark, Settle, Reserve, Release. -/
import Derived.Test.YtpcgmlnipeigjaaUc
namespace Go.Proofs.Ytpcgmlnipeigjaa.H
open Go.RowKit Go.Shelf Go.Proofs.YtpcgmlnipeigjaaW.PrintWords Go.Proofs.YtpcgmlnipeigjaaW.PrintLast Go.Proofs.YtpcgmlnipeigjaaW.PrintMore
set_option linter.unusedVariables false
set_option linter.unusedSimpArgs false

theorem rcnt (l : List Int) (hl : l.length ≤ 4096) : 0 ≤ cnt l 0 ∧ cnt l 0 ≤ 4096 := by have := cnt_nn l 0; omega

set_option maxRecDepth 100000 in
set_option maxHeartbeats 4000000 in
theorem rmark_any (n0 Y g : Nat) (first res a0 a1 : Int) (l : List Int) (w : World) (hR : RfAt w Y g first l res) (hs : Sane first l res) (ha : a0 ≤ 9223372036854775807) (hY : n0 ≤ Y) (hg : n0 ≤ g) :
    Calls Try.prog 39 #[.pointer (some ⟨Y, 0, none⟩), .agg #[.int .i64 a0, .int .i64 a1]] w fun e w' => RtP n0 Y g first (markL first l a0 a1 res).2 res (.int .i64 (markL first l a0 a1 res).1) w e w' := by
  have hu31 := Try.underlying31
  have hlt := hR.ltY
  have hf : 0 ≤ first ∧ first ≤ 4096 := by have := hs.f0; have := hs.fl; omega
  have hl := hs.len
  have hr9 := hs.r4
  have hr0 := hs.r0
  have HR1 := Aside0.mk (hR.below (below_alloc (Below.refl w.heap.size w) (.cells #[.int .i64 a0, .int .i64 a1] 31)))
  have HM1 := Aside0.mk (show Mv n0 Y g w (w.alloc (.cells #[.int .i64 a0, .int .i64 a1] 31)) from Mv.of_below (below_alloc (Below.refl w.heap.size w) _) (by omega))
  have HB1 := Aside0.mk (blk_new w (.cells #[.int .i64 a0, .int .i64 a1] 31))
  clear hR hs
  cases hin : inA first l a0 a1 with
  | false =>
    have hbk : markL first l a0 a1 res = (60, l) := if_neg (by rw [hin]; simp)
    rw [hbk]
    have HIn := Aside0.mk hin
    clear hin hbk
    go_enter Try.func39, Try.ntmps39
    go_wp2_with (go_at_call 57; refine (rall_out Y g first res a0 a1 0 l _ HR1.out hf hl ha HIn.out).mono ?_; rintro e w2 ⟨rfl, hB⟩; have HR3 := Aside0.mk (HR1.out.below hB); have HM3 := Aside0.mk (HM1.out.trans (Mv.of_below hB (by have := HR1.out.ltY; omega))); clear hB)
    go_ret
    exact ⟨rfl, HR3.out, HM3.out⟩
  | true =>
    obtain ⟨h1, h2, h3, h4⟩ := inA_iff.1 hin
    obtain ⟨p, hp⟩ : ∃ p, a0 - first = p := ⟨_, rfl⟩
    rw [hp] at h3 h4
    have hp0 : 0 ≤ p := by omega
    have hpl : p + a1 ≤ l.length := by omega
    obtain ⟨B, hB⟩ : ∃ B, allIs 0 l p.toNat a1.toNat = B := ⟨_, rfl⟩
    obtain ⟨L, hL⟩ : ∃ L, cnt l 0 - res = L := ⟨_, rfl⟩
    have hbk : markL first l a0 a1 res = if B = true then (if L < a1 then (2, l) else (0, upd 1 a1.toNat p.toNat l)) else (60, l) := by
      unfold markL
      rw [hin, hp, hB, hL]
      simp
    rw [hbk]
    have HBq := Aside0.mk hB
    have HP := Aside0.mk hp
    have HL := Aside0.mk hL
    clear hin hbk hB hp hL
    cases B with
    | false =>
      go_enter Try.func39, Try.ntmps39
      go_wp2_with (go_at_call 57; refine (rall_in Y g first res a0 a1 p 0 l _ HR1.out hf hl HP.out hp0 h2 hpl).mono ?_; rintro e w2 ⟨rfl, hB⟩; rw [HBq.out]; have HR3 := Aside0.mk (HR1.out.below hB); have HM3 := Aside0.mk (HM1.out.trans (Mv.of_below hB (by have := HR1.out.ltY; omega))); clear hB)
      go_ret
      exact ⟨rfl, HR3.out, HM3.out⟩
    | true =>
      by_cases hc : L < a1
      · have d1 : decide (L < a1) = true := decide_eq_true hc
        rw [if_pos rfl, if_pos hc]
        go_enter Try.func39, Try.ntmps39
        go_wp2_with (go_at_call 57; refine (rall_in Y g first res a0 a1 p 0 l _ HR1.out hf hl HP.out hp0 h2 hpl).mono ?_; rintro e w2 ⟨rfl, hB⟩; rw [HBq.out]; have HR3 := Aside0.mk (HR1.out.below hB); have HM3 := Aside0.mk (HM1.out.trans (Mv.of_below hB (by have := HR1.out.ltY; omega))); have hq := (hB.block w.heap.size (blk_lt HB1.out)).trans HB1.out; have hq0 := (blk_cell hq 0).trans rfl; have hq1 := (blk_cell hq 1).trans rfl; clear hB hq)
        go_quiet ((go_at_call 26; exact Calls.quiet_of (rleft_q Y g first res L l _ (HR3.out.drewN _) hl ⟨hr0, hr9⟩ HL.out)))
        go_wp2
        go_ret
        exact ⟨rfl, HR3.out.drewN _, HM3.out.drewN _⟩
      · have d1 : decide (L < a1) = false := decide_eq_false hc
        rw [if_pos rfl, if_neg hc]
        go_enter Try.func39, Try.ntmps39
        go_wp2_with (go_at_call 57; refine (rall_in Y g first res a0 a1 p 0 l _ HR1.out hf hl HP.out hp0 h2 hpl).mono ?_; rintro e w2 ⟨rfl, hB⟩; rw [HBq.out]; have HR3 := Aside0.mk (HR1.out.below hB); have HM3 := Aside0.mk (HM1.out.trans (Mv.of_below hB (by have := HR1.out.ltY; omega))); have hq := (hB.block w.heap.size (blk_lt HB1.out)).trans HB1.out; have hq0 := (blk_cell hq 0).trans rfl; have hq1 := (blk_cell hq 1).trans rfl; clear hB hq)
        go_quiet ((go_at_call 26; exact Calls.quiet_of (rleft_q Y g first res L l _ (HR3.out.drewN _) hl ⟨hr0, hr9⟩ HL.out)))
        have HR5 := Aside0.mk (HR3.out.drewN nq)
        have HM5 := Aside0.mk (HM3.out.drewN nq)
        go_wp2_with (go_at_call 56; refine (rset_any n0 Y g first res a0 a1 1 p l _ HR5.out hf hl HP.out hp0 (by omega) hpl hY hg).mono ?_; intro e w3 hP; obtain ⟨⟨v, rfl⟩, hR4, hM4⟩ := hP.out; have HR4 := Aside0.mk hR4; have HM4 := Aside0.mk (HM5.out.trans hM4); clear hP hR4 hM4)
        go_ret
        exact ⟨rfl, HR4.out, HM4.out⟩

set_option maxRecDepth 100000 in
set_option maxHeartbeats 4000000 in
theorem rreserve_any (n0 Y g : Nat) (first res n : Int) (l : List Int) (w : World) (hR : RfAt w Y g first l res) (hs : Sane first l res) (hY : n0 ≤ Y) :
    Calls Try.prog 43 #[.pointer (some ⟨Y, 0, none⟩), .int .i64 n] w fun e w' => RtP n0 Y g first l (resL l n res).2 (.int .i64 (resL l n res).1) w e w' := by
  have hu74 := Try.underlying74
  have hl := hs.len
  have hr9 := hs.r4
  have hr0 := hs.r0
  have HR := Aside0.mk hR
  obtain ⟨L, hL⟩ : ∃ L, cnt l 0 - res = L := ⟨_, rfl⟩
  have HL := Aside0.mk hL
  have hl9 := hs.c4 0
  have hrl : resL l n res = if n < 0 then (1, res) else if L < n then (2, res) else (0, res + n) := by unfold resL; rw [hL]
  clear hR hs
  by_cases h1 : n < 0
  · have d1 : decide (n < 0) = true := decide_eq_true h1
    rw [hrl, if_pos h1]
    clear hL hrl
    go_enter Try.func43, Try.ntmps43
    go_wp2
    go_ret
    exact ⟨rfl, HR.out, Mv.refl⟩
  have d1 : decide (n < 0) = false := decide_eq_false h1
  by_cases h2 : L < n
  · have d2 : decide (L < n) = true := decide_eq_true h2
    rw [hrl, if_neg h1, if_pos h2]
    clear hL hrl
    go_enter Try.func43, Try.ntmps43
    go_wp2_with (go_at_call 26; refine (rleft_q Y g first res L l _ HR.out hl ⟨hr0, hr9⟩ HL.out).mono ?_; rintro e w2 ⟨rfl, nq, rfl⟩)
    go_ret
    exact ⟨rfl, HR.out.drewN _, Mv.refl.drewN _⟩
  · have d2 : decide (L < n) = false := decide_eq_false h2
    rw [hrl, if_neg h1, if_neg h2]
    have w9 : wrap64 (res + n) = res + n := by unfold wrap64; omega
    have hx2 := HR.out.x2
    have hf2 := HR.out.fY 2
    clear hL hrl
    go_enter Try.func43, Try.ntmps43
    go_wp2_with (go_at_call 26; refine (rleft_q Y g first res L l _ HR.out hl ⟨hr0, hr9⟩ HL.out).mono ?_; rintro e w2 ⟨rfl, nq, rfl⟩)
    go_ret
    exact ⟨rfl, (HR.out.setr (res + n)).keep rfl rfl, (Mv.refl.setX hY 2 (.int .i64 (res + n))).drewN nq⟩

set_option maxRecDepth 100000 in
set_option maxHeartbeats 4000000 in
theorem rrelease_any (n0 Y g : Nat) (first res n : Int) (l : List Int) (w : World) (hR : RfAt w Y g first l res) (hs : Sane first l res) (hY : n0 ≤ Y) :
    Calls Try.prog 44 #[.pointer (some ⟨Y, 0, none⟩), .int .i64 n] w fun e w' => RtP n0 Y g first l (relL n res).2 (.int .i64 (relL n res).1) w e w' := by
  have hu74 := Try.underlying74
  have hr9 := hs.r4
  have hr0 := hs.r0
  have HR := Aside0.mk hR
  have hx2 := hR.x2
  have hf2 := hR.fY 2
  clear hR hs
  by_cases h1 : n < 0
  · have d1 : decide (n < 0) = true := decide_eq_true h1
    rw [show relL n res = (1, res) from if_pos (.inl h1)]
    go_enter Try.func44, Try.ntmps44
    go_wp2
    go_ret
    exact ⟨rfl, HR.out, Mv.refl⟩
  have d1 : decide (n < 0) = false := decide_eq_false h1
  by_cases h2 : res < n
  · have d2 : decide (res < n) = true := decide_eq_true h2
    rw [show relL n res = (1, res) from if_pos (.inr h2)]
    go_enter Try.func44, Try.ntmps44
    go_wp2
    go_ret
    exact ⟨rfl, HR.out, Mv.refl⟩
  · have d2 : decide (res < n) = false := decide_eq_false h2
    rw [show relL n res = (0, res - n) from if_neg (by omega)]
    have w9 : wrap64 (res - n) = res - n := by unfold wrap64; omega
    go_enter Try.func44, Try.ntmps44
    go_wp2
    go_ret
    exact ⟨rfl, HR.out.setr _, Mv.refl.setX hY _ _⟩

set_option maxRecDepth 100000 in
set_option maxHeartbeats 2000000 in
theorem rsettle_any (n0 Y g : Nat) (first res : Int) (l : List Int) (w : World) (hR : RfAt w Y g first l res) (hl : l.length ≤ 4096) (hY : n0 ≤ Y) (hg : n0 ≤ g) :
    Calls Try.prog 42 #[.pointer (some ⟨Y, 0, none⟩)] w fun e w' => RtP n0 Y g first (settleL l) res (.int .i64 (cnt l 2)) w e w' := by
  have hu74 := Try.underlying74
  obtain ⟨K, hKl, hx1⟩ := hR.xk
  have HR := Aside0.mk hR
  clear hR
  go_enter Try.func42, Try.ntmps42
  go_wp2
  clear hx1
  go_loopw [3, 11] (fun nv iv wr => ∃ (n i : Int), nv = .int .i64 n ∧ iv = .int .i64 i ∧ 0 ≤ i ∧ i ≤ l.length ∧ n = cnt (l.take i.toNat) 2 ∧ Aside0 (RfAt wr Y g first (settleL (l.take i.toNat) ++ l.drop i.toNat) res) ∧ Aside0 (Mv n0 Y g w wr)) (fun _ iv _ => (l.length - intOf iv).toNat)
  case atStart => exact ⟨0, 0, rfl, rfl, Int.le_refl _, by omega, by simp [cnt], by simpa [settleL] using HR, ⟨Mv.refl⟩⟩
  case round =>
    obtain ⟨n, i, rfl, rfl, i0, i1, hn, HRr, HMr⟩ := hrel
    have hn9 : 0 ≤ n ∧ n ≤ 4096 := by have := cnt_nn (l.take i.toNat) 2; simp at this; omega
    by_cases hlt' : i < (l.length : Int)
    · have hlt1 : decide (i < (l.length : Int)) = true := decide_eq_true hlt'
      obtain ⟨q, hq⟩ : ∃ q, l[i.toNat]? = some q := ⟨_, List.getElem?_eq_getElem (by omega)⟩
      have hcell := HRr.out.at_ (settle_at hq)
      have hfg := HRr.out.fg i.toNat
      have hstep := settle_step hq
      have hcs := settle_cnt hq
      have hi1 : (i + 1).toNat = i.toNat + 1 := by omega
      have w4 : wrap64 (i + 1) = i + 1 := by unfold wrap64; omega
      have w5 : wrap64 (n + 1) = n + 1 := by unfold wrap64; omega
      obtain ⟨K2, hKl2, hx1⟩ := HRr.out.xk
      rw [settle_len] at hx1 hKl2
      have HQ := Aside0.mk hq
      by_cases he : q = 2
      · subst he
        rw [if_pos rfl] at hstep hcs
        have HStep := Aside0.mk hstep
        have HCs := Aside0.mk hcs
        have HN := Aside0.mk hn
        clear hq hstep hcs hn
        go_wp2
        refine ⟨⟨n + 1, i + 1, rfl, rfl, by omega, by omega, ?_, ?_, ⟨HMr.out.setg hg _ _⟩⟩, by simp [intOf]; omega⟩
        · rw [hi1, HCs.out, HN.out]
        · rw [hi1, HStep.out]
          exact ⟨HRr.out.setg _ _⟩
      · have he1 : (q == 2) = false := by simp [he]
        rw [if_neg he] at hstep hcs
        have HStep := Aside0.mk hstep
        have HCs := Aside0.mk hcs
        have HN := Aside0.mk hn
        clear hq hstep hcs hn
        go_wp2
        refine ⟨⟨n, i + 1, rfl, rfl, by omega, by omega, ?_, ?_, HMr⟩, by simp [intOf]; omega⟩
        · rw [hi1, HCs.out, HN.out]; omega
        · have hsame : (settleL (l.take i.toNat) ++ l.drop i.toNat).set i.toNat q = settleL (l.take i.toNat) ++ l.drop i.toNat := by
            have h := settle_at HQ.out
            obtain ⟨h1, h2⟩ := List.getElem?_eq_some_iff.1 h
            rw [← h2, List.set_getElem_self]
          rw [hi1, HStep.out, hsame]
          exact HRr
    · have hlt1 : decide (i < (l.length : Int)) = false := decide_eq_false hlt'
      go_wp2
      go_ret
      have hi : i.toNat = l.length := by omega
      refine ⟨?_, ?_, HMr.out⟩
      · rw [hi, List.take_length]; rfl
      · have h := HRr.out
        rw [hi, settle_end] at h
        exact h
end Go.Proofs.Ytpcgmlnipeigjaa.H
