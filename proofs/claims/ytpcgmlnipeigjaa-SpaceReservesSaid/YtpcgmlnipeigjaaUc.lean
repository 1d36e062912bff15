/- The reference of package space: its sectors become something; Free, Later, Mark, Settle, Reserve, Release. -/
import Derived.Test.YtpcgmlnipeigjaaU0
namespace Go.Proofs.Ytpcgmlnipeigjaa.H
open Go.RowKit Go.Shelf Go.Proofs.YtpcgmlnipeigjaaW.PrintWords Go.Proofs.YtpcgmlnipeigjaaW.PrintLast Go.Proofs.YtpcgmlnipeigjaaW.PrintMore
set_option linter.unusedVariables false
set_option linter.unusedSimpArgs false

/-- What a call of the reference leaves. -/
structure RtP (n0 Y g : Nat) (first : Int) (l' : List Int) (res' : Int) (val : Value) (w : World) (e : Ending) (w' : World) : Prop where
  out : e = .returned val ∧ RfAt w' Y g first l' res' ∧ Mv n0 Y g w w'
/-- What its set leaves. -/
structure RSetP (n0 Y g : Nat) (first res : Int) (l : List Int) (w : World) (e : Ending) (w' : World) : Prop where
  out : (∃ v, e = .returned v) ∧ RfAt w' Y g first l res ∧ Mv n0 Y g w w'

set_option maxRecDepth 100000 in
set_option maxHeartbeats 4000000 in
theorem rset_any (n0 Y g : Nat) (first res a0 n what p : Int) (l : List Int) (w : World) (hR : RfAt w Y g first l res) (hf : 0 ≤ first ∧ first ≤ 4096) (hl : l.length ≤ 4096) (hp : a0 - first = p) (h1 : 0 ≤ p) (h2 : 0 ≤ n) (h3 : p + n ≤ l.length)
    (hY : n0 ≤ Y) (hg : n0 ≤ g) :
    Calls Try.prog 56 #[.pointer (some ⟨Y, 0, none⟩), .agg #[.int .i64 a0, .int .i64 n], .int .i64 what] w fun e w' => RSetP n0 Y g first res (upd what n.toNat p.toNat l) w e w' := by
  have hu74 := Try.underlying74
  have hu31 := Try.underlying31
  have hlt := hR.ltY
  have hltg := hR.ltg
  have HR := Aside0.mk (hR.below (below_alloc (Below.refl _ _) (.cells #[.int .i64 a0, .int .i64 n] 31)))
  have HB0 := Aside0.mk (blk_new w (.cells #[.int .i64 a0, .int .i64 n] 31))
  have HM0 := Aside0.mk (show Mv n0 Y g w (w.alloc (.cells #[.int .i64 a0, .int .i64 n] 31)) from Mv.of_below (below_alloc (Below.refl w.heap.size w) _) (by omega))
  have hYg := hR.ne
  clear hR
  go_enter Try.func56, Try.ntmps56
  go_wp2
  go_loopw [6] (fun iv wr => ∃ (i : Int) (l' : List Int), iv = .int .i64 i ∧ 0 ≤ i ∧ i ≤ n ∧ l'.length = l.length ∧ Aside0 (RfAt wr Y g first l' res) ∧ Aside0 (upd what (n - i).toNat (p + i).toNat l' = upd what n.toNat p.toNat l) ∧
    Aside0 (Mv n0 Y g (w.alloc (.cells #[.int .i64 a0, .int .i64 n] 31)) wr)) (fun iv _ => (n - intOf iv).toNat)
  case atStart => exact ⟨0, l, rfl, Int.le_refl _, by omega, rfl, HR, ⟨by rw [show (n - 0).toNat = n.toNat by omega, show p + 0 = p by omega]⟩, ⟨Mv.refl⟩⟩
  case round =>
    obtain ⟨i, l', rfl, i0, i1, hl', HRr, HI, HMr⟩ := hrel
    have hbx := (HMr.out.keep w.heap.size (by simp) (by omega) (by omega)).trans HB0.out
    have ha0 := (blk_cell hbx 0).trans rfl
    have ha1 := (blk_cell hbx 1).trans rfl
    by_cases hlt' : i < n
    · have hlt1 : decide (i < n) = true := decide_eq_true hlt'
      obtain ⟨r, hr⟩ : ∃ r, p + i = r := ⟨_, rfl⟩
      obtain ⟨q, hq⟩ : ∃ q, l'[r.toNat]? = some q := ⟨_, List.getElem?_eq_getElem (by omega)⟩
      have hcell := HRr.out.at_ hq
      obtain ⟨K, hKl, hx1⟩ := HRr.out.xk
      have hx0 := HRr.out.x0
      have hfg := HRr.out.fg r.toNat
      have w4 : wrap64 (i + 1) = i + 1 := by unfold wrap64; omega
      have w1 : IntKind.i64.wrap (a0 - first) = p := by rw [IntWalk.i64_left]; unfold wrap64; omega
      have w5 : IntKind.i64.wrap (p + i) = r := by rw [IntWalk.i64_left]; unfold wrap64; omega
      have hr0 : 0 ≤ r := by omega
      have hrl : r < (l.length : Int) := by omega
      have HQ := Aside0.mk (And.intro hr hq)
      have HL := Aside0.mk hl'
      clear hq hr hbx
      rw [← HL.out] at hrl
      go_wp2
      go_region
      go_wp2
      refine ⟨⟨i + 1, l'.set r.toNat what, rfl, by omega, by omega, by rw [List.length_set]; exact HL.out, ⟨(HRr.out.setg r.toNat what).keep rfl rfl⟩, ⟨?_⟩, ⟨(HMr.out.setg hg _ _).drew⟩⟩, by simp [intOf]; omega⟩
      have hr := HQ.out.1
      rw [← HI.out, show (n - i).toNat = (n - (i + 1)).toNat + 1 by omega, show (p + (i + 1)).toNat = (p + i).toNat + 1 by omega, hr]
      rfl
    · have hlt1 : decide (i < n) = false := decide_eq_false hlt'
      go_wp2
      go_end0
      refine ⟨⟨_, rfl⟩, ?_, HM0.out.trans HMr.out⟩
      have hI := HI.out
      rw [show (n - i).toNat = 0 by omega] at hI
      rw [← hI]
      exact HRr.out

set_option maxRecDepth 100000 in
set_option maxHeartbeats 4000000 in
theorem rfree_any (n0 Y g : Nat) (first res a0 a1 : Int) (l : List Int) (w : World) (hR : RfAt w Y g first l res) (hs : Sane first l res) (ha : a0 ≤ 9223372036854775807) (hY : n0 ≤ Y) (hg : n0 ≤ g) :
    Calls Try.prog 40 #[.pointer (some ⟨Y, 0, none⟩), .agg #[.int .i64 a0, .int .i64 a1]] w fun e w' => RtP n0 Y g first (backL first l a0 a1 0).2 res (.int .i64 (backL first l a0 a1 0).1) w e w' := by
  have hu31 := Try.underlying31
  have hlt := hR.ltY
  have hf : 0 ≤ first ∧ first ≤ 4096 := by have := hs.f0; have := hs.fl; omega
  have hl := hs.len
  have HR1 := Aside0.mk (hR.below (below_alloc (Below.refl w.heap.size w) (.cells #[.int .i64 a0, .int .i64 a1] 31)))
  have HM1 := Aside0.mk (show Mv n0 Y g w (w.alloc (.cells #[.int .i64 a0, .int .i64 a1] 31)) from Mv.of_below (below_alloc (Below.refl w.heap.size w) _) (by omega))
  have HB1 := Aside0.mk (blk_new w (.cells #[.int .i64 a0, .int .i64 a1] 31))
  clear hR hs
  cases hin : inA first l a0 a1 with
  | false =>
    have hbk : backL first l a0 a1 0 = (60, l) := if_neg (by rw [hin]; simp)
    rw [hbk]
    have HIn := Aside0.mk hin
    clear hin hbk
    go_enter Try.func40, Try.ntmps40
    go_wp2_with (go_at_call 57; refine (rall_out Y g first res a0 a1 1 l _ HR1.out hf hl ha HIn.out).mono ?_; rintro e w2 ⟨rfl, hB⟩; have HR3 := Aside0.mk (HR1.out.below hB); have HM3 := Aside0.mk (HM1.out.trans (Mv.of_below hB (by have := HR1.out.ltY; omega))); clear hB)
    go_ret
    exact ⟨rfl, HR3.out, HM3.out⟩
  | true =>
    obtain ⟨h1, h2, h3, h4⟩ := inA_iff.1 hin
    obtain ⟨p, hp⟩ : ∃ p, a0 - first = p := ⟨_, rfl⟩
    rw [hp] at h3 h4
    have hp0 : 0 ≤ p := by omega
    have hpl : p + a1 ≤ l.length := by omega
    obtain ⟨B, hB⟩ : ∃ B, allIs 1 l p.toNat a1.toNat = B := ⟨_, rfl⟩
    have hbk : backL first l a0 a1 0 = if B = true then (0, upd 0 a1.toNat p.toNat l) else (60, l) := by
      unfold backL
      rw [hin, hp, hB]
      simp
    rw [hbk]
    have HBq := Aside0.mk hB
    have HP := Aside0.mk hp
    clear hin hbk hB hp
    cases B with
    | false =>
      go_enter Try.func40, Try.ntmps40
      go_wp2_with (go_at_call 57; refine (rall_in Y g first res a0 a1 p 1 l _ HR1.out hf hl HP.out hp0 h2 hpl).mono ?_; rintro e w2 ⟨rfl, hB⟩; rw [HBq.out]; have HR3 := Aside0.mk (HR1.out.below hB); have HM3 := Aside0.mk (HM1.out.trans (Mv.of_below hB (by have := HR1.out.ltY; omega))); clear hB)
      go_ret
      exact ⟨rfl, HR3.out, HM3.out⟩
    | true =>
      go_enter Try.func40, Try.ntmps40
      go_wp2_with (first
        | (go_at_call 57; refine (rall_in Y g first res a0 a1 p 1 l _ HR1.out hf hl HP.out hp0 h2 hpl).mono ?_; rintro e w2 ⟨rfl, hB⟩; rw [HBq.out]; have HR3 := Aside0.mk (HR1.out.below hB); have HM3 := Aside0.mk (HM1.out.trans (Mv.of_below hB (by have := HR1.out.ltY; omega))); have hq := (hB.block w.heap.size (blk_lt HB1.out)).trans HB1.out; have hq0 := (blk_cell hq 0).trans rfl; have hq1 := (blk_cell hq 1).trans rfl; clear hB hq)
        | (go_at_call 56; refine (rset_any n0 Y g first res a0 a1 0 p l _ HR3.out hf hl HP.out hp0 (by omega) hpl hY hg).mono ?_; intro e w3 hP; obtain ⟨⟨v, rfl⟩, hR4, hM4⟩ := hP.out; have HR4 := Aside0.mk hR4; have HM4 := Aside0.mk (HM3.out.trans hM4); clear hP hR4 hM4))
      go_ret
      exact ⟨rfl, HR4.out, HM4.out⟩

set_option maxRecDepth 100000 in
set_option maxHeartbeats 4000000 in
theorem rlater_any (n0 Y g : Nat) (first res a0 a1 : Int) (l : List Int) (w : World) (hR : RfAt w Y g first l res) (hs : Sane first l res) (ha : a0 ≤ 9223372036854775807) (hY : n0 ≤ Y) (hg : n0 ≤ g) :
    Calls Try.prog 41 #[.pointer (some ⟨Y, 0, none⟩), .agg #[.int .i64 a0, .int .i64 a1]] w fun e w' => RtP n0 Y g first (backL first l a0 a1 2).2 res (.int .i64 (backL first l a0 a1 2).1) w e w' := by
  have hu31 := Try.underlying31
  have hlt := hR.ltY
  have hf : 0 ≤ first ∧ first ≤ 4096 := by have := hs.f0; have := hs.fl; omega
  have hl := hs.len
  have HR1 := Aside0.mk (hR.below (below_alloc (Below.refl w.heap.size w) (.cells #[.int .i64 a0, .int .i64 a1] 31)))
  have HM1 := Aside0.mk (show Mv n0 Y g w (w.alloc (.cells #[.int .i64 a0, .int .i64 a1] 31)) from Mv.of_below (below_alloc (Below.refl w.heap.size w) _) (by omega))
  have HB1 := Aside0.mk (blk_new w (.cells #[.int .i64 a0, .int .i64 a1] 31))
  clear hR hs
  cases hin : inA first l a0 a1 with
  | false =>
    have hbk : backL first l a0 a1 2 = (60, l) := if_neg (by rw [hin]; simp)
    rw [hbk]
    have HIn := Aside0.mk hin
    clear hin hbk
    go_enter Try.func41, Try.ntmps41
    go_wp2_with (go_at_call 57; refine (rall_out Y g first res a0 a1 1 l _ HR1.out hf hl ha HIn.out).mono ?_; rintro e w2 ⟨rfl, hB⟩; have HR3 := Aside0.mk (HR1.out.below hB); have HM3 := Aside0.mk (HM1.out.trans (Mv.of_below hB (by have := HR1.out.ltY; omega))); clear hB)
    go_ret
    exact ⟨rfl, HR3.out, HM3.out⟩
  | true =>
    obtain ⟨h1, h2, h3, h4⟩ := inA_iff.1 hin
    obtain ⟨p, hp⟩ : ∃ p, a0 - first = p := ⟨_, rfl⟩
    rw [hp] at h3 h4
    have hp0 : 0 ≤ p := by omega
    have hpl : p + a1 ≤ l.length := by omega
    obtain ⟨B, hB⟩ : ∃ B, allIs 1 l p.toNat a1.toNat = B := ⟨_, rfl⟩
    have hbk : backL first l a0 a1 2 = if B = true then (0, upd 2 a1.toNat p.toNat l) else (60, l) := by
      unfold backL
      rw [hin, hp, hB]
      simp
    rw [hbk]
    have HBq := Aside0.mk hB
    have HP := Aside0.mk hp
    clear hin hbk hB hp
    cases B with
    | false =>
      go_enter Try.func41, Try.ntmps41
      go_wp2_with (go_at_call 57; refine (rall_in Y g first res a0 a1 p 1 l _ HR1.out hf hl HP.out hp0 h2 hpl).mono ?_; rintro e w2 ⟨rfl, hB⟩; rw [HBq.out]; have HR3 := Aside0.mk (HR1.out.below hB); have HM3 := Aside0.mk (HM1.out.trans (Mv.of_below hB (by have := HR1.out.ltY; omega))); clear hB)
      go_ret
      exact ⟨rfl, HR3.out, HM3.out⟩
    | true =>
      go_enter Try.func41, Try.ntmps41
      go_wp2_with (first
        | (go_at_call 57; refine (rall_in Y g first res a0 a1 p 1 l _ HR1.out hf hl HP.out hp0 h2 hpl).mono ?_; rintro e w2 ⟨rfl, hB⟩; rw [HBq.out]; have HR3 := Aside0.mk (HR1.out.below hB); have HM3 := Aside0.mk (HM1.out.trans (Mv.of_below hB (by have := HR1.out.ltY; omega))); have hq := (hB.block w.heap.size (blk_lt HB1.out)).trans HB1.out; have hq0 := (blk_cell hq 0).trans rfl; have hq1 := (blk_cell hq 1).trans rfl; clear hB hq)
        | (go_at_call 56; refine (rset_any n0 Y g first res a0 a1 2 p l _ HR3.out hf hl HP.out hp0 (by omega) hpl hY hg).mono ?_; intro e w3 hP; obtain ⟨⟨v, rfl⟩, hR4, hM4⟩ := hP.out; have HR4 := Aside0.mk hR4; have HM4 := Aside0.mk (HM3.out.trans hM4); clear hP hR4 hM4))
      go_ret
      exact ⟨rfl, HR4.out, HM4.out⟩
end Go.Proofs.Ytpcgmlnipeigjaa.H
