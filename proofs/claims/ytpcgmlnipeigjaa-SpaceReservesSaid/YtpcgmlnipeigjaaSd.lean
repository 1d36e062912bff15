/- Package space: back, Free, Later, Settle as contracts. -/
import Derived.Test.YtpcgmlnipeigjaaSc
namespace Go.Proofs.Ytpcgmlnipeigjaa.H
open Go.RowKit Go.Proofs.YtpcgmlnipeigjaaW.PrintWords Go.Proofs.YtpcgmlnipeigjaaW.PrintLast Go.Proofs.YtpcgmlnipeigjaaW.PrintMore
set_option linter.unusedVariables false
set_option linter.unusedSimpArgs false

/-- A space as New and its calls leave it. -/
structure Sane (first : Int) (l : List Int) (res : Int) : Prop where
  f0 : 0 ≤ first
  fl : first + l.length ≤ 4096
  tri : Tri l
  r0 : 0 ≤ res
  rl : res ≤ cnt l 0
theorem Sane.len {first res : Int} {l : List Int} (h : Sane first l res) : l.length ≤ 4096 := by have := h.f0; have := h.fl; omega
theorem Sane.r4 {first res : Int} {l : List Int} (h : Sane first l res) : res ≤ 4096 := by have := h.rl; have := (cnt_nn l 0).2; have := h.len; omega
theorem Sane.c4 {first res : Int} {l : List Int} (h : Sane first l res) (v : Int) : 0 ≤ cnt l v ∧ cnt l v ≤ 4096 := by have := cnt_nn l v; have := h.len; omega
/-- What a call leaves: its answer, the space, and what it did not touch. -/
structure StP (n0 X g : Nat) (first : Int) (l' : List Int) (res' : Int) (val : Value) (w : World) (e : Ending) (w' : World) : Prop where
  out : e = .returned val ∧ SpAt w' X g first l' (cnt l') res' ∧ Mv n0 X g w w'
/-- Giving an area back: the answer, and the sectors. -/
def backL (first : Int) (l : List Int) (a0 a1 what : Int) : Int × List Int :=
  if inA first l a0 a1 = true ∧ allIs 1 l (a0 - first).toNat a1.toNat = true then (0, upd what a1.toNat (a0 - first).toNat l) else (60, l)

set_option maxRecDepth 100000 in
set_option maxHeartbeats 2000000 in
theorem back_any (n0 X g : Nat) (first res a0 a1 what : Int) (l : List Int) (w : World) (hS : SpAt w X g first l (cnt l) res) (hs : Sane first l res) (ha : a0 ≤ 9223372036854775807) (hw : what = 0 ∨ what = 1 ∨ what = 2) (hX : n0 ≤ X) (hg : n0 ≤ g) :
    Calls Try.prog 35 #[.pointer (some ⟨X, 0, none⟩), .agg #[.int .i64 a0, .int .i64 a1], .int .u8 what] w fun e w' => StP n0 X g first (backL first l a0 a1 what).2 res (.int .i64 (backL first l a0 a1 what).1) w e w' := by
  have hu54 := Try.underlying54
  have hu31 := Try.underlying31
  have hS1 := (hS.below (below_alloc (Below.refl w.heap.size w) (.cells #[.int .i64 a0, .int .i64 a1] 31)))
  have hlt := hS.ltX
  have hM1 : Mv n0 X g w (w.alloc (.cells #[.int .i64 a0, .int .i64 a1] 31)) := Mv.of_below (below_alloc (Below.refl w.heap.size w) _) (by omega)
  have hb1 : (w.alloc (.cells #[.int .i64 a0, .int .i64 a1] 31)).heap[w.heap.size]? = some (.cells #[.int .i64 a0, .int .i64 a1] 31 (0, 0)) := blk_new w _
  have HS1 := Aside0.mk hS1
  have HM1 := Aside0.mk hM1
  have HB1 := Aside0.mk hb1
  have HS := Aside0.mk hs
  have HWh := Aside0.mk hw
  clear hS1 hM1 hb1 hs hS hw
  have hf : 0 ≤ first ∧ first ≤ 4096 := by have := HS.out.f0; have := HS.out.fl; omega
  have hl := HS.out.len
  cases hin : inA first l a0 a1 with
  | false =>
    have hbk : backL first l a0 a1 what = (60, l) := if_neg (by rw [hin]; simp)
    rw [hbk]
    have HIn := Aside0.mk hin
    clear hin hbk
    go_enter Try.func35, Try.ntmps35
    go_wp2_with (first
      | (go_at_call 32; refine (made_yes X g first res l _ _ HS1.out).mono ?_; rintro e w1 ⟨rfl, hB⟩; have HS2 := Aside0.mk (HS1.out.below hB); have HM2 := Aside0.mk (HM1.out.trans (Mv.of_below hB (by have := HS1.out.ltX; omega))); have hq := (hB.block w.heap.size (blk_lt HB1.out)).trans HB1.out; have hq0 := (blk_cell hq 0).trans rfl; have hq1 := (blk_cell hq 1).trans rfl; clear hB hq)
      | (go_at_call 36; refine (within_out X g first res a0 a1 1 l _ _ HS2.out hf hl ha HIn.out).mono ?_; rintro e w2 ⟨rfl, hB⟩; have HS3 := Aside0.mk (HS2.out.below hB); have HM3 := Aside0.mk (HM2.out.trans (Mv.of_below hB (by have := HS2.out.ltX; omega))); clear hB))
    go_ret
    exact ⟨rfl, HS3.out, HM3.out⟩
  | true =>
    obtain ⟨h1, h2, h3, h4⟩ := inA_iff.1 hin
    obtain ⟨p, hp⟩ : ∃ p, a0 - first = p := ⟨_, rfl⟩
    rw [hp] at h3 h4
    have hp0 : 0 ≤ p := by omega
    have hpl : p + a1 ≤ l.length := by omega
    obtain ⟨B, hB⟩ : ∃ B, allIs 1 l p.toNat a1.toNat = B := ⟨_, rfl⟩
    have hbk : backL first l a0 a1 what = if B = true then (0, upd what a1.toNat p.toNat l) else (60, l) := by
      unfold backL
      rw [hin, hp, hB]
      simp
    rw [hbk]
    have HBq := Aside0.mk hB
    have HP := Aside0.mk hp
    clear hin hbk hB hp
    cases B with
    | false =>
      go_enter Try.func35, Try.ntmps35
      go_wp2_with (first
        | (go_at_call 32; refine (made_yes X g first res l _ _ HS1.out).mono ?_; rintro e w1 ⟨rfl, hB⟩; have HS2 := Aside0.mk (HS1.out.below hB); have HM2 := Aside0.mk (HM1.out.trans (Mv.of_below hB (by have := HS1.out.ltX; omega))); have hq := (hB.block w.heap.size (blk_lt HB1.out)).trans HB1.out; have hq0 := (blk_cell hq 0).trans rfl; have hq1 := (blk_cell hq 1).trans rfl; clear hB hq)
        | (go_at_call 36; refine (within_in X g first res a0 a1 p 1 l _ _ HS2.out hf hl HP.out hp0 h2 (by omega) (by omega)).mono ?_; rintro e w2 ⟨rfl, hB⟩; rw [HBq.out]; have HS3 := Aside0.mk (HS2.out.below hB); have HM3 := Aside0.mk (HM2.out.trans (Mv.of_below hB (by have := HS2.out.ltX; omega))); clear hB))
      go_ret
      exact ⟨rfl, HS3.out, HM3.out⟩
    | true =>
      go_enter Try.func35, Try.ntmps35
      go_wp2_with (first
        | (go_at_call 32; refine (made_yes X g first res l _ _ HS1.out).mono ?_; rintro e w1 ⟨rfl, hB⟩; have HS2 := Aside0.mk (HS1.out.below hB); have HM2 := Aside0.mk (HM1.out.trans (Mv.of_below hB (by have := HS1.out.ltX; omega))); have hq := (hB.block w.heap.size (blk_lt HB1.out)).trans HB1.out; have hq0 := (blk_cell hq 0).trans rfl; have hq1 := (blk_cell hq 1).trans rfl; have HBx := Aside0.mk hq; clear hB hq)
        | (go_at_call 36; refine (within_in X g first res a0 a1 p 1 l _ _ HS2.out hf hl HP.out hp0 h2 (by omega) (by omega)).mono ?_; rintro e w2 ⟨rfl, hB⟩; rw [HBq.out]; clear hq0 hq1; have HS3 := Aside0.mk (HS2.out.below hB); have HM3 := Aside0.mk (HM2.out.trans (Mv.of_below hB (by have := HS2.out.ltX; omega))); have hq := (hB.block w.heap.size (blk_lt HBx.out)).trans HBx.out; have hq1 := (blk_cell hq 1).trans rfl; clear hB hq)
        | (go_at_call 34; refine (set_any n0 X g first res l p a1 what _ HS3.out hp0 (by omega) (by omega) hl HS.out.tri HWh.out hX hg).mono ?_; intro e w4 hP; obtain ⟨⟨v, rfl⟩, hS4, hM4⟩ := hP.out; have HS4 := Aside0.mk hS4; have HM4 := Aside0.mk (HM3.out.trans hM4); clear hP hS4 hM4))
      go_ret
      exact ⟨rfl, HS4.out, HM4.out⟩
end Go.Proofs.Ytpcgmlnipeigjaa.H
