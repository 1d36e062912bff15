/- Package space: Mark, Reserve, Release, Used, Waiting as contracts. -/
import Derived.Test.YtpcgmlnipeigjaaSh
namespace Go.Proofs.Ytpcgmlnipeigjaa.H
open Go.RowKit Go.Shelf Go.Proofs.YtpcgmlnipeigjaaW.PrintWords Go.Proofs.YtpcgmlnipeigjaaW.PrintLast Go.Proofs.YtpcgmlnipeigjaaW.PrintMore
set_option linter.unusedVariables false
set_option linter.unusedSimpArgs false

/-- Marking an area: the answer, and the sectors. -/
def markL (first : Int) (l : List Int) (a0 a1 res : Int) : Int × List Int :=
  if inA first l a0 a1 = true ∧ allIs 0 l (a0 - first).toNat a1.toNat = true then (if cnt l 0 - res < a1 then (2, l) else (0, upd 1 a1.toNat (a0 - first).toNat l)) else (60, l)

set_option maxRecDepth 100000 in
set_option maxHeartbeats 2000000 in
theorem mark_any (n0 X g : Nat) (first res a0 a1 : Int) (l : List Int) (w : World) (hS : SpAt w X g first l (cnt l) res) (hs : Sane first l res) (ha : a0 ≤ 9223372036854775807) (hX : n0 ≤ X) (hg : n0 ≤ g) :
    Calls Try.prog 17 #[.pointer (some ⟨X, 0, none⟩), .agg #[.int .i64 a0, .int .i64 a1]] w fun e w' => StP n0 X g first (markL first l a0 a1 res).2 res (.int .i64 (markL first l a0 a1 res).1) w e w' := by
  have hu54 := Try.underlying54
  have hu31 := Try.underlying31
  have hlt := hS.ltX
  have HS1 := Aside0.mk (hS.below (below_alloc (Below.refl w.heap.size w) (.cells #[.int .i64 a0, .int .i64 a1] 31)))
  have HM1 := Aside0.mk (show Mv n0 X g w (w.alloc (.cells #[.int .i64 a0, .int .i64 a1] 31)) from Mv.of_below (below_alloc (Below.refl w.heap.size w) _) (by omega))
  have HB1 := Aside0.mk (blk_new w (.cells #[.int .i64 a0, .int .i64 a1] 31))
  have HS := Aside0.mk hs
  have hf : 0 ≤ first ∧ first ≤ 4096 := by have := hs.f0; have := hs.fl; omega
  have hl := hs.len
  clear hS hs
  cases hin : inA first l a0 a1 with
  | false =>
    have hbk : markL first l a0 a1 res = (60, l) := if_neg (by rw [hin]; simp)
    rw [hbk]
    have HIn := Aside0.mk hin
    clear hin hbk
    go_enter Try.func17, Try.ntmps17
    go_wp2_with (first
      | (go_at_call 32; refine (made_yes X g first res l _ _ HS1.out).mono ?_; rintro e w1 ⟨rfl, hB⟩; have HS2 := Aside0.mk (HS1.out.below hB); have HM2 := Aside0.mk (HM1.out.trans (Mv.of_below hB (by have := HS1.out.ltX; omega))); have hq := (hB.block w.heap.size (blk_lt HB1.out)).trans HB1.out; have hq0 := (blk_cell hq 0).trans rfl; have hq1 := (blk_cell hq 1).trans rfl; clear hB hq)
      | (go_at_call 36; refine (within_out X g first res a0 a1 0 l _ _ HS2.out hf hl ha HIn.out).mono ?_; rintro e w2 ⟨rfl, hB⟩; have HS3 := Aside0.mk (HS2.out.below hB); have HM3 := Aside0.mk (HM2.out.trans (Mv.of_below hB (by have := HS2.out.ltX; omega))); clear hB))
    go_ret
    exact ⟨rfl, HS3.out, HM3.out⟩
  | true =>
    obtain ⟨h1, h2, h3, h4⟩ := inA_iff.1 hin
    obtain ⟨p, hp⟩ : ∃ p, a0 - first = p := ⟨_, rfl⟩
    rw [hp] at h3 h4
    have hp0 : 0 ≤ p := by omega
    have hpl : p + a1 ≤ l.length := by omega
    obtain ⟨B, hB⟩ : ∃ B, allIs 0 l p.toNat a1.toNat = B := ⟨_, rfl⟩
    obtain ⟨L, hL⟩ : ∃ L, cnt l 0 - res = L := ⟨_, rfl⟩
    have hbk : markL first l a0 a1 res = if B = true then (if L < a1 then (2, l) else (0, upd 1 a1.toNat p.toNat l)) else (60, l) := by
      unfold markL
      rw [hin, hp, hB, hL]
      simp
    rw [hbk]
    have HBq := Aside0.mk hB
    have HP := Aside0.mk hp
    have HL := Aside0.mk hL
    have hl9 := HS.out.c4 0
    have hr9 := HS.out.r4
    have hr0 := HS.out.r0
    clear hin hbk hB hp hL
    cases B with
    | false =>
      go_enter Try.func17, Try.ntmps17
      go_wp2_with (first
        | (go_at_call 32; refine (made_yes X g first res l _ _ HS1.out).mono ?_; rintro e w1 ⟨rfl, hB⟩; have HS2 := Aside0.mk (HS1.out.below hB); have HM2 := Aside0.mk (HM1.out.trans (Mv.of_below hB (by have := HS1.out.ltX; omega))); have hq := (hB.block w.heap.size (blk_lt HB1.out)).trans HB1.out; have hq0 := (blk_cell hq 0).trans rfl; have hq1 := (blk_cell hq 1).trans rfl; clear hB hq)
        | (go_at_call 36; refine (within_in X g first res a0 a1 p 0 l _ _ HS2.out hf hl HP.out hp0 h2 (by omega) (by omega)).mono ?_; rintro e w2 ⟨rfl, hB⟩; rw [HBq.out]; have HS3 := Aside0.mk (HS2.out.below hB); have HM3 := Aside0.mk (HM2.out.trans (Mv.of_below hB (by have := HS2.out.ltX; omega))); clear hB))
      go_ret
      exact ⟨rfl, HS3.out, HM3.out⟩
    | true =>
      by_cases hc : L < a1
      · have d1 : decide (L < a1) = true := decide_eq_true hc
        rw [if_pos rfl, if_pos hc]
        go_enter Try.func17, Try.ntmps17
        go_wp2_with (first
          | (go_at_call 32; refine (made_yes X g first res l _ _ HS1.out).mono ?_; rintro e w1 ⟨rfl, hB⟩; have HS2 := Aside0.mk (HS1.out.below hB); have HM2 := Aside0.mk (HM1.out.trans (Mv.of_below hB (by have := HS1.out.ltX; omega))); have hq := (hB.block w.heap.size (blk_lt HB1.out)).trans HB1.out; have hq0 := (blk_cell hq 0).trans rfl; have hq1 := (blk_cell hq 1).trans rfl; have HBx := Aside0.mk hq; clear hB hq)
          | (go_at_call 36; refine (within_in X g first res a0 a1 p 0 l _ _ HS2.out hf hl HP.out hp0 h2 (by omega) (by omega)).mono ?_; rintro e w2 ⟨rfl, hB⟩; rw [HBq.out]; clear hq0 hq1; have HS3 := Aside0.mk (HS2.out.below hB); have HM3 := Aside0.mk (HM2.out.trans (Mv.of_below hB (by have := HS2.out.ltX; omega))); have hq := (hB.block w.heap.size (blk_lt HBx.out)).trans HBx.out; have hq1 := (blk_cell hq 1).trans rfl; have HBy := Aside0.mk hq; clear hB hq))
        go_region_held3 (fun w' => w'.cell? ⟨w.heap.size, 1, none⟩ = some (.int .i64 a1) ∧ SpAt w' X g first l (cnt l) res ∧ Mv n0 X g w w') (first | exact ⟨hq1, HS3.out.below (below_drew (Below.refl _ _)), HM3.out.drew⟩ | exact ⟨cell_later hBn hq1, HS3.out.below (below_step (below_drew (Below.refl _ _)) hBn), HM3.out.drew.trans (Mv.of_below hBn (by have := HS3.out.ltX; show n0 ≤ w2.heap.size; omega))⟩) (first
          | (go_at_call 21; refine (left_any X g first res l _ _ (HS3.out.below (below_drew (Below.refl w2.heap.size w2))) hl9 ⟨hr0, hr9⟩).mono ?_; rintro e w' ⟨rfl, hBn⟩; rw [HL.out]))
        rename_i hSx
        have HS4 := Aside0.mk hSx.2.1
        have HM4 := Aside0.mk hSx.2.2
        clear hSx hq1 hBn
        go_wp2
        go_ret
        exact ⟨rfl, HS4.out, HM4.out⟩
      · have d1 : decide (L < a1) = false := decide_eq_false hc
        rw [if_pos rfl, if_neg hc]
        go_enter Try.func17, Try.ntmps17
        go_wp2_with (first
          | (go_at_call 32; refine (made_yes X g first res l _ _ HS1.out).mono ?_; rintro e w1 ⟨rfl, hB⟩; have HS2 := Aside0.mk (HS1.out.below hB); have HM2 := Aside0.mk (HM1.out.trans (Mv.of_below hB (by have := HS1.out.ltX; omega))); have hq := (hB.block w.heap.size (blk_lt HB1.out)).trans HB1.out; have hq0 := (blk_cell hq 0).trans rfl; have hq1 := (blk_cell hq 1).trans rfl; have HBx := Aside0.mk hq; clear hB hq)
          | (go_at_call 36; refine (within_in X g first res a0 a1 p 0 l _ _ HS2.out hf hl HP.out hp0 h2 (by omega) (by omega)).mono ?_; rintro e w2 ⟨rfl, hB⟩; rw [HBq.out]; clear hq0 hq1; have HS3 := Aside0.mk (HS2.out.below hB); have HM3 := Aside0.mk (HM2.out.trans (Mv.of_below hB (by have := HS2.out.ltX; omega))); have hq := (hB.block w.heap.size (blk_lt HBx.out)).trans HBx.out; have hq1 := (blk_cell hq 1).trans rfl; have HBy := Aside0.mk hq; clear hB hq))
        go_region_held3 (fun w' => w'.cell? ⟨w.heap.size, 1, none⟩ = some (.int .i64 a1) ∧ SpAt w' X g first l (cnt l) res ∧ Mv n0 X g w w') (first | exact ⟨hq1, HS3.out.below (below_drew (Below.refl _ _)), HM3.out.drew⟩ | exact ⟨cell_later hBn hq1, HS3.out.below (below_step (below_drew (Below.refl _ _)) hBn), HM3.out.drew.trans (Mv.of_below hBn (by have := HS3.out.ltX; show n0 ≤ w2.heap.size; omega))⟩) (first
          | (go_at_call 21; refine (left_any X g first res l _ _ (HS3.out.below (below_drew (Below.refl w2.heap.size w2))) hl9 ⟨hr0, hr9⟩).mono ?_; rintro e w' ⟨rfl, hBn⟩; rw [HL.out]))
        rename_i hSx
        have HS4 := Aside0.mk hSx.2.1
        have HM4 := Aside0.mk hSx.2.2
        have hq1' := hSx.1
        clear hSx hq1 hBn
        have hq1 := hq1'
        clear hq1'
        go_wp2_with (first
          | (go_at_call 34; refine (set_any n0 X g first res l p a1 1 _ HS4.out hp0 (by omega) (by omega) hl HS.out.tri (by omega) hX hg).mono ?_; intro e w5 hP; obtain ⟨⟨v, rfl⟩, hS5, hM5⟩ := hP.out; have HS5 := Aside0.mk hS5; have HM5 := Aside0.mk (HM4.out.trans hM5); clear hP hS5 hM5))
        go_ret
        exact ⟨rfl, HS5.out, HM5.out⟩

/-- Reserving: the answer, and how many are reserved. -/
def resL (l : List Int) (n res : Int) : Int × Int := if n < 0 then (1, res) else if cnt l 0 - res < n then (2, res) else (0, res + n)
/-- Releasing. -/
def relL (n res : Int) : Int × Int := if n < 0 ∨ res < n then (1, res) else (0, res - n)
theorem Mv.setX' {n0 X g : Nat} {w w1 : World} (h : Mv n0 X g w w1) (hn : n0 ≤ X) (i : Nat) (v : Value) : Mv n0 X g w (w1.setCell ⟨X, i, none⟩ v) := h.setX hn i v

set_option maxRecDepth 100000 in
set_option maxHeartbeats 2000000 in
theorem reserve_any (n0 X g : Nat) (first res n : Int) (l : List Int) (w : World) (hS : SpAt w X g first l (cnt l) res) (hs : Sane first l res) (hX : n0 ≤ X) :
    Calls Try.prog 15 #[.pointer (some ⟨X, 0, none⟩), .int .i64 n] w fun e w' => StP n0 X g first l (resL l n res).2 (.int .i64 (resL l n res).1) w e w' := by
  have hu54 := Try.underlying54
  have hlt := hS.ltX
  have HS1 := Aside0.mk hS
  have HS := Aside0.mk hs
  obtain ⟨L, hL⟩ : ∃ L, cnt l 0 - res = L := ⟨_, rfl⟩
  have HL := Aside0.mk hL
  have hl9 := hs.c4 0
  have hr9 := hs.r4
  have hr0 := hs.r0
  have hrl : resL l n res = if n < 0 then (1, res) else if L < n then (2, res) else (0, res + n) := by unfold resL; rw [hL]
  clear hS hs
  by_cases h1 : n < 0
  · have d1 : decide (n < 0) = true := decide_eq_true h1
    rw [hrl, if_pos h1]
    clear hL hrl
    go_enter Try.func15, Try.ntmps15
    go_wp2_with (first
      | (go_at_call 32; refine (made_yes X g first res l _ _ HS1.out).mono ?_; rintro e w1 ⟨rfl, hB⟩; have HS2 := Aside0.mk (HS1.out.below hB); have HM2 := Aside0.mk (show Mv n0 X g w w1 from Mv.of_below hB (by omega)); clear hB))
    go_ret
    exact ⟨rfl, HS2.out, HM2.out⟩
  have d1 : decide (n < 0) = false := decide_eq_false h1
  by_cases h2 : L < n
  · have d2 : decide (L < n) = true := decide_eq_true h2
    rw [hrl, if_neg h1, if_pos h2]
    clear hL hrl
    go_enter Try.func15, Try.ntmps15
    go_wp2_with (first
      | (go_at_call 32; refine (made_yes X g first res l _ _ HS1.out).mono ?_; rintro e w1 ⟨rfl, hB⟩; have HS2 := Aside0.mk (HS1.out.below hB); have HM2 := Aside0.mk (show Mv n0 X g w w1 from Mv.of_below hB (by omega)); clear hB)
      | (go_at_call 21; refine (left_any X g first res l _ _ HS2.out hl9 ⟨hr0, hr9⟩).mono ?_; rintro e w2 ⟨rfl, hB⟩; rw [HL.out]; have HS3 := Aside0.mk (HS2.out.below hB); have HM3 := Aside0.mk (HM2.out.trans (Mv.of_below hB (by have := HS2.out.ltX; omega))); clear hB))
    go_ret
    exact ⟨rfl, HS3.out, HM3.out⟩
  · have d2 : decide (L < n) = false := decide_eq_false h2
    rw [hrl, if_neg h1, if_neg h2]
    have w9 : wrap64 (res + n) = res + n := by unfold wrap64; omega
    clear hL hrl
    go_enter Try.func15, Try.ntmps15
    go_wp2_with (first
      | (go_at_call 32; refine (made_yes X g first res l _ _ HS1.out).mono ?_; rintro e w1 ⟨rfl, hB⟩; have HS2 := Aside0.mk (HS1.out.below hB); have HM2 := Aside0.mk (show Mv n0 X g w w1 from Mv.of_below hB (by omega)); clear hB)
      | (go_at_call 21; refine (left_any X g first res l _ _ HS2.out hl9 ⟨hr0, hr9⟩).mono ?_; rintro e w2 ⟨rfl, hB⟩; rw [HL.out]; have hS3 := HS2.out.below hB; have hx5 := hS3.x5; have hf5 := hS3.fX 5; have HS3 := Aside0.mk hS3; have HM3 := Aside0.mk (HM2.out.trans (Mv.of_below hB (by have := HS2.out.ltX; omega))); clear hB hS3))
    go_ret
    exact ⟨rfl, HS3.out.setr _, HM3.out.setX hX _ _⟩

set_option maxRecDepth 100000 in
set_option maxHeartbeats 2000000 in
theorem release_any (n0 X g : Nat) (first res n : Int) (l : List Int) (w : World) (hS : SpAt w X g first l (cnt l) res) (hs : Sane first l res) (hX : n0 ≤ X) :
    Calls Try.prog 16 #[.pointer (some ⟨X, 0, none⟩), .int .i64 n] w fun e w' => StP n0 X g first l (relL n res).2 (.int .i64 (relL n res).1) w e w' := by
  have hu54 := Try.underlying54
  have hlt := hS.ltX
  have HS1 := Aside0.mk hS
  have hr9 := hs.r4
  have hr0 := hs.r0
  clear hS hs
  by_cases h1 : n < 0
  · have d1 : decide (n < 0) = true := decide_eq_true h1
    rw [show relL n res = (1, res) from if_pos (.inl h1)]
    go_enter Try.func16, Try.ntmps16
    go_wp2_with (first
      | (go_at_call 32; refine (made_yes X g first res l _ _ HS1.out).mono ?_; rintro e w1 ⟨rfl, hB⟩; have HS2 := Aside0.mk (HS1.out.below hB); have HM2 := Aside0.mk (show Mv n0 X g w w1 from Mv.of_below hB (by omega)); clear hB))
    go_ret
    exact ⟨rfl, HS2.out, HM2.out⟩
  have d1 : decide (n < 0) = false := decide_eq_false h1
  by_cases h2 : res < n
  · have d2 : decide (res < n) = true := decide_eq_true h2
    rw [show relL n res = (1, res) from if_pos (.inr h2)]
    go_enter Try.func16, Try.ntmps16
    go_wp2_with (first
      | (go_at_call 32; refine (made_yes X g first res l _ _ HS1.out).mono ?_; rintro e w1 ⟨rfl, hB⟩; have hS2 := HS1.out.below hB; have hx5 := hS2.x5; have HS2 := Aside0.mk hS2; have HM2 := Aside0.mk (show Mv n0 X g w w1 from Mv.of_below hB (by omega)); clear hB hS2))
    go_ret
    exact ⟨rfl, HS2.out, HM2.out⟩
  · have d2 : decide (res < n) = false := decide_eq_false h2
    rw [show relL n res = (0, res - n) from if_neg (by omega)]
    have w9 : wrap64 (res - n) = res - n := by unfold wrap64; omega
    go_enter Try.func16, Try.ntmps16
    go_wp2_with (first
      | (go_at_call 32; refine (made_yes X g first res l _ _ HS1.out).mono ?_; rintro e w1 ⟨rfl, hB⟩; have hS2 := HS1.out.below hB; have hx5 := hS2.x5; have hf5 := hS2.fX 5; have HS2 := Aside0.mk hS2; have HM2 := Aside0.mk (show Mv n0 X g w w1 from Mv.of_below hB (by omega)); clear hB hS2))
    go_ret
    exact ⟨rfl, HS2.out.setr _, HM2.out.setX hX _ _⟩

set_option maxHeartbeats 1000000 in
theorem used_any (X g : Nat) (first res : Int) (l : List Int) (c : Int → Int) (w : World) (hS : SpAt w X g first l c res) :
    Calls Try.prog 19 #[.pointer (some ⟨X, 0, none⟩)] w fun e w' => e = .returned (.int .i64 (c 1)) ∧ Below w.heap.size w w' := by
  have hu54 := Try.underlying54
  have hu52 := Try.underlying52
  have HS := Aside0.mk hS
  clear hS
  go_enter Try.func19, Try.ntmps19
  go_wp2_with (go_at_call 32; refine (made_yes X g first res l c _ HS.out).mono ?_; rintro e w1 ⟨rfl, hB⟩; have h1 := HS.out.below hB; have hx3 := h1.x3; have HB := Aside0.mk hB; clear hB h1)
  go_ret
  exact ⟨rfl, HB.out⟩
set_option maxHeartbeats 1000000 in
theorem waiting_any (X g : Nat) (first res : Int) (l : List Int) (c : Int → Int) (w : World) (hS : SpAt w X g first l c res) :
    Calls Try.prog 20 #[.pointer (some ⟨X, 0, none⟩)] w fun e w' => e = .returned (.int .i64 (c 2)) ∧ Below w.heap.size w w' := by
  have hu54 := Try.underlying54
  have hu52 := Try.underlying52
  have HS := Aside0.mk hS
  clear hS
  go_enter Try.func20, Try.ntmps20
  go_wp2_with (go_at_call 32; refine (made_yes X g first res l c _ HS.out).mono ?_; rintro e w1 ⟨rfl, hB⟩; have h1 := HS.out.below hB; have hx4 := h1.x4; have HB := Aside0.mk hB; clear hB h1)
  go_ret
  exact ⟨rfl, HB.out⟩
end Go.Proofs.Ytpcgmlnipeigjaa.H
