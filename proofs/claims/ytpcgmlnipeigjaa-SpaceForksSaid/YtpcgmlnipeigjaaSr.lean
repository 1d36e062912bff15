/- Package space: what the calls keep; the runs' sum. -/
import Derived.Test.YtpcgmlnipeigjaaSk
namespace Go.Proofs.Ytpcgmlnipeigjaa.H
open Go.RowKit Go.Shelf Go.Proofs.YtpcgmlnipeigjaaW.PrintWords Go.Proofs.YtpcgmlnipeigjaaW.PrintLast Go.Proofs.YtpcgmlnipeigjaaW.PrintMore
set_option linter.unusedVariables false
set_option linter.unusedSimpArgs false

theorem cnt_nil (v : Int) : cnt [] v = 0 := by simp [cnt]
theorem cnt_cons (x : Int) (l : List Int) (v : Int) : cnt (x :: l) v = cnt l v + (if x = v then 1 else 0) := by
  unfold cnt
  rw [List.count_cons]
  by_cases h : x = v
  · simp [h]
  · simp [h]
theorem cnt_rz (l : List Int) : cnt l 0 = (rz l : Int) + cnt (l.drop (rz l + 1)) 0 := by
  induction l with
  | nil => simp [rz, cnt]
  | cons x r ih =>
    rw [cnt_cons]
    by_cases h : x = 0
    · simp only [rz, if_pos h]
      rw [ih, List.drop_succ_cons]
      omega
    · simp only [rz, if_neg h]
      simp
theorem runsF_sum (m : Nat) : ∀ (i : Nat) (r : List Int), r.length ≤ m → ((runsF m i r).map Prod.snd).sum = cnt r 0 := by
  induction m with
  | zero =>
    intro i r h
    obtain rfl : r = [] := List.eq_nil_of_length_eq_zero (by omega)
    simp [runsF, cnt]
  | succ m ih =>
    intro i r h
    by_cases hr : r = []
    · subst hr; rw [runsF_nil]; simp [cnt]
    · have hp := List.length_pos_iff.2 hr
      simp only [runsF]
      rw [if_neg hr, List.map_append, List.sum_append, ih _ _ (by simp; omega), cnt_rz r]
      by_cases hz : 0 < rz r
      · rw [if_pos hz]; simp
      · rw [if_neg hz]; simp; omega
theorem runsL_sum (l : List Int) : ((runsL l).map Prod.snd).sum = cnt l 0 := runsF_sum _ _ _ (Nat.le_refl _)
theorem tri_sum (l : List Int) (h : Tri l) : cnt l 0 + cnt l 1 + cnt l 2 = l.length := by
  induction l with
  | nil => simp [cnt]
  | cons x r ih =>
    have h1 := ih (fun y hy => h y (by simp [hy]))
    have h2 := h x (by simp)
    rw [cnt_cons, cnt_cons, cnt_cons, List.length_cons]
    rcases h2 with rfl | rfl | rfl <;> simp <;> omega
theorem takeL_sane {first res n : Int} {l : List Int} (h : Sane first l res) : Sane first (takeL first l n res).2 res ∧ (takeL first l n res).2.length = l.length := by
  unfold takeL
  split
  · exact ⟨h, rfl⟩
  · split
    · exact ⟨h, rfl⟩
    · rename_i h1 h2
      cases hf : (runsL l).find? (fun x => decide (n ≤ x.2)) with
      | none => exact ⟨h, rfl⟩
      | some x =>
        obtain ⟨a, k, rfl, hk, hak, hz⟩ := runsL_good (List.mem_of_find?_eq_some hf)
        have hn := List.find?_some hf
        simp at hn
        refine ⟨h.upd (by omega) _ _ (fun j h3 h4 => hz j (by simpa using h3) (by simp at h4; omega)) (fun _ _ => by omega), upd_length _ _ _ _⟩
theorem markL_sane {first res a0 a1 : Int} {l : List Int} (h : Sane first l res) : Sane first (markL first l a0 a1 res).2 res ∧ (markL first l a0 a1 res).2.length = l.length := by
  unfold markL
  split
  · rename_i hi
    obtain ⟨h1, h2, h3, h4⟩ := inA_iff.1 hi.1
    split
    · exact ⟨h, rfl⟩
    · exact ⟨h.upd (by omega) _ _ ((allIs_iff (by omega)).1 hi.2) (fun _ _ => by omega), upd_length _ _ _ _⟩
  · exact ⟨h, rfl⟩
theorem settle_cnt0 (l : List Int) : cnt l 0 ≤ cnt (settleL l) 0 := by
  induction l with
  | nil => simp [settleL, cnt]
  | cons x r ih =>
    unfold settleL at ih ⊢
    rw [List.map_cons, cnt_cons, cnt_cons]
    by_cases h : x = 2
    · subst h; simp; omega
    · simp [h]; omega
theorem settle_sane {first res : Int} {l : List Int} (h : Sane first l res) : Sane first (settleL l) res ∧ (settleL l).length = l.length := by
  have hl : (settleL l).length = l.length := by simp [settleL]
  refine ⟨⟨h.f0, by rw [hl]; exact h.fl, by have := settle_tri h.tri l.length; rwa [settle_end] at this, h.r0, ?_⟩, hl⟩
  have := settle_cnt0 l
  have := h.rl
  omega
theorem resL_sane {first res n : Int} {l : List Int} (h : Sane first l res) : Sane first l (resL l n res).2 ∧ (resL l n res).2 = (if (resL l n res).1 = 0 then res + n else res) := by
  have := h.r0
  have := h.rl
  unfold resL
  split
  · exact ⟨h, by simp⟩
  · split
    · exact ⟨h, by simp⟩
    · exact ⟨⟨h.f0, h.fl, h.tri, by show 0 ≤ res + n; omega, by show res + n ≤ cnt l 0; omega⟩, by simp⟩
theorem relL_sane {first res n : Int} {l : List Int} (h : Sane first l res) : Sane first l (relL n res).2 ∧ (relL n res).2 = (if (relL n res).1 = 0 then res - n else res) := by
  have := h.r0
  have := h.rl
  unfold relL
  split
  · exact ⟨h, by simp⟩
  · exact ⟨⟨h.f0, h.fl, h.tri, by show 0 ≤ res - n; omega, by show res - n ≤ cnt l 0; omega⟩, by simp⟩
end Go.Proofs.Ytpcgmlnipeigjaa.H
