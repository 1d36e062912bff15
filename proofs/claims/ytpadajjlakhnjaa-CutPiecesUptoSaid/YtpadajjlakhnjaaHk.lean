/- What the lengths of all pieces are like: plain facts. -/
import Derived.Test.YtpadajjlakhnjaaRl
namespace Go.Proofs.Ytpadajjlakhnjaa.H
open Go.RowKit Go.Shelf Go.Proofs.YtpadajjlakhnjaaW.PrintWords Go.Proofs.YtpadajjlakhnjaaW.PrintLast Go.Proofs.YtpadajjlakhnjaaW.PrintMore
set_option linter.unusedVariables false
set_option linter.unusedSimpArgs false

theorem cst_sum (F : List Int → Int) (l : List Int) (k : Nat) : ((cst F l k).1.map Prod.snd).sum = (cst F l k).2 := by
  induction k with
  | zero => simp [cst]
  | succ k ih => simp [cst, cstep, ih]
theorem rd_nat (M : List Int) (k : Nat) : rd M (k : Int) = M.getD k 0 := rfl
theorem spart_last {E : Int} {F : List Int → Int} {l M : List Int} {pre : List (Int × Int)} {x : Int × Int} (hF : E = 0 → Fst F l) (hM : E = 0 → M = lens F l.length l) (h : Spart E F l (pre ++ [x])) :
    pre.length < M.length ∧ x.1 = (pre.map Prod.snd).sum ∧ x.2 = rd M pre.length := by
  obtain ⟨h0, k, hk, hp, hj⟩ := h
  have hl := cst_length F l k
  rw [hp] at hl
  simp at hl
  subst hl
  have hc := cst_lens (hF h0) (pre.length + 1) hj
  rw [hp, ← hM h0] at hc
  simp only [cst, cstep] at hp
  obtain ⟨h1, h2⟩ := List.append_inj' hp rfl
  have h3 : ((cst F l pre.length).2, F (List.drop (cst F l pre.length).2.toNat l)) = x := List.singleton_inj.1 h2
  have hs := cst_sum F l pre.length
  rw [h1] at hs
  refine ⟨by rw [hc]; simp, by rw [hs, ← h3], ?_⟩
  rw [rd_nat, hc]
  simp
theorem spart_next {E : Int} {F : List Int → Int} {l M : List Int} {pre : List (Int × Int)} (hF : E = 0 → Fst F l) (hM : E = 0 → M = lens F l.length l) (hM0 : E ≠ 0 → M = []) (hg : pre = [] ∨ Spart E F l pre) (hk : pre.length < M.length) :
    Spart E F l (pre ++ [((pre.map Prod.snd).sum, rd M pre.length)]) := by
  have h0 : E = 0 := by
    apply Classical.byContradiction
    intro h
    rw [hM0 h] at hk
    simp at hk
  have hg' : ∃ k, k ≤ l.length ∧ (cst F l k).1 = pre ∧ (∀ j, j < k → (cst F l j).2 < l.length) := by
    rcases hg with rfl | h
    · exact ⟨0, Nat.zero_le _, rfl, fun j hj => absurd hj (Nat.not_lt_zero _)⟩
    · exact h.2
  obtain ⟨k, hkl, hp, hj⟩ := hg'
  have hl := cst_length F l k
  rw [hp] at hl
  subst hl
  have hc := cst_lens (hF h0) pre.length hj
  rw [hp, ← hM h0] at hc
  have hs := cst_sum F l pre.length
  rw [hp] at hs
  have hat := cst_at (hF h0) pre.length hj
  have hlt : (cst F l pre.length).2 < l.length := by
    apply Classical.byContradiction
    intro h
    rw [List.drop_eq_nil_of_le (by omega), lens_nil] at hc
    rw [hc] at hk
    simp at hk
  have hne : ¬ l.drop (cst F l pre.length).2.toNat = [] := by
    intro h
    have := congrArg List.length h
    simp at this
    omega
  have hm : rd M pre.length = F (l.drop (cst F l pre.length).2.toNat) := by
    rw [rd_nat, hc]
    have hpos : 0 < l.length - pre.length := by omega
    obtain ⟨n, hn⟩ : ∃ n, l.length - pre.length = n + 1 := ⟨l.length - pre.length - 1, by omega⟩
    rw [hn]
    simp [lens, hne]
  refine ⟨h0, pre.length + 1, by omega, ?_, ?_⟩
  · simp only [cst, cstep]
    rw [hp, hs, hm]
  · intro j hjk
    rcases Nat.lt_succ_iff_lt_or_eq.1 hjk with h | rfl
    · exact hj j h
    · exact hlt

theorem spart_sum {E : Int} {F : List Int → Int} {l : List Int} {pre : List (Int × Int)} (hF : E = 0 → Fst F l) (h : Spart E F l pre) : 0 ≤ (pre.map Prod.snd).sum ∧ (pre.map Prod.snd).sum ≤ l.length ∧ pre.length ≤ l.length := by
  obtain ⟨h0, k, hk, hp, hj⟩ := h
  have hl := cst_length F l k
  have hs := cst_sum F l k
  have ha := cst_at (hF h0) k hj
  rw [hp] at hl hs
  omega
theorem snone_length {E : Int} {F : List Int → Int} {l M : List Int} {ys : List (Int × Int)} (hF : E = 0 → Fst F l) (hM : E = 0 → M = lens F l.length l) (hM0 : E ≠ 0 → M = []) (h : Snone E F l ys) : ys.length = M.length := by
  unfold Snone at h
  by_cases h0 : E = 0
  · rw [if_pos h0] at h
    obtain ⟨k, hk, hj⟩ := h
    have := cst_all (hF h0) hk hj
    rw [hM h0, ← this]
    simp
  · rw [if_neg h0] at h
    rw [h, hM0 h0]
    rfl
/-- What a round of the range over the pieces may find. -/
theorem round_cases {E : Int} {F : List Int → Int} {l M : List Int} {pre : List (Int × Int)} {x : Int × Int} {most s k : Int} (hF : E = 0 → Fst F l) (hM : E = 0 → M = lens F l.length l) (hM0 : E ≠ 0 → M = []) (hg : pre = [] ∨ Spart E F l pre)
    (hl : l.length ≤ 17592186044415) (hs : (pre.map Prod.snd).sum = s) (hk : (pre.length : Int) = k) :
    (decide (most ≤ k) = true ∧ most ≤ k) ∨ (decide (most ≤ k) = false ∧
      ((decide ((M.length : Int) ≤ k) = true ∧ ¬ Spart E F l (pre ++ [x])) ∨ (decide ((M.length : Int) ≤ k) = false ∧ 0 ≤ k ∧ k < M.length ∧
        (((x.1 != s) = true ∧ ¬ Spart E F l (pre ++ [x])) ∨ ((x.1 != s) = false ∧
          (((x.2 != rd M k) = true ∧ ¬ Spart E F l (pre ++ [x])) ∨ ((x.2 != rd M k) = false ∧ Spart E F l (pre ++ [x]) ∧
            ∃ s', wrap64 (s + x.2) = s' ∧ wrap64 (k + 1) = k + 1 ∧ ((pre ++ [x]).map Prod.snd).sum = s' ∧ ((pre ++ [x]).length : Int) = k + 1))))))) := by
  subst hs
  subst hk
  by_cases h1 : most ≤ (pre.length : Int)
  · exact .inl ⟨decide_eq_true h1, h1⟩
  refine .inr ⟨decide_eq_false h1, ?_⟩
  by_cases h2 : (M.length : Int) ≤ pre.length
  · exact .inl ⟨decide_eq_true h2, fun h => by have := (spart_last hF hM h).1; omega⟩
  refine .inr ⟨decide_eq_false h2, by omega, by omega, ?_⟩
  by_cases h3 : x.1 = (pre.map Prod.snd).sum
  case neg => exact .inl ⟨by simpa using h3, fun h => h3 (spart_last hF hM h).2.1⟩
  refine .inr ⟨by simp [h3], ?_⟩
  by_cases h4 : x.2 = rd M pre.length
  case neg => exact .inl ⟨by simpa using h4, fun h => h4 (spart_last hF hM h).2.2⟩
  have h5 := spart_next hF hM hM0 hg (by omega)
  rw [← h3, ← h4] at h5
  have h6 := spart_sum hF h5
  refine .inr ⟨by simp [h4], h5, _, ?_, ?_, rfl, by simp⟩
  · simp only [List.map_append, List.sum_append, List.map_cons, List.map_nil, List.sum_cons, List.sum_nil, Int.add_zero] at h6 ⊢
    unfold wrap64
    omega
  · have := h6.2.2
    simp at this
    unfold wrap64
    omega
theorem lens_spec {a0 a2 : Int} {F : List Int → Int} (hF : ∀ m, 0 < m.length → 1 ≤ F m ∧ F m ≤ m.length ∧ F m ≤ a2 ∧ (F m < m.length → a0 ≤ F m)) (n : Nat) : ∀ (l : List Int), l.length ≤ n →
    (∀ x ∈ lens F n l, 1 ≤ x ∧ x ≤ a2) ∧ (lens F n l).sum = l.length ∧ (∀ k, k + 1 < (lens F n l).length → a0 ≤ (lens F n l).getD k 0) := by
  induction n with
  | zero =>
    intro l h
    obtain rfl : l = [] := by cases l; rfl; simp at h
    simp [lens]
  | succ n ih =>
    intro l h
    by_cases h0 : l = []
    · subst h0; simp [lens]
    · have hp : 0 < l.length := List.length_pos_iff.2 h0
      obtain ⟨f1, f2, f3, f4⟩ := hF l hp
      obtain ⟨i1, i2, i3⟩ := ih (l.drop (F l).toNat) (by simp; omega)
      have e : lens F (n + 1) l = F l :: lens F n (l.drop (F l).toNat) := by simp only [lens]; rw [if_neg h0]
      rw [e]
      refine ⟨?_, ?_, ?_⟩
      · intro x hx
        rcases List.mem_cons.1 hx with rfl | hx
        · exact ⟨f1, f3⟩
        · exact i1 x hx
      · rw [List.sum_cons, i2]
        simp
        omega
      · intro k hk
        cases k with
        | zero =>
          simp at hk ⊢
          apply f4
          apply Classical.byContradiction
          intro hge
          have : l.drop (F l).toNat = [] := List.drop_eq_nil_of_le (by omega)
          rw [this, lens_nil] at hk
          simp at hk
        | succ k =>
          have := i3 k (by simpa using hk)
          simpa using this
theorem sum_take (M : List Int) (k : Nat) (hk : k < M.length) : (M.take (k + 1)).sum = (M.take k).sum + rd M k := by
  rw [List.take_succ_eq_append_getElem hk, List.sum_append, rd_nat]
  simp [List.getD_eq_getElem?_getD, List.getElem?_eq_getElem hk]
theorem sum_nonneg (M : List Int) (h : ∀ x ∈ M, 1 ≤ x) : (M.length : Int) ≤ M.sum := by
  induction M with
  | nil => simp
  | cons x M ih =>
    have := h x (by simp)
    have := ih (fun y hy => h y (by simp [hy]))
    rw [List.sum_cons, List.length_cons]
    omega
theorem sum_take_le (M : List Int) (h : ∀ x ∈ M, 1 ≤ x) (k : Nat) : 0 ≤ (M.take k).sum ∧ (M.take k).sum ≤ M.sum := by
  have h1 := sum_nonneg (M.take k) (fun x hx => h x (List.mem_of_mem_take hx))
  have h2 := sum_nonneg (M.drop k) (fun x hx => h x (List.mem_of_mem_drop hx))
  have h3 : M.sum = (M.take k).sum + (M.drop k).sum := by rw [← List.sum_append, List.take_append_drop]
  omega
theorem rd_mem (M : List Int) (k : Nat) (hk : k < M.length) : rd M k ∈ M := by
  rw [rd_nat, List.getD_eq_getElem?_getD, List.getElem?_eq_getElem hk]
  simp
/-- All about lensV. -/
theorem lensV_spec (a0 a1 a2 a3 : Int) (l : List Int) : (∀ x ∈ lensV a0 a1 a2 a3 l, 1 ≤ x ∧ x ≤ a2) ∧ (check a0 a1 a2 = 0 → (lensV a0 a1 a2 a3 l).sum = l.length) ∧ (∀ k, k + 1 < (lensV a0 a1 a2 a3 l).length → a0 ≤ rd (lensV a0 a1 a2 a3 l) k) ∧
    (lensV a0 a1 a2 a3 l).length ≤ l.length := by
  unfold lensV
  by_cases hc : check a0 a1 a2 = 0
  · rw [if_pos hc]
    have h := lens_spec (a0 := a0) (a2 := a2) (F := firstV a0 a1 a2 a3) (fun m hm => ?_) l.length l (Nat.le_refl _)
    · exact ⟨h.1, fun _ => h.2.1, h.2.2, lens_le _ (fun m hm => (firstV_bound a3 hc m).2.2.2.1 hm) _ _⟩
    · have := firstV_bound a3 hc m
      exact ⟨this.2.2.2.1 hm, this.2.1, this.2.2.1, this.2.2.2.2⟩
  · rw [if_neg hc]
    exact ⟨by simp, fun h => absurd h hc, by simp, by simp⟩
end Go.Proofs.Ytpadajjlakhnjaa.H
