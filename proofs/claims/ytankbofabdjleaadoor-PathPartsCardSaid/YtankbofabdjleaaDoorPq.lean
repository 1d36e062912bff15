/- Paths, plain: what is cleaned, joined and split again. -/
import Derived.Test.YtankbofabdjleaaDoorPn
namespace Go.Proofs.YtankbofabdjleaaDoor.H
open Go.RowKit
set_option linter.unusedVariables false
set_option linter.unusedSimpArgs false

theorem pcsF_mem (l : Bs) : ∀ (cur : Bs), (∀ x ∈ cur, x ≠ (47 : UInt8)) → ∀ p ∈ pcsF cur l, p ≠ [] ∧ (∀ x ∈ p, x ≠ (47 : UInt8) ∧ (x ∈ cur ∨ x ∈ l)) := by
  induction l with
  | nil =>
    intro cur hc p hp
    simp only [pcsF] at hp
    split at hp
    · simp at hp
    · next h =>
      rw [List.mem_singleton.1 hp]
      exact ⟨h, fun x hx => ⟨hc x hx, .inl hx⟩⟩
  | cons c r ih =>
    intro cur hc p hp
    simp only [pcsF] at hp
    split at hp
    · next h =>
      have hr := ih [] (fun x hx => by simp at hx)
      split at hp
      · obtain ⟨h1, h2⟩ := hr p hp
        exact ⟨h1, fun x hx => ⟨(h2 x hx).1, by rcases (h2 x hx).2 with h | h; (· simp at h); exact .inr (by simp [h])⟩⟩
      · next hne =>
        rcases List.mem_cons.1 hp with rfl | hp
        · exact ⟨hne, fun x hx => ⟨hc x hx, .inl hx⟩⟩
        · obtain ⟨h1, h2⟩ := hr p hp
          exact ⟨h1, fun x hx => ⟨(h2 x hx).1, by rcases (h2 x hx).2 with h | h; (· simp at h); exact .inr (by simp [h])⟩⟩
    · next h =>
      obtain ⟨h1, h2⟩ := ih (cur ++ [c]) (fun x hx => by
        rcases List.mem_append.1 hx with hx | hx
        · exact hc x hx
        · rw [List.mem_singleton.1 hx]; exact h) p hp
      refine ⟨h1, fun x hx => ⟨(h2 x hx).1, ?_⟩⟩
      rcases (h2 x hx).2 with h3 | h3
      · rcases List.mem_append.1 h3 with h3 | h3
        · exact .inl h3
        · exact .inr (by simp [List.mem_singleton.1 h3])
      · exact .inr (by simp [h3])
theorem pcs_mem {l p : Bs} (h : p ∈ pcs l) : p ≠ [] ∧ ∀ x ∈ p, x ≠ (47 : UInt8) ∧ x ∈ l := by
  obtain ⟨h1, h2⟩ := pcsF_mem l [] (fun x hx => by simp at hx) p h
  exact ⟨h1, fun x hx => ⟨(h2 x hx).1, by rcases (h2 x hx).2 with h | h; (· simp at h); exact h⟩⟩
theorem pcsF_app (x : Bs) (hx : ∀ c ∈ x, c ≠ (47 : UInt8)) : ∀ (cur r : Bs), pcsF cur (x ++ r) = pcsF (cur ++ x) r := by
  induction x with
  | nil => intro cur r; simp
  | cons c t ih =>
    intro cur r
    have hc : c ≠ 47 := hx c (by simp)
    rw [List.cons_append, pcsF, if_neg hc, ih (fun y hy => hx y (by simp [hy]))]
    simp
theorem pcsF_join (xs : List Bs) (h : ∀ x ∈ xs, x ≠ [] ∧ ∀ c ∈ x, c ≠ (47 : UInt8)) : ∀ cur : Bs, pcsF cur (joinF xs) = (if cur = [] then [] else [cur]) ++ xs := by
  induction xs with
  | nil => intro cur; simp [joinF, pcsF]
  | cons x r ih =>
    intro cur
    have hr := ih (fun y hy => h y (by simp [hy]))
    obtain ⟨h1, h2⟩ := h x (by simp)
    have e : joinF (x :: r) = 47 :: (x ++ joinF r) := by unfold joinF; rw [List.flatMap_cons]; rfl
    rw [e, pcsF, if_pos rfl]
    have e2 : pcsF [] (x ++ joinF r) = x :: r := by
      rw [pcsF_app x h2, hr, List.nil_append, if_neg h1]
      rfl
    rw [e2]
    by_cases hc : cur = []
    · simp [hc]
    · simp [hc]
theorem pcs_join {xs : List Bs} (h : ∀ x ∈ xs, x ≠ [] ∧ ∀ c ∈ x, c ≠ (47 : UInt8)) : pcs (joinL xs) = xs := by
  unfold joinL pcs
  split
  · next h0 => subst h0; rfl
  · rw [pcsF_join xs h]; simp
theorem joinF_pcsF (l : Bs) : ∀ cur : Bs, (joinF (pcsF cur l)).length ≤ l.length + cur.length + 1 := by
  induction l with
  | nil =>
    intro cur
    simp only [pcsF]
    split
    · simp [joinF]
    · simp [joinF]
  | cons c r ih =>
    intro cur
    simp only [pcsF]
    split
    · have h1 := ih []
      split
      · simp only [List.length_nil, List.length_cons] at h1 ⊢; omega
      · unfold joinF at h1 ⊢
        rw [List.flatMap_cons]
        simp only [List.length_append, List.length_cons, List.length_nil] at h1 ⊢
        omega
    · have h1 := ih (cur ++ [c])
      simp only [List.length_append, List.length_cons, List.length_nil] at h1 ⊢
      omega
theorem joinF_pcs {l : Bs} (h : l.head? = some 47) : (joinF (pcs l)).length ≤ l.length := by
  cases l with
  | nil => simp at h
  | cons c r =>
    have hc : c = 47 := by simpa using h
    subst hc
    have := joinF_pcsF r []
    unfold pcs
    rw [pcsF, if_pos rfl, if_pos rfl]
    simpa using this
theorem joinF_sub {xs ys : List Bs} (h : xs.Sublist ys) : (joinF xs).length ≤ (joinF ys).length := by
  induction h with
  | slnil => exact Nat.le_refl _
  | cons a _ ih => unfold joinF at ih ⊢; rw [List.flatMap_cons]; simp only [List.length_append]; omega
  | cons_cons a _ ih => unfold joinF at ih ⊢; rw [List.flatMap_cons, List.flatMap_cons]; simp only [List.length_append]; omega
/-- No dots. -/
def noDots (xs : List Bs) : Prop := ∀ x ∈ xs, x ≠ [46] ∧ x ≠ [46, 46]
theorem cleanF_facts (xs : List Bs) : (cleanF xs).Sublist xs ∧ noDots (cleanF xs) := by
  suffices h : ∀ (ys out done : List Bs), out.Sublist done → noDots out → (ys.foldl cleanStep out).Sublist (done ++ ys) ∧ noDots (ys.foldl cleanStep out) by
    have := h xs [] [] (List.Sublist.refl _) (fun x hx => by simp at hx)
    simpa [cleanF] using this
  intro ys
  induction ys with
  | nil => intro out done h1 h2; simpa using ⟨h1, h2⟩
  | cons y r ih =>
    intro out done h1 h2
    have hs : (cleanStep out y).Sublist (done ++ [y]) ∧ noDots (cleanStep out y) := by
      unfold cleanStep
      split
      · exact ⟨h1.trans (List.sublist_append_left _ _), h2⟩
      · split
        · exact ⟨(List.take_sublist _ _).trans (h1.trans (List.sublist_append_left _ _)), fun x hx => h2 x (List.mem_of_mem_take hx)⟩
        · next ha hb =>
          refine ⟨h1.append (List.Sublist.refl _), fun x hx => ?_⟩
          rcases List.mem_append.1 hx with hx | hx
          · exact h2 x hx
          · rw [List.mem_singleton.1 hx]; exact ⟨ha, hb⟩
    have := ih (cleanStep out y) (done ++ [y]) hs.1 hs.2
    simpa using this
theorem cleanF_same {xs : List Bs} (h : noDots xs) : cleanF xs = xs := by
  suffices hh : ∀ (ys out : List Bs), noDots ys → ys.foldl cleanStep out = out ++ ys by
    have := hh xs [] h
    simpa [cleanF] using this
  intro ys
  induction ys with
  | nil => intro out _; simp
  | cons y r ih =>
    intro out hn
    have hy := hn y (by simp)
    rw [List.foldl_cons, ih _ (fun x hx => hn x (by simp [hx]))]
    unfold cleanStep
    rw [if_neg hy.1, if_neg hy.2]
    simp
/-- Cleaned again it is the same; its parts have no dots. -/
theorem clean_again {l : Bs} (h : splitE l = 0) : splitE (cleanL l) = 0 ∧ cleanL (cleanL l) = cleanL l ∧ splitL (cleanL l) = cleanF (pcs l) ∧ noDots (cleanF (pcs l)) ∧ (cleanL l).length ≤ 512 := by
  obtain ⟨h1, h2, h3, h4, h5⟩ := splitE_zero h
  obtain ⟨hsub, hnd⟩ := cleanF_facts (pcs l)
  obtain ⟨xs, hxs⟩ : ∃ xs, cleanF (pcs l) = xs := ⟨_, rfl⟩
  have hc : cleanL l = joinL xs := by unfold cleanL; rw [if_pos h, hxs]
  rw [hxs] at hsub hnd
  have hm : ∀ x ∈ xs, x ≠ [] ∧ ∀ c ∈ x, c ≠ (47 : UInt8) ∧ c ∈ l := fun x hx => pcs_mem (hsub.subset hx)
  have hp : pcs (joinL xs) = xs := pcs_join (fun x hx => ⟨(hm x hx).1, fun c hcc => ((hm x hx).2 c hcc).1⟩)
  have hlen : (joinL xs).length ≤ 512 := by
    unfold joinL
    split
    · simp
    · have a1 := joinF_sub hsub
      have a2 := joinF_pcs h3
      omega
  have hne : joinL xs ≠ [] := by
    unfold joinL
    split
    · simp
    · next h0 =>
      cases xs with
      | nil => exact absurd rfl h0
      | cons x r => unfold joinF; rw [List.flatMap_cons]; simp
  have hhd : (joinL xs).head? = some 47 := by
    unfold joinL
    split
    · rfl
    · next h0 =>
      cases xs with
      | nil => exact absurd rfl h0
      | cons x r => unfold joinF; rw [List.flatMap_cons]; rfl
  have hz : (0 : UInt8) ∉ joinL xs := by
    unfold joinL
    split
    · simp
    · unfold joinF
      intro h0
      obtain ⟨x, hx, hx0⟩ := List.mem_flatMap.1 h0
      rcases List.mem_cons.1 hx0 with h6 | h6
      · cases h6
      · exact h4 (((hm x hx).2 0 h6).2)
  have hE : splitE (joinL xs) = 0 := splitE_5 hne hlen hhd hz (by rw [hp]; exact fun x hx => h5 x (hsub.subset hx))
  rw [hc, hxs]
  refine ⟨hE, ?_, ?_, hnd, hlen⟩
  · unfold cleanL
    rw [if_pos hE, hp, cleanF_same hnd]
  · unfold splitL
    rw [if_pos hE, hp]
end Go.Proofs.YtankbofabdjleaaDoor.H
