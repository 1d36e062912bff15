/- What is written piece by piece: plain facts. -/
import Derived.Test.YtpadajjlakhnjaaRl
namespace Go.Proofs.Ytpadajjlakhnjaa.H
open Go.RowKit Go.Shelf Go.Proofs.YtpadajjlakhnjaaW.PrintWords Go.Proofs.YtpadajjlakhnjaaW.PrintLast Go.Proofs.YtpadajjlakhnjaaW.PrintMore
set_option linter.unusedVariables false
set_option linter.unusedSimpArgs false

/-- The lengths that are sure, and what is left. -/
def wrt (F : List Int → Int) (a2 : Int) : Nat → List Int → List Int × List Int
  | 0, l => ([], l)
  | n + 1, l => if l = [] then ([], []) else if F l = l.length ∧ F l < a2 then ([], l) else (F l :: (wrt F a2 n (l.drop (F l).toNat)).1, (wrt F a2 n (l.drop (F l).toNat)).2)
theorem wrt_nil (F : List Int → Int) (a2 : Int) (n : Nat) : wrt F a2 n [] = ([], []) := by cases n <;> simp [wrt]
theorem wrt_fuel (F : List Int → Int) (a2 : Int) (hF : ∀ m, 0 < m.length → 1 ≤ F m) (n : Nat) : ∀ (l : List Int) (m : Nat), l.length ≤ n → l.length ≤ m → wrt F a2 n l = wrt F a2 m l := by
  induction n with
  | zero =>
    intro l m h1 h2
    obtain rfl : l = [] := by cases l; rfl; simp at h1
    rw [wrt_nil, wrt_nil]
  | succ n ih =>
    intro l m h1 h2
    by_cases h : l = []
    · subst h; rw [wrt_nil, wrt_nil]
    · have hp : 0 < l.length := List.length_pos_iff.2 h
      obtain ⟨m, rfl⟩ : ∃ j, m = j + 1 := ⟨m - 1, by omega⟩
      have := hF l hp
      simp only [wrt]
      rw [if_neg h, if_neg h, ih _ m (by simp; omega) (by simp; omega)]
theorem scan_app (l r : List Int) (kk a1 a3 : Int) (d : Nat) : ∀ (h i : Int), 0 ≤ i → i + d ≤ l.length → scan (l ++ r) kk a1 a3 d h i = scan l kk a1 a3 d h i := by
  induction d with
  | zero => intro h i _ _; rfl
  | succ d ih =>
    intro h i h0 h1
    have e : rd (l ++ r) i = rd l i := by
      unfold rd
      rw [List.getD_eq_getElem?_getD, List.getD_eq_getElem?_getD, List.getElem?_append_left (by omega)]
    simp only [scan, e]
    rw [ih _ (i + 1) (by omega) (by omega)]
theorem scan_more (l : List Int) (kk a1 a3 : Int) (d : Nat) : ∀ (d' : Nat) (h i j : Int), d ≤ d' → scan l kk a1 a3 d h i = some j → scan l kk a1 a3 d' h i = some j := by
  induction d with
  | zero => intro d' h i j _ hs; simp [scan] at hs
  | succ d ih =>
    intro d' h i j hd hs
    obtain ⟨d', rfl⟩ : ∃ x, d' = x + 1 := ⟨d' - 1, by omega⟩
    simp only [scan] at hs ⊢
    split at hs
    · rename_i hz; rw [if_pos hz]; exact hs
    · rename_i hz; rw [if_neg hz]; exact ih d' _ _ _ (by omega) hs
/-- A first cut that is sure stays, whatever comes behind. -/
theorem firstV_app {a0 a1 a2 : Int} (a3 : Int) (hc : check a0 a1 a2 = 0) (l r : List Int) (h : ¬ (firstV a0 a1 a2 a3 l = l.length ∧ firstV a0 a1 a2 a3 l < a2)) : firstV a0 a1 a2 a3 (l ++ r) = firstV a0 a1 a2 a3 l := by
  have hk := check_ok hc
  have hlen : ((l ++ r).length : Int) = l.length + r.length := by simp
  by_cases h1 : (l.length : Int) ≤ a0
  · have e : firstV a0 a1 a2 a3 l = l.length := if_pos h1
    rw [e] at h ⊢
    have h2 : (l.length : Int) = a2 := by omega
    by_cases h3 : ((l ++ r).length : Int) ≤ a0
    · have : firstV a0 a1 a2 a3 (l ++ r) = (l ++ r).length := if_pos h3
      omega
    · unfold firstV
      rw [if_neg h3, show (min ((l ++ r).length : Int) a2 - a0).toNat = 0 by omega]
      simp only [scan, Option.getD_none]
      omega
  · have h3 : ¬ ((l ++ r).length : Int) ≤ a0 := by omega
    unfold firstV at h ⊢
    rw [if_neg h1] at h ⊢
    rw [if_neg h3]
    cases hs : scan l (lg a1) a1 a3 (min (l.length : Int) a2 - a0).toNat 0 a0 with
    | some j =>
      have h4 := scan_app l r (lg a1) a1 a3 (min (l.length : Int) a2 - a0).toNat 0 a0 (by omega) (by omega)
      rw [hs] at h4
      rw [scan_more _ _ _ _ _ (min ((l ++ r).length : Int) a2 - a0).toNat _ _ _ (by omega) h4]
      rfl
    | none =>
      rw [hs] at h
      simp only [Option.getD_none] at h ⊢
      have h5 : a2 ≤ (l.length : Int) := by omega
      have e1 : min ((l ++ r).length : Int) a2 = a2 := by omega
      have e2 : min (l.length : Int) a2 = a2 := by omega
      rw [e1, e2]
      rw [e2] at hs
      rw [scan_app l r (lg a1) a1 a3 _ 0 a0 (by omega) (by omega), hs]
      rfl
/-- What was told and what is left come to the whole, whatever comes behind. -/
theorem wrt_lens {F : List Int → Int} {a2 : Int} (hF : ∀ m, 0 < m.length → 1 ≤ F m ∧ F m ≤ m.length) (hA : ∀ l r, ¬ (F l = l.length ∧ F l < a2) → F (l ++ r) = F l) (n : Nat) : ∀ (l r : List Int), l.length ≤ n →
    (wrt F a2 n l).1 ++ lens F ((wrt F a2 n l).2 ++ r).length ((wrt F a2 n l).2 ++ r) = lens F (l ++ r).length (l ++ r) := by
  have hF1 : ∀ m, 0 < m.length → 1 ≤ F m := fun m hm => (hF m hm).1
  induction n with
  | zero => intro l r _; simp [wrt]
  | succ n ih =>
    intro l r hl
    by_cases h0 : l = []
    · subst h0; simp [wrt_nil]
    · have hp := List.length_pos_iff.2 h0
      simp only [wrt]
      rw [if_neg h0]
      by_cases h1 : F l = l.length ∧ F l < a2
      · rw [if_pos h1]; rfl
      · rw [if_neg h1]
        have hf := hF l hp
        have e : F (l ++ r) = F l := hA l r h1
        obtain ⟨k, hk⟩ : ∃ k, (l ++ r).length = k + 1 := ⟨(l ++ r).length - 1, by simp; omega⟩
        rw [hk]
        simp only [lens]
        rw [if_neg (by simp [h0]), e, List.cons_append]
        congr 1
        have h2 := ih (l.drop (F l).toNat) r (by simp; omega)
        have e2 : (l ++ r).drop (F l).toNat = l.drop (F l).toNat ++ r := by rw [List.drop_append_of_le_length (by omega)]
        rw [h2, e2]
        refine lens_fuel F hF1 _ _ _ (Nat.le_refl _) ?_
        simp at hk ⊢
        omega
theorem wrt_stop {F : List Int → Int} {a2 q : Int} {m : List Int} (hm : m ≠ []) (hq : F m = q) (h : q = m.length ∧ q < a2) : wrt F a2 m.length m = ([], m) := by
  obtain ⟨n, hn⟩ : ∃ n, m.length = n + 1 := ⟨m.length - 1, by have := List.length_pos_iff.2 hm; omega⟩
  rw [hn]
  simp only [wrt]
  rw [if_neg hm, hq, if_pos h]
theorem wrt_go {F : List Int → Int} (hF : ∀ m, 0 < m.length → 1 ≤ F m ∧ F m ≤ m.length) {a2 q : Int} {m : List Int} (hm : m ≠ []) (hq : F m = q) (h : ¬ (q = m.length ∧ q < a2)) :
    wrt F a2 m.length m = (q :: (wrt F a2 (m.drop q.toNat).length (m.drop q.toNat)).1, (wrt F a2 (m.drop q.toNat).length (m.drop q.toNat)).2) := by
  have hf := hF m (List.length_pos_iff.2 hm)
  rw [hq] at hf
  obtain ⟨n, hn⟩ : ∃ n, m.length = n + 1 := ⟨m.length - 1, by have := List.length_pos_iff.2 hm; omega⟩
  have e := wrt_fuel F a2 (fun x hx => (hF x hx).1) n (m.drop q.toNat) (m.drop q.toNat).length (by simp; omega) (Nat.le_refl _)
  rw [hn]
  simp only [wrt]
  rw [if_neg hm, hq, if_neg h, e]
end Go.Proofs.Ytpadajjlakhnjaa.H
