/- Package space: the runs of one sector more. -/
import Derived.Test.YtpcgmlnipeigjaaUb
namespace Go.Proofs.Ytpcgmlnipeigjaa.H
set_option linter.unusedVariables false
set_option linter.unusedSimpArgs false

/-- One sector more behind the runs, at place p. -/
def bump (p x : Int) (out : List (Int × Int)) : List (Int × Int) :=
  if x = 0 then match out.getLast? with
    | some y => if y.1 + y.2 = p then out.dropLast ++ [(y.1, y.2 + 1)] else out ++ [(p, 1)]
    | none => [(p, 1)]
  else out
theorem bump_ne {p x : Int} {out : List (Int × Int)} (h : x ≠ 0) : bump p x out = out := if_neg h
theorem bump_nil {p : Int} : bump p 0 [] = [(p, 1)] := by simp [bump]
theorem bump_hit {p a k : Int} {out : List (Int × Int)} (h : a + k = p) : bump p 0 (out ++ [(a, k)]) = out ++ [(a, k + 1)] := by simp [bump, h]
theorem bump_miss {p a k : Int} {out : List (Int × Int)} (h : a + k ≠ p) : bump p 0 (out ++ [(a, k)]) = out ++ [(a, k)] ++ [(p, 1)] := by simp [bump, h]
theorem bump_app {p x : Int} (head tail : List (Int × Int)) (h : tail = [] → ∀ y ∈ head, y.1 + y.2 ≠ p) : bump p x (head ++ tail) = head ++ bump p x tail := by
  by_cases hx : x = 0
  · subst hx
    rcases List.eq_nil_or_concat tail with rfl | ⟨t, y, rfl⟩
    · rw [List.append_nil, bump_nil]
      rcases List.eq_nil_or_concat head with rfl | ⟨t, y, rfl⟩
      · simp [bump_nil]
      · have := h rfl y (by simp)
        obtain ⟨a, k⟩ := y
        rw [List.concat_eq_append, bump_miss this]
    · obtain ⟨a, k⟩ := y
      rw [List.concat_eq_append, ← List.append_assoc]
      by_cases e : a + k = p
      · rw [bump_hit e, bump_hit e, List.append_assoc]
      · rw [bump_miss e, bump_miss e]; simp
  · rw [bump_ne hx, bump_ne hx]
theorem rz_z (r : List Int) : rz (0 :: r) = rz r + 1 := by simp [rz]
theorem rz_n {y : Int} (h : y ≠ 0) (r : List Int) : rz (y :: r) = 0 := by simp [rz, h]
theorem rz_app (r s : List Int) : rz (r ++ s) = if rz r = r.length then r.length + rz s else rz r := by
  induction r with
  | nil => simp [rz]
  | cons y r ih =>
    by_cases h : y = 0
    · subst h
      rw [List.cons_append, rz_z, rz_z, ih, List.length_cons]
      by_cases e : rz r = r.length
      · rw [if_pos e, if_pos (by omega)]; omega
      · rw [if_neg e, if_neg (by omega)]
    · rw [List.cons_append, rz_n h, rz_n h, List.length_cons, if_neg (by omega)]
theorem runsF_snoc (x : Int) (m : Nat) : ∀ (i : Nat) (r : List Int), r.length + 1 ≤ m → runsF m i (r ++ [x]) = bump ((i + r.length : Nat) : Int) x (runsF m i r) := by
  induction m with
  | zero => intro i r h; omega
  | succ m ih =>
    intro i r h
    by_cases hr : r = []
    · subst hr
      rw [runsF_nil]
      simp only [List.nil_append, runsF]
      rw [if_neg (by simp)]
      by_cases hx : x = 0
      · subst hx
        have h1 : rz [(0 : Int)] = 1 := by simp [rz]
        rw [h1, if_pos (by omega), bump_nil]
        simp [runsF_nil]
      · have h1 : rz [x] = 0 := by simp [rz, hx]
        rw [h1, if_neg (by omega), bump_ne hx]
        simp [runsF_nil]
    · have hp := List.length_pos_iff.2 hr
      have hle := rz_le r
      have e1 : runsF (m + 1) i r = (if 0 < rz r then [((i : Int), (rz r : Int))] else []) ++ runsF m (i + rz r + 1) (r.drop (rz r + 1)) := by
        simp only [runsF]; rw [if_neg hr]
      have e2 : runsF (m + 1) i (r ++ [x]) = (if 0 < rz (r ++ [x]) then [((i : Int), (rz (r ++ [x]) : Int))] else []) ++ runsF m (i + rz (r ++ [x]) + 1) ((r ++ [x]).drop (rz (r ++ [x]) + 1)) := by
        simp only [runsF]; rw [if_neg (by simp)]
      rw [e1, e2, rz_app]
      by_cases e : rz r = r.length
      · rw [if_pos e, e, if_pos hp]
        have d1 : r.drop (r.length + 1) = [] := List.drop_eq_nil_of_le (by omega)
        rw [d1, runsF_nil, List.append_nil]
        by_cases hx : x = 0
        · subst hx
          have h1 : rz [(0 : Int)] = 1 := by simp [rz]
          have d2 : (r ++ [(0 : Int)]).drop (r.length + 1 + 1) = [] := List.drop_eq_nil_of_le (by simp)
          rw [h1, d2, runsF_nil, List.append_nil, if_pos (by omega)]
          have := bump_hit (p := ((i + r.length : Nat) : Int)) (a := (i : Int)) (k := (r.length : Int)) (out := []) (by omega)
          rw [List.nil_append] at this
          rw [this]; simp
        · have h1 : rz [x] = 0 := by simp [rz, hx]
          have d2 : (r ++ [x]).drop (r.length + 0 + 1) = [] := List.drop_eq_nil_of_le (by simp)
          rw [h1, d2, runsF_nil, List.append_nil, bump_ne hx, if_pos (by omega)]; simp
      · rw [if_neg e]
        have d2 : (r ++ [x]).drop (rz r + 1) = r.drop (rz r + 1) ++ [x] := List.drop_append_of_le_length (by omega)
        rw [d2, ih _ _ (by simp; omega), bump_app]
        · congr 2
          simp
          omega
        · intro _ y hy
          split at hy
          · rw [List.mem_singleton] at hy
            subst hy
            show (i : Int) + (rz r : Int) ≠ _
            omega
          · cases hy
theorem runsL_snoc (l : List Int) (x : Int) : runsL (l ++ [x]) = bump (l.length : Int) x (runsL l) := by
  unfold runsL
  rw [List.length_append, List.length_singleton, runsF_snoc x _ 0 l (by omega), runsF_fuel (l.length + 1) l.length 0 l (by omega) (by omega), Nat.zero_add]
theorem runsL_take {l : List Int} {i : Nat} {q : Int} (h : l[i]? = some q) : runsL (l.take (i + 1)) = bump (i : Int) q (runsL (l.take i)) := by
  obtain ⟨hi, _⟩ := List.getElem?_eq_some_iff.1 h
  rw [List.take_add_one, h, Option.toList, runsL_snoc, List.length_take, Nat.min_eq_left (by omega)]
end Go.Proofs.Ytpcgmlnipeigjaa.H
