/- Package space: a bit for each sector: plain facts. -/
import Derived.Test.YtpcgmlnipeigjaaUe
namespace Go.Proofs.Ytpcgmlnipeigjaa.H
open Go.RowKit Go.Shelf Go.Proofs.YtpcgmlnipeigjaaW.PrintWords Go.Proofs.YtpcgmlnipeigjaaW.PrintLast Go.Proofs.YtpcgmlnipeigjaaW.PrintMore
set_option linter.unusedVariables false
set_option linter.unusedSimpArgs false

/-- The bytes behind the sector at i. -/
def stepB (bs : List Int) (i : Nat) (q : Int) : List Int := if q = 0 then bs else bs.set (i / 8) (bs.getD (i / 8) 0 + 2 ^ (i % 8))
/-- The bytes of the first i sectors, so many bytes in all. -/
def bitsAt (m : Nat) (l : List Int) : Nat → List Int
  | 0 => List.replicate m 0
  | i + 1 => stepB (bitsAt m l i) i (l.getD i 0)
theorem stepB_length (bs : List Int) (i : Nat) (q : Int) : (stepB bs i q).length = bs.length := by
  unfold stepB; split <;> simp
theorem bitsAt_length (m : Nat) (l : List Int) (i : Nat) : (bitsAt m l i).length = m := by
  induction i with
  | zero => simp [bitsAt]
  | succ i ih => rw [bitsAt, stepB_length, ih]
theorem two_pow_mono {a b : Nat} (h : a ≤ b) : (2 : Int) ^ a ≤ 2 ^ b := by
  have := Nat.pow_le_pow_right (n := 2) (by omega) h
  exact_mod_cast this
/-- What a byte is below, behind the first i sectors. -/
theorem bitsAt_lt (m : Nat) (l : List Int) (i : Nat) (j : Nat) : 0 ≤ (bitsAt m l i).getD j 0 ∧ (bitsAt m l i).getD j 0 < 2 ^ (min 8 (i - 8 * j)) := by
  induction i generalizing j with
  | zero =>
    rw [bitsAt, List.getD_eq_getElem?_getD, List.getElem?_replicate]
    split <;> simp
  | succ i ih =>
    have h0 := ih j
    have hmono := two_pow_mono (show min 8 (i - 8 * j) ≤ min 8 (i + 1 - 8 * j) by omega)
    rw [bitsAt]
    unfold stepB
    split
    · omega
    · rw [List.getD_eq_getElem?_getD, List.getElem?_set]
      split
      · rename_i e
        split
        · subst e
          simp only [Option.getD_some]
          have e1 : min 8 (i - 8 * (i / 8)) = i % 8 := by omega
          have e2 : min 8 (i + 1 - 8 * (i / 8)) = i % 8 + 1 := by omega
          rw [e1] at h0
          rw [e2, Int.pow_succ]
          have : (0 : Int) < 2 ^ (i % 8) := Int.pow_pos (by omega)
          omega
        · simp only [Option.getD_none]
          have : (0 : Int) < 2 ^ (min 8 (i + 1 - 8 * j)) := Int.pow_pos (by omega)
          omega
      · rw [← List.getD_eq_getElem?_getD]
        omega
theorem bitsAt_at (m : Nat) (l : List Int) (i : Nat) : 0 ≤ (bitsAt m l i).getD (i / 8) 0 ∧ (bitsAt m l i).getD (i / 8) 0 < 2 ^ (i % 8) := by
  have := bitsAt_lt m l i (i / 8)
  rwa [show min 8 (i - 8 * (i / 8)) = i % 8 by omega] at this
theorem bitsAt_succ (m : Nat) (l : List Int) {i : Nat} {q : Int} (h : l[i]? = some q) : bitsAt m l (i + 1) = stepB (bitsAt m l i) i q := by
  rw [bitsAt, List.getD_eq_getElem?_getD, h]; rfl
end Go.Proofs.Ytpcgmlnipeigjaa.H
