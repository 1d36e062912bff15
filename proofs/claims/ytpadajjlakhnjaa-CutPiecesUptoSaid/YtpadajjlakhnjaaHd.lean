/- cut.Lengths for whatever shape; the lengths as a plain function. -/
import Derived.Test.YtpadajjlakhnjaaHc
namespace Go.Proofs.Ytpadajjlakhnjaa.H
open Go.RowKit Go.Shelf Go.Proofs.YtpadajjlakhnjaaW.PrintWords Go.Proofs.YtpadajjlakhnjaaW.PrintLast Go.Proofs.YtpadajjlakhnjaaW.PrintMore
set_option linter.unusedVariables false
set_option linter.unusedSimpArgs false

/-- The lengths of all pieces, F being the first cut. -/
def lens (F : List Int → Int) : Nat → List Int → List Int
  | 0, _ => []
  | n + 1, l => if l = [] then [] else F l :: lens F n (l.drop (F l).toNat)
theorem lens_nil (F : List Int → Int) (n : Nat) : lens F n [] = [] := by cases n <;> simp [lens]
theorem cst_lens {F : List Int → Int} {l : List Int} (h : Fst F l) (k : Nat) : (∀ j, j < k → (cst F l j).2 < l.length) →
    lens F l.length l = (cst F l k).1.map Prod.snd ++ lens F (l.length - k) (l.drop (cst F l k).2.toNat) := by
  induction k with
  | zero => intro _; simp [cst]
  | succ k ih =>
    intro hj
    have h1 := ih (fun j hjk => hj j (by omega))
    have h2 := cst_at h k (fun j hjk => hj j (by omega))
    have h3 := hj k (by omega)
    have h4 := h (cst F l k).2.toNat (by omega)
    rw [h1, show l.length - k = (l.length - (k + 1)) + 1 by omega]
    simp only [lens, cst, cstep, List.map_append, List.map_cons, List.map_nil]
    rw [if_neg (by intro e; have := congrArg List.length e; simp at this; omega), List.drop_drop, List.append_assoc]
    congr 2
    rw [show ((cst F l k).2 + F (l.drop (cst F l k).2.toNat)).toNat = (cst F l k).2.toNat + (F (l.drop (cst F l k).2.toNat)).toNat by omega]
    rfl
theorem cst_all {F : List Int → Int} {l : List Int} (h : Fst F l) {k : Nat} {ys : List (Int × Int)} (hk : cst F l k = (ys, (l.length : Int))) (hj : ∀ j, j < k → (cst F l j).2 < l.length) : ys.map Prod.snd = lens F l.length l := by
  have := cst_lens h k hj
  rw [hk] at this
  simpa [lens_nil] using this.symm
def lensV (a0 a1 a2 a3 : Int) (l : List Int) : List Int := if check a0 a1 a2 = 0 then lens (firstV a0 a1 a2 a3) l.length l else []
theorem lengths_any (a0 a1 a2 a3 : Int) (A : Option Addr) (c : Nat) (l : List Int) (w : World) (hr : Kd.C (Kd.int .u8) w A l.length l) (hl : l.length ≤ 17592186044415) :
    Calls Try.prog 13 #[.agg #[.int .i64 a0, .int .i64 a1, .int .i64 a2, .int .u64 a3], .slice A l.length c] w fun e w' => ∃ v, e = .returned (.tuple #[v, .int .i64 (check a0 a1 a2)]) ∧ Kd.R (Kd.int .i64) 3 w' w.heap.size (fun k => w.heap.size ≤ k) v (lensV a0 a1 a2 a3 l) ∧ Below w.heap.size w w' := by
  by_cases hc : check a0 a1 a2 = 0
  · rw [hc, show lensV a0 a1 a2 a3 l = lens (firstV a0 a1 a2 a3) l.length l from if_pos hc]
    refine (lengths_good a0 a1 a2 a3 (firstV a0 a1 a2 a3) l A c (fst_of a3 hc l) (fun A c m w h => first_any a0 a1 a2 a3 A c m w hc h) hc w hr hl).mono ?_
    rintro e w' ⟨v, rfl, ys, ⟨k, hk, hj⟩, hR, hB⟩
    refine ⟨v, rfl, ?_, hB⟩
    rw [cst_all (fst_of a3 hc l) hk hj] at hR
    exact hR
  · rw [check_else hc, show lensV a0 a1 a2 a3 l = [] from if_neg hc]
    refine (lengths_bad 50 a0 a1 a2 a3 _ (by decide) (check_else hc) w).mono ?_
    rintro e w' ⟨rfl, hB⟩
    exact ⟨_, rfl, Kd.R_nil _ _ _ _ _, hB⟩
end Go.Proofs.Ytpadajjlakhnjaa.H
