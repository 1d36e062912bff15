/- ref.Lengths and same as contracts; the k-th length. -/
import Derived.Test.YtpadajjlakhnjaaHd
import Derived.Test.YtpadajjlakhnjaaPr
namespace Go.Proofs.Ytpadajjlakhnjaa.H
open Go.RowKit Go.Shelf Go.Proofs.YtpadajjlakhnjaaW.PrintWords Go.Proofs.YtpadajjlakhnjaaW.PrintLast Go.Proofs.YtpadajjlakhnjaaW.PrintMore
open Go.Proofs.Ytpadajjlakhnjaa.PCutLengths
set_option linter.unusedVariables false
set_option linter.unusedSimpArgs false

theorem same_l0 (l : List Int) (hl : (l.length : Int) ≤ 9223372036854775807) (d : Nat) : ∀ (k : Nat) (i : Int), 0 ≤ i → i + d = l.length → d < k → deduplaw05_same.l0 k l l i = some true := by
  induction d with
  | zero =>
    intro k i h0 h1 hd
    obtain ⟨k, rfl⟩ : ∃ j, k = j + 1 := ⟨k - 1, by omega⟩
    simp only [deduplaw05_same.l0]
    rw [if_neg (by omega)]
  | succ d ih =>
    intro k i h0 h1 hd
    obtain ⟨k, rfl⟩ : ∃ j, k = j + 1 := ⟨k - 1, by omega⟩
    have w : wrap64 (i + 1) = i + 1 := by unfold wrap64; omega
    simp only [deduplaw05_same.l0]
    rw [if_pos (by omega), if_pos h0, if_pos (by omega), if_pos trivial, w]
    exact ih k (i + 1) (by omega) (by omega) (by omega)
theorem same_any (A0 A1 : Option Addr) (c0 c1 : Nat) (l : List Int) (w : World) (hr0 : Kd.C (Kd.int .i64) w A0 l.length l) (hc0 : l.length ≤ c0) (hr1 : Kd.C (Kd.int .i64) w A1 l.length l) (hc1 : l.length ≤ c1) :
    Calls Try.prog 15 #[.slice A0 l.length c0, .slice A1 l.length c1] w fun e w' => e = .returned (.bool true) ∧ Below w.heap.size w w' := by
  refine (deduplaw05_same.calls (l.length + 1) A0 c0 l A1 c1 l true w hr0 hc0 hr1 hc1 (by
    unfold deduplaw05_same.f
    rw [if_pos rfl]
    exact same_l0 l (by have := hr0.2.1; omega) l.length _ 0 (by omega) (by omega) (by omega))).mono ?_
  rintro e w' ⟨rfl, hD⟩
  obtain ⟨n, rfl⟩ := hD.out
  exact ⟨rfl, pw_below_drewN (Below.refl _ _) _⟩

theorem lens_fuel (F : List Int → Int) (hF : ∀ m, 0 < m.length → 1 ≤ F m) (n : Nat) : ∀ (l : List Int) (m : Nat), l.length ≤ n → l.length ≤ m → lens F n l = lens F m l := by
  induction n with
  | zero =>
    intro l m h1 h2
    obtain rfl : l = [] := by cases l; rfl; simp at h1
    rw [lens_nil, lens_nil]
  | succ n ih =>
    intro l m h1 h2
    by_cases h : l = []
    · subst h; rw [lens_nil, lens_nil]
    · have hp : 0 < l.length := List.length_pos_iff.2 h
      obtain ⟨m, rfl⟩ : ∃ j, m = j + 1 := ⟨m - 1, by omega⟩
      have := hF l hp
      simp only [lens]
      rw [if_neg h, if_neg h, ih _ m (by simp; omega) (by simp; omega)]
theorem lens_le (F : List Int → Int) (hF : ∀ m, 0 < m.length → 1 ≤ F m) (n : Nat) : ∀ (l : List Int), (lens F n l).length ≤ l.length := by
  induction n with
  | zero => intro l; simp [lens]
  | succ n ih =>
    intro l
    simp only [lens]
    split
    · simp
    · rename_i h
      have hp : 0 < l.length := List.length_pos_iff.2 h
      have := hF l hp
      have := ih (l.drop (F l).toNat)
      simp at this ⊢
      omega
theorem ref_l0_lens {a0 a1 a2 : Int} (a3 : Int) (hc : check a0 a1 a2 = 0) (n : Nat) : ∀ (l out : List Int) (k : Nat), l.length ≤ n → (l.length : Int) ≤ 9223372036854775807 → out.length + l.length ≤ 17592186044415 → 2 * n + 40 ≤ k →
    dedupref05_Lengths.l0 k l out a0 a1 a2 a3 = some (out ++ lens (firstV a0 a1 a2 a3) n l, 0) := by
  induction n with
  | zero =>
    intro l out k h1 h2 h3 hk
    obtain rfl : l = [] := by cases l; rfl; simp at h1
    obtain ⟨k, rfl⟩ : ∃ j, k = j + 1 := ⟨k - 1, by omega⟩
    simp [dedupref05_Lengths.l0, lens]
  | succ n ih =>
    intro l out k h1 h2 h3 hk
    obtain ⟨k, rfl⟩ : ∃ j, k = j + 1 := ⟨k - 1, by omega⟩
    simp only [dedupref05_Lengths.l0, lens]
    by_cases h : l = []
    · subst h; simp
    · have hp : 0 < l.length := List.length_pos_iff.2 h
      have hb := firstV_bound a3 hc l
      have h4 := hb.2.2.2.1 hp
      rw [if_pos (by omega), ref_first_eq a3 hc l h2 k (by omega), if_neg h]
      simp only [Option.bind_some]
      rw [if_pos (by omega), if_pos hb.1, if_pos hb.2.1, ih _ _ k (by simp; omega) (by simp; omega) (by simp; omega) (by omega)]
      simp
theorem ref_lengths_any (a0 a1 a2 a3 : Int) (A : Option Addr) (c : Nat) (l : List Int) (w : World) (hr : Kd.C (Kd.int .u8) w A l.length l) (hlc : l.length ≤ c) (hl : l.length ≤ 17592186044415) :
    Calls Try.prog 14 #[.agg #[.int .i64 a0, .int .i64 a1, .int .i64 a2, .int .u64 a3], .slice A l.length c] w fun e w' => ∃ v, e = .returned (.tuple #[v, .int .i64 (check a0 a1 a2)]) ∧ Kd.R (Kd.int .i64) 3 w' w.heap.size (fun k => w.heap.size ≤ k) v (lensV a0 a1 a2 a3 l) ∧ Below w.heap.size w w' := by
  refine dedupref05_Lengths.calls (2 * l.length + 60) a0 a1 a2 a3 (fun k => ∃ ad, A = some ad ∧ k = ad.block) A c l _ _ w (Kd.V_mk hlc ?_) ?_
  · intro W' hW
    by_cases h0 : l = []
    · subst h0
      exact ⟨rfl, by simp, fun h => absurd h (by simp)⟩
    · refine C_keeps hr (fun ad e => hW _ ⟨ad, e, rfl⟩ ?_)
      subst e
      obtain ⟨ad', e', hc⟩ := hr.2.2 (by cases l with | nil => exact absurd rfl h0 | cons _ _ => simp)
      cases e'
      obtain ⟨cs, hl1, hk1, hc1⟩ := hc 0 (l[0]'(List.length_pos_iff.2 h0)) (by simp)
      have := hc1 0 (cs[0]'(by rw [hl1]; decide)) (by simp)
      have h9 := World.block_lt_of_cell? _ _ this
      rwa [add_block] at h9
  · unfold dedupref05_Lengths.f lensV
    rw [show 2 * l.length + 60 = (2 * l.length + 46) + 14 by omega, ref_check (2 * l.length + 46)]
    simp only [Option.bind_some]
    by_cases hc : check a0 a1 a2 = 0
    · rw [if_pos hc, if_pos hc, ref_l0_lens a3 hc l.length l [] _ (Nat.le_refl _) (by omega) (by simp; omega) (by omega), hc]
      simp
    · rw [if_neg hc, if_neg hc]
end Go.Proofs.Ytpadajjlakhnjaa.H
