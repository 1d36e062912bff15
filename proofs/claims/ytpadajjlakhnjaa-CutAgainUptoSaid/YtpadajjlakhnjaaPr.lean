/- The reference's Check and first in plain terms, over the kit's printed functions. -/
import Derived.Test.YtpadajjlakhnjaaPl
import Derived.Test.YtpadajjlakhnjaaPCutLengthsx3
import Derived.Test.YtpadajjlakhnjaaPCutLengthsx4
import Derived.Test.YtpadajjlakhnjaaHq
namespace Go.Proofs.Ytpadajjlakhnjaa.H
open Go.RowKit Go.Proofs.YtpadajjlakhnjaaW.PrintWords Go.Proofs.YtpadajjlakhnjaaW.PrintLast Go.Proofs.YtpadajjlakhnjaaW.PrintMore
open Go.Proofs.Ytpadajjlakhnjaa.PCutLengths
set_option linter.unusedVariables false
set_option linter.unusedSimpArgs false

theorem ref_step (k : Nat) (x : Bool) (p q : Int) (hp : p ≤ 65536) (hq : wrap64 (2 * p) = q) (a0 a1 a2 a3 : Int) : dedupref05_Check.l0 (k + 1) x p a0 a1 a2 a3 = dedupref05_Check.l0 k (x || (a1 == p)) q a0 a1 a2 a3 := by
  cases x <;> simp [dedupref05_Check.l0, hp, hq]
theorem ref_last (k : Nat) (x : Bool) (a0 a1 a2 a3 : Int) (h : 0 ≤ a1) (h2 : a1 ≤ 65536): dedupref05_Check.l0 (k + 1) x 131072 a0 a1 a2 a3 = some (if x = true ∧ 1 ≤ a0 ∧ a0 ≤ a1 ∧ a1 ≤ a2 ∧ a2 ≤ 8 * a1 then 0 else 50) := by
  have hw : wrap64 (8 * a1) = 8 * a1 := by unfold wrap64; omega
  cases x with
  | false => simp [dedupref05_Check.l0]
  | true =>
    simp only [dedupref05_Check.l0, hw]
    rw [if_neg (by decide)]
    simp only [if_true, true_and]
    by_cases c1 : a0 < 1
    · rw [if_pos c1, if_neg (by omega)]
    · by_cases c2 : a0 > a1
      · rw [if_neg c1, if_pos c2, if_neg (by omega)]
      · by_cases c3 : a2 < a1
        · rw [if_neg c1, if_neg c2, if_pos c3, if_neg (by omega)]
        · by_cases c4 : a2 > 8 * a1
          · rw [if_neg c1, if_neg c2, if_neg c3, if_pos c4, if_neg (by omega)]
          · rw [if_neg c1, if_neg c2, if_neg c3, if_neg c4, if_pos (by omega)]
theorem ref_lastF (k : Nat) (a0 a1 a2 a3 : Int) : dedupref05_Check.l0 (k + 1) false 131072 a0 a1 a2 a3 = some 50 := by simp [dedupref05_Check.l0]
theorem ref_check (k : Nat) (a0 a1 a2 a3 : Int) : dedupref05_Check.f (k + 14) a0 a1 a2 a3 = some (check a0 a1 a2) := by
  unfold dedupref05_Check.f
  rw [ref_step _ _ 16 32 (by decide) (by unfold wrap64; omega), ref_step _ _ 32 64 (by decide) (by unfold wrap64; omega), ref_step _ _ 64 128 (by decide) (by unfold wrap64; omega), ref_step _ _ 128 256 (by decide) (by unfold wrap64; omega), ref_step _ _ 256 512 (by decide) (by unfold wrap64; omega), ref_step _ _ 512 1024 (by decide) (by unfold wrap64; omega), ref_step _ _ 1024 2048 (by decide) (by unfold wrap64; omega), ref_step _ _ 2048 4096 (by decide) (by unfold wrap64; omega), ref_step _ _ 4096 8192 (by decide) (by unfold wrap64; omega), ref_step _ _ 8192 16384 (by decide) (by unfold wrap64; omega), ref_step _ _ 16384 32768 (by decide) (by unfold wrap64; omega), ref_step _ _ 32768 65536 (by decide) (by unfold wrap64; omega), ref_step _ _ 65536 131072 (by decide) (by unfold wrap64; omega)]
  have hb : (false || (a1 == 16) || (a1 == 32) || (a1 == 64) || (a1 == 128) || (a1 == 256) || (a1 == 512) || (a1 == 1024) || (a1 == 2048) || (a1 == 4096) || (a1 == 8192) || (a1 == 16384) || (a1 == 32768) || (a1 == 65536)) = decide (a1 ∈ pows) := by
    rw [Bool.eq_iff_iff]
    simp [pows, or_assoc]
  rw [hb]
  by_cases h : a1 ∈ pows
  · have := pows_bound h
    rw [decide_eq_true h, ref_last _ _ _ _ _ _ (by omega) (by omega)]
    unfold check
    simp [h]
  · rw [decide_eq_false h, ref_lastF]
    unfold check
    rw [if_neg (fun x => h x.1)]

theorem mix_eq (s b : Int) : dedupref05_Mix.f (IntKind.u64.wrap (s + (IntKind.u64.wrap b))) = some (gearV s b) := rfl

theorem ref_scan (l : List Int) (m kk a0 a1 a2 a3 : Int) (hk : 1 ≤ kk ∧ kk ≤ 20) (hm : m ≤ l.length) (hl : (l.length : Int) ≤ 9223372036854775807) (d : Nat) : ∀ (k : Nat) (h i : Int), 0 ≤ i → i + d = m → d < k →
    dedupref05_first.l1 k l kk m h i a0 a1 a2 a3 = some (match scan l kk a1 a3 d h i with | some j => (j, true) | none => (m, m == a2)) := by
  induction d with
  | zero =>
    intro k h i h0 h1 hd
    obtain ⟨k, rfl⟩ : ∃ j, k = j + 1 := ⟨k - 1, by omega⟩
    simp only [dedupref05_first.l1]
    rw [if_neg (by omega)]
    rfl
  | succ d ih =>
    intro k h i h0 h1 hd
    obtain ⟨k, rfl⟩ : ∃ j, k = j + 1 := ⟨k - 1, by omega⟩
    have w1 : wrap64 (64 - wrap64 (kk + 1)) = 64 - (kk + 1) := by unfold wrap64; omega
    have w2 : wrap64 (64 - wrap64 (kk - 1)) = 64 - (kk - 1) := by unfold wrap64; omega
    have w3 : wrap64 (i + 1) = i + 1 := by unfold wrap64; omega
    have w4 : 2 * h = h * 2 := Int.mul_comm _ _
    simp only [dedupref05_first.l1, w1, w2, w3, w4, mix_eq, Option.bind_some, scan]
    rw [if_pos (by omega), if_pos h0, if_pos (by omega)]
    by_cases c : i < a1
    · rw [if_pos c, show bitsAt kk a1 i = kk + 1 from if_pos c, if_pos (by omega)]
      split
      · rfl
      · exact ih k _ _ (by omega) (by omega) (by omega)
    · rw [if_neg c, show bitsAt kk a1 i = kk - 1 from if_neg c, if_pos (by omega)]
      split
      · rfl
      · exact ih k _ _ (by omega) (by omega) (by omega)

theorem shl_pow (j : Nat) (hj : j ≤ 16) : shl .i64 1 (j : Int) = 2 ^ j := by
  have : ∀ i : Fin 17, shl .i64 1 ((i.val : Nat) : Int) = 2 ^ i.val := by decide +kernel
  exact this ⟨j, by omega⟩
theorem ref_l0 (l : List Int) (n kk : Nat) (a0 a1 a2 a3 : Int) (hkk : kk ≤ 16) (ha : a1 = 2 ^ kk) (d : Nat) : ∀ (k j : Nat), j + d = kk →
    dedupref05_first.l0 (k + d + 1) l n j a0 a1 a2 a3 = dedupref05_first.j2 k l kk (min (n : Int) a2) a0 a1 a2 a3 := by
  induction d with
  | zero =>
    intro k j hj
    obtain rfl : j = kk := by omega
    simp only [dedupref05_first.l0, Nat.add_zero]
    rw [if_pos (by omega), shl_pow j hkk, if_neg (by rw [ha]; exact Int.lt_irrefl _)]
    split
    · rw [show min (n : Int) a2 = a2 by omega]
    · rw [show min (n : Int) a2 = n by omega]
  | succ d ih =>
    intro k j hj
    have w : wrap64 ((j : Int) + 1) = ((j + 1 : Nat) : Int) := by unfold wrap64; omega
    have hlt : (2 : Int) ^ j < a1 := by
      rw [ha]
      have := Nat.pow_lt_pow_right (a := 2) (by decide) (show j < kk by omega)
      exact_mod_cast this
    rw [show k + (d + 1) + 1 = (k + d + 1) + 1 by omega]
    simp only [dedupref05_first.l0]
    rw [if_pos (by omega), shl_pow j (by omega), if_pos hlt, w]
    exact ih k (j + 1) (by omega)

theorem ref_first_eq {a0 a1 a2 : Int} (a3 : Int) (hc : check a0 a1 a2 = 0) (l : List Int) (hl : (l.length : Int) ≤ 9223372036854775807) (k : Nat) (hk : l.length + 30 ≤ k) : dedupref05_first.f k a0 a1 a2 a3 l = some (firstV a0 a1 a2 a3 l, sureV a0 a1 a2 a3 l) := by
  have h := check_ok hc
  have hb := pows_bound h.1
  have hs := lg_spec h.1
  obtain ⟨kk, hkk⟩ := Int.eq_ofNat_of_zero_le (show 0 ≤ lg a1 by omega)
  obtain ⟨k, rfl⟩ : ∃ j, k = j + kk + 4 := ⟨k - kk - 4, by omega⟩
  have ha : a1 = 2 ^ kk := by rw [← hs.2.2, hkk]; rfl
  have hw : ∀ (b : Bool), b = false → dedupref05_first.j0 (k + kk + 4) l l.length b a0 a1 a2 a3 = some (match scan l kk a1 a3 (min (l.length : Int) a2 - a0).toNat 0 a0 with | some j => (j, true) | none => (min (l.length : Int) a2, min (l.length : Int) a2 == a2)) ∨ min (l.length : Int) a2 < a0 := by
    rintro b rfl
    by_cases hlt : min (l.length : Int) a2 < a0
    · exact .inr hlt
    · left
      rw [show k + kk + 4 = (k + 2 + kk + 1) + 1 by omega]
      simp only [dedupref05_first.j0]
      rw [if_neg (by simp)]
      have := ref_l0 l l.length kk a0 a1 a2 a3 (by omega) ha kk (k + 2) 0 (by omega)
      rw [show ((0 : Nat) : Int) = 0 from rfl] at this
      rw [this, show k + 2 = (k + 1) + 1 by omega]
      simp only [dedupref05_first.j2]
      exact ref_scan l (min (l.length : Int) a2) kk a0 a1 a2 a3 (by omega) (by omega) hl _ _ _ _ (by omega) (by omega) (by omega)
  unfold dedupref05_first.f
  by_cases c : (l.length : Int) ≤ a0
  · rw [if_pos c]
    by_cases c2 : (l.length : Int) < a2
    · rw [decide_eq_true c2, show k + kk + 4 = (k + kk + 3) + 1 by omega]
      simp only [dedupref05_first.j0]
      simp [firstV, sureV, c, c2]
    · rw [decide_eq_false c2]
      rcases hw false rfl with h1 | h1
      · rw [h1]
        have e1 : min (l.length : Int) a2 = l.length := by omega
        have e2 : (l.length : Int) - a0 = 0 := by omega
        rw [e1, e2]
        have e3 : (l.length : Int) = a2 := by omega
        have e4 : ¬ a0 < a2 := by omega
        have e5 : a2 ≤ a0 := by omega
        simp [scan, firstV, sureV, e3, e4, e5]
      · omega
  · rw [if_neg c]
    rcases hw false rfl with h1 | h1
    · rw [h1]
      have hlg : lg a1 = kk := hkk
      cases hsc : scan l (lg a1) a1 a3 (min (l.length : Int) a2 - a0).toNat 0 a0 with
      | some j =>
        have hj := scan_lt _ _ _ _ _ _ _ _ hsc
        have hf : firstV a0 a1 a2 a3 l = j := by unfold firstV; rw [if_neg c, hsc]; rfl
        rw [← hlg, hsc]
        simp only [sureV, hf]
        have : (j == (l.length : Int)) = false := by simp; omega
        simp [this]
      | none =>
        have hf : firstV a0 a1 a2 a3 l = min (l.length : Int) a2 := by unfold firstV; rw [if_neg c, hsc]; rfl
        rw [← hlg, hsc]
        simp only [sureV, hf]
        by_cases c3 : (l.length : Int) < a2
        · rw [show min (l.length : Int) a2 = l.length by omega]
          have : ((l.length : Int) == a2) = false := by simp; omega
          simp [this, c3]
        · rw [show min (l.length : Int) a2 = a2 by omega]
          simp
    · omega


theorem ref_check_any (a0 a1 a2 a3 : Int) (w : World) :
    Calls Try.prog 12 #[.agg #[.int .i64 a0, .int .i64 a1, .int .i64 a2, .int .u64 a3]] w fun e w' => e = .returned (.int .i64 (check a0 a1 a2)) ∧ Below w.heap.size w w' :=
  dedupref05_Check.calls 14 a0 a1 a2 a3 _ w (ref_check 0 a0 a1 a2 a3)
theorem ref_first_any (a0 a1 a2 a3 : Int) (A : Option Addr) (c : Nat) (l : List Int) (w : World) (hc : check a0 a1 a2 = 0) (hr : Kd.C (Kd.int .u8) w A l.length l) (hlc : l.length ≤ c) :
    Calls Try.prog 25 #[.agg #[.int .i64 a0, .int .i64 a1, .int .i64 a2, .int .u64 a3], .slice A l.length c] w fun e w' => e = .returned (.tuple #[.int .i64 (firstV a0 a1 a2 a3 l), .bool (sureV a0 a1 a2 a3 l)]) ∧ Below w.heap.size w w' :=
  dedupref05_first.calls (l.length + 30) a0 a1 a2 a3 A c l _ _ w hr hlc (ref_first_eq a3 hc l (by have := hr.2.1; omega) _ (Nat.le_refl _))

set_option maxHeartbeats 1000000 in
theorem ref_next_any (a0 a1 a2 a3 : Int) (A : Option Addr) (c : Nat) (l : List Int) (w : World) (hr : Kd.C (Kd.int .u8) w A l.length l) (hlc : l.length ≤ c) :
    Calls Try.prog 9 #[.agg #[.int .i64 a0, .int .i64 a1, .int .i64 a2, .int .u64 a3], .slice A l.length c] w fun e w' => e = .returned (.tuple #[.int .i64 (nextV a0 a1 a2 a3 l), .int .i64 (check a0 a1 a2)]) ∧ Below w.heap.size w w' := by
  have hu24 := Try.underlying24
  have HR := Aside0.mk hr
  have HL := Aside0.mk hlc
  clear hr hlc
  by_cases h : check a0 a1 a2 = 0
  · have HC := Aside0.mk h
    clear h
    rw [show nextV a0 a1 a2 a3 l = firstV a0 a1 a2 a3 l from if_pos HC.out, HC.out]
    go_enter Try.func9, Try.ntmps9
    go_wp2_with (first | (go_at_call 12; refine (ref_check_any a0 a1 a2 a3 _).mono ?_; rintro e w1 ⟨rfl, hB⟩; rw [HC.out]; have hq := (hB.block w.heap.size (by simp)).trans (blk_new w _); have hq1 := (blk_cell hq 0).trans rfl; have hq2 := (blk_cell hq 1).trans rfl; have hq3 := (blk_cell hq 2).trans rfl; have hq4 := (blk_cell hq 3).trans rfl; have HB := Aside0.mk (below_step (below_alloc (Below.refl _ _) _) hB); clear hB hq) | (go_at_call 25; refine (ref_first_any a0 a1 a2 a3 A c l _ HC.out (Kd.C_below HR.out HB.out) HL.out).mono ?_; rintro e w2 ⟨rfl, hB⟩; have HB2 := Aside0.mk (below_step HB.out hB); clear hB))
    go_ret2
    exact ⟨rfl, HB2.out⟩
  · have HC := Aside0.mk (check_else h)
    rw [show nextV a0 a1 a2 a3 l = 0 from if_neg h, check_else h]
    clear h
    go_enter Try.func9, Try.ntmps9
    go_wp2_with (first | (go_at_call 12; refine (ref_check_any a0 a1 a2 a3 _).mono ?_; rintro e w1 ⟨rfl, hB⟩; rw [HC.out]; have HB := Aside0.mk (below_step (below_alloc (Below.refl _ _) _) hB); clear hB))
    go_ret2
    exact ⟨rfl, HB.out⟩
end Go.Proofs.Ytpadajjlakhnjaa.H
