/- layout.Check and the reference's Check of a shape. -/
import Derived.Test.YteglbmindbfkeaaGreatDoorXq
namespace Go.Proofs.YteglbmindbfkeaaGreatDoor.H
open Go.RowKit Go.Proofs.YteglbmindbfkeaaGreatDoorW.PrintWords
set_option linter.unusedVariables false
set_option linter.unusedSimpArgs false
/-- A shape's cells. -/
def shC (s : ShapeV) : Array Value := #[.int .i64 s.sector, .int .i64 s.sectors, .int .i64 s.journal, .int .i64 s.pack, .int .i64 s.min, .int .i64 s.normal, .int .i64 s.max, .int .u64 (s.seed : Int), .int .i64 s.bits, .bool s.dedup]
def shV (s : ShapeV) : Value := .agg (shC s)
def I64 (n : Int) : Prop := -9223372036854775808 ≤ n ∧ n ≤ 9223372036854775807
/-- The numbers are of their kinds. -/
structure ShOk (s : ShapeV) : Prop where
  sector : I64 s.sector
  sectors : I64 s.sectors
  journal : I64 s.journal
  pack : I64 s.pack
  min : I64 s.min
  normal : I64 s.normal
  max : I64 s.max
  seed : s.seed < 18446744073709551616
  bits : I64 s.bits
theorem bits_and_nat (a b : Nat) (ha : a < 9223372036854775808) (hb : b < 9223372036854775808) : bits BinOp.and IntKind.i64 (a : Int) (b : Int) = ((a &&& b : Nat) : Int) := by
  have hle : a &&& b ≤ a := Nat.and_le_left
  have e1 : (BitVec.ofInt IntKind.i64.bits (a : Int) &&& BitVec.ofInt IntKind.i64.bits (b : Int)).toNat = a &&& b := by
    rw [BitVec.toNat_and, BitVec.ofInt_natCast, BitVec.ofInt_natCast, BitVec.toNat_ofNat, BitVec.toNat_ofNat, Nat.mod_eq_of_lt (by show a < 2 ^ 64; omega), Nat.mod_eq_of_lt (by show b < 2 ^ 64; omega)]
  unfold bits
  simp only [e1]
  exact i64_wrap _ (by omega) (by omega)
theorem land_pow : ∀ k n : Nat, 1 ≤ n → n < 2 ^ k → n &&& (n - 1) = 0 → ∃ j, j < k ∧ n = 2 ^ j := by
  intro k
  induction k with
  | zero => intro n h1 h2 _; simp at h2; omega
  | succ k ih =>
    intro n h1 h2 h3
    by_cases hn : n = 1
    · exact ⟨0, by omega, hn⟩
    · have h4 := congrArg (· / 2) h3
      simp only [Nat.and_div_two, Nat.zero_div] at h4
      rw [Nat.pow_succ] at h2
      rcases Nat.mod_two_eq_zero_or_one n with hm | hm
      · rw [show (n - 1) / 2 = n / 2 - 1 by omega] at h4
        obtain ⟨j, hj, hj2⟩ := ih (n / 2) (by omega) (by omega) h4
        exact ⟨j + 1, by omega, by rw [Nat.pow_succ, ← hj2]; omega⟩
      · rw [show (n - 1) / 2 = n / 2 by omega, Nat.and_self] at h4
        omega
theorem bitS {n : Int} (h1 : 512 ≤ n) (h2 : n ≤ 4096) : (bits BinOp.and IntKind.i64 n (n - 1) == 0) = decide (n ∈ [512, 1024, 2048, 4096]) := by
  obtain ⟨k, rfl⟩ : ∃ k : Nat, n = k := ⟨n.toNat, by omega⟩
  rw [show (k : Int) - 1 = ((k - 1 : Nat) : Int) by omega, bits_and_nat k (k - 1) (by omega) (by omega), Bool.eq_iff_iff]
  simp only [beq_iff_eq, decide_eq_true_eq, List.mem_cons, List.not_mem_nil, or_false]
  constructor
  · intro h
    obtain ⟨j, hj, hk⟩ := land_pow 13 k (by omega) (by simp; omega) (by omega)
    have : ∀ j : Nat, j < 13 → 512 ≤ 2 ^ j → (2 ^ j = 512 ∨ 2 ^ j = 1024 ∨ 2 ^ j = 2048 ∨ 2 ^ j = 4096) := by decide
    have := this j hj (by omega)
    omega
  · rintro (h | h | h | h) <;> (obtain rfl : k = _ := Int.ofNat_inj.1 h) <;> decide
theorem bitN {n : Int} (h1 : 16 ≤ n) (h2 : n ≤ 65536) : (bits BinOp.and IntKind.i64 n (n - 1) == 0) = decide (n ∈ [16, 32, 64, 128, 256, 512, 1024, 2048, 4096, 8192, 16384, 32768, 65536]) := by
  obtain ⟨k, rfl⟩ : ∃ k : Nat, n = k := ⟨n.toNat, by omega⟩
  rw [show (k : Int) - 1 = ((k - 1 : Nat) : Int) by omega, bits_and_nat k (k - 1) (by omega) (by omega), Bool.eq_iff_iff]
  simp only [beq_iff_eq, decide_eq_true_eq, List.mem_cons, List.not_mem_nil, or_false]
  constructor
  · intro h
    obtain ⟨j, hj, hk⟩ := land_pow 17 k (by omega) (by simp; omega) (by omega)
    have : ∀ j : Nat, j < 17 → 16 ≤ 2 ^ j → (2 ^ j = 16 ∨ 2 ^ j = 32 ∨ 2 ^ j = 64 ∨ 2 ^ j = 128 ∨ 2 ^ j = 256 ∨ 2 ^ j = 512 ∨ 2 ^ j = 1024 ∨ 2 ^ j = 2048 ∨ 2 ^ j = 4096 ∨ 2 ^ j = 8192 ∨ 2 ^ j = 16384 ∨ 2 ^ j = 32768 ∨ 2 ^ j = 65536) := by decide
    have := this j hj (by omega)
    omega
  · rintro (h | h | h | h | h | h | h | h | h | h | h | h | h) <;> (obtain rfl : k = _ := Int.ofNat_inj.1 h) <;> decide
set_option maxRecDepth 100000 in
set_option maxHeartbeats 1000000 in
theorem within_any (n lo hi : Int) (w : World) : Calls Tryz.prog 67 #[.int .i64 n, .int .i64 lo, .int .i64 hi] w fun e w' => e = .returned (.bool (decide (lo ≤ n ∧ n ≤ hi))) ∧ w' = w := by
  go_enter Tryz.func67, Tryz.ntmps67
  go_wp2
  all_goals
    go_ret
    refine ⟨?_, rfl⟩
    first
      | (simp_all; done)
      | (simp_all; omega)
set_option maxRecDepth 100000 in
set_option maxHeartbeats 1000000 in
theorem powerS_any (n : Int) (w : World) : Calls Tryz.prog 66 #[.int .i64 n, .int .i64 512, .int .i64 4096] w fun e w' => e = .returned (.bool (decide (n ∈ [512, 1024, 2048, 4096]))) ∧ w' = w := by
  by_cases h1 : 512 ≤ n
  · by_cases h2 : n ≤ 4096
    · have w4 : wrap64 (n - 1) = n - 1 := by unfold wrap64; omega
      have hb := bitS h1 h2
      obtain ⟨B, hB⟩ : ∃ B, decide (n ∈ [512, 1024, 2048, 4096]) = B := ⟨_, rfl⟩
      rw [hB] at hb ⊢
      clear hB
      go_enter Tryz.func66, Tryz.ntmps66
      go_wp2
      go_ret
      exact ⟨rfl, rfl⟩
    · have e : decide (n ∈ [512, 1024, 2048, 4096]) = false := decide_eq_false (by simp only [List.mem_cons, List.not_mem_nil, or_false]; omega)
      rw [e]
      go_enter Tryz.func66, Tryz.ntmps66
      go_wp2
      go_ret
      exact ⟨rfl, rfl⟩
  · have e : decide (n ∈ [512, 1024, 2048, 4096]) = false := decide_eq_false (by simp only [List.mem_cons, List.not_mem_nil, or_false]; omega)
    rw [e]
    go_enter Tryz.func66, Tryz.ntmps66
    go_wp2
    go_ret
    exact ⟨rfl, rfl⟩
set_option maxRecDepth 100000 in
set_option maxHeartbeats 1000000 in
theorem powerN_any (n : Int) (w : World) : Calls Tryz.prog 66 #[.int .i64 n, .int .i64 16, .int .i64 65536] w fun e w' => e = .returned (.bool (decide (n ∈ [16, 32, 64, 128, 256, 512, 1024, 2048, 4096, 8192, 16384, 32768, 65536]))) ∧ w' = w := by
  by_cases h1 : 16 ≤ n
  · by_cases h2 : n ≤ 65536
    · have w4 : wrap64 (n - 1) = n - 1 := by unfold wrap64; omega
      have hb := bitN h1 h2
      obtain ⟨B, hB⟩ : ∃ B, decide (n ∈ [16, 32, 64, 128, 256, 512, 1024, 2048, 4096, 8192, 16384, 32768, 65536]) = B := ⟨_, rfl⟩
      rw [hB] at hb ⊢
      clear hB
      go_enter Tryz.func66, Tryz.ntmps66
      go_wp2
      go_ret
      exact ⟨rfl, rfl⟩
    · have e : decide (n ∈ [16, 32, 64, 128, 256, 512, 1024, 2048, 4096, 8192, 16384, 32768, 65536]) = false := decide_eq_false (by simp only [List.mem_cons, List.not_mem_nil, or_false]; omega)
      rw [e]
      go_enter Tryz.func66, Tryz.ntmps66
      go_wp2
      go_ret
      exact ⟨rfl, rfl⟩
  · have e : decide (n ∈ [16, 32, 64, 128, 256, 512, 1024, 2048, 4096, 8192, 16384, 32768, 65536]) = false := decide_eq_false (by simp only [List.mem_cons, List.not_mem_nil, or_false]; omega)
    rw [e]
    go_enter Tryz.func66, Tryz.ntmps66
    go_wp2
    go_ret
    exact ⟨rfl, rfl⟩
theorem powS_mem {n : Int} : n ∈ ([512, 1024, 2048, 4096] : List Int) ↔ ∃ j : Nat, j < 4 ∧ n = (((512 * 2 ^ j : Nat)) : Int) := by
  constructor
  · intro h
    simp only [List.mem_cons, List.not_mem_nil, or_false] at h
    rcases h with rfl | rfl | rfl | rfl
    · exact ⟨0, by decide, by decide⟩
    · exact ⟨1, by decide, by decide⟩
    · exact ⟨2, by decide, by decide⟩
    · exact ⟨3, by decide, by decide⟩
  · rintro ⟨j, hj, rfl⟩
    have : ∀ j : Nat, j < 4 → (((512 * 2 ^ j : Nat)) : Int) ∈ ([512, 1024, 2048, 4096] : List Int) := by decide
    exact this j hj
set_option maxRecDepth 100000 in
set_option maxHeartbeats 1000000 in
theorem rpowerS_any (n : Int) (w : World) : Calls Tryz.prog 48 #[.int .i64 n, .int .i64 512, .int .i64 4096] w fun e w' => e = .returned (.bool (decide (n ∈ [512, 1024, 2048, 4096]))) ∧ w' = w := by
  obtain ⟨B, hB⟩ : ∃ B, decide (n ∈ ([512, 1024, 2048, 4096] : List Int)) = B := ⟨_, rfl⟩
  rw [hB]
  have HB := Aside0.mk hB
  clear hB
  go_enter Tryz.func48, Tryz.ntmps48
  go_wp2_with fail
  go_loopw [7] (fun pv wr => ∃ p : Int, pv = .int .i64 p ∧ 512 ≤ p ∧ p ≤ 8192 ∧ Aside0 (∃ j : Nat, j ≤ 4 ∧ p = (((512 * 2 ^ j : Nat)) : Int) ∧ ∀ i : Nat, i < j → n ≠ (((512 * 2 ^ i : Nat)) : Int)) ∧ wr = w) (fun pv _ => (8192 - intOf pv).toNat)
  case atStart => exact ⟨512, rfl, by decide, by decide, ⟨0, by decide, by decide, fun i hi => by omega⟩, rfl⟩
  case round =>
    obtain ⟨p, rfl, p0, p1, HP, rfl⟩ := hrel
    by_cases hle : p ≤ 4096
    · have d0 : decide (p ≤ 4096) = true := decide_eq_true hle
      have w4 : wrap64 (p * 2) = p * 2 := by unfold wrap64; omega
      by_cases hn : n = p
      · have e0 : (n == p) = true := by simpa using hn
        have HT := Aside0.mk (show B = true by
          obtain ⟨j, hj, hpj, _⟩ := HP.out
          rw [← HB.out]
          refine decide_eq_true (powS_mem.2 ⟨j, ?_, by rw [hn, hpj]⟩)
          have : ∀ j : Nat, j ≤ 4 → ((512 * 2 ^ j : Nat)) ≤ 4096 → j < 4 := by decide
          exact this j hj (by omega))
        clear hn
        go_wp2
        refine bodyPost_ret (v := .bool true) (by simp [results, Tryz.f48, go_sem]) rfl ⟨by rw [HT.out], rfl⟩
      · have e0 : (n == p) = false := by simpa using hn
        have HN := Aside0.mk hn
        clear hn
        go_wp2
        refine ⟨⟨p * 2, rfl, by omega, by omega, ⟨?_⟩, trivial⟩, by simp [intOf]; omega⟩
        obtain ⟨j, hj, hpj, hi⟩ := HP.out
        have : ∀ j : Nat, j ≤ 4 → ((512 * 2 ^ j : Nat)) ≤ 4096 → j < 4 := by decide
        have hj2 := this j hj (by omega)
        refine ⟨j + 1, hj2, by rw [hpj, Nat.pow_succ]; omega, fun i h => ?_⟩
        by_cases hij : i < j
        · exact hi i hij
        · obtain rfl : i = j := by omega
          rw [← hpj]; exact HN.out
    · have d0 : decide (p ≤ 4096) = false := decide_eq_false hle
      have HF := Aside0.mk (show B = false by
        obtain ⟨j, hj, hpj, hi⟩ := HP.out
        rw [← HB.out]
        refine decide_eq_false fun h => ?_
        obtain ⟨i, hi1, hi2⟩ := powS_mem.1 h
        have : ∀ j : Nat, j < 4 → ((512 * 2 ^ j : Nat)) ≤ 4096 := by decide
        by_cases hjK : j < 4
        · have := this j hjK
          omega
        · exact hi i (by omega) hi2)
      go_wp2
      refine bodyPost_ret (v := .bool false) (by simp [results, Tryz.f48, go_sem]) rfl ⟨by rw [HF.out], rfl⟩
theorem powN_mem {n : Int} : n ∈ ([16, 32, 64, 128, 256, 512, 1024, 2048, 4096, 8192, 16384, 32768, 65536] : List Int) ↔ ∃ j : Nat, j < 13 ∧ n = (((16 * 2 ^ j : Nat)) : Int) := by
  constructor
  · intro h
    simp only [List.mem_cons, List.not_mem_nil, or_false] at h
    rcases h with rfl | rfl | rfl | rfl | rfl | rfl | rfl | rfl | rfl | rfl | rfl | rfl | rfl
    · exact ⟨0, by decide, by decide⟩
    · exact ⟨1, by decide, by decide⟩
    · exact ⟨2, by decide, by decide⟩
    · exact ⟨3, by decide, by decide⟩
    · exact ⟨4, by decide, by decide⟩
    · exact ⟨5, by decide, by decide⟩
    · exact ⟨6, by decide, by decide⟩
    · exact ⟨7, by decide, by decide⟩
    · exact ⟨8, by decide, by decide⟩
    · exact ⟨9, by decide, by decide⟩
    · exact ⟨10, by decide, by decide⟩
    · exact ⟨11, by decide, by decide⟩
    · exact ⟨12, by decide, by decide⟩
  · rintro ⟨j, hj, rfl⟩
    have : ∀ j : Nat, j < 13 → (((16 * 2 ^ j : Nat)) : Int) ∈ ([16, 32, 64, 128, 256, 512, 1024, 2048, 4096, 8192, 16384, 32768, 65536] : List Int) := by decide
    exact this j hj
set_option maxRecDepth 100000 in
set_option maxHeartbeats 1000000 in
theorem rpowerN_any (n : Int) (w : World) : Calls Tryz.prog 48 #[.int .i64 n, .int .i64 16, .int .i64 65536] w fun e w' => e = .returned (.bool (decide (n ∈ [16, 32, 64, 128, 256, 512, 1024, 2048, 4096, 8192, 16384, 32768, 65536]))) ∧ w' = w := by
  obtain ⟨B, hB⟩ : ∃ B, decide (n ∈ ([16, 32, 64, 128, 256, 512, 1024, 2048, 4096, 8192, 16384, 32768, 65536] : List Int)) = B := ⟨_, rfl⟩
  rw [hB]
  have HB := Aside0.mk hB
  clear hB
  go_enter Tryz.func48, Tryz.ntmps48
  go_wp2_with fail
  go_loopw [7] (fun pv wr => ∃ p : Int, pv = .int .i64 p ∧ 16 ≤ p ∧ p ≤ 131072 ∧ Aside0 (∃ j : Nat, j ≤ 13 ∧ p = (((16 * 2 ^ j : Nat)) : Int) ∧ ∀ i : Nat, i < j → n ≠ (((16 * 2 ^ i : Nat)) : Int)) ∧ wr = w) (fun pv _ => (131072 - intOf pv).toNat)
  case atStart => exact ⟨16, rfl, by decide, by decide, ⟨0, by decide, by decide, fun i hi => by omega⟩, rfl⟩
  case round =>
    obtain ⟨p, rfl, p0, p1, HP, rfl⟩ := hrel
    by_cases hle : p ≤ 65536
    · have d0 : decide (p ≤ 65536) = true := decide_eq_true hle
      have w4 : wrap64 (p * 2) = p * 2 := by unfold wrap64; omega
      by_cases hn : n = p
      · have e0 : (n == p) = true := by simpa using hn
        have HT := Aside0.mk (show B = true by
          obtain ⟨j, hj, hpj, _⟩ := HP.out
          rw [← HB.out]
          refine decide_eq_true (powN_mem.2 ⟨j, ?_, by rw [hn, hpj]⟩)
          have : ∀ j : Nat, j ≤ 13 → ((16 * 2 ^ j : Nat)) ≤ 65536 → j < 13 := by decide
          exact this j hj (by omega))
        clear hn
        go_wp2
        refine bodyPost_ret (v := .bool true) (by simp [results, Tryz.f48, go_sem]) rfl ⟨by rw [HT.out], rfl⟩
      · have e0 : (n == p) = false := by simpa using hn
        have HN := Aside0.mk hn
        clear hn
        go_wp2
        refine ⟨⟨p * 2, rfl, by omega, by omega, ⟨?_⟩, trivial⟩, by simp [intOf]; omega⟩
        obtain ⟨j, hj, hpj, hi⟩ := HP.out
        have : ∀ j : Nat, j ≤ 13 → ((16 * 2 ^ j : Nat)) ≤ 65536 → j < 13 := by decide
        have hj2 := this j hj (by omega)
        refine ⟨j + 1, hj2, by rw [hpj, Nat.pow_succ]; omega, fun i h => ?_⟩
        by_cases hij : i < j
        · exact hi i hij
        · obtain rfl : i = j := by omega
          rw [← hpj]; exact HN.out
    · have d0 : decide (p ≤ 65536) = false := decide_eq_false hle
      have HF := Aside0.mk (show B = false by
        obtain ⟨j, hj, hpj, hi⟩ := HP.out
        rw [← HB.out]
        refine decide_eq_false fun h => ?_
        obtain ⟨i, hi1, hi2⟩ := powN_mem.1 h
        have : ∀ j : Nat, j < 13 → ((16 * 2 ^ j : Nat)) ≤ 65536 := by decide
        by_cases hjK : j < 13
        · have := this j hjK
          omega
        · exact hi i (by omega) hi2)
      go_wp2
      refine bodyPost_ret (v := .bool false) (by simp [results, Tryz.f48, go_sem]) rfl ⟨by rw [HF.out], rfl⟩
theorem withinB {n lo hi : Int} {B : Bool} (h : decide (lo ≤ n ∧ n ≤ hi) = B) (w : World) : Calls Tryz.prog 67 #[.int .i64 n, .int .i64 lo, .int .i64 hi] w fun e w' => e = .returned (.bool B) ∧ w' = w := by
  have := within_any n lo hi w
  rw [h] at this
  exact this
set_option maxRecDepth 100000 in
set_option maxHeartbeats 8000000 in
theorem right_core (s : ShapeV) (w : World) (p1 p2 p3 p4 p5 p6 p7 : Bool) (h1 : decide (s.sector ∈ [512, 1024, 2048, 4096]) = p1) (h2 : decide (16 ≤ s.sectors ∧ s.sectors ≤ 4096) = p2)
    (h3 : decide (2 ≤ s.journal ∧ s.journal ≤ wrap64 (s.sectors.tdiv 4)) = p3) (h4 : decide (2 ≤ s.pack ∧ s.pack ≤ 64) = p4) (h5 : decide (0 ≤ s.bits ∧ s.bits ≤ 256) = p5)
    (h6 : decide (s.normal ∈ [16, 32, 64, 128, 256, 512, 1024, 2048, 4096, 8192, 16384, 32768, 65536]) = p6) (h7 : decide (1 ≤ s.min ∧ s.min ≤ s.normal) = p7) :
    Calls Tryz.prog 43 #[shV s] w fun e w' => e = .returned (.bool (p1 && p2 && p3 && p4 && p5 && p6 && p7 && decide (s.normal ≤ s.max ∧ s.max ≤ min (wrap64 (8 * s.normal)) (wrap64 (wrap64 (s.pack * s.sector) - 40))))) ∧ Below w.heap.size w w' := by
  have c1 := fun W => powerS_any s.sector W
  have c6 := fun W => powerN_any s.normal W
  rw [h1] at c1
  rw [h6] at c6
  have C1 := Aside0.mk c1
  have C6 := Aside0.mk c6
  have C2 := Aside0.mk (fun W => withinB h2 W)
  have C3 := Aside0.mk (fun W => withinB h3 W)
  have C4 := Aside0.mk (fun W => withinB h4 W)
  have C5 := Aside0.mk (fun W => withinB h5 W)
  have C7 := Aside0.mk (fun W => withinB h7 W)
  clear c1 c6 h1 h2 h3 h4 h5 h6 h7
  unfold shV shC
  go_enter Tryz.func43, Tryz.ntmps43
  go_wp2_with (first
    | (go_at_call 67; have HQ := Q7.out; refine (within_any _ _ _ _).mono ?_; rintro e w1 ⟨rfl, rfl⟩; clear HQ)
    | (go_at_call 67; have HQ := Q6.out; refine (C7.out _).mono ?_; rintro e w1 ⟨rfl, rfl⟩; have Q7 := Aside0.mk True.intro; clear HQ)
    | (go_at_call 66; have HQ := Q5.out; refine (C6.out _).mono ?_; rintro e w1 ⟨rfl, rfl⟩; have Q6 := Aside0.mk True.intro; clear HQ)
    | (go_at_call 67; have HQ := Q4.out; refine (C5.out _).mono ?_; rintro e w1 ⟨rfl, rfl⟩; have Q5 := Aside0.mk True.intro; clear HQ)
    | (go_at_call 67; have HQ := Q3.out; refine (C4.out _).mono ?_; rintro e w1 ⟨rfl, rfl⟩; have Q4 := Aside0.mk True.intro; clear HQ)
    | (go_at_call 67; have HQ := Q2.out; refine (C3.out _).mono ?_; rintro e w1 ⟨rfl, rfl⟩; have Q3 := Aside0.mk True.intro; clear HQ)
    | (go_at_call 67; have HQ := Q1.out; refine (C2.out _).mono ?_; rintro e w1 ⟨rfl, rfl⟩; have Q2 := Aside0.mk True.intro; clear HQ)
    | (go_at_call 66; refine (C1.out _).mono ?_; rintro e w1 ⟨rfl, rfl⟩; have Q1 := Aside0.mk True.intro))
  all_goals
    go_ret
    refine ⟨?_, ?_⟩
    · first
        | (simp_all; done)
        | simp_all
    · first
        | exact below_alloc (below_alloc (Below.refl _ _) _) _
        | exact below_alloc (Below.refl _ _) _
theorem checkL_iff (s : ShapeV) : checkL s = true ↔ ((s.sector = 512 ∨ s.sector = 1024 ∨ s.sector = 2048 ∨ s.sector = 4096) ∧ (16 ≤ s.sectors ∧ s.sectors ≤ 4096 ∧ 2 ≤ s.journal ∧ s.journal ≤ s.sectors / 4 ∧ 2 ≤ s.pack ∧ s.pack ≤ 64 ∧ 0 ≤ s.bits ∧ s.bits ≤ 256) ∧
    (s.normal = 16 ∨ s.normal = 32 ∨ s.normal = 64 ∨ s.normal = 128 ∨ s.normal = 256 ∨ s.normal = 512 ∨ s.normal = 1024 ∨ s.normal = 2048 ∨ s.normal = 4096 ∨ s.normal = 8192 ∨ s.normal = 16384 ∨ s.normal = 32768 ∨ s.normal = 65536) ∧
    (1 ≤ s.min ∧ s.min ≤ s.normal ∧ s.normal ≤ s.max ∧ s.max ≤ 8 * s.normal ∧ s.max ≤ s.pack * s.sector - 40)) := by
  unfold checkL
  simp only [Bool.and_eq_true, decide_eq_true_eq, List.mem_cons, List.not_mem_nil, or_false, and_assoc]
theorem wr1 {s : ShapeV} (h : 16 ≤ s.sectors) (h2 : s.sectors ≤ 4096) : wrap64 (s.sectors.tdiv 4) = s.sectors / 4 := by
  rw [Int.tdiv_eq_ediv_of_nonneg (by omega)]
  unfold wrap64
  omega
theorem wr2 {s : ShapeV} (h : 16 ≤ s.normal) (h2 : s.normal ≤ 65536) : wrap64 (8 * s.normal) = 8 * s.normal := by
  unfold wrap64
  omega
theorem wr3 {s : ShapeV} (h : s.sector = 512 ∨ s.sector = 1024 ∨ s.sector = 2048 ∨ s.sector = 4096) (h1 : 2 ≤ s.pack) (h2 : s.pack ≤ 64) : wrap64 (wrap64 (s.pack * s.sector) - 40) = s.pack * s.sector - 40 := by
  rcases h with h | h | h | h <;> rw [h] <;> unfold wrap64 <;> omega
theorem right_any (s : ShapeV) (w : World) : Calls Tryz.prog 43 #[shV s] w fun e w' => e = .returned (.bool (checkL s)) ∧ Below w.heap.size w w' := by
  refine (right_core s w _ _ _ _ _ _ _ rfl rfl rfl rfl rfl rfl rfl).mono ?_
  rintro e w' ⟨rfl, hB⟩
  refine ⟨?_, hB⟩
  congr 2
  rw [Bool.eq_iff_iff, checkL_iff]
  simp only [Bool.and_eq_true, decide_eq_true_eq, List.mem_cons, List.not_mem_nil, or_false, and_assoc]
  constructor
  · rintro ⟨a1, a2, a3, a4, a5, a6, a7, a8, a9, b1, b2, b3, b4, b5⟩
    have e2 := wr2 (s := s) (by omega) (by omega)
    have e3 := wr3 (s := s) a1 a6 a7
    have e1 := wr1 (s := s) a2 a3
    rw [e2, e3] at b5
    rw [e1] at a5
    exact ⟨a1, a2, a3, a4, a5, a6, a7, a8, a9, b1, b2, b3, b4, by omega, by omega⟩
  · rintro ⟨a1, a2, a3, a4, a5, a6, a7, a8, a9, b1, b2, b3, b4, b5, b6⟩
    rw [wr1 (s := s) a2 a3, wr2 (s := s) (by omega) (by omega), wr3 (s := s) a1 a6 a7]
    exact ⟨a1, a2, a3, a4, a5, a6, a7, a8, a9, b1, b2, b3, b4, by omega⟩
set_option maxRecDepth 100000 in
set_option maxHeartbeats 1000000 in
theorem check_any (s : ShapeV) (w : World) : Calls Tryz.prog 13 #[shV s] w fun e w' => e = .returned (.int .i64 (if checkL s = true then 0 else 41)) ∧ Below w.heap.size w w' := by
  have h := fun W => right_any s W
  obtain ⟨B, hB⟩ : ∃ B, checkL s = B := ⟨_, rfl⟩
  rw [hB] at h ⊢
  clear hB
  unfold shV shC at h ⊢
  cases B with
  | true =>
    go_enter Tryz.func13, Tryz.ntmps13
    go_wp2_with (go_at_call 43; refine (h _).mono ?_; rintro e w1 ⟨rfl, hB⟩; have HB := Aside0.mk hB; clear hB)
    go_ret
    exact ⟨rfl, (below_alloc (Below.refl _ _) _).trans (HB.out.mono (by simp))⟩
  | false =>
    go_enter Tryz.func13, Tryz.ntmps13
    go_wp2_with (go_at_call 43; refine (h _).mono ?_; rintro e w1 ⟨rfl, hB⟩; have HB := Aside0.mk hB; clear hB)
    go_ret
    exact ⟨rfl, (below_alloc (Below.refl _ _) _).trans (HB.out.mono (by simp))⟩
set_option maxRecDepth 100000 in
set_option maxHeartbeats 8000000 in
theorem rcheck_core (s : ShapeV) (w : World) (p1 p6 : Bool) (h1 : decide (s.sector ∈ [512, 1024, 2048, 4096]) = p1) (h6 : decide (s.normal ∈ [16, 32, 64, 128, 256, 512, 1024, 2048, 4096, 8192, 16384, 32768, 65536]) = p6) :
    Calls Tryz.prog 20 #[shV s] w fun e w' => e = .returned (.int .i64 (if checkL s = true then 0 else 41)) ∧ Below w.heap.size w w' := by
  obtain ⟨k0, hk0⟩ : ∃ k : Int, (if checkL s = true then 0 else 41) = k := ⟨_, rfl⟩
  rw [hk0]
  have HK := Aside0.mk hk0
  clear hk0
  have c1 := fun W => rpowerS_any s.sector W
  have c6 := fun W => rpowerN_any s.normal W
  rw [h1] at c1
  rw [h6] at c6
  have C1 := Aside0.mk c1
  have C6 := Aside0.mk c6
  have H1 := Aside0.mk h1
  have H6 := Aside0.mk h6
  clear c1 c6 h1 h6
  unfold shV shC
  go_enter Tryz.func20, Tryz.ntmps20
  go_wp2_with (first
    | (go_at_call 48; have HQ := Q1.out; refine (C6.out _).mono ?_; rintro e w1 ⟨rfl, rfl⟩; clear HQ)
    | (go_at_call 48; refine (C1.out _).mono ?_; rintro e w1 ⟨rfl, rfl⟩; have Q1 := Aside0.mk True.intro))
  all_goals
    go_ret
    refine ⟨?_, by first | exact below_alloc (below_alloc (Below.refl _ _) _) _ | exact below_alloc (Below.refl _ _) _⟩
    rw [← HK.out]
    first
      | (have hn : ¬ checkL s = true := by
           intro hc
           obtain ⟨a1, ⟨a2, a3, a4, a5, a6, a7, a8, a9⟩, b1, b2, b3, b4, b5, b6⟩ := (checkL_iff s).1 hc
           have e1 : p1 = true := by rw [← H1.out]; simpa using a1
           have e6 : p6 = true := by rw [← H6.out]; simpa using b1
           have w1 := wr1 (s := s) a2 a3
           have w2 := wr2 (s := s) (by omega) (by omega)
           have w3 := wr3 (s := s) a1 a6 a7
           first | omega | (exact absurd e1 (by assumption)) | (exact absurd e6 (by assumption))
         rw [if_neg hn]
         try rfl)
      | (have e1 : p1 = true := by assumption
         have e6 : p6 = true := by assumption
         have a1 := of_decide_eq_true (H1.out.trans e1)
         have b1 := of_decide_eq_true (H6.out.trans e6)
         simp only [List.mem_cons, List.not_mem_nil, or_false] at a1 b1
         have w1 := wr1 (s := s) (by omega) (by omega)
         have w2 := wr2 (s := s) (by omega) (by omega)
         have w3 := wr3 (s := s) a1 (by omega) (by omega)
         rw [if_pos ((checkL_iff s).2 ⟨a1, by omega, b1, by omega⟩)]
         try rfl)
theorem rcheck_any (s : ShapeV) (w : World) : Calls Tryz.prog 20 #[shV s] w fun e w' => e = .returned (.int .i64 (if checkL s = true then 0 else 41)) ∧ Below w.heap.size w w' :=
  rcheck_core s w _ _ rfl rfl
end Go.Proofs.YteglbmindbfkeaaGreatDoor.H
