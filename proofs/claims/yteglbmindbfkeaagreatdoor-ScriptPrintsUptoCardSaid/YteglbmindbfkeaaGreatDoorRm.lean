/- The reference's Number. -/
import Derived.Test.YteglbmindbfkeaaGreatDoorFo
import Derived.Test.YteglbmindbfkeaaGreatDoorQd
namespace Go.Proofs.YteglbmindbfkeaaGreatDoor.H
open Go.RowKit Go.Proofs.YteglbmindbfkeaaGreatDoorW.PrintWords
set_option linter.unusedVariables false
set_option linter.unusedSimpArgs false
theorem dec_step {m : Nat} (h : ¬ m < 10) : Lib.decDigits m = Lib.decDigits (m / 10) ++ [UInt8.ofNat (48 + m % 10)] := by rw [Lib.decDigits, dif_neg h]
theorem one_text (W : World) (z : Int) (i : Nat) (hz : z = 48 + (i : Int)) (h : i < 10) : (convert 45 9 (.slice (some ⟨W.heap.size, 0, none⟩) 1 1)).run Tryz.prog (W.alloc (.cells #[.int .u8 z] 5)) = .ok (.string (sB [UInt8.ofNat (48 + i)])) (W.alloc (.cells #[.int .u8 z] 5)) := by
  refine own_text (own_first W W.heap.size (Nat.le_refl _) _ [UInt8.ofNat (48 + i)] 1 ?_ rfl (by decide))
  subst hz
  have : (48 + i) % 256 = 48 + i := Nat.mod_eq_of_lt (by omega)
  simp [Lib.byteCells, this]
set_option maxRecDepth 100000 in
set_option maxHeartbeats 1000000 in
theorem rnumber_pos (n : Nat) (w : World) (h1 : n ≤ 9223372036854775807) : Calls Tryz.prog 23 #[.int .i64 (n : Int)] w fun e w' => e = .returned (.string (sB (Lib.decDigits n))) ∧ Below w.heap.size w w' := by
  have hneg : ¬ (n : Int) < 0 := by omega
  have hw : IntKind.u64.wrap (n : Int) = n := by rw [IntKind.wrap_u64]; omega
  go_enter Tryz.func23, Tryz.ntmps23
  go_wp2_with fail
  go_loopw [4, 5] (fun dv mv wr => ∃ (m : Nat) (d : Bs), dv = .string (sB d) ∧ mv = .int .u64 (m : Int) ∧ m ≤ 9223372036854775807 ∧ Aside0 (Lib.decDigits m ++ d = Lib.decDigits n) ∧ Aside0 (Below w.heap.size w wr)) (fun _ mv _ => (intOf mv).toNat)
  case atStart => exact ⟨n, [], rfl, rfl, h1, ⟨List.append_nil _⟩, ⟨Below.refl _ _⟩⟩
  case round =>
    obtain ⟨m, d, rfl, rfl, hm, HD, HB⟩ := hrel
    have hdl : (sB d).size ≤ 21 := by
      have h9 := congrArg List.length HD.out
      rw [List.length_append] at h9
      have h8 := Lib.itoa_length_le (n : Int) (by omega) (by omega)
      unfold Lib.itoa at h8
      rw [if_neg (by omega), Int.toNat_natCast] at h8
      rw [sB_size]
      omega
    by_cases hlt : (9 : Int) < m
    · have hcv := one_text wr (48 + (m : Int) % 10) (m % 10) (by omega) (by omega)
      obtain ⟨c, hc⟩ : ∃ c, UInt8.ofNat (48 + m % 10) = c := ⟨_, rfl⟩
      have hsz1 : (sB [c]).size = 1 := by rw [sB_size]; rfl
      rw [hc] at hcv
      have HC := Aside0.mk hc
      clear hc
      go_wp2
      refine ⟨⟨m / 10, c :: d, by rw [sB_app]; rfl, by simp, by omega, ⟨?_⟩, ⟨below_alloc HB.out _⟩⟩, ?_⟩
      · rw [← HD.out, dec_step (m := m) (by omega), HC.out, List.append_assoc]
        rfl
      · show ((m : Int) / 10).toNat < (m : Int).toNat
        omega
    · have hcv := one_text wr (48 + (m : Int)) m rfl (by omega)
      obtain ⟨c, hc⟩ : ∃ c, UInt8.ofNat (48 + m) = c := ⟨_, rfl⟩
      have hsz1 : (sB [c]).size = 1 := by rw [sB_size]; rfl
      rw [hc] at hcv
      have HC := Aside0.mk hc
      clear hc
      go_wp2
      refine bodyPost_ret (v := .string (⟨#[]⟩ ++ sB [c] ++ sB d)) (by simp [results, Tryz.f23, go_sem]) rfl ⟨?_, below_alloc HB.out _⟩
      rw [← HD.out, Lib.decDigits_one (by omega), HC.out, show (⟨#[]⟩ : ByteArray) = sB [] from rfl, sB_app, sB_app]
      rfl
set_option maxRecDepth 100000 in
set_option maxHeartbeats 1000000 in
theorem rnumber_neg (n : Nat) (w : World) (hn : 1 ≤ n) (h1 : n ≤ 9223372036854775808) : Calls Tryz.prog 23 #[.int .i64 (-(n : Int))] w fun e w' => e = .returned (.string (sB (45 :: Lib.decDigits n))) ∧ Below w.heap.size w w' := by
  have hneg : (-(n : Int)) < 0 := by omega
  have hw : IntKind.u64.wrap (-(n : Int)) = 18446744073709551616 - n := by rw [IntKind.wrap_u64]; omega
  have hw2 : IntKind.u64.wrap (-(18446744073709551616 - (n : Int))) = n := by rw [IntKind.wrap_u64]; omega
  obtain ⟨k, hk⟩ : ∃ k : Int, -(n : Int) = k := ⟨_, rfl⟩
  rw [hk] at hneg hw ⊢
  go_enter Tryz.func23, Tryz.ntmps23
  go_wp2_with fail
  go_loopw [4, 5] (fun dv mv wr => ∃ (m : Nat) (d : Bs), dv = .string (sB d) ∧ mv = .int .u64 (m : Int) ∧ m ≤ 9223372036854775808 ∧ Aside0 (Lib.decDigits m ++ d = Lib.decDigits n) ∧ Aside0 (Below w.heap.size w wr)) (fun _ mv _ => (intOf mv).toNat)
  case atStart => exact ⟨n, [], rfl, rfl, h1, ⟨List.append_nil _⟩, ⟨Below.refl _ _⟩⟩
  case round =>
    obtain ⟨m, d, rfl, rfl, hm, HD, HB⟩ := hrel
    have hdl : (sB d).size ≤ 21 := by
      have h9 := congrArg List.length HD.out
      rw [List.length_append] at h9
      have h8 := Lib.itoa_length_le (-(n : Int)) (by omega) (by omega)
      unfold Lib.itoa at h8
      rw [if_pos (by omega), Int.natAbs_neg, Int.natAbs_natCast, List.length_cons] at h8
      rw [sB_size]
      omega
    by_cases hlt : (9 : Int) < m
    · have hcv := one_text wr (48 + (m : Int) % 10) (m % 10) (by omega) (by omega)
      obtain ⟨c, hc⟩ : ∃ c, UInt8.ofNat (48 + m % 10) = c := ⟨_, rfl⟩
      have hsz1 : (sB [c]).size = 1 := by rw [sB_size]; rfl
      rw [hc] at hcv
      have HC := Aside0.mk hc
      clear hc
      go_wp2
      refine ⟨⟨m / 10, c :: d, by rw [sB_app]; rfl, by simp, by omega, ⟨?_⟩, ⟨below_alloc HB.out _⟩⟩, ?_⟩
      · rw [← HD.out, dec_step (m := m) (by omega), HC.out, List.append_assoc]
        rfl
      · show ((m : Int) / 10).toNat < (m : Int).toNat
        omega
    · have hcv := one_text wr (48 + (m : Int)) m rfl (by omega)
      obtain ⟨c, hc⟩ : ∃ c, UInt8.ofNat (48 + m) = c := ⟨_, rfl⟩
      have hsz1 : (sB [c]).size = 1 := by rw [sB_size]; rfl
      rw [hc] at hcv
      have HC := Aside0.mk hc
      clear hc
      go_wp2
      refine bodyPost_ret (v := .string (⟨#[45]⟩ ++ sB [c] ++ sB d)) (by simp [results, Tryz.f23, go_sem]) rfl ⟨?_, below_alloc HB.out _⟩
      rw [← HD.out, Lib.decDigits_one (by omega), HC.out, show (⟨#[45]⟩ : ByteArray) = sB [45] from rfl, sB_app, sB_app]
      rfl
theorem rnumber_any (k : Int) (w : World) (h0 : -9223372036854775808 ≤ k) (h1 : k ≤ 9223372036854775807) : Calls Tryz.prog 23 #[.int .i64 k] w fun e w' => e = .returned (.string (sB (Lib.itoa k))) ∧ Below w.heap.size w w' := by
  unfold Lib.itoa
  by_cases hk : k < 0
  · rw [if_pos hk]
    have := rnumber_neg k.natAbs w (by omega) (by omega)
    rw [show (-((k.natAbs : Nat) : Int)) = k by omega] at this
    exact this
  · rw [if_neg hk]
    have := rnumber_pos k.toNat w (by omega)
    rw [show ((k.toNat : Nat) : Int) = k by omega] at this
    exact this
end Go.Proofs.YteglbmindbfkeaaGreatDoor.H
