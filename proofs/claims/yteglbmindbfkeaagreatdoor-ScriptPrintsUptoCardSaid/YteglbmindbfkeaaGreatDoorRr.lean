/- The reference's ReadNumber (under way). -/
import Derived.Test.YteglbmindbfkeaaGreatDoorRm
import Derived.Test.YteglbmindbfkeaaGreatDoorQe
import Derived.Test.YteglbmindbfkeaaGreatDoorPs
namespace Go.Proofs.YteglbmindbfkeaaGreatDoor.H
open Go.RowKit Go.Proofs.YteglbmindbfkeaaGreatDoorW.PrintWords
set_option linter.unusedVariables false
set_option linter.unusedSimpArgs false
/-- What ReadNumber answers. -/
def RdN (R : Option Int) (e : Ending) : Prop := ∃ (n : Int) (ok : Bool), e = .returned (.tuple #[.int .i64 n, .bool ok]) ∧ -1000000000000000000 < n ∧ n < 1000000000000000000 ∧ (ok = true → R = some n) ∧ (ok = false → R = none)
theorem RdN.neg {R : Option Int} {n : Int} {ok : Bool} (h1 : ok = true → R = some n) (h2 : ok = false → R = none) :
    ((ok && decide (0 < n)) = true → (R.bind fun n => if 0 < n then some (-n) else none) = some (-n)) ∧ ((ok && decide (0 < n)) = false → (R.bind fun n => if 0 < n then some (-n) else none) = none) := by
  cases ok with
  | true =>
    rw [h1 rfl]
    by_cases h : 0 < n <;> simp [h]
  | false =>
    rw [h2 rfl]
    simp
theorem sidx {l : Bs} {i : Nat} {c : UInt8} (h : l[i]? = some c) (z : Int) (hz : z = (i : Int)) (w : World) : (Instr.index 9 (.string (sB l)) (.int .i64 z)).run Tryz.prog w = .ok (.int .u8 (c.toNat : Int)) w := by
  subst hz
  obtain ⟨hi, hg⟩ := List.getElem?_eq_some_iff.1 h
  have hs : (sB l).size = l.length := sB_size l
  have hg2 : (sB l)[i]'(by rw [hs]; exact hi) = c := by rw [← hg]; simp [sB, ByteArray.getElem_eq_getElem_data]
  have hi2 : i < (sB l).size := by rw [hs]; exact hi
  simp [Instr.index, run_underlying Tryz.underlying9, asIntOf, hi2, hg2]
set_option maxRecDepth 100000 in
set_option maxHeartbeats 2000000 in
theorem rread_digits (l : Bs) (w : World) (h1 : 1 ≤ l.length) (h2 : l.length ≤ 18) (c : UInt8) (hc : l[0]? = some c) (h45 : ¬ (1 < l.length ∧ c = 45)) (h48 : ¬ (1 < l.length ∧ c = 48)) :
    Calls Tryz.prog 77 #[.string (sB l)] w fun e w' => RdN ((valD 0 l).map fun n : Nat => (n : Int)) e ∧ w' = w := by
  have hz := sB_size l
  have hx0 := fun W => sidx hc 0 rfl W
  have hpos : 0 < (sB l).size := by omega
  by_cases h11 : 1 < l.length
  · have e45 : ¬ ((c.toNat : Int) = 45) := fun e => h45 ⟨h11, UInt8.toNat_inj.1 (by simpa using Int.ofNat_inj.1 e)⟩
    have e48 : ¬ ((c.toNat : Int) = 48) := fun e => h48 ⟨h11, UInt8.toNat_inj.1 (by simpa using Int.ofNat_inj.1 e)⟩
    have f45 : ((c.toNat : Int) == 45) = false := by simpa using e45
    have f48 : ((c.toNat : Int) == 48) = false := by simpa using e48
    go_enter Tryz.func77, Tryz.ntmps77
    go_wp2_with fail
    go_loopw [6, 7] (fun nv iv wr => ∃ (i acc : Nat), nv = .int .i64 (acc : Int) ∧ iv = .int .i64 (i : Int) ∧ i ≤ l.length ∧ acc < 10 ^ i ∧ Aside0 (valD acc (l.drop i) = valD 0 l) ∧ wr = w) (fun _ iv _ => (l.length - intOf iv).toNat)
    case atStart => exact ⟨0, 0, rfl, rfl, Nat.zero_le _, by simp, ⟨rfl⟩, rfl⟩
    case round =>
      obtain ⟨i, acc, rfl, rfl, hi, hacc, HV, rfl⟩ := hrel
      by_cases hlt : i < l.length
      · obtain ⟨d, hd⟩ : ∃ d, l[i]? = some d := ⟨_, List.getElem?_eq_getElem hlt⟩
        have hdr : l.drop i = d :: l.drop (i + 1) := by
          obtain ⟨q1, q2⟩ := List.getElem?_eq_some_iff.1 hd
          rw [List.drop_eq_getElem_cons q1, q2]
        have hV := HV.out
        rw [hdr, valD] at hV
        have hx := fun W => sidx hd i rfl W
        have hil : i < (sB l).size := by omega
        have hp : 10 ^ (i + 1) = 10 * 10 ^ i := by rw [Nat.pow_succ, Nat.mul_comm]
        have hb18 : (10 : Nat) ^ i ≤ 10 ^ 17 := Nat.pow_le_pow_right (by omega) (by omega)
        by_cases hlo : (d.toNat : Int) < 48
        · rw [if_neg (by omega)] at hV
          go_wp2
          refine bodyPost_ret (v := .tuple #[.int .i64 0, .bool false]) (by simp [results, Tryz.f77, go_sem]) rfl ⟨⟨0, false, rfl, by decide, by decide, (fun h => by cases h), fun _ => by rw [← hV]; rfl⟩, rfl⟩
        · by_cases hhi : (57 : Int) < d.toNat
          · rw [if_neg (by omega)] at hV
            go_wp2
            refine bodyPost_ret (v := .tuple #[.int .i64 0, .bool false]) (by simp [results, Tryz.f77, go_sem]) rfl ⟨⟨0, false, rfl, by decide, by decide, (fun h => by cases h), fun _ => by rw [← hV]; rfl⟩, rfl⟩
          · rw [if_pos (by omega)] at hV
            go_wp2
            refine ⟨⟨i + 1, 10 * acc + (d.toNat - 48), ?_, by simp, hlt, by omega, ⟨hV⟩, trivial⟩, ?_⟩
            · congr 1
              omega
            · show ((l.length : Int) - ((i : Int) + 1)).toNat < ((l.length : Int) - (i : Int)).toNat
              omega
      · have hie : i = l.length := by omega
        have hV := HV.out
        rw [hie, List.drop_length, valD] at hV
        have HV2 := Aside0.mk hV
        have hb18 : (10 : Nat) ^ i ≤ 10 ^ 18 := Nat.pow_le_pow_right (by omega) (by omega)
        clear hie hV
        go_wp2
        refine bodyPost_ret (v := .tuple #[.int .i64 acc, .bool true]) (by simp [results, Tryz.f77, go_sem]) rfl ⟨⟨acc, true, rfl, by omega, by omega, fun _ => by rw [← HV2.out]; rfl, (fun h => by cases h)⟩, rfl⟩
  · have h1e : l.length = 1 := by omega
    clear h45 h48
    go_enter Tryz.func77, Tryz.ntmps77
    go_wp2_with fail
    go_loopw [6, 7] (fun nv iv wr => ∃ (i acc : Nat), nv = .int .i64 (acc : Int) ∧ iv = .int .i64 (i : Int) ∧ i ≤ l.length ∧ acc < 10 ^ i ∧ Aside0 (valD acc (l.drop i) = valD 0 l) ∧ wr = w) (fun _ iv _ => (l.length - intOf iv).toNat)
    case atStart => exact ⟨0, 0, rfl, rfl, Nat.zero_le _, by simp, ⟨rfl⟩, rfl⟩
    case round =>
      obtain ⟨i, acc, rfl, rfl, hi, hacc, HV, rfl⟩ := hrel
      by_cases hlt : i < l.length
      · obtain ⟨d, hd⟩ : ∃ d, l[i]? = some d := ⟨_, List.getElem?_eq_getElem hlt⟩
        have hdr : l.drop i = d :: l.drop (i + 1) := by
          obtain ⟨q1, q2⟩ := List.getElem?_eq_some_iff.1 hd
          rw [List.drop_eq_getElem_cons q1, q2]
        have hV := HV.out
        rw [hdr, valD] at hV
        have hx := fun W => sidx hd i rfl W
        have hil : i < (sB l).size := by omega
        have hp : 10 ^ (i + 1) = 10 * 10 ^ i := by rw [Nat.pow_succ, Nat.mul_comm]
        have hb18 : (10 : Nat) ^ i ≤ 10 ^ 17 := Nat.pow_le_pow_right (by omega) (by omega)
        by_cases hlo : (d.toNat : Int) < 48
        · rw [if_neg (by omega)] at hV
          go_wp2
          refine bodyPost_ret (v := .tuple #[.int .i64 0, .bool false]) (by simp [results, Tryz.f77, go_sem]) rfl ⟨⟨0, false, rfl, by decide, by decide, (fun h => by cases h), fun _ => by rw [← hV]; rfl⟩, rfl⟩
        · by_cases hhi : (57 : Int) < d.toNat
          · rw [if_neg (by omega)] at hV
            go_wp2
            refine bodyPost_ret (v := .tuple #[.int .i64 0, .bool false]) (by simp [results, Tryz.f77, go_sem]) rfl ⟨⟨0, false, rfl, by decide, by decide, (fun h => by cases h), fun _ => by rw [← hV]; rfl⟩, rfl⟩
          · rw [if_pos (by omega)] at hV
            go_wp2
            refine ⟨⟨i + 1, 10 * acc + (d.toNat - 48), ?_, by simp, hlt, by omega, ⟨hV⟩, trivial⟩, ?_⟩
            · congr 1
              omega
            · show ((l.length : Int) - ((i : Int) + 1)).toNat < ((l.length : Int) - (i : Int)).toNat
              omega
      · have hie : i = l.length := by omega
        have hV := HV.out
        rw [hie, List.drop_length, valD] at hV
        have HV2 := Aside0.mk hV
        have hb18 : (10 : Nat) ^ i ≤ 10 ^ 18 := Nat.pow_le_pow_right (by omega) (by omega)
        clear hie hV
        go_wp2
        refine bodyPost_ret (v := .tuple #[.int .i64 acc, .bool true]) (by simp [results, Tryz.f77, go_sem]) rfl ⟨⟨acc, true, rfl, by omega, by omega, fun _ => by rw [← HV2.out]; rfl, (fun h => by cases h)⟩, rfl⟩
end Go.Proofs.YteglbmindbfkeaaGreatDoor.H
