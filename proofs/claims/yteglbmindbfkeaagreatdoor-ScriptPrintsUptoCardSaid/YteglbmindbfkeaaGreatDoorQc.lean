/- Unquote of the program; the reference's Quote, digit, as contracts. -/
import Derived.Test.YteglbmindbfkeaaGreatDoorQb
namespace Go.Proofs.YteglbmindbfkeaaGreatDoor.H
open Go.RowKit Go.Proofs.YteglbmindbfkeaaGreatDoorW.PrintWords
set_option linter.unusedVariables false
set_option linter.unusedSimpArgs false

theorem empty_data (s : ByteArray) : s.toList.isEmpty = decide (s.data.toList = []) := by
  rw [Lib.toList_data]
  cases s.data.toList <;> simp
theorem empty_sB (l : Bs) : (sB l).toList.isEmpty = decide (l = []) := by rw [empty_data, sB_data]
/-- What Unquote answers. -/
def unqV (s : ByteArray) : Value := match unqL s.data.toList with
  | some b => .tuple #[.string (sB b), .bool true]
  | none => .tuple #[.string ⟨#[]⟩, .bool false]

set_option maxRecDepth 100000 in
set_option maxHeartbeats 1000000 in
theorem rdigit_any (c : UInt8) (w : World) :
    Calls Tryz.prog 100 #[.int .u8 c.toNat] w fun e w' => e = .returned (.int .i64 (hexI c)) ∧ w' = w := by
  have h8 := c.toNat_lt
  obtain ⟨n, hn⟩ : ∃ n : Nat, c.toNat = n := ⟨_, rfl⟩
  have hI : hexI c = if 48 ≤ n ∧ n ≤ 57 then (n : Int) - 48 else if 97 ≤ n ∧ n ≤ 102 then (n : Int) - 97 + 10 else -1 := by
    unfold hexI hexV
    rw [hn]
    by_cases h1 : 48 ≤ n ∧ n ≤ 57
    · rw [if_pos h1, if_pos h1]; simp only; omega
    · rw [if_neg h1, if_neg h1]
      by_cases h2 : 97 ≤ n ∧ n ≤ 102
      · rw [if_pos h2, if_pos h2]; simp only; omega
      · rw [if_neg h2, if_neg h2]
  rw [hI, hn]
  rw [hn] at h8
  clear hI hn
  by_cases h1 : 48 ≤ n ∧ n ≤ 57
  · rw [if_pos h1]
    have d1 : decide ((48 : Int) ≤ (n : Int)) = true := decide_eq_true (by omega)
    have d2 : decide ((n : Int) ≤ 57) = true := decide_eq_true (by omega)
    have e1 : ((n : Int) - 48) % 256 = (n : Int) - 48 := by omega
    go_enter Tryz.func100, Tryz.ntmps100
    go_wp2
    go_ret
    exact ⟨rfl, rfl⟩
  · rw [if_neg h1]
    by_cases h2 : 97 ≤ n ∧ n ≤ 102
    · rw [if_pos h2]
      have d1 : decide ((48 : Int) ≤ (n : Int)) = true := decide_eq_true (by omega)
      have d2 : decide ((n : Int) ≤ 57) = false := decide_eq_false (by omega)
      have d3 : decide ((97 : Int) ≤ (n : Int)) = true := decide_eq_true (by omega)
      have d4 : decide ((n : Int) ≤ 102) = true := decide_eq_true (by omega)
      have e1 : ((n : Int) - 97) % 256 = (n : Int) - 97 := by omega
      go_enter Tryz.func100, Tryz.ntmps100
      go_wp2
      go_ret
      exact ⟨rfl, rfl⟩
    · rw [if_neg h2]
      by_cases g1 : 48 ≤ n
      · have d1 : decide ((48 : Int) ≤ (n : Int)) = true := decide_eq_true (by omega)
        have d2 : decide ((n : Int) ≤ 57) = false := decide_eq_false (by omega)
        by_cases g2 : 97 ≤ n
        · have d3 : decide ((97 : Int) ≤ (n : Int)) = true := decide_eq_true (by omega)
          have d4 : decide ((n : Int) ≤ 102) = false := decide_eq_false (by omega)
          go_enter Tryz.func100, Tryz.ntmps100
          go_wp2
          go_ret
          exact ⟨rfl, rfl⟩
        · have d3 : decide ((97 : Int) ≤ (n : Int)) = false := decide_eq_false (by omega)
          go_enter Tryz.func100, Tryz.ntmps100
          go_wp2
          go_ret
          exact ⟨rfl, rfl⟩
      · have d1 : decide ((48 : Int) ≤ (n : Int)) = false := decide_eq_false (by omega)
        have d3 : decide ((97 : Int) ≤ (n : Int)) = false := decide_eq_false (by omega)
        go_enter Tryz.func100, Tryz.ntmps100
        go_wp2
        go_ret
        exact ⟨rfl, rfl⟩
end Go.Proofs.YteglbmindbfkeaaGreatDoor.H
