/- Unquote of the program; the reference's Quote, digit, as contracts. -/
import Derived.Test.YteglbmindbfkeaaDoorQb
namespace Go.Proofs.YteglbmindbfkeaaDoor.H
open Go.RowKit Go.Proofs.YteglbmindbfkeaaDoorW.PrintWords Go.Proofs.YteglbmindbfkeaaDoorW.PrintLast Go.Proofs.YteglbmindbfkeaaDoorW.PrintMore
set_option linter.unusedVariables false
set_option linter.unusedSimpArgs false

theorem empty_data (s : ByteArray) : s.toList.isEmpty = decide (s.data.toList = []) := by
  rw [Lib.toList_data]
  cases s.data.toList <;> simp
theorem empty_sB (l : Bs) : (sB l).toList.isEmpty = decide (l = []) := by rw [empty_data, sB_data]
/-- What Unquote answers. -/
def unqV (s : ByteArray) : Value := match unqL s.data.toList with
  | some b => .tuple #[.string (sB b), .bool true]
  | none => .tuple #[.string ⟨#[]⟩, .bool false]

set_option maxRecDepth 100000 in
set_option maxHeartbeats 2000000 in
theorem punquote_any (s : ByteArray) (w : World) (hs : s.size ≤ 34359738368) :
    Calls Tryd.prog 15 #[.string s] w fun e w' => e = .returned (unqV s) ∧ Below w.heap.size w w' := by
  have hT := ptake_any s w hs
  obtain ⟨V, hV⟩ : ∃ V, unqV s = V := ⟨_, rfl⟩
  rw [hV]
  unfold takeV at hT
  unfold unqV unqL at hV
  cases h : takeL s.data.toList with
  | none =>
    rw [h] at hT hV
    simp only at hT hV
    have HT := Aside0.mk hT
    have HV := Aside0.mk hV
    clear hT hV h
    go_enter Tryd.func15, Tryd.ntmps15
    go_wp2_with (go_at_call 31; refine HT.out.mono ?_; rintro e w1 ⟨rfl, hB⟩; have HB := Aside0.mk hB; clear hB)
    go_ret2
    exact ⟨by rw [← HV.out]; rfl, HB.out⟩
  | some p =>
    obtain ⟨b, r⟩ := p
    rw [h] at hT hV
    simp only at hT hV
    by_cases hr : r = []
    · subst hr
      rw [if_pos rfl] at hV
      simp only at hV
      have HT := Aside0.mk hT
      have HV := Aside0.mk hV
      have e1 : (sB ([] : Bs)).toList.isEmpty = true := by rw [empty_sB]; rfl
      obtain ⟨E, hE⟩ : ∃ E, sB ([] : Bs) = E := ⟨_, rfl⟩
      rw [hE] at HT e1
      clear hT hV h hE
      go_enter Tryd.func15, Tryd.ntmps15
      go_wp2_with (go_at_call 31; refine HT.out.mono ?_; rintro e w1 ⟨rfl, hB⟩; have HB := Aside0.mk hB; clear hB)
      go_ret2
      exact ⟨by rw [← HV.out]; rfl, HB.out⟩
    · rw [if_neg hr] at hV
      simp only at hV
      have HT := Aside0.mk hT
      have HV := Aside0.mk hV
      have e1 : (sB r).toList.isEmpty = false := by rw [empty_sB]; simp [hr]
      obtain ⟨E, hE⟩ : ∃ E, sB r = E := ⟨_, rfl⟩
      rw [hE] at HT e1
      clear hT hV h hE hr
      go_enter Tryd.func15, Tryd.ntmps15
      go_wp2_with (go_at_call 31; refine HT.out.mono ?_; rintro e w1 ⟨rfl, hB⟩; have HB := Aside0.mk hB; clear hB)
      go_ret2
      exact ⟨by rw [← HV.out]; rfl, HB.out⟩

set_option maxRecDepth 100000 in
set_option maxHeartbeats 1000000 in
theorem rdigit_any (c : UInt8) (w : World) :
    Calls Tryd.prog 38 #[.int .u8 c.toNat] w fun e w' => e = .returned (.int .i64 (hexI c)) ∧ w' = w := by
  have h8 := c.toNat_lt
  obtain ⟨n, hn⟩ : ∃ n : Nat, c.toNat = n := ⟨_, rfl⟩
  have hI : hexI c = if 48 ≤ n ∧ n ≤ 57 then (n : Int) - 48 else if 97 ≤ n ∧ n ≤ 102 then (n : Int) - 97 + 10 else -1 := by
    unfold hexI hexV
    rw [hn]
    by_cases h1 : 48 ≤ n ∧ n ≤ 57
    · rw [if_pos h1, if_pos h1]; simp only; omega
    · rw [if_neg h1, if_neg h1]
      by_cases h2 : 97 ≤ n ∧ n ≤ 102
      · rw [if_pos h2, if_pos h2]; simp only; omega
      · rw [if_neg h2, if_neg h2]
  rw [hI, hn]
  rw [hn] at h8
  clear hI hn
  by_cases h1 : 48 ≤ n ∧ n ≤ 57
  · rw [if_pos h1]
    have d1 : decide ((48 : Int) ≤ (n : Int)) = true := decide_eq_true (by omega)
    have d2 : decide ((n : Int) ≤ 57) = true := decide_eq_true (by omega)
    have e1 : ((n : Int) - 48) % 256 = (n : Int) - 48 := by omega
    go_enter Tryd.func38, Tryd.ntmps38
    go_wp2
    go_ret
    exact ⟨rfl, rfl⟩
  · rw [if_neg h1]
    by_cases h2 : 97 ≤ n ∧ n ≤ 102
    · rw [if_pos h2]
      have d1 : decide ((48 : Int) ≤ (n : Int)) = true := decide_eq_true (by omega)
      have d2 : decide ((n : Int) ≤ 57) = false := decide_eq_false (by omega)
      have d3 : decide ((97 : Int) ≤ (n : Int)) = true := decide_eq_true (by omega)
      have d4 : decide ((n : Int) ≤ 102) = true := decide_eq_true (by omega)
      have e1 : ((n : Int) - 97) % 256 = (n : Int) - 97 := by omega
      go_enter Tryd.func38, Tryd.ntmps38
      go_wp2
      go_ret
      exact ⟨rfl, rfl⟩
    · rw [if_neg h2]
      by_cases g1 : 48 ≤ n
      · have d1 : decide ((48 : Int) ≤ (n : Int)) = true := decide_eq_true (by omega)
        have d2 : decide ((n : Int) ≤ 57) = false := decide_eq_false (by omega)
        by_cases g2 : 97 ≤ n
        · have d3 : decide ((97 : Int) ≤ (n : Int)) = true := decide_eq_true (by omega)
          have d4 : decide ((n : Int) ≤ 102) = false := decide_eq_false (by omega)
          go_enter Tryd.func38, Tryd.ntmps38
          go_wp2
          go_ret
          exact ⟨rfl, rfl⟩
        · have d3 : decide ((97 : Int) ≤ (n : Int)) = false := decide_eq_false (by omega)
          go_enter Tryd.func38, Tryd.ntmps38
          go_wp2
          go_ret
          exact ⟨rfl, rfl⟩
      · have d1 : decide ((48 : Int) ≤ (n : Int)) = false := decide_eq_false (by omega)
        have d3 : decide ((97 : Int) ≤ (n : Int)) = false := decide_eq_false (by omega)
        go_enter Tryd.func38, Tryd.ntmps38
        go_wp2
        go_ret
        exact ⟨rfl, rfl⟩
end Go.Proofs.YteglbmindbfkeaaDoor.H
