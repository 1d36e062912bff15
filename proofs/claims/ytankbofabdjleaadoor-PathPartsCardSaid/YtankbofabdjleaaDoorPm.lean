/- Paths: Name of both as contracts. -/
import Derived.Test.YtankbofabdjleaaDoorPk
namespace Go.Proofs.YtankbofabdjleaaDoor.H
open Go.RowKit Go.Proofs.YtankbofabdjleaaDoorW.PrintWords Go.Proofs.YtankbofabdjleaaDoorW.PrintLast Go.Proofs.YtankbofabdjleaaDoorW.PrintMore
set_option linter.unusedVariables false
set_option linter.unusedSimpArgs false

theorem containsAny_two (l : Bs) : Lib.containsAny l [47, 0] = (hasB 47 l || hasB 0 l) := by
  unfold hasB
  induction l with
  | nil => rfl
  | cons b r ih =>
    have hg := Lib.indexAny_ge [47, 0] r
    unfold Lib.containsAny at ih ⊢
    rw [Lib.indexAny]
    by_cases h1 : b = 47
    · subst h1; simp
    · by_cases h2 : b = 0
      · subst h2; simp
      · have hc : ([47, 0] : List UInt8).contains b = false := by
          rw [← Bool.not_eq_true, List.contains_iff_mem]
          simp [h1, h2]
        rw [hc]
        have e1 : (decide ((47 : UInt8) ∈ b :: r)) = decide ((47 : UInt8) ∈ r) := by
          rw [decide_eq_decide]; simp [Ne.symm h1]
        have e2 : (decide ((0 : UInt8) ∈ b :: r)) = decide ((0 : UInt8) ∈ r) := by
          rw [decide_eq_decide]; simp [Ne.symm h2]
        rw [e1, e2, ← ih]
        by_cases h3 : Lib.indexAny r [47, 0] = -1
        · simp [h3]
        · have : (Lib.indexAny r [47, 0] == -1) = false := by simpa using h3
          simp only [this, Bool.false_eq_true, if_false]
          rw [decide_eq_decide]
          omega
/-- Name's answer. -/
def nameE (l : Bs) : Int := if l = [] ∨ l = [46] ∨ l = [46, 46] ∨ 47 ∈ l ∨ 0 ∈ l then 236 else if 32 < l.length then 241 else 0
theorem nameE_bad {l : Bs} (h : l = [] ∨ l = [46] ∨ l = [46, 46] ∨ 47 ∈ l ∨ 0 ∈ l) : nameE l = 236 := if_pos h
theorem nameE_any (l : Bs) {b1 b2 b3 b4 : Bool} (h1 : decide (l = []) = b1) (h2 : decide (l = [46]) = b2) (h3 : decide (l = [46, 46]) = b3) (h4 : (hasB 47 l || hasB 0 l) = b4) : nameE l = if b1 || b2 || b3 || b4 then 236 else if 32 < l.length then 241 else 0 := by
  unfold nameE
  have : (l = [] ∨ l = [46] ∨ l = [46, 46] ∨ 47 ∈ l ∨ 0 ∈ l) ↔ (b1 || b2 || b3 || b4) = true := by
    rw [← h1, ← h2, ← h3, ← h4]
    unfold hasB
    simp [or_assoc]
  by_cases hh : (b1 || b2 || b3 || b4) = true
  · rw [if_pos hh, if_pos (this.2 hh)]
  · rw [if_neg hh, if_neg (fun h => hh (this.1 h))]

set_option maxRecDepth 100000 in
set_option maxHeartbeats 4000000 in
theorem pname_any (s : ByteArray) (w : World) (hs : s.size ≤ 9223372036854775807) :
    Calls Tryd.prog 26 #[.string s] w fun e w' => e = .returned (.int .i64 (nameE s.data.toList)) ∧ Below w.heap.size w w' := by
  have hT := Lib.toList_data s
  have f1 : s.toList.isEmpty = decide (s.data.toList = []) := empty_data s
  have f2 : (s.toList == [46]) = decide (s.data.toList = [46]) := by rw [hT]; exact beq_dec _ _
  have f3 : (s.toList == [46, 46]) = decide (s.data.toList = [46, 46]) := by rw [hT]; exact beq_dec _ _
  have hC := fun W => containsAny_any s ⟨#[47, 0]⟩ W rfl hs (fun j hj => by
    have : j = 0 ∨ j = 1 := by change j < 2 at hj; omega
    rcases this with rfl | rfl
    · show (47 : UInt8).toNat < 128; decide
    · show (0 : UInt8).toNat < 128; decide)
  have hll := data_length s
  obtain ⟨l, hl⟩ : ∃ l, s.data.toList = l := ⟨_, rfl⟩
  rw [hl] at hC f1 f2 f3 hll ⊢
  rw [show (ByteArray.mk #[47, 0]).data.toList = [47, 0] from rfl, containsAny_two] at hC
  obtain ⟨b1, hb1⟩ : ∃ b, decide (l = []) = b := ⟨_, rfl⟩
  obtain ⟨b2, hb2⟩ : ∃ b, decide (l = [46]) = b := ⟨_, rfl⟩
  obtain ⟨b3, hb3⟩ : ∃ b, decide (l = [46, 46]) = b := ⟨_, rfl⟩
  obtain ⟨b4, hb4⟩ : ∃ b, (hasB 47 l || hasB 0 l) = b := ⟨_, rfl⟩
  rw [nameE_any l hb1 hb2 hb3 hb4, hll]
  rw [hb1] at f1
  rw [hb2] at f2
  rw [hb3] at f3
  rw [hb4] at hC
  have HC := Aside0.mk hC
  clear hC hb1 hb2 hb3 hb4 hl hT hll
  obtain ⟨E, hE⟩ : ∃ E : Int, (if b1 || b2 || b3 || b4 then 236 else if 32 < s.size then 241 else 0 : Int) = E := ⟨_, rfl⟩
  rw [hE]
  cases b1 with
  | true =>
    obtain rfl : 236 = E := hE
    go_enter Tryd.func26, Tryd.ntmps26
    go_wp2
    go_ret
    exact ⟨rfl, Below.refl _ _⟩
  | false =>
  cases b2 with
  | true =>
    obtain rfl : 236 = E := hE
    go_enter Tryd.func26, Tryd.ntmps26
    go_wp2
    go_ret
    exact ⟨rfl, Below.refl _ _⟩
  | false =>
  cases b3 with
  | true =>
    obtain rfl : 236 = E := hE
    go_enter Tryd.func26, Tryd.ntmps26
    go_wp2
    go_ret
    exact ⟨rfl, Below.refl _ _⟩
  | false =>
  cases b4 with
  | true =>
    obtain rfl : 236 = E := hE
    go_enter Tryd.func26, Tryd.ntmps26
    go_wp2_with (go_at_call 37; refine (HC.out _).mono ?_; rintro e w1 ⟨rfl, hw1⟩; have HB1 := Aside0.mk hw1; clear hw1)
    go_ret
    exact ⟨rfl, HB1.out⟩
  | false =>
  by_cases hlong : 32 < s.size
  · have l1 : decide ((32 : Int) < (s.size : Int)) = true := decide_eq_true (by omega)
    obtain rfl : 241 = E := by rw [← hE]; simp [hlong]
    clear hE
    go_enter Tryd.func26, Tryd.ntmps26
    go_wp2_with (go_at_call 37; refine (HC.out _).mono ?_; rintro e w1 ⟨rfl, hw1⟩; have HB1 := Aside0.mk hw1; clear hw1)
    go_ret
    exact ⟨rfl, HB1.out⟩
  · have l1 : decide ((32 : Int) < (s.size : Int)) = false := decide_eq_false (by omega)
    obtain rfl : 0 = E := by rw [← hE]; simp [hlong]
    clear hE
    go_enter Tryd.func26, Tryd.ntmps26
    go_wp2_with (go_at_call 37; refine (HC.out _).mono ?_; rintro e w1 ⟨rfl, hw1⟩; have HB1 := Aside0.mk hw1; clear hw1)
    go_ret
    exact ⟨rfl, HB1.out⟩

set_option maxRecDepth 100000 in
set_option maxHeartbeats 4000000 in
theorem rname_any (s : ByteArray) (w : World) (hs : s.size ≤ 9223372036854775807) :
    Calls Tryd.prog 15 #[.string s] w fun e w' => e = .returned (.int .i64 (nameE s.data.toList)) ∧ w' = w := by
  have hT := Lib.toList_data s
  have f1 : s.toList.isEmpty = decide (s.data.toList = []) := empty_data s
  have f2 : (s.toList == [46]) = decide (s.data.toList = [46]) := by rw [hT]; exact beq_dec _ _
  have f3 : (s.toList == [46, 46]) = decide (s.data.toList = [46, 46]) := by rw [hT]; exact beq_dec _ _
  have hC := fun W => has_any s 47 47 rfl W hs
  have hD := fun W => has_any s 0 0 rfl W hs
  have hll := data_length s
  obtain ⟨l, hl⟩ : ∃ l, s.data.toList = l := ⟨_, rfl⟩
  rw [hl] at hC hD f1 f2 f3 hll ⊢
  obtain ⟨b1, hb1⟩ : ∃ b, decide (l = []) = b := ⟨_, rfl⟩
  obtain ⟨b2, hb2⟩ : ∃ b, decide (l = [46]) = b := ⟨_, rfl⟩
  obtain ⟨b3, hb3⟩ : ∃ b, decide (l = [46, 46]) = b := ⟨_, rfl⟩
  obtain ⟨b4, hb4⟩ : ∃ b, hasB 47 l = b := ⟨_, rfl⟩
  obtain ⟨b5, hb5⟩ : ∃ b, hasB 0 l = b := ⟨_, rfl⟩
  rw [nameE_any l hb1 hb2 hb3 (by rw [hb4, hb5]), hll]
  rw [hb1] at f1
  rw [hb2] at f2
  rw [hb3] at f3
  rw [hb4] at hC
  rw [hb5] at hD
  have HC := Aside0.mk (show ∀ (W : World) (v : Int), (v = 47 ∨ v = 0) → Calls Tryd.prog 27 #[.string s, .int .u8 v] W fun e w' => e = .returned (.bool (if v = 47 then b4 else b5)) ∧ w' = W from fun W v hv => by
    rcases hv with rfl | rfl
    · exact hC W
    · exact hD W)
  clear hC hD hb1 hb2 hb3 hb4 hb5 hl hT hll
  obtain ⟨E, hE⟩ : ∃ E : Int, (if b1 || b2 || b3 || (b4 || b5) then 236 else if 32 < s.size then 241 else 0 : Int) = E := ⟨_, rfl⟩
  rw [hE]
  cases b1 with
  | true =>
    obtain rfl : 236 = E := hE
    go_enter Tryd.func15, Tryd.ntmps15
    go_wp2
    go_ret
    exact ⟨rfl, rfl⟩
  | false =>
  cases b2 with
  | true =>
    obtain rfl : 236 = E := hE
    go_enter Tryd.func15, Tryd.ntmps15
    go_wp2
    go_ret
    exact ⟨rfl, rfl⟩
  | false =>
  cases b3 with
  | true =>
    obtain rfl : 236 = E := hE
    go_enter Tryd.func15, Tryd.ntmps15
    go_wp2
    go_ret
    exact ⟨rfl, rfl⟩
  | false =>
  cases b4 with
  | true =>
    obtain rfl : 236 = E := hE
    go_enter Tryd.func15, Tryd.ntmps15
    go_wp2_with (go_at_call 27; refine (HC.out _ _ (by decide)).mono ?_; rintro e w1 ⟨rfl, hw1⟩; rw [hw1]; (first | rw [if_pos (rfl : (47 : Int) = 47)] | rw [if_neg (by decide : ¬ (0 : Int) = 47)]); clear hw1)
    go_ret
    exact ⟨rfl, rfl⟩
  | false =>
  cases b5 with
  | true =>
    obtain rfl : 236 = E := hE
    go_enter Tryd.func15, Tryd.ntmps15
    go_wp2_with (go_at_call 27; refine (HC.out _ _ (by decide)).mono ?_; rintro e w1 ⟨rfl, hw1⟩; rw [hw1]; (first | rw [if_pos (rfl : (47 : Int) = 47)] | rw [if_neg (by decide : ¬ (0 : Int) = 47)]); clear hw1)
    go_ret
    exact ⟨rfl, rfl⟩
  | false =>
  by_cases hlong : 32 < s.size
  · have l1 : decide ((32 : Int) < (s.size : Int)) = true := decide_eq_true (by omega)
    obtain rfl : 241 = E := by rw [← hE]; simp [hlong]
    clear hE
    go_enter Tryd.func15, Tryd.ntmps15
    go_wp2_with (go_at_call 27; refine (HC.out _ _ (by decide)).mono ?_; rintro e w1 ⟨rfl, hw1⟩; rw [hw1]; (first | rw [if_pos (rfl : (47 : Int) = 47)] | rw [if_neg (by decide : ¬ (0 : Int) = 47)]); clear hw1)
    go_ret
    exact ⟨rfl, rfl⟩
  · have l1 : decide ((32 : Int) < (s.size : Int)) = false := decide_eq_false (by omega)
    obtain rfl : 0 = E := by rw [← hE]; simp [hlong]
    clear hE
    go_enter Tryd.func15, Tryd.ntmps15
    go_wp2_with (go_at_call 27; refine (HC.out _ _ (by decide)).mono ?_; rintro e w1 ⟨rfl, hw1⟩; rw [hw1]; (first | rw [if_pos (rfl : (47 : Int) = 47)] | rw [if_neg (by decide : ¬ (0 : Int) = 47)]); clear hw1)
    go_ret
    exact ⟨rfl, rfl⟩
end Go.Proofs.YtankbofabdjleaaDoor.H
