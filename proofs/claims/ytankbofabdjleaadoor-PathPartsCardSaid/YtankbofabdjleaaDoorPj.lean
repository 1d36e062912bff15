/- Paths: ContainsAny of ASCII bytes in any text. -/
import Derived.Test.YtankbofabdjleaaDoorPi
import Derived.Laws.Runes
import Derived.Laws.RangeAny
namespace Go.Proofs.YtankbofabdjleaaDoor.H
open Go.RowKit Go.Proofs.YtankbofabdjleaaDoorW.PrintWords Go.Proofs.YtankbofabdjleaaDoorW.PrintLast Go.Proofs.YtankbofabdjleaaDoorW.PrintMore
set_option linter.unusedVariables false
set_option linter.unusedSimpArgs false

theorem get_at' (s : ByteArray) (p : Nat) (h : p < s.size) : s.get! p = s[p]'h := get_at s p h
/-- What is read in one go of a byte beyond ASCII is all beyond ASCII. -/
theorem decode_run (s : ByteArray) (pos : Nat) (h : pos < s.size) (ha : 128 ≤ (s[pos]'h).toNat) :
    pos + (Utf8.decode s pos).2 ≤ s.size ∧ ∀ j, j < (Utf8.decode s pos).2 → 128 ≤ (s.get! (pos + j)).toNat := by
  have hn : ¬ (s.get! (pos + 0)).toNat < 128 := by rw [get_at s pos h]; omega
  have h0 : 128 ≤ (s.get! (pos + 0)).toNat := by omega
  unfold Utf8.decode
  simp only [hn, if_false]
  have one : pos + 1 ≤ s.size ∧ ∀ j, j < 1 → 128 ≤ (s.get! (pos + j)).toNat := ⟨by omega, fun j hj => by
    have e : j = 0 := by omega
    subst e
    exact h0⟩
  split
  · next h2 =>
    simp only [Bool.and_eq_true, decide_eq_true_eq, beq_iff_eq] at h2
    split
    · refine ⟨by omega, fun j hj => ?_⟩
      have : j = 0 ∨ j = 1 := by omega
      rcases this with rfl | rfl <;> omega
    · exact one
  split
  · next h2 =>
    simp only [Bool.and_eq_true, decide_eq_true_eq, beq_iff_eq] at h2
    split
    · refine ⟨by omega, fun j hj => ?_⟩
      have : j = 0 ∨ j = 1 ∨ j = 2 := by omega
      rcases this with rfl | rfl | rfl <;> omega
    · exact one
  split
  · next h2 =>
    simp only [Bool.and_eq_true, decide_eq_true_eq, beq_iff_eq] at h2
    split
    · refine ⟨by omega, fun j hj => ?_⟩
      have : j = 0 ∨ j = 1 ∨ j = 2 ∨ j = 3 := by omega
      rcases this with rfl | rfl | rfl | rfl <;> omega
    · exact one
  · exact one

theorem idx_empty (c : Int) (w : World) : Calls Tryd.prog 74 #[.string ByteArray.empty, .int .u8 c] w fun e w' => e = .returned (.int .i64 (-1)) ∧ w' = w :=
  (Tryd.strings_IndexByte ByteArray.empty c w)

set_option maxRecDepth 1000000 in
set_option maxHeartbeats 8000000 in
/-- A rune beyond ASCII is not in a text of two ASCII bytes. -/
theorem indexRune_high (s : ByteArray) (r : Int) (w : World) (h2 : s.size = 2) (hs : ∀ (j : Nat) (h : j < s.size), (s[j]'h).toNat < 128) (hr : 128 ≤ r) :
    Calls Tryd.prog 62 #[.string s, .int .i32 r] w fun e w' => e = .returned (.int .i64 (-1)) ∧ Below w.heap.size w w' := by
  have HS := Aside0.mk hs
  have r0 : (0 : Int) ≤ r := by omega
  have r1 : decide ((0 : Int) ≤ r) = true := decide_eq_true r0
  have r2 : decide (r < (128 : Int)) = false := decide_eq_false (by omega)
  have hu9 := Tryd.underlying9
  have hu21 : (Tryd.prog.underlying 21).isSome = true := by kernel_rfl
  by_cases hre : r = 65533
  · subst hre
    clear hs
    go_enter Tryd.func62, Tryd.ntmps62
    go_wp2
    go_loopg [5, 6] 2 (fun g _ _ wx => ∃ i : Nat, i + g = 2 ∧ wx = w.iter s i)
    case atStart => exact ⟨0, by omega, rfl⟩
    case round =>
      obtain ⟨i, hig, rfl⟩ := hrel
      cases gk with
      | zero =>
        have hi : ¬ i < s.size := by omega
        have hnx := fun ty => run_next_end (P := Tryd.prog) w s i ty hi
        go_wp2
        go_ret
        exact ⟨rfl, below_alloc (Below.refl _ w) (.stringIter s i)⟩
      | succ g =>
        have hi : i < s.size := by omega
        obtain ⟨x, hx⟩ : ∃ x : UInt8, s[i]'hi = x := ⟨_, rfl⟩
        have hx128 : x.toNat < 128 := by rw [← hx]; exact HS.out i hi
        have hnx := fun ty => run_next_ascii (P := Tryd.prog) w s i ty hi (by rw [hx]; exact hx128)
        rw [hx] at hnx
        have hne : ((x.toNat : Int) == 65533) = false := by simp; omega
        clear hx
        go_wp2
        go_roundg g
        case measure => omega
        case rel => exact ⟨i + 1, by omega, rfl⟩
  have re : (r == 65533) = false := by simpa using hre
  by_cases hv : Lib.validRune r = true
  · have hv2 : Utf8.valid r = true := by rw [validRune_eq]; exact hv
    obtain ⟨e1, e2, e3⟩ := encode_facts r hv2 hr
    obtain ⟨E, hE⟩ : ∃ E, Utf8.encode r = E := ⟨_, rfl⟩
    rw [hE] at e1 e2 e3
    have HV := Aside0.mk hv
    have HE := Aside0.mk hE
    have hsl : ((s.size : Nat) : Int) = 2 := by omega
    clear hE hv hv2 hs
    by_cases hn2 : E.size = 2
    · have hl : ((E.size : Nat) : Int) = 2 := by omega
      obtain ⟨z, hz⟩ : ∃ z : Int, ((E[1]'(by omega)).toNat : Int) = z := ⟨_, rfl⟩
      obtain ⟨y, hy⟩ : ∃ y : Int, ((s[1]'(by omega)).toNat : Int) = y := ⟨_, rfl⟩
      have hz1 : 128 ≤ z := by
        have := e3 (by omega)
        simp only [hn2] at this
        have h3 : ((E[1]'(by omega)).toNat : Int) = z := hz
        change 128 ≤ (E[1]'(by omega)).toNat at this
        omega
      have hy1 : y < 128 := by have := HS.out 1 (by omega); omega
      have hne : (y != z) = true := by simp; omega
      go_enter Tryd.func62, Tryd.ntmps62
      go_wp2_with (go_at_call 75; refine (Tryd.utf8_ValidRune r _).mono ?_; rintro e w1 ⟨rfl, hw1⟩; rw [hw1, HV.out]; clear hw1)
      have t21 := Tryd.underlying21
      have X := run_convert_int_string (P := Tryd.prog) w 21 9 .i32 r hu21 hu9
      rw [HE.out] at X
      go_step3
      go_wp2
      go_loopw [9, 10] (fun iv fv wr => iv = .int .i64 1 ∧ fv = .int .i64 0 ∧ wr = w) (fun _ _ _ => 0)
      case atStart => exact ⟨rfl, rfl, rfl⟩
      case round =>
        obtain ⟨rfl, rfl, rfl⟩ := hrel
        go_wp2
        repeat go_step3
        go_wp2
        go_quiet (fail)
        go_wp2
        have hle : (2 : Int) ≤ (s.size : Int) := by omega
        have hle2 : (2 : Nat) ≤ s.size := by omega
        have hw2 : IntKind.i64.wrap 2 = 2 := by decide
        have HB1 := Aside0.mk (pw_below_drewN (Below.refl wr.heap.size wr) nq)
        generalize wr.drewN nq = W at HB1 ⊢
        go_quiet ((go_at_call 74; exact Calls.quiet_of_same (idx_empty _ _)))
        go_wp2
        rw [Exit.noGoto_ret]
        simp only [Exit.inBlock, Exit.then]
        change Exit.noGoto _ Exit.ret _ _
        rw [Exit.noGoto_ret]
        simp only [Exit.inBlock, Exit.then]
        change Exit.noGoto _ Exit.ret _ _
        rw [Exit.noGoto_ret]
        go_ret
        exact ⟨rfl, pw_below_drewN HB1.out _⟩
    · have hl : wrap64 (((E.size : Nat) : Int) - 1) = (E.size : Int) - 1 := by unfold wrap64; omega
      have hl2 : IntKind.i64.wrap (((E.size : Nat) : Int) - 1) = (E.size : Int) - 1 := by rw [IntWalk.i64_left]; exact hl
      have hlt : decide ((E.size : Int) - 1 < (2 : Int)) = false := decide_eq_false (by omega)
      go_enter Tryd.func62, Tryd.ntmps62
      go_wp2_with (go_at_call 75; refine (Tryd.utf8_ValidRune r _).mono ?_; rintro e w1 ⟨rfl, hw1⟩; rw [hw1, HV.out]; clear hw1)
      have X := run_convert_int_string (P := Tryd.prog) w 21 9 .i32 r hu21 hu9
      rw [HE.out] at X
      go_step3
      go_wp2
      go_loopw [9, 10] (fun iv fv wr => iv = .int .i64 ((E.size : Int) - 1) ∧ fv = .int .i64 0 ∧ wr = w) (fun _ _ _ => 0)
      case atStart => exact ⟨rfl, rfl, rfl⟩
      case round =>
        obtain ⟨rfl, rfl, rfl⟩ := hrel
        go_wp2
        rw [Exit.noGoto_ret]
        go_ret
        exact ⟨rfl, Below.refl _ _⟩
  · have hv : Lib.validRune r = false := by simpa using hv
    have HV := Aside0.mk hv
    clear hv hs
    go_enter Tryd.func62, Tryd.ntmps62
    go_wp2_with (go_at_call 75; refine (Tryd.utf8_ValidRune r _).mono ?_; rintro e w1 ⟨rfl, hw1⟩; rw [hw1, HV.out]; clear hw1)
    go_ret
    exact ⟨rfl, Below.refl _ _⟩
end Go.Proofs.YtankbofabdjleaaDoor.H
