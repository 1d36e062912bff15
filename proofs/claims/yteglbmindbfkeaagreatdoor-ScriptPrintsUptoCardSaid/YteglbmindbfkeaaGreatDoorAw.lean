/- awake answers true. -/
import Derived.Test.YteglbmindbfkeaaGreatDoorPs
namespace Go.Proofs.YteglbmindbfkeaaGreatDoor.H
open Go.RowKit Go.Proofs.YteglbmindbfkeaaGreatDoorW.PrintWords
set_option linter.unusedVariables false
set_option linter.unusedSimpArgs false

theorem parse_a : parseL [119, 114, 105, 116, 101, 32, 48, 32, 53, 32, 34, 97, 98, 34] = some { kind := 4, offset := 5, data := [97, 98] } := by decide +kernel
theorem parse_b : parseL [99, 108, 111, 115, 101, 32, 48, 49] = none := by decide +kernel
theorem print_a : printL { kind := 3, offset := -1, n := 9 } = some [114, 101, 97, 100, 32, 48, 32, 45, 49, 32, 57] := by decide +kernel
def opA : OpV := { kind := 4, offset := 5, data := [97, 98] }
theorem opA_cells {w : World} {b : Nat} (h : OpAt w b opA) : w.cell? ⟨b, 0, none⟩ = some (.int .i64 4) ∧ w.cell? ⟨b, 1, none⟩ = some (.string ⟨#[]⟩) ∧ w.cell? ⟨b, 2, none⟩ = some (.string ⟨#[]⟩) ∧ w.cell? ⟨b, 3, none⟩ = some (.int .i64 0) ∧ w.cell? ⟨b, 4, none⟩ = some (.int .i64 5) ∧ w.cell? ⟨b, 5, none⟩ = some (.int .i64 0) ∧ w.cell? ⟨b, 6, none⟩ = some (.int .i64 0) ∧ w.cell? ⟨b, 7, none⟩ = some (.string ⟨#[97, 98]⟩) := h.cells
set_option maxRecDepth 100000 in
theorem parse_a_any (w : World) (hE : Env w) : Calls Tryz.prog 11 #[.string ⟨#[119, 114, 105, 116, 101, 32, 48, 32, 53, 32, 34, 97, 98, 34]⟩] w fun e w' => e = .returned (.tuple #[.agg #[.int .i64 4, .string ⟨#[]⟩, .string ⟨#[]⟩, .int .i64 0, .int .i64 5, .int .i64 0, .int .i64 0, .string ⟨#[97, 98]⟩], .int .i64 0]) ∧ Below w.heap.size w w' := by
  have := pparse_any ⟨#[119, 114, 105, 116, 101, 32, 48, 32, 53, 32, 34, 97, 98, 34]⟩ w hE (by decide)
  rw [show (ByteArray.data ⟨#[119, 114, 105, 116, 101, 32, 48, 32, 53, 32, 34, 97, 98, 34]⟩).toList = [119, 114, 105, 116, 101, 32, 48, 32, 53, 32, 34, 97, 98, 34] from rfl, parse_a] at this
  exact this
set_option maxRecDepth 100000 in
theorem parse_b_any (w : World) (hE : Env w) : Calls Tryz.prog 11 #[.string ⟨#[99, 108, 111, 115, 101, 32, 48, 49]⟩] w fun e w' => e = .returned (.tuple #[.agg #[.int .i64 0, .string ⟨#[]⟩, .string ⟨#[]⟩, .int .i64 0, .int .i64 0, .int .i64 0, .int .i64 0, .string ⟨#[]⟩], .int .i64 260]) ∧ Below w.heap.size w w' := by
  have := pparse_any ⟨#[99, 108, 111, 115, 101, 32, 48, 49]⟩ w hE (by decide)
  rw [show (ByteArray.data ⟨#[99, 108, 111, 115, 101, 32, 48, 49]⟩).toList = [99, 108, 111, 115, 101, 32, 48, 49] from rfl, parse_b] at this
  exact this
set_option maxRecDepth 100000 in
theorem print_a_any (w : World) (hE : Env w) : Calls Tryz.prog 12 #[.agg #[.int .i64 3, .string ⟨#[]⟩, .string ⟨#[]⟩, .int .i64 0, .int .i64 (-1), .int .i64 9, .int .i64 0, .string ⟨#[]⟩]] w fun e w' => e = .returned (.tuple #[.string ⟨#[114, 101, 97, 100, 32, 48, 32, 45, 49, 32, 57]⟩, .int .i64 0]) ∧ Below w.heap.size w w' := by
  have := pprint_any { kind := 3, offset := -1, n := 9 } w hE ⟨by decide, fun f => by cases f <;> decide, fun f => by cases f <;> decide⟩
  unfold printV at this
  rw [print_a] at this
  exact this
set_option maxRecDepth 100000 in
set_option maxHeartbeats 1000000 in
theorem awake_any (w : World) (hE : Env w) : Calls Tryz.prog 5 #[] w fun e w' => e = .returned (.bool true) ∧ Below w.heap.size w w' := by
  have HE := Aside0.mk hE
  clear hE
  go_enter Tryz.func5, Tryz.ntmps5
  go_wp2_with (first
    | (go_at_call 11; refine (parse_b_any _ HE1.out).mono ?_; rintro e w2 ⟨rfl, hB⟩; have HB2 := Aside0.mk (below_alloc (HB1.out.trans (hB.mono HB1.out.size)) (.cells #[.int .i64 0, .string ⟨#[]⟩, .string ⟨#[]⟩, .int .i64 0, .int .i64 0, .int .i64 0, .int .i64 0, .string ⟨#[]⟩] 38)); have HE2 := Aside0.mk (HE.out.below HB2.out); have HA2 := Aside0.mk ((HA.out.below hB).alloc (.cells #[.int .i64 0, .string ⟨#[]⟩, .string ⟨#[]⟩, .int .i64 0, .int .i64 0, .int .i64 0, .int .i64 0, .string ⟨#[]⟩] 38)); clear hB)
    | (go_at_call 11; refine (parse_a_any _ HE.out).mono ?_; rintro e w1 ⟨rfl, hB⟩; have HB1 := Aside0.mk (below_alloc hB (.cells #[.int .i64 4, .string ⟨#[]⟩, .string ⟨#[]⟩, .int .i64 0, .int .i64 5, .int .i64 0, .int .i64 0, .string ⟨#[97, 98]⟩] 38)); have HE1 := Aside0.mk (HE.out.below HB1.out); have HA := Aside0.mk (show OpAt (w1.alloc (.cells #[.int .i64 4, .string ⟨#[]⟩, .string ⟨#[]⟩, .int .i64 0, .int .i64 5, .int .i64 0, .int .i64 0, .string ⟨#[97, 98]⟩] 38)) w1.heap.size opA from OpAt.new w1 opA); clear hB)
    | (go_at_call 12; refine (print_a_any _ HE2.out).mono ?_; rintro e w3 ⟨rfl, hB⟩; have HB3 := Aside0.mk (HB2.out.trans (hB.mono HB2.out.size)); obtain ⟨c0, c1, c2, c3, c4, c5, c6, c7⟩ := opA_cells (HA2.out.below hB); clear hB))
  go_ret
  exact ⟨rfl, HB3.out⟩
end Go.Proofs.YteglbmindbfkeaaGreatDoor.H
