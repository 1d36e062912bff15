/- Where a field lies: text, num as contracts. -/
import Derived.Test.YteglbmindbfkeaaGreatDoorFw
namespace Go.Proofs.YteglbmindbfkeaaGreatDoor.H
open Go.RowKit Go.Proofs.YteglbmindbfkeaaGreatDoorW.PrintWords
set_option linter.unusedVariables false
set_option linter.unusedSimpArgs false

/-- A field's place in an operation. -/
def fldO : Fld → Nat
  | .P => 1
  | .Q => 2
  | .H => 3
  | .O => 4
  | .N => 5
  | .F => 6
  | .D => 7
set_option maxRecDepth 100000 in
set_option maxHeartbeats 1000000 in
theorem text_any (b : Nat) (f : Fld) (w : World) : Calls Tryz.prog 35 #[.pointer (some ⟨b, 0, none⟩), .int .i32 (fldB f).toNat] w fun e w' => e = .returned (.pointer (if f.isText = true then some ⟨b, fldO f, none⟩ else none)) ∧ w' = w := by
  cases f
  all_goals
    go_enter Tryz.func35, Tryz.ntmps35
    go_wp2
    go_ret
    exact ⟨rfl, rfl⟩
set_option maxRecDepth 100000 in
set_option maxHeartbeats 1000000 in
theorem num_any (b : Nat) (f : Fld) (hf : ¬ f.isText = true) (w : World) : Calls Tryz.prog 38 #[.pointer (some ⟨b, 0, none⟩), .int .i32 (fldB f).toNat] w fun e w' => e = .returned (.pointer (some ⟨b, fldO f, none⟩)) ∧ w' = w := by
  cases f
  case P => exact absurd rfl hf
  case Q => exact absurd rfl hf
  case D => exact absurd rfl hf
  all_goals
    clear hf
    go_enter Tryz.func38, Tryz.ntmps38
    go_wp2
    go_ret
    exact ⟨rfl, rfl⟩
end Go.Proofs.YteglbmindbfkeaaGreatDoor.H
