/- The reference's fields of a kind. -/
import Derived.Test.YteglbmindbfkeaaGreatDoorRn
namespace Go.Proofs.YteglbmindbfkeaaGreatDoor.H
open Go.RowKit Go.Proofs.YteglbmindbfkeaaGreatDoorW.PrintWords
set_option linter.unusedVariables false
set_option linter.unusedSimpArgs false
/-- A field's number. -/
def fldN : Fld → Int
  | .H => 1
  | .O => 2
  | .N => 3
  | .F => 4
  | .P => 5
  | .Q => 6
  | .D => 7
def fsL (k : Int) : List Fld := match kindOf k with
  | some (_, fs) => fs
  | none => []
theorem fsL_nil {k : Int} (h : ∀ j : Nat, 1 ≤ j → j ≤ 13 → k ≠ j) : fsL k = [] := by
  unfold fsL
  cases hk : kindOf k with
  | none => rfl
  | some p =>
    obtain ⟨w, fs⟩ := p
    obtain ⟨j, rfl, hm⟩ := kindOf_mem hk
    have h1 : ∀ e ∈ kinds, (1 ≤ e.1 ∧ e.1 ≤ 13) ∨ e.2.2 = [] := by decide
    rcases h1 _ hm with h2 | h2
    · exact absurd rfl (h j h2.1 h2.2)
    · exact h2
def fldC (fs : List Fld) : Array Value := (fs.map fun f => Value.int .i64 (fldN f)).toArray
/-- A row of fields' numbers. -/
def FldRow (w : World) (v : Value) (fs : List Fld) : Prop := (fs = [] ∧ v = .slice none 0 0) ∨ ∃ b, v = .slice (some ⟨b, 0, none⟩) fs.length fs.length ∧ w.heap[b]? = some (.cells (fldC fs) 3 (0, 0))
theorem FldRow.below {w w' : World} {v : Value} {fs : List Fld} (h : FldRow w v fs) (hb : Below w.heap.size w w') : FldRow w' v fs := by
  rcases h with h | ⟨b, h1, h2⟩
  · exact .inl h
  · exact .inr ⟨b, h1, (hb.block b (blk_lt h2)).trans h2⟩
theorem fsL_1 : fsL 1 = [.P, .F] := by decide
theorem fsL_2 : fsL 2 = [.H] := by decide
theorem fsL_3 : fsL 3 = [.H, .O, .N] := by decide
theorem fsL_4 : fsL 4 = [.H, .O, .D] := by decide
theorem fsL_5 : fsL 5 = [.H, .N] := by decide
theorem fsL_6 : fsL 6 = [.P] := by decide
theorem fsL_7 : fsL 7 = [.P] := by decide
theorem fsL_8 : fsL 8 = [.P] := by decide
theorem fsL_9 : fsL 9 = [.P] := by decide
theorem fsL_10 : fsL 10 = [.P, .Q] := by decide
theorem fsL_11 : fsL 11 = [.P] := by decide
theorem fsL_12 : fsL 12 = [.P, .Q] := by decide
theorem fsL_13 : fsL 13 = [.H] := by decide
set_option maxRecDepth 100000 in
set_option maxHeartbeats 2000000 in
theorem rwords_any (k : Int) (w : World) (h0 : -9223372036854775808 ≤ k) (h1 : k ≤ 9223372036854775807) : Calls Tryz.prog 51 #[.int .i64 k] w fun e w' => ∃ v, e = .returned v ∧ FldRow w' v (fsL k) ∧ Below w.heap.size w w' := by
  go_enter Tryz.func51, Tryz.ntmps51
  go_wp2
  all_goals (simp only [beq_iff_eq, beq_eq_false_iff_ne, ne_eq] at *)
  all_goals (try subst_vars)
  all_goals (first | rw [fsL_1] | rw [fsL_2] | rw [fsL_3] | rw [fsL_4] | rw [fsL_5] | rw [fsL_6] | rw [fsL_7] | rw [fsL_8] | rw [fsL_9] | rw [fsL_10] | rw [fsL_11] | rw [fsL_12] | rw [fsL_13] | skip)
  all_goals first
    | (go_ret
       exact ⟨_, rfl, .inr ⟨w.heap.size, rfl, blk_new w _⟩, below_alloc (Below.refl _ _) _⟩)
    | (go_ret
       refine ⟨_, rfl, .inl ⟨fsL_nil ?_, rfl⟩, Below.refl _ _⟩
       intro j h2 h3 h4
       clear h0 h1
       omega)
end Go.Proofs.YteglbmindbfkeaaGreatDoor.H
