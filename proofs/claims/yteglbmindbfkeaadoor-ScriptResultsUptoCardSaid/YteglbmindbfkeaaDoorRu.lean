/- For the rows of the second form: what the bound on the bulk gives. -/
import Derived.Test.YteglbmindbfkeaaDoorRs
namespace Go.Proofs.YteglbmindbfkeaaDoor.Rw
open Go.ChangeShapes Go.WideShapes Go.ChangeAt Go.RowKit
open Go.Proofs.YteglbmindbfkeaaDoorW.PrintWords Go.Proofs.YteglbmindbfkeaaDoorW.PrintLast Go.Proofs.YteglbmindbfkeaaDoorW.PrintMore
open Go.Proofs.YteglbmindbfkeaaDoor.H
theorem one_le {H : Type} (d : DataW H) : 1 ≤ Rows.uptoBulk d := by
  cases d with
  | lit l => cases l <;> simp [Rows.uptoBulk]
  | nil => simp [Rows.uptoBulk]
  | ptr d => simp [Rows.uptoBulk]
  | slice elems spare => simp [Rows.uptoBulk]
  | agg parts => simp [Rows.uptoBulk]
  | iface t d => simp [Rows.uptoBulk]
  | map entries => simp [Rows.uptoBulk]
  | held h => simp [Rows.uptoBulk]
theorem part_le {H : Type} {d : DataW H} {l : List (DataW H)} (h : d ∈ l) : Rows.uptoBulk d ≤ Rows.uptoBulkAll l := by
  induction l with
  | nil => cases h
  | cons x r ih =>
    simp only [Rows.uptoBulkAll]
    cases List.mem_cons.1 h with
    | inl e => subst e; omega
    | inr e => have := ih e; omega
theorem upto_str {H : Type} {ds : List (DataW H)} {s : ByteArray} (hk : Rows.uptoSmall H ds = true) (hd : DataW.lit (.string s.data.toList) ∈ ds) : s.size ≤ 1048576 := by
  have hb : Rows.uptoBulkAll ds ≤ 1048576 := of_decide_eq_true hk
  have hp := part_le hd
  simp only [Rows.uptoBulk] at hp
  rw [data_length] at hp
  omega
end Go.Proofs.YteglbmindbfkeaaDoor.Rw
