/- For the rows of this seat: what a script and a call read as. -/
import Derived.Test.YtpcgmlnipeigjaaWMore
import Derived.Test.YtpcgmlnipeigjaaRows
import Derived.Deep.Slices
import Derived.Deep.Strs
import Derived.WalkKit
import Derived.ProofKit
import Derived.OpenShut
import Derived.ChangeOld
import Derived.Below
import Derived.SizedLaws
import Derived.Lib.SmallJoins
namespace Go.Proofs.Ytpcgmlnipeigjaa.H
/-- A call of the script: kind, n, area. -/
abbrev Op4 := Int × Int × Int × Int
def I64 (n : Int) : Prop := -9223372036854775808 ≤ n ∧ n ≤ 9223372036854775807
/-- The calls, as they lie. -/
def OpsAt (w : World) (A : Option Addr) (ops : List Op4) : Prop := ∀ (i : Nat) (o : Op4), ops[i]? = some o → I64 o.1 ∧ I64 o.2.1 ∧ I64 o.2.2.1 ∧ I64 o.2.2.2 ∧ ∃ ad, A = some ad ∧
  w.cell? (ad.add (i * 4)) = some (.int .i64 o.1) ∧ w.cell? ⟨(ad.add (i * 4)).block, (ad.add (i * 4)).off + 1, none⟩ = some (.int .i64 o.2.1) ∧ w.cell? ⟨(ad.add (i * 4)).block, (ad.add (i * 4)).off + 2, none⟩ = some (.int .i64 o.2.2.1) ∧ w.cell? ⟨(ad.add (i * 4)).block, (ad.add (i * 4)).off + 3, none⟩ = some (.int .i64 o.2.2.2)

end Go.Proofs.Ytpcgmlnipeigjaa.H
namespace Go.Proofs.Ytpcgmlnipeigjaa.Rw
open Go.ChangeShapes Go.WideShapes Go.ChangeAt Go.RowKit Go.Joins Go.Deep
open Go.Proofs.YtpcgmlnipeigjaaW.PrintWords Go.Proofs.YtpcgmlnipeigjaaW.PrintLast Go.Proofs.YtpcgmlnipeigjaaW.PrintMore
open Go.Proofs.Ytpcgmlnipeigjaa.H
set_option linter.unusedVariables false
set_option linter.unusedSimpArgs false

theorem own : ownKnob Try.prog.godebug = none := by kernel_rfl
theorem laidOut : laidOutB Try.prog = true := by kernel_rfl
theorem i64_of {n : Int} (h : (Lit.int .i64 n).wf = true) : I64 n := by
  simp [Lit.wf, IntKind.min, IntKind.max, IntKind.signed, IntKind.bits] at h
  unfold I64
  omega
/-- A call, opened: its four cells. -/
theorem op_of {H : Type} {enc : TypeId × Value → H} {W : World} {base fuel : Nat} {sp : Nat → Bool} {held : Bool} {cs : List Value} {x : DataW H × List MemPlace} (h : DataW.trod enc Try.prog W base sp held fuel 33 cs = some x) :
    ∃ o : Op4, I64 o.1 ∧ I64 o.2.1 ∧ I64 o.2.2.1 ∧ I64 o.2.2.2 ∧ cs = [.int .i64 o.1, .int .i64 o.2.1, .int .i64 o.2.2.1, .int .i64 o.2.2.2] ∧ x.1 = .agg [.lit (.int .i64 o.1), .lit (.int .i64 o.2.1), .agg [.lit (.int .i64 o.2.2.1), .lit (.int .i64 o.2.2.2)]] := by
  obtain ⟨y0, y1, y2, n, rfl, hl, g0, g1, g2⟩ := trod_struct3 Try.underlying33 h
  have c33 : Try.prog.cellsOf 33 = 4 := by kernel_rfl
  have c31 : Try.prog.cellsOf 31 = 2 := by kernel_rfl
  have c3 : Try.prog.cellsOf 3 = 1 := by kernel_rfl
  rw [c33] at hl
  obtain ⟨v0, v1, v2, v3, rfl⟩ : ∃ v0 v1 v2 v3, cs = [v0, v1, v2, v3] := by
    match cs, hl with
    | [v0, v1, v2, v3], _ => exact ⟨v0, v1, v2, v3, rfl⟩
  simp [c31, c3] at g0 g1 g2
  obtain ⟨a0, e0, f0, w0⟩ := DataW.trod_int Try.underlying3 g0
  obtain ⟨a1, e1, f1, w1⟩ := DataW.trod_int Try.underlying3 g1
  obtain ⟨z0, z1, n', hz, _, k0, k1⟩ := trod_struct2 Try.underlying31 g2
  simp [c3] at k0 k1
  obtain ⟨a2, e2, f2, w2⟩ := DataW.trod_int Try.underlying3 k0
  obtain ⟨a3, e3, f3, w3⟩ := DataW.trod_int Try.underlying3 k1
  simp at e0 e1 e2 e3
  subst e0 e1 e2 e3
  refine ⟨(a0, a1, a2, a3), i64_of w0, i64_of w1, i64_of w2, i64_of w3, rfl, ?_⟩
  simp [f0, f1, hz, f2, f3]
theorem add_pos (a : Addr) (k : Nat) (h : 0 < k) : a.add k = ⟨a.block, a.off + k, none⟩ := by
  unfold Addr.add
  rw [if_neg (by omega)]
/-- The calls of a script, opened. -/
theorem ops_of {H : Type} {enc : TypeId × Value → H} {W : World} {base fuel : Nat} {held : Bool} {cs : List Value} {x : DataW H × List MemPlace} (h : DataW.trod enc Try.prog W base (fun _ => true) held fuel 22 cs = some x) :
    ∃ (A : Option Addr) (c : Nat) (ops : List Op4), cs = [.slice A ops.length c] ∧ OpsAt W A ops ∧ ops.length ≤ 9223372036854775807 := by
  rcases open_slice Try.underlying22 h with ⟨rfl, _⟩ | ⟨a, len, cap, m, n, D, Pl, rfl, hb, hl, hm, hmm, _, hx⟩
  · exact ⟨none, 0, [], rfl, fun i o h => by simp at h, by simp⟩
  · have c33 : Try.prog.cellsOf 33 = 4 := by kernel_rfl
    rw [c33] at hx
    have hlm : len ≤ m := by rw [hmm]; simp; omega
    have each : ∀ i, i < len → ∃ o : Op4, I64 o.1 ∧ I64 o.2.1 ∧ I64 o.2.2.1 ∧ I64 o.2.2.2 ∧ W.cell? (a.add (i * 4)) = some (.int .i64 o.1) ∧ W.cell? ⟨(a.add (i * 4)).block, (a.add (i * 4)).off + 1, none⟩ = some (.int .i64 o.2.1) ∧
        W.cell? ⟨(a.add (i * 4)).block, (a.add (i * 4)).off + 2, none⟩ = some (.int .i64 o.2.2.1) ∧ W.cell? ⟨(a.add (i * 4)).block, (a.add (i * 4)).off + 3, none⟩ = some (.int .i64 o.2.2.2) := by
      intro i hi
      obtain ⟨cs', h1, h2⟩ := hx i (by omega)
      obtain ⟨_, hlen, hcell⟩ := World.cells?_some h1
      obtain ⟨o, i0, i1, i2, i3, rfl, _⟩ := op_of h2
      have e0 := hcell 0 (by omega)
      have e1 := hcell 1 (by omega)
      have e2 := hcell 2 (by omega)
      have e3 := hcell 3 (by omega)
      rw [add_pos _ 1 (by omega)] at e1
      rw [add_pos _ 2 (by omega)] at e2
      rw [add_pos _ 3 (by omega)] at e3
      exact ⟨o, i0, i1, i2, i3, e0, e1, e2, e3⟩
    obtain ⟨f, hf⟩ := choose_lt each
    refine ⟨some a, cap, (List.range len).map f, by simp, fun i o hi => ?_, by simp; unfold maxLen at hm; omega⟩
    obtain ⟨hi1, hi2⟩ := List.getElem?_eq_some_iff.1 hi
    simp only [List.length_map, List.length_range] at hi1
    simp only [List.getElem_map, List.getElem_range] at hi2
    subst hi2
    obtain ⟨i0, i1, i2, i3, r⟩ := hf i hi1
    exact ⟨i0, i1, i2, i3, a, rfl, r⟩
end Go.Proofs.Ytpcgmlnipeigjaa.Rw
