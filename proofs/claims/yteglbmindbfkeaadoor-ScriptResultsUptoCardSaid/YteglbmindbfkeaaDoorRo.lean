/- For the rows: what an operation reads as; its size under the bound. -/
import Derived.Test.YteglbmindbfkeaaDoorRu
import Derived.Test.YteglbmindbfkeaaDoorOq
import Derived.Lib.SmallJoins
namespace Go.Proofs.YteglbmindbfkeaaDoor.Rw
open Go.ChangeShapes Go.WideShapes Go.ChangeAt Go.RowKit Go.Joins
open Go.Proofs.YteglbmindbfkeaaDoorW.PrintWords Go.Proofs.YteglbmindbfkeaaDoorW.PrintLast Go.Proofs.YteglbmindbfkeaaDoorW.PrintMore
open Go.Proofs.YteglbmindbfkeaaDoor.H
theorem i64_of {n : Int} (h : (Lit.int .i64 n).wf = true) : -9223372036854775808 ≤ n ∧ n ≤ 9223372036854775807 := by
  simp [Lit.wf, IntKind.min, IntKind.max, IntKind.signed, IntKind.bits] at h
  omega
/-- What an operation reads as. -/
def opD {H : Type} (o : OpV) : DataW H := .agg [.lit (.int .i64 o.kind), .lit (.string o.path), .lit (.string o.other), .lit (.int .i64 o.handle), .lit (.int .i64 o.offset), .lit (.int .i64 o.n), .lit (.int .i64 o.flags), .lit (.string o.data)]
/-- The numbers of an operation are ints. -/
def OpI (o : OpV) : Prop := (-9223372036854775808 ≤ o.kind ∧ o.kind ≤ 9223372036854775807) ∧ ∀ f : Fld, -9223372036854775808 ≤ o.num f ∧ o.num f ≤ 9223372036854775807
set_option maxRecDepth 100000 in
theorem op_of {H : Type} {enc : TypeId × Value → H} {W : World} {base fuel : Nat} {sp : Nat → Bool} {held : Bool} {cs : List Value} {x : DataW H × List MemPlace} (h : DataW.trod enc Tryd.prog W base sp held fuel 23 cs = some x) :
    ∃ o : OpV, cs = (opC o).toList ∧ x.1 = opD o ∧ OpI o := by
  obtain ⟨xs, n, _, rfl, hl, hlen, hf⟩ := DataW.trod_struct Tryd.underlying23 h
  have c8 : Tryd.prog.cellsOf 23 = 8 := by kernel_rfl
  have cs1 : Tryd.prog.cellsOf 9 = 1 := by kernel_rfl
  have ci1 : Tryd.prog.cellsOf 3 = 1 := by kernel_rfl
  rw [c8] at hl
  obtain ⟨v0, v1, v2, v3, v4, v5, v6, v7, rfl⟩ : ∃ v0 v1 v2 v3 v4 v5 v6 v7, cs = [v0, v1, v2, v3, v4, v5, v6, v7] := by
    match cs, hl with
    | [v0, v1, v2, v3, v4, v5, v6, v7], _ => exact ⟨v0, v1, v2, v3, v4, v5, v6, v7, rfl⟩
  obtain ⟨y0, y1, y2, y3, y4, y5, y6, y7, rfl⟩ : ∃ y0 y1 y2 y3 y4 y5 y6 y7, xs = [y0, y1, y2, y3, y4, y5, y6, y7] := by
    match xs, hlen with
    | [y0, y1, y2, y3, y4, y5, y6, y7], _ => exact ⟨y0, y1, y2, y3, y4, y5, y6, y7, rfl⟩
  have g0 := hf 0 _ rfl
  have g1 := hf 1 _ rfl
  have g2 := hf 2 _ rfl
  have g3 := hf 3 _ rfl
  have g4 := hf 4 _ rfl
  have g5 := hf 5 _ rfl
  have g6 := hf 6 _ rfl
  have g7 := hf 7 _ rfl
  simp [cs1, ci1] at g0 g1 g2 g3 g4 g5 g6 g7
  obtain ⟨a0, e0, f0, w0⟩ := DataW.trod_int Tryd.underlying3 g0
  obtain ⟨a1, e1, f1, w1⟩ := DataW.trod_string Tryd.underlying9 g1
  obtain ⟨a2, e2, f2, w2⟩ := DataW.trod_string Tryd.underlying9 g2
  obtain ⟨a3, e3, f3, w3⟩ := DataW.trod_int Tryd.underlying3 g3
  obtain ⟨a4, e4, f4, w4⟩ := DataW.trod_int Tryd.underlying3 g4
  obtain ⟨a5, e5, f5, w5⟩ := DataW.trod_int Tryd.underlying3 g5
  obtain ⟨a6, e6, f6, w6⟩ := DataW.trod_int Tryd.underlying3 g6
  obtain ⟨a7, e7, f7, w7⟩ := DataW.trod_string Tryd.underlying9 g7
  simp at e0 e1 e2 e3 e4 e5 e6 e7
  subst e0 e1 e2 e3 e4 e5 e6 e7
  refine ⟨⟨a0, a1.data.toList, a2.data.toList, a3, a4, a5, a6, a7.data.toList⟩, ?_, ?_, i64_of w0, fun f => ?_⟩
  · simp [opC, data_sB]
  · simp [opD, f0, f1, f2, f3, f4, f5, f6, f7]
  · cases f
    · exact i64_of w3
    · exact i64_of w4
    · exact i64_of w5
    · exact i64_of w6
    all_goals exact ⟨by simp [OpV.num], by simp [OpV.num]⟩
set_option maxRecDepth 100000 in
theorem bulk_op {H : Type} {o : OpV} {K : Nat} (h : Rows.uptoBulk (opD o : DataW H) ≤ K) (hi : OpI o) : OpOk K o := by
  refine ⟨hi.1, hi.2, fun f => ?_⟩
  simp only [opD, Rows.uptoBulk, Rows.uptoBulkAll] at h
  cases f <;> simp only [OpV.txt, List.length_nil] <;> omega
set_option maxRecDepth 100000 in
theorem upto_op {H : Type} {ds : List (DataW H)} {o : OpV} (hk : Rows.uptoSmall H ds = true) (hd : opD o ∈ ds) (hi : OpI o) : OpOk 1048576 o := by
  have hb : Rows.uptoBulkAll ds ≤ 1048576 := of_decide_eq_true hk
  exact bulk_op (Nat.le_trans (part_le hd) hb) hi
set_option maxRecDepth 100000 in
theorem open_op {H : Type} {enc : TypeId × Value → H} {W : World} {base b0 : Nat} {r : Reach} {sp : Nat → Bool} {held : Bool} {v : Value} {d : DataW H} {p : List MemPlace} (hv : Value.okWide Tryd.prog W r b0 23 v) (h : DataW.Trod enc Tryd.prog W base sp held 23 v d p) :
    ∃ o : OpV, v = opV o ∧ d = opD o ∧ OpI o := by
  obtain ⟨cs, rfl, _⟩ := okWide_struct Tryd.underlying23 hv
  obtain ⟨fuel, hf⟩ := h
  obtain ⟨o, e, hd, hi⟩ := op_of hf
  refine ⟨o, ?_, hd, hi⟩
  unfold opV
  congr 1
  simp only [Value.cells] at e
  exact Array.ext' e
end Go.Proofs.YteglbmindbfkeaaDoor.Rw
