/- For the row of ScriptResults: what a result reads as; its size under the bound. -/
import Derived.Test.YteglbmindbfkeaaDoorRo
import Derived.Test.YteglbmindbfkeaaDoorRt
import Derived.SliceStrings
namespace Go.Proofs.YteglbmindbfkeaaDoor.Rw
open Go.ChangeShapes Go.WideShapes Go.ChangeAt Go.RowKit Go.Joins
open Go.Proofs.YteglbmindbfkeaaDoorW.PrintWords Go.Proofs.YteglbmindbfkeaaDoorW.PrintLast Go.Proofs.YteglbmindbfkeaaDoorW.PrintMore
open Go.Proofs.YteglbmindbfkeaaDoor.H
theorem strs_bulk {H : Type} (ss : List ByteArray) : ((ss.map (·.data.toList)).flatMap fun x => 32 :: x).length ≤ Rows.uptoBulkAll (strs (H := H) ss) := by
  induction ss with
  | nil => simp
  | cons x r ih =>
    have e : strs (H := H) (x :: r) = DataW.lit (.string x.data.toList) :: strs r := rfl
    rw [e]
    simp only [Rows.uptoBulkAll, Rows.uptoBulk, List.map_cons, List.flatMap_cons, List.length_append, List.length_cons] at ih ⊢
    omega
theorem cellsS : Tryd.prog.cellsOf 9 = 1 := by kernel_rfl
theorem names_of {H : Type} {enc : TypeId × Value → H} {W : World} {fuel : Nat} {cs : List Value} {x : DataW H × List MemPlace}
    (hf : DataW.trod enc Tryd.prog W 0 (fun _ => true) true fuel 37 cs = some x) :
    ∃ (xs : List Bs) (A : Option Addr) (c : Nat), cs = [.slice A xs.length c] ∧ RdS W A xs.length xs ∧ (xs.flatMap fun x => 32 :: x).length ≤ Rows.uptoBulk x.1 := by
  rcases open_strings Tryd.underlying37 Tryd.underlying9 cellsS hf with ⟨rfl, rfl⟩ | ⟨a, n, cap, ss, rfl, _, hl, hm, hz, rfl, hcell, hsz⟩
  · exact ⟨[], none, 0, rfl, ⟨rfl, fun j x h => by simp at h⟩, by simp⟩
  · simp only [if_true] at hz
    have g3 : (ss.take n).length = n := by rw [List.length_take]; omega
    have e1 : ((ss.take n).map (·.data.toList)).length = n := by rw [List.length_map]; exact g3
    refine ⟨(ss.take n).map (·.data.toList), some a, cap, by rw [e1], ⟨rfl, fun j x hj => ⟨a, rfl, ?_⟩⟩, ?_⟩
    · rw [List.getElem?_map, Option.map_eq_some_iff] at hj
      obtain ⟨X, hX, rfl⟩ := hj
      have hjn : j < n := by
        have := (List.getElem?_eq_some_iff.1 hX).1
        omega
      have hX' : ss.getD j ByteArray.empty = X := by
        rw [List.getElem?_take_of_lt hjn] at hX
        simp [List.getD, hX]
      have := hcell j (by omega)
      rw [hX'] at this
      rw [this, data_sB]
    · have g1 := strs_bulk (H := H) (ss.take n)
      simp only [Rows.uptoBulk]
      omega
theorem upto_part {H : Type} {ds : List (DataW H)} {d : DataW H} (hk : Rows.uptoSmall H ds = true) (hd : d ∈ ds) : Rows.uptoBulk d ≤ 1048576 :=
  Nat.le_trans (part_le hd) (of_decide_eq_true hk)
set_option maxRecDepth 100000 in
theorem open_res {H : Type} {enc : TypeId × Value → H} {W : World} {b0 : Nat} {r : Reach} {v : Value} {d : DataW H} {p : List MemPlace} (hv : Value.okWide Tryd.prog W r b0 39 v) (h : DataW.Trod enc Tryd.prog W 0 (fun _ => true) true 39 v d p) :
    ∃ (r : ResV) (A : Option Addr) (c : Nat), v = .agg (resC r A c) ∧ RdS W A r.names.length r.names ∧ (Rows.uptoBulk d ≤ 1048576 → ResOk r) := by
  obtain ⟨ca, rfl, _⟩ := okWide_struct Tryd.underlying39 hv
  obtain ⟨fuel, hf⟩ := h
  simp only [Value.cells] at hf
  obtain ⟨cs, rfl⟩ : ∃ cs : List Value, ca = cs.toArray := ⟨ca.toList, rfl⟩
  simp only at hf
  obtain ⟨xs, n, _, hx, hl, hlen, hg⟩ := DataW.trod_struct Tryd.underlying39 hf
  have c9 : Tryd.prog.cellsOf 39 = 9 := by kernel_rfl
  have c4 : Tryd.prog.cellsOf 36 = 4 := by kernel_rfl
  have ci : Tryd.prog.cellsOf 3 = 1 := by kernel_rfl
  have ce : Tryd.prog.cellsOf 25 = 1 := by kernel_rfl
  have cb : Tryd.prog.cellsOf 4 = 1 := by kernel_rfl
  have cl : Tryd.prog.cellsOf 37 = 1 := by kernel_rfl
  rw [c9] at hl
  obtain ⟨v0, v1, v2, v3, v4, v5, v6, v7, v8, rfl⟩ : ∃ v0 v1 v2 v3 v4 v5 v6 v7 v8, cs = [v0, v1, v2, v3, v4, v5, v6, v7, v8] := by
    match cs, hl with
    | [v0, v1, v2, v3, v4, v5, v6, v7, v8], _ => exact ⟨v0, v1, v2, v3, v4, v5, v6, v7, v8, rfl⟩
  obtain ⟨y0, y1, y2, y3, y4, y5, rfl⟩ : ∃ y0 y1 y2 y3 y4 y5, xs = [y0, y1, y2, y3, y4, y5] := by
    match xs, hlen with
    | [y0, y1, y2, y3, y4, y5], _ => exact ⟨y0, y1, y2, y3, y4, y5, rfl⟩
  have g0 := hg 0 _ rfl
  have g1 := hg 1 _ rfl
  have g2 := hg 2 _ rfl
  have g3 := hg 3 _ rfl
  have g4 := hg 4 _ rfl
  have g5 := hg 5 _ rfl
  simp [cellsS, ci, ce, c4, cl] at g0 g1 g2 g3 g4 g5
  obtain ⟨a0, e0, f0, w0⟩ := DataW.trod_int Tryd.underlying25 g0
  obtain ⟨a1, e1, f1, w1⟩ := DataW.trod_int Tryd.underlying3 g1
  obtain ⟨a2, e2, f2, w2⟩ := DataW.trod_int Tryd.underlying3 g2
  obtain ⟨a3, e3, f3, w3⟩ := DataW.trod_string Tryd.underlying9 g3
  obtain ⟨z0, z1, z2, z3, m, hz, _, k0, k1, k2, k3⟩ := trod_struct4 Tryd.underlying36 g4
  simp [ci, cb] at k0 k1 k2 k3
  obtain ⟨a4, e4, f4, w4⟩ := DataW.trod_int Tryd.underlying3 k0
  obtain ⟨a5, e5, f5⟩ := DataW.trod_bool Tryd.underlying4 k1
  obtain ⟨a6, e6, f6, w6⟩ := DataW.trod_int Tryd.underlying3 k2
  obtain ⟨a7, e7, f7, w7⟩ := DataW.trod_int Tryd.underlying3 k3
  obtain ⟨ns, A, c, e8, hA, hb⟩ := names_of g5
  simp at e0 e1 e2 e3 e4 e5 e6 e7 e8
  subst e0 e1 e2 e3 e4 e5 e6 e7 e8
  refine ⟨⟨a0, a1, a2, a3.data.toList, a4, a5, a6, a7, ns⟩, A, c, by simp [resC, data_sB], hA, fun hk => ⟨i64_of w0, i64_of w1, i64_of w2, i64_of w4, i64_of w6, i64_of w7, ?_, ?_⟩⟩
  · obtain ⟨hd, _⟩ := Prod.mk.inj hx
    rw [hd] at hk
    simp only [List.map_cons, List.map_nil, Rows.uptoBulk, Rows.uptoBulkAll, f3] at hk
    show a3.data.toList.length ≤ 1048576
    omega
  · obtain ⟨hd, _⟩ := Prod.mk.inj hx
    rw [hd] at hk
    simp only [List.map_cons, List.map_nil, Rows.uptoBulk, Rows.uptoBulkAll, f3] at hk
    show (ns.flatMap fun x => 32 :: x).length ≤ 1048576
    omega
end Go.Proofs.YteglbmindbfkeaaDoor.Rw
