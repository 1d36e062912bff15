/- For the rows: what a []string reads as. -/
import Derived.Test.YtankbofabdjleaaDoorRb
import Derived.SliceStrings
namespace Go.Proofs.YtankbofabdjleaaDoor.Rw
open Go.ChangeShapes Go.WideShapes Go.ChangeAt Go.RowKit
open Go.Proofs.YtankbofabdjleaaDoorW.PrintWords Go.Proofs.YtankbofabdjleaaDoorW.PrintLast Go.Proofs.YtankbofabdjleaaDoorW.PrintMore
open Go.Proofs.YtankbofabdjleaaDoor.H
theorem cell_in {w : World} {a : Addr} {v : Value} (h : w.cell? a = some v) : a.block < w.heap.size := by
  by_cases hh : a.block < w.heap.size
  · exact hh
  · have : w.heap[a.block]? = none := Array.getElem?_eq_none (by omega)
    simp [World.cell?, this] at h
theorem cells9 : Tryd.prog.cellsOf 9 = 1 := by kernel_rfl
theorem strs_of {H : Type} {enc : TypeId × Value → H} {W : World} {A : Option Addr} {n c fuel : Nat} {x : DataW H × List MemPlace}
    (hf : DataW.trod enc Tryd.prog W 0 (fun _ => true) true fuel 23 [.slice A n c] = some x) :
    ∃ xs : List Bs, RdP W A n c xs ∧ (0 < n → ∃ b o, A = some ⟨b, o, none⟩ ∧ b < W.heap.size) ∧ (∀ y ∈ xs, y.length ≤ 9223372036854775807) := by
  rcases open_strings Tryd.underlying23 Tryd.underlying9 cells9 hf with ⟨hcs, hx⟩ | ⟨a, len', cap', ss, hcs, _, hl, hm, hz, hx, hcell, hsz⟩
  · simp at hcs
    obtain ⟨rfl, rfl, rfl⟩ := hcs
    exact ⟨[], ⟨RdS.nil _, Nat.le_refl _, .inl rfl⟩, fun h => absurd h (by omega), fun y h => by simp at h⟩
  · simp at hcs
    obtain ⟨rfl, rfl, rfl⟩ := hcs
    simp only [if_true] at hz
    obtain ⟨b, off, spot⟩ := a
    have hmax : n ≤ 9223372036854775807 := by unfold maxLen at hm; omega
    have hpl : 0 < n → spot = none ∧ b < W.heap.size := fun h0 => by
      have hspot : spot = none := by simpa [Addr.add] using World.cell?_spot (hcell 0 (by omega))
      subst hspot
      exact ⟨rfl, cell_in (a := ⟨b, off, none⟩) (by simpa [Addr.add] using hcell 0 (by omega))⟩
    refine ⟨(ss.take n).map (·.data.toList), ⟨⟨by simp; omega, hmax, fun j x hj => ⟨_, rfl, ?_⟩⟩, hl, ?_⟩, fun h0 => ?_, fun y hy => ?_⟩
    · rw [List.getElem?_map, Option.map_eq_some_iff] at hj
      obtain ⟨X, hX, rfl⟩ := hj
      have hjn : j < n := by
        have := (List.getElem?_eq_some_iff.1 hX).1
        simp at this
        omega
      have hX' : ss.getD j ByteArray.empty = X := by
        rw [List.getElem?_take_of_lt hjn] at hX
        simp [List.getD, hX]
      have := hcell j (by omega)
      rw [hX'] at this
      rw [this, data_sB]
    · by_cases h0 : n = 0
      · exact .inl h0
      · right
        rw [(hpl (by omega)).1]
        exact ⟨_, _, rfl⟩
    · obtain ⟨e1, e2⟩ := hpl h0
      rw [e1]
      exact ⟨_, _, rfl, e2⟩
    · obtain ⟨X, hX, rfl⟩ := List.mem_map.1 hy
      have := hsz X (List.mem_of_mem_take hX)
      rw [data_length]
      unfold maxLen at this
      omega
end Go.Proofs.YtankbofabdjleaaDoor.Rw
