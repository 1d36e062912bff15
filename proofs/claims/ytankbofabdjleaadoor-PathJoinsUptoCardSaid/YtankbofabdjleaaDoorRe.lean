/- For the rows of the second form: what a []string within the bound reads as. -/
import Derived.Test.YtankbofabdjleaaDoorRd
namespace Go.Proofs.YtankbofabdjleaaDoor.Rw
open Go.ChangeShapes Go.WideShapes Go.ChangeAt Go.RowKit
open Go.Proofs.YtankbofabdjleaaDoorW.PrintWords Go.Proofs.YtankbofabdjleaaDoorW.PrintLast Go.Proofs.YtankbofabdjleaaDoorW.PrintMore
open Go.Proofs.YtankbofabdjleaaDoor.H
theorem upto_strs {H : Type} {enc : TypeId × Value → H} {W : World} {A : Option Addr} {n c : Nat} {d : DataW H} {ps : List MemPlace} {ds : List (DataW H)}
    (hk : Rows.uptoSmall H ds = true) (hd : d ∈ ds) (h : DataW.Trod enc Tryd.prog W 0 (fun _ => true) true 23 (.slice A n c) d ps) :
    ∃ xs : List Bs, RdP W A n c xs ∧ (0 < n → ∃ b o, A = some ⟨b, o, none⟩ ∧ b < W.heap.size) ∧ ((joinF xs).length ≤ 1048576 ∧ n ≤ 1048576) := by
  have hb : Rows.uptoBulkAll ds ≤ 1048576 := of_decide_eq_true hk
  have hp := part_le hd
  obtain ⟨fuel, hf⟩ := h
  rcases open_strings Tryd.underlying23 Tryd.underlying9 cells9 hf with ⟨hcs, hx⟩ | ⟨a, len', cap', ss, hcs, _, hl, hm, hz, hx, hcell, hsz⟩
  · simp [Value.cells] at hcs
    obtain ⟨rfl, rfl, rfl⟩ := hcs
    exact ⟨[], ⟨RdS.nil _, Nat.le_refl _, .inl rfl⟩, fun h => absurd h (by omega), by simp [joinF]⟩
  · simp [Value.cells] at hcs
    obtain ⟨rfl, rfl, rfl⟩ := hcs
    simp only [if_true] at hz
    obtain ⟨hx, _⟩ := Prod.mk.inj hx
    subst hx
    simp only [Rows.uptoBulk] at hp
    have g1 := strs_bulk (H := H) (ss.take n)
    have g2 := strs_len (H := H) (ss.take n)
    have g3 : (ss.take n).length = n := by rw [List.length_take]; omega
    obtain ⟨b, off, spot⟩ := a
    have hmax : n ≤ 9223372036854775807 := by unfold maxLen at hm; omega
    have hpl : 0 < n → spot = none ∧ b < W.heap.size := fun h0 => by
      have hspot : spot = none := by simpa [Addr.add] using World.cell?_spot (hcell 0 (by omega))
      subst hspot
      exact ⟨rfl, cell_in (a := ⟨b, off, none⟩) (by simpa [Addr.add] using hcell 0 (by omega))⟩
    refine ⟨(ss.take n).map (·.data.toList), ⟨⟨by simp; omega, hmax, fun j x hj => ⟨_, rfl, ?_⟩⟩, hl, ?_⟩, fun h0 => ?_, by omega, by omega⟩
    · rw [List.getElem?_map, Option.map_eq_some_iff] at hj
      obtain ⟨X, hX, rfl⟩ := hj
      have hjn : j < n := by
        have := (List.getElem?_eq_some_iff.1 hX).1
        simp at this
        omega
      have hX' : ss.getD j ByteArray.empty = X := by
        rw [List.getElem?_take_of_lt hjn] at hX
        simp [List.getD, hX]
      have := hcell j (by omega)
      rw [hX'] at this
      rw [this, data_sB]
    · by_cases h0 : n = 0
      · exact .inl h0
      · right
        rw [(hpl (by omega)).1]
        exact ⟨_, _, rfl⟩
    · obtain ⟨e1, e2⟩ := hpl h0
      rw [e1]
      exact ⟨_, _, rfl, e2⟩
end Go.Proofs.YtankbofabdjleaaDoor.Rw
