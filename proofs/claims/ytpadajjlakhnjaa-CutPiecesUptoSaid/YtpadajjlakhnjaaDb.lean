/- For the row of CutPieces: what a slice of rows of bytes reads as, and what the bound on the bulk gives. -/
import Derived.Test.YtpadajjlakhnjaaDa
import Derived.Test.YtpadajjlakhnjaaRw
import Derived.Deep.Matrix
namespace Go.Proofs.Ytpadajjlakhnjaa.Rw
open Go.ChangeShapes Go.WideShapes Go.ChangeAt Go.RowKit Go.Joins
open Go.Proofs.YtpadajjlakhnjaaW.PrintWords Go.Proofs.YtpadajjlakhnjaaW.PrintLast Go.Proofs.YtpadajjlakhnjaaW.PrintMore
open Go.Proofs.Ytpadajjlakhnjaa.H
set_option linter.unusedVariables false
set_option linter.unusedSimpArgs false

theorem flat_le {H : Type} (f : Nat → DataW H) (g : Nat → List Int) (l : List Nat) (h : ∀ r ∈ l, (g r).length ≤ Rows.uptoBulk (f r)) : ((l.map g).flatten).length ≤ Rows.uptoBulkAll (l.map f) := by
  induction l with
  | nil => simp
  | cons x r ih =>
    have h1 := h x (by simp)
    have h2 := ih (fun r hr => h r (by simp [hr]))
    simp only [List.map_cons, List.flatten_cons, List.length_append, Rows.uptoBulkAll]
    omega
theorem intRow_le {H : Type} (A : Option Addr) (L : Nat) (zs : List Int) (h : A = none → zs = []) : (zs.take L).length ≤ Rows.uptoBulk (Go.Deep.intRow (H := H) .u8 A L zs) := by
  cases A with
  | none => rw [h rfl]; simp
  | some a =>
    have h1 := length_le (lits (H := H) .u8 (zs.take L))
    have h2 : (lits (H := H) .u8 (zs.take L)).length = (zs.take L).length := by simp [lits]
    simp only [Go.Deep.intRow, Rows.uptoBulk]
    omega
theorem upto_rows {H : Type} {enc : TypeId × Value → H} {W : World} {base : Nat} {held : Bool} {A : Option Addr} {len cap : Nat} {d : DataW H} {ps : List MemPlace} {ds : List (DataW H)}
    (hk : Rows.uptoSmall H ds = true) (hd : d ∈ ds) (h : DataW.Trod enc Try.prog W base (fun _ => true) held 47 (.slice A len cap) d ps) : ∃ ls : List (List Int), ls.length = len ∧ RowsAt W A ls ∧ ls.flatten.length ≤ 1048576 ∧ ls.length ≤ 1048576 := by
  have hb : Rows.uptoBulkAll ds ≤ 1048576 := of_decide_eq_true hk
  have hp := part_le hd
  obtain ⟨fuel, hf⟩ := h
  rcases Go.Deep.open_int_rows Try.underlying47 Try.underlying25 Try.underlying5 (by kernel_rfl) (by kernel_rfl) hf with ⟨hcs, _⟩ | ⟨a, l, c, B, L, C, Z, hcs, _, hl, hm, hx, hr⟩
  · simp [Value.cells] at hcs
    obtain ⟨rfl, rfl, rfl⟩ := hcs
    exact ⟨[], rfl, fun i l h => by simp at h, by simp, by simp⟩
  · simp [Value.cells] at hcs
    obtain ⟨rfl, rfl, rfl⟩ := hcs
    obtain ⟨hx, _⟩ := Prod.mk.inj hx
    subst hx
    refine ⟨(List.range len).map fun r => (Z r).take (L r), by simp, ?_, ?_, ?_⟩
    · intro i l hi
      obtain ⟨hi1, hi2⟩ := List.getElem?_eq_some_iff.1 hi
      simp only [List.length_map, List.length_range] at hi1
      simp only [List.getElem_map, List.getElem_range] at hi2
      obtain ⟨h1, h2, h3, h4, h5, h6, h7⟩ := hr i (by omega)
      have hrow : IsRow .u8 W (B i) (L i) (C i) (Z i) := by
        cases hB : B i with
        | none =>
          have := h6 hB
          exact .inl ⟨rfl, by omega, this, List.eq_nil_of_length_eq_zero (by omega)⟩
        | some x => exact .inr ⟨x, rfl, h2, h3, h4, fun j hj => (h7 x hB).2 j (by omega), h5⟩
      obtain ⟨g1, g2, g3⟩ := hrow.c
      subst hi2
      exact ⟨a, B i, C i, rfl, by rw [g1]; exact h1, by rw [g1]; exact g2, g3⟩
    · simp only [Rows.uptoBulk] at hp
      have := flat_le (H := H) (fun r => Go.Deep.intRow .u8 (B r) (L r) (Z r)) (fun r => (Z r).take (L r)) (List.range len) (fun r hr' => intRow_le _ _ _ (fun e => by
        obtain ⟨_, _, _, h4, _, h6, _⟩ := hr r (by have := List.mem_range.1 hr'; omega)
        exact List.eq_nil_of_length_eq_zero (by rw [h4]; exact h6 e)))
      omega
    · simp only [Rows.uptoBulk] at hp
      have := length_le ((List.range len).map fun r => Go.Deep.intRow (H := H) .u8 (B r) (L r) (Z r))
      simp only [List.length_map, List.length_range] at this ⊢
      omega
end Go.Proofs.Ytpadajjlakhnjaa.Rw
namespace Go.Proofs.Ytpadajjlakhnjaa.H
open Go.RowKit Go.Shelf
theorem pieces_any (a0 a1 a2 a3 : Int) (A : Option Addr) (c : Nat) (ls : List (List Int)) (w : World) (hr : RowsAt w A ls) (hl : (ls.flatten).length ≤ 1048576) (hn : ls.length ≤ 1048576) :
    Calls Try.prog 7 #[.agg #[.int .i64 a0, .int .i64 a1, .int .i64 a2, .int .u64 a3], .slice A ls.length c] w fun e w' => e = .returned (.bool true) ∧ Below w.heap.size w w' := by
  by_cases hc : check a0 a1 a2 = 0
  · exact pieces_good a0 a1 a2 a3 A c ls w hc hr hl hn
  · exact pieces_bad _ a0 a1 a2 a3 _ w hc rfl
end Go.Proofs.Ytpadajjlakhnjaa.H
