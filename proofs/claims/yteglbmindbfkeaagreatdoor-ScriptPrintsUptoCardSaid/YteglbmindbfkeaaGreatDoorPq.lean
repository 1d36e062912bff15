/- ParseOp of the program as a contract. -/
import Derived.Test.YteglbmindbfkeaaGreatDoorCu
namespace Go.Proofs.YteglbmindbfkeaaGreatDoor.H
open Go.RowKit Go.Proofs.YteglbmindbfkeaaGreatDoorW.PrintWords
set_option linter.unusedVariables false
set_option linter.unusedSimpArgs false

theorem prefix_32 (l : Bs) : Lib.hasPrefix l [32] = decide (l.head? = some 32) := by
  unfold Lib.hasPrefix
  cases l with
  | nil => simp
  | cons a r =>
    simp only [List.isPrefixOf, List.head?_cons, Option.some.injEq, Bool.and_true]
    by_cases h : a = 32
    · subst h; decide
    · rw [decide_eq_false h]
      simpa using fun e => h e.symm
def parseV (R : Option OpV) : Value := match R with
  | some o => .tuple #[opV o, .int .i64 0]
  | none => .tuple #[opV {}, .int .i64 260]
/-- A whole operation is stored in a block. -/
def stW (w : World) (b : Nat) (t : OpV) : World := (((((((w.setCell ⟨b, 0, none⟩ (.int .i64 t.kind)).setCell ⟨b, 1, none⟩ (.string (sB t.path))).setCell ⟨b, 2, none⟩ (.string (sB t.other))).setCell ⟨b, 3, none⟩ (.int .i64 t.handle)).setCell ⟨b, 4, none⟩ (.int .i64 t.offset)).setCell ⟨b, 5, none⟩ (.int .i64 t.n)).setCell ⟨b, 6, none⟩ (.int .i64 t.flags)).setCell ⟨b, 7, none⟩ (.string (sB t.data))
theorem arr8 (b0 b1 b2 b3 b4 b5 b6 b7 a0 a1 a2 a3 a4 a5 a6 a7 : Value) : (((((((#[b0, b1, b2, b3, b4, b5, b6, b7].setIfInBounds 0 a0).setIfInBounds 1 a1).setIfInBounds 2 a2).setIfInBounds 3 a3).setIfInBounds 4 a4).setIfInBounds 5 a5).setIfInBounds 6 a6).setIfInBounds 7 a7 = #[a0, a1, a2, a3, a4, a5, a6, a7] := by
  apply Array.ext'
  simp [Array.toList_setIfInBounds]
theorem OpAt.store {w : World} {b : Nat} {o : OpV} (h : OpAt w b o) (t : OpV) : OpAt (stW w b t) b t := by
  have := blk_set (blk_set (blk_set (blk_set (blk_set (blk_set (blk_set (blk_set h 0 (.int .i64 t.kind)) 1 (.string (sB t.path))) 2 (.string (sB t.other))) 3 (.int .i64 t.handle)) 4 (.int .i64 t.offset)) 5 (.int .i64 t.n)) 6 (.int .i64 t.flags)) 7 (.string (sB t.data))
  unfold opC at this
  rw [arr8] at this
  exact this
theorem below_stW {w0 w : World} {n b : Nat} (h : Below n w0 w) (hb : n ≤ b) (t : OpV) : Below n w0 (stW w b t) :=
  (((((((h.setCell (p := ⟨b, 0, none⟩) hb _).setCell (p := ⟨b, 1, none⟩) hb _).setCell (p := ⟨b, 2, none⟩) hb _).setCell (p := ⟨b, 3, none⟩) hb _).setCell (p := ⟨b, 4, none⟩) hb _).setCell (p := ⟨b, 5, none⟩) hb _).setCell (p := ⟨b, 6, none⟩) hb _).setCell (p := ⟨b, 7, none⟩) hb _
theorem OpAt.frozens {w : World} {b : Nat} {o : OpV} (h : OpAt w b o) : w.frozen? ⟨b, 0, none⟩ = false ∧ w.frozen? ⟨b, 1, none⟩ = false ∧ w.frozen? ⟨b, 2, none⟩ = false ∧ w.frozen? ⟨b, 3, none⟩ = false ∧ w.frozen? ⟨b, 4, none⟩ = false ∧ w.frozen? ⟨b, 5, none⟩ = false ∧ w.frozen? ⟨b, 6, none⟩ = false ∧ w.frozen? ⟨b, 7, none⟩ = false :=
  ⟨h.frozen 0, h.frozen 1, h.frozen 2, h.frozen 3, h.frozen 4, h.frozen 5, h.frozen 6, h.frozen 7⟩
set_option maxRecDepth 100000 in
set_option maxHeartbeats 4000000 in
theorem pparse_none (s : ByteArray) (w : World) (hE : Env w) (hs : s.size ≤ 34359738368) (hW : wordOf (word s.data.toList) = none) : Calls Tryz.prog 11 #[.string s] w fun e w' => e = .returned (parseV (parseL s.data.toList)) ∧ Below w.heap.size w w' := by
  have HE := Aside0.mk hE
  have HS := Aside0.mk hs
  clear hE
  have hCt := fun W => cut_any s W hs
  unfold CutP at hCt
  obtain ⟨l, hl⟩ : ∃ l, s.data.toList = l := ⟨_, rfl⟩
  rw [hl] at hCt hW ⊢
  obtain ⟨T, hT⟩ : ∃ T, sB (word l) = T := ⟨_, rfl⟩
  rw [hT] at hCt
  have hTs : T.size ≤ s.size := by
    rw [← hT, sB_size, ← data_length, hl]
    exact (List.takeWhile_sublist _).length_le
  have HL := Aside0.mk (And.intro hl hT)
  clear hl
  have hz0 : OpAt (w.alloc (.cells (opC {}) 38)) w.heap.size {} := OpAt.new w {}
  have hlk : ∀ W r, MapIs W r 19 → (Instr.lookup 79 (.map (some r)) (.string T) true).run Tryz.prog W = .ok (.tuple #[.agg #[.int .i64 0, .string ⟨#[]⟩], .bool false]) W := fun W r h => by
    have := look_any h (word l)
    unfold lookV at this
    rw [hW, hT] at this
    exact this
  have HW := Aside0.mk hW
  clear hW hT
  have hZ := Aside0.mk hz0
  clear hz0
  go_enter Tryz.func11, Tryz.ntmps11
  go_wp2_with (first
    | (go_at_call 25; refine (hCt _).mono ?_; rintro e w1 ⟨⟨x, ok, rfl⟩, hB⟩; have HB1 := Aside0.mk hB; clear hB)
    | (go_at_call 33; refine (forms_any _).mono ?_; rintro e w2 ⟨rfl, hM, hB⟩; have HB2 := Aside0.mk hB; have hlk2 := hlk _ _ hM; have hZ2 := Aside0.mk (((hZ.out.below HB1.out).below hB).alloc (.cells #[.int .i64 0, .string ⟨#[]⟩] 77)); obtain ⟨c0, c1, c2, c3, c4, c5, c6, c7⟩ := hZ2.out.cells; obtain ⟨f0, f1, f2, f3, f4, f5, f6, f7⟩ := hZ2.out.frozens; clear hB hM))
  have hB := below_stW (below_alloc (((below_alloc (Below.refl w.heap.size w) _).trans (HB1.out.mono (by simp))).trans (HB2.out.mono (by have := HB1.out.size; simp at this; omega))) (.cells #[.int .i64 0, .string ⟨#[]⟩] 77)) (Nat.le_refl _) {}
  have hst := hZ2.out.store {}
  clear c0 c1 c2 c3 c4 c5 c6 c7 f0 f1 f2 f3 f4 f5 f6 f7
  change bodyPost _ _ _ _ _ (stW (w2.alloc (.cells #[.int .i64 0, .string ⟨#[]⟩] 77)) w.heap.size {})
  obtain ⟨c0, c1, c2, c3, c4, c5, c6, c7⟩ := hst.cells
  refine bodyPost_ret (v := .tuple #[opV {}, .int .i64 260]) (by simp [results, Tryz.f11, go_sem, c0, c1, c2, c3, c4, c5, c6, c7]; rfl) rfl ⟨?_, hB⟩
  unfold parseL
  rw [HW.out]
  rfl
end Go.Proofs.YteglbmindbfkeaaGreatDoor.H
