/- The reader's body, by the program: a line that may not stand there; a Keep. -/
import Derived.Test.YteglbmindbfkeaaGreatDoorDo
namespace Go.Proofs.YteglbmindbfkeaaGreatDoor.H
open Go.RowKit Go.Proofs.YteglbmindbfkeaaGreatDoorW.PrintWords
set_option linter.unusedVariables false
set_option linter.unusedSimpArgs false
theorem body_early_none {ls : List LifeV} {k : Bool} {line : Bs} (hw : word line ≠ wLife) (h : ls = [] ∨ k = true) : bodyP ls k line = none := by
  unfold bodyP
  rw [if_neg hw, if_pos h]
theorem body_keep_eq {ls : List LifeV} {line : Bs} (hw : word line = wKeep) (h : ls ≠ []) : bodyP ls false line = match numsL (splB [] line).tail with
    | some (k :: ks) => some (setKeep ls (k :: ks), true)
    | _ => none := by
  unfold bodyP
  rw [if_neg (by rw [hw]; decide), if_neg (by rintro (h1 | h1); exact h h1; cases h1), if_pos hw]
  generalize numsL (splB [] line).tail = r
  split
  · rfl
  · next h2 =>
    split
    · next k ks => exact absurd rfl (h2 k ks)
    · rfl
theorem body_op_eq {ls : List LifeV} {line : Bs} (hw : word line ≠ wLife) (hk : word line ≠ wKeep) (h : ls ≠ []) : bodyP ls false line = match parseL line with
    | some o => some (addOp ls o, false)
    | none => none := by
  unfold bodyP
  rw [if_neg hw, if_neg (by rintro (h1 | h1); exact h h1; cases h1), if_neg hk]
  cases parseL line <;> rfl
set_option maxRecDepth 100000 in
set_option maxHeartbeats 4000000 in
theorem body_early (B b : Nat) (s : ShapeV) (v : Value) (n : Nat) (k : Bool) (xs : List Lv3) (A : Option Addr) (c : Nat) (line : Bs) (w : World) (hBb : B ≤ b) (hb : w.heap[b]? = some (.cells (rdC s v n k) 63 (0, 0)))
    (hL : LvRow w B v xs) (hS : SR w A (splB [] line)) (hok : LvOk (xs.map (·.1))) (hw : word line ≠ wLife) (hear : xs = [] ∨ k = true) :
    Calls Tryz.prog 28 #[.pointer (some ⟨b, 0, none⟩), .string (sB line), .slice A (splB [] line).length c] w fun e w' => BdP (bodyP (xs.map (·.1)) k line) B b s n w e w' := by
  have hxl : xs.length ≤ 1048576 := by have := hok.num; rwa [List.length_map] at this
  obtain ⟨bb, o, rfl, hcl⟩ := hS 0 _ (splB_hd line)
  have hq : ¬ (sB (word line)).toList = [108, 105, 102, 101] := by rw [Lib.toList_data, sB_data]; exact hw
  have hqb : ((sB (word line)).toList == [108, 105, 102, 101]) = false := by rw [beq_eq_false_iff_ne]; exact hq
  obtain ⟨x, hx⟩ : ∃ x, sB (word line) = x := ⟨_, rfl⟩
  rw [hx] at hcl hq hqb
  have hcl0 : w.cell? ⟨bb, o, none⟩ = some (.string x) := hcl
  have HR := Aside0.mk (body_early_none (ls := xs.map (·.1)) (k := k) hw (hear.imp (fun h => by rw [h]; rfl) id))
  have hN1 : 1 ≤ (splB [] line).length := (splB_num line).1
  obtain ⟨N, hN⟩ : ∃ N, (splB [] line).length = N := ⟨_, rfl⟩
  rw [hN] at hN1 ⊢
  have hN2 : (0 : Int) < (N : Int) := by omega
  obtain ⟨A2, cv, rfl⟩ := own_slice hL.row
  have c10 : w.cell? ⟨b, 10, none⟩ = some (.slice A2 xs.length cv) := blk_cell hb 10
  have c12 : w.cell? ⟨b, 12, none⟩ = some (.bool k) := blk_cell hb 12
  have HR11 := Aside0.mk (rdC_cells hb)
  clear hcl hx hb hS hok hw hN hL
  obtain ⟨X, hX⟩ : ∃ X, xs.length = X := ⟨_, rfl⟩
  have HX := Aside0.mk hX
  have hor : X = 0 ∨ (((X : Int) == 0) = false ∧ k = true) := by
    by_cases h : X = 0
    · exact .inl h
    · right
      refine ⟨by simp; omega, ?_⟩
      rcases hear with h1 | h1
      · subst h1; exact absurd hX.symm h
      · exact h1
  rw [hX] at c10
  clear hear hX
  rcases hor with rfl | ⟨h1, rfl⟩
  · go_enter Tryz.func28, Tryz.ntmps28
    go_wp2_with fail
    exact bodyPost_ret (v := .bool false) (by simp [results, Tryz.f28, go_sem]) rfl (BdP.bad HR.out HR11.out (Below.refl _ _))
  · go_enter Tryz.func28, Tryz.ntmps28
    go_wp2_with fail
    exact bodyPost_ret (v := .bool false) (by simp [results, Tryz.f28, go_sem]) rfl (BdP.bad HR.out HR11.out (Below.refl _ _))
set_option maxRecDepth 100000 in
set_option maxHeartbeats 4000000 in
theorem body_keep (B b : Nat) (s : ShapeV) (v : Value) (n : Nat) (ys : List Lv3) (l : LifeV) (ov kv : Value) (A : Option Addr) (c : Nat) (line : Bs) (w : World) (hE : Env w) (hBb : B ≤ b) (hb : w.heap[b]? = some (.cells (rdC s v n false) 63 (0, 0)))
    (hL : LvRow w B v (ys ++ [(l, ov, kv)])) (hS : SR w A (splB [] line)) (hc : (splB [] line).length ≤ c) (hl : line.length ≤ 1048576) (hok : LvOk ((ys ++ [(l, ov, kv)]).map (·.1))) (hw : word line = wKeep) :
    Calls Tryz.prog 28 #[.pointer (some ⟨b, 0, none⟩), .string (sB line), .slice A (splB [] line).length c] w fun e w' => BdP (bodyP ((ys ++ [(l, ov, kv)]).map (·.1)) false line) B b s n w e w' := by
  have HB := Aside0.mk hb
  have hblt := blk_lt hb
  have hxl : ys.length + 1 ≤ 1048576 := by have := hok.num; rwa [List.length_map, List.length_append] at this
  obtain ⟨bb, o, rfl, hcl⟩ := hS 0 _ (splB_hd line)
  rw [hw] at hcl
  have hcl0 : w.cell? ⟨bb, o, none⟩ = some (.string (sB wKeep)) := hcl
  have hq0 : ¬ (sB wKeep).toList = [108, 105, 102, 101] := by rw [Lib.toList_data, sB_data]; decide
  have hq : (sB wKeep).toList = [107, 101, 101, 112] := by rw [Lib.toList_data, sB_data]; rfl
  have hqb : ((sB wKeep).toList == [108, 105, 102, 101]) = false := by rw [beq_eq_false_iff_ne]; exact hq0
  obtain ⟨x, hx⟩ : ∃ x, sB wKeep = x := ⟨_, rfl⟩
  rw [hx] at hcl0 hq hq0 hqb
  clear hcl hx
  obtain ⟨A2, cv, rfl⟩ := own_slice hL.row
  obtain ⟨g, rfl, hM, hMc, hBg, g0, g1, g2, gf⟩ := hL.last
  have HL := Aside0.mk hL
  have hbg : some b ≠ (Value.slice (some ⟨g, 0, none⟩) (ys ++ [(l, ov, kv)]).length cv).ownBlock := own_ne_kind hL.row hb (by decide)
  have hbg1 : b ≠ g := fun e => hbg (by rw [e]; rfl)
  have hgb1 : g ≠ b := hbg1.symm
  have hglt : g < w.heap.size := (hL.row.lt g rfl).2
  clear hbg
  have HN := Aside0.mk (fun W (hB : Below w.heap.size w W) => words_tail (hE.below hB) (hS.below hB) hc hl)
  have hN1 : 1 ≤ (splB [] line).length := (splB_num line).1
  have HR0 := Aside0.mk (body_keep_eq (ls := (ys ++ [(l, ov, kv)]).map (·.1)) hw (by simp))
  obtain ⟨N, hN⟩ : ∃ N, (splB [] line).length = N := ⟨_, rfl⟩
  rw [hN] at HN hc hN1 ⊢
  have hN2 : (0 : Int) < (N : Int) := by omega
  have hNl : (splB [] line).length = N := hN
  have hBw : B ≤ w.heap.size := by omega
  obtain ⟨L, hLL⟩ : ∃ L, (ys ++ [(l, ov, kv)]).length = L := ⟨_, rfl⟩
  obtain ⟨M, hMM⟩ : ∃ M, ys.length = M := ⟨_, rfl⟩
  have c10 : w.cell? ⟨b, 10, none⟩ = some (.slice (some ⟨g, 0, none⟩) L cv) := by rw [← hLL]; exact blk_cell hb 10
  have c12 : w.cell? ⟨b, 12, none⟩ = some (.bool false) := blk_cell hb 12
  have hLM : L = M + 1 := by rw [← hLL, ← hMM]; exact hM
  rw [hMM] at g0 g1 g2
  have hx0 : ((L : Int) == 0) = false := by simp; omega
  have wL : wrap64 ((L : Int) - 1) = (M : Int) := by unfold wrap64; omega
  have iL : IntKind.i64.wrap ((L : Int) - 1) = (M : Int) := by rw [i64_wrap _ (by omega) (by omega)]; omega
  have hm0 : (0 : Int) ≤ (M : Int) := by omega
  have hm1 : (M : Int) < (L : Int) := by omega
  have HLM := Aside0.mk (And.intro hLM (And.intro hLL hMM))
  have HC := Aside0.mk (And.intro g1 gf)
  clear hS hb hL hok hw hN hM hMc hLM hLL hMM g1 gf g0
  have hstore : ∀ (w1 : World) (v1 : Value), Below w.heap.size w w1 → Below B w ((w1.setCell ⟨g, M * 3 + 2, none⟩ v1).setCell ⟨b, 12, none⟩ (.bool true)) := fun w1 v1 h => below_set (below_set (h.mono hBw) hBg v1) hBb (.bool true)
  have HST := Aside0.mk hstore
  have HRB := Aside0.mk (fun (w1 : World) (v1 : Value) (h : Below w.heap.size w w1) => show ((w1.setCell ⟨g, M * 3 + 2, none⟩ v1).setCell ⟨b, 12, none⟩ (.bool true)).heap[b]? = some (.cells (rdC s (.slice (some ⟨g, 0, none⟩) (ys ++ [(l, ov, kv)]).length cv) n true) 63 (0, 0)) by
    rw [← rd_eta_k s _ n false true]
    exact blk_set (blk_far ((h.block b hblt).trans HB.out) hbg1 _) 12 _)
  clear hstore
  by_cases hc1 : c = 1
  · subst hc1
    obtain rfl : N = 1 := by omega
    have ht : (splB [] line).tail = [] := List.eq_nil_of_length_eq_zero (by rw [List.length_tail, hNl])
    rw [ht] at HR0
    have HNa := Aside0.mk (fun W hB => show Calls Tryz.prog 55 #[.slice (some ⟨bb, o, none⟩) 0 0] W fun e w' => NmP (some []) W e w' by have := HN.out W hB; rw [ht, if_pos rfl] at this; exact this)
    clear HN hNl ht
    go_enter Tryz.func28, Tryz.ntmps28
    go_wp2_with fail
    go_region_held3 (fun W => W.cell? ⟨b, 10, none⟩ = some (.slice (some ⟨g, 0, none⟩) L cv)) (first | exact c10 | go_keep) (first | fail)
    rename_i hH
    clear hH
    go_wp2_with (go_at_call 55; refine (HNa.out _ (below_drew (Below.refl _ _))).mono ?_; rintro e w1 ⟨⟨v1, rfl, hO⟩, hB⟩; obtain ⟨A1, c1, rfl⟩ := own_slice hO; clear hO; have HB1 := Aside0.mk (below_step (below_drew (Below.refl _ _)) hB); have e2 := cell_later HB1.out g2; have e12 := cell_later HB1.out c12; have f2 : w1.frozen? ⟨g, M * 3 + 2, none⟩ = false := (World.frozen?_of_block (HB1.out.block g hglt)).trans (HC.out.2 _); have f12 := blk_frozen ((HB1.out.block b hblt).trans HB.out) 12; clear hB)
    exact bodyPost_ret (v := .bool false) (by simp [results, Tryz.f28, go_sem]) rfl (BdP.bad HR0.out (rdC_cells (HRB.out w1 _ HB1.out)) (HST.out w1 _ HB1.out))
  have HNa := Aside0.mk (fun W hB => show Calls Tryz.prog 55 #[.slice (some ⟨bb, o + 1, none⟩) (N - 1) (c - 1)] W fun e w' => NmP (numsL (splB [] line).tail) W e w' by have := HN.out W hB; rw [if_neg hc1] at this; exact this)
  clear HN hNl
  obtain ⟨R, hR⟩ : ∃ R, numsL (splB [] line).tail = R := ⟨_, rfl⟩
  rw [hR] at HNa HR0
  clear hR
  match R with
  | none =>
    go_enter Tryz.func28, Tryz.ntmps28
    go_wp2_with fail
    go_region_held3 (fun W => W.cell? ⟨b, 10, none⟩ = some (.slice (some ⟨g, 0, none⟩) L cv)) (first | exact c10 | go_keep) (first | fail)
    rename_i hH
    clear hH
    go_wp2_with (go_at_call 55; refine (HNa.out _ (below_drew (Below.refl _ _))).mono ?_; rintro e w1 ⟨rfl, hB⟩; have HB1 := Aside0.mk (below_step (below_drew (Below.refl _ _)) hB); have e2 := cell_later HB1.out g2; have e12 := cell_later HB1.out c12; have f2 : w1.frozen? ⟨g, M * 3 + 2, none⟩ = false := (World.frozen?_of_block (HB1.out.block g hglt)).trans (HC.out.2 _); have f12 := blk_frozen ((HB1.out.block b hblt).trans HB.out) 12; clear hB)
    exact bodyPost_ret (v := .bool false) (by simp [results, Tryz.f28, go_sem]) rfl (BdP.bad HR0.out (rdC_cells (HRB.out w1 _ HB1.out)) (HST.out w1 _ HB1.out))
  | some [] =>
    go_enter Tryz.func28, Tryz.ntmps28
    go_wp2_with fail
    go_region_held3 (fun W => W.cell? ⟨b, 10, none⟩ = some (.slice (some ⟨g, 0, none⟩) L cv)) (first | exact c10 | go_keep) (first | fail)
    rename_i hH
    clear hH
    go_wp2_with (go_at_call 55; refine (HNa.out _ (below_drew (Below.refl _ _))).mono ?_; rintro e w1 ⟨⟨v1, rfl, hO⟩, hB⟩; obtain ⟨A1, c1, rfl⟩ := own_slice hO; clear hO; have HB1 := Aside0.mk (below_step (below_drew (Below.refl _ _)) hB); have e2 := cell_later HB1.out g2; have e12 := cell_later HB1.out c12; have f2 : w1.frozen? ⟨g, M * 3 + 2, none⟩ = false := (World.frozen?_of_block (HB1.out.block g hglt)).trans (HC.out.2 _); have f12 := blk_frozen ((HB1.out.block b hblt).trans HB.out) 12; clear hB)
    exact bodyPost_ret (v := .bool false) (by simp [results, Tryz.f28, go_sem]) rfl (BdP.bad HR0.out (rdC_cells (HRB.out w1 _ HB1.out)) (HST.out w1 _ HB1.out))
  | some (k0 :: ks) =>
    have hQ0 : 0 < (k0 :: ks).length := Nat.succ_pos _
    obtain ⟨Q, hQ⟩ : ∃ Q, (k0 :: ks).length = Q := ⟨_, rfl⟩
    have HQ := Aside0.mk hQ
    rw [hQ] at hQ0
    clear hQ
    have hQ1 : (0 : Int) < (Q : Int) := by omega
    go_enter Tryz.func28, Tryz.ntmps28
    go_wp2_with fail
    go_region_held3 (fun W => W.cell? ⟨b, 10, none⟩ = some (.slice (some ⟨g, 0, none⟩) L cv)) (first | exact c10 | go_keep) (first | fail)
    rename_i hH
    clear hH
    go_wp2_with (go_at_call 55; refine (HNa.out _ (below_drew (Below.refl _ _))).mono ?_; rintro e w1 ⟨⟨v1, rfl, hO⟩, hB⟩; obtain ⟨A1, c1, rfl⟩ := own_slice hO; rw [HQ.out]; have HO := Aside0.mk hO; clear hO; have HB1 := Aside0.mk (below_step (below_drew (Below.refl _ _)) hB); have e2 := cell_later HB1.out g2; have e12 := cell_later HB1.out c12; have f2 : w1.frozen? ⟨g, M * 3 + 2, none⟩ = false := (World.frozen?_of_block (HB1.out.block g hglt)).trans (HC.out.2 _); have f12 := blk_frozen ((HB1.out.block b hblt).trans HB.out) 12; clear hB)
    refine bodyPost_ret (v := .bool true) (by simp [results, Tryz.f28, go_sem]) rfl (BdP.good (v := .slice (some ⟨g, 0, none⟩) (ys ++ [(l, ov, kv)]).length cv) (xs := ys ++ [({ l with keep := k0 :: ks }, ov, .slice A1 Q c1)]) (k := true) (by rw [HR0.out, List.map_append, List.map_append]; exact congrArg some (Prod.ext (setKeep_last _ _ _) rfl)) ?_ ?_ (HST.out w1 _ HB1.out))
    · rw [← rd_eta_k s _ n false true]
      exact blk_set (blk_far ((HB1.out.block b hblt).trans HB.out) hbg1 _) 12 _
    · have h1 := LvRow.setKeep (HL.out.below HB1.out) (own_less HO.out hBw)
      rw [HLM.out.2.2, HQ.out] at h1
      exact h1.far (blk_far ((HB1.out.block b hblt).trans HB.out) hbg1 _) _
end Go.Proofs.YteglbmindbfkeaaGreatDoor.H
