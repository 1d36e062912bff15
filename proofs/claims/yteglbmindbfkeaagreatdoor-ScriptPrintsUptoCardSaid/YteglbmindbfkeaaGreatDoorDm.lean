/- The reader's head, by the program: the last of the first three lines. -/
import Derived.Test.YteglbmindbfkeaaGreatDoorDl
namespace Go.Proofs.YteglbmindbfkeaaGreatDoor.H
open Go.RowKit Go.Proofs.YteglbmindbfkeaaGreatDoorW.PrintWords
set_option linter.unusedVariables false
set_option linter.unusedSimpArgs false
theorem headG_len2 {s : ShapeV} {ws : List Bs} (h : ¬ (ws.length = 3 ∧ ws.head? = some wIndex)) : headG 2 s ws = none := by
  unfold headG
  split
  · next h0 => cases h0
  · next h0 => cases h0
  · next w a b _ =>
    split
    · next e => exact absurd ⟨rfl, by rw [e.1]; rfl⟩ h
    · rfl
  · rfl
theorem headG_idx {s : ShapeV} {ws : List Bs} {a d : Bs} (hl : ws.length = 3) (hh : ws.head? = some wIndex) (ha : ws[1]? = some a) (hd : ws[2]? = some d) : headG 2 s ws = if d = wDedup ∨ d = wPlain then (match numL a with
    | some x => some { s with bits := x, dedup := decide (d = wDedup) }
    | none => none) else none := by
  match ws, hl with
  | [w, a', e], _ =>
    have hw : w = wIndex := by simpa using hh
    have he : e = d := by simpa using hd
    have ha' : a' = a := by simpa using ha
    subst he
    subst ha'
    unfold headG
    simp only [hw, true_and]
    split <;> rfl
theorem headG_idx_num {s : ShapeV} {ws : List Bs} {a : Bs} (hl : ws.length = 3) (hh : ws.head? = some wIndex) (ha : ws[1]? = some a) (hn : numL a = none) : headG 2 s ws = none := by
  rw [headG_idx hl hh ha (List.getElem?_eq_getElem (i := 2) (by omega)), hn]
  split <;> rfl
theorem headG_idx_word {s : ShapeV} {ws : List Bs} {a d : Bs} (hl : ws.length = 3) (hh : ws.head? = some wIndex) (ha : ws[1]? = some a) (hd : ws[2]? = some d) (hn : ¬ (d = wDedup ∨ d = wPlain)) : headG 2 s ws = none := by
  rw [headG_idx hl hh ha hd, if_neg hn]
theorem headG_idx_ok {s : ShapeV} {ws : List Bs} {a d : Bs} {n : Int} (hl : ws.length = 3) (hh : ws.head? = some wIndex) (ha : ws[1]? = some a) (hd : ws[2]? = some d) (hn : d = wDedup ∨ d = wPlain) (hx : numL a = some n) : headG 2 s ws = some { s with bits := n, dedup := decide (d = wDedup) } := by
  rw [headG_idx hl hh ha hd, if_pos hn, hx]
theorem eta_idx (s : ShapeV) (n0 : Int) (dd : Bool) (v : Value) (n : Nat) (k : Bool) : ((rdC s v n k).setIfInBounds 8 (.int .i64 n0)).setIfInBounds 9 (.bool dd) = rdC { s with bits := n0, dedup := dd } v n k := by
  unfold rdC
  simp
set_option maxRecDepth 100000 in
set_option maxHeartbeats 4000000 in
theorem head2_any (b : Nat) (s : ShapeV) (v : Value) (k : Bool) (A : Option Addr) (c : Nat) (ws : List Bs) (w : World) (hE : Env w) (hb : w.heap[b]? = some (.cells (rdC s v 2 k) 63 (0, 0)))
    (hA : ∀ bb o, A = some ⟨bb, o, none⟩ → bb ≠ b) (hS : SR w A ws) (hc : ws.length ≤ c) (h0 : 1 ≤ ws.length) (hn : ws.length ≤ 1048577) (hw : ∀ x ∈ ws, x.length ≤ 1048576) :
    Calls Tryz.prog 27 #[.pointer (some ⟨b, 0, none⟩), .slice A ws.length c] w fun e w' => HdP (headG 2 s ws) b v 2 k w e w' := by
  have HB := Aside0.mk hb
  have e11 : w.cell? ⟨b, 11, none⟩ = some (.int .i64 2) := rdC_cells hb
  have HS := Aside0.mk hS
  have HW := Aside0.mk hw
  have HC := Aside0.mk hc
  obtain ⟨N, hN⟩ : ∃ N, ws.length = N := ⟨_, rfl⟩
  rw [hN] at hn hc h0 ⊢
  have HN := Aside0.mk hN
  obtain ⟨x, bb, o, hx, hxm, rfl, hcl⟩ := HS.out.get (i := 0) (by rw [HN.out]; omega)
  have hcl0 : w.cell? ⟨bb, o, none⟩ = some (.string (sB x)) := hcl
  have hbbb : bb ≠ b := hA bb o rfl
  have hbbc : b ≠ bb := hbbb.symm
  clear hA
  have hN1 : 0 < N := by omega
  have hN2 : (0 : Int) < (N : Int) := by omega
  have wN : wrap64 ((N : Int) - 1) = (N : Int) - 1 := by unfold wrap64; omega
  clear hb hS hw hN
  have ht : (sB x).toList = x := by rw [Lib.toList_data, sB_data]
  by_cases hx5 : x = wIndex
  · by_cases hN5 : N = 3
    · subst hN5
      have hq : (sB x).toList = [105, 110, 100, 101, 120] := by rw [ht, hx5]; rfl
      obtain ⟨d, hd⟩ : ∃ d, ws[2]? = some d := ⟨_, List.getElem?_eq_getElem (by rw [HN.out]; omega)⟩
      obtain ⟨bb2, o2, hA2, hcd⟩ := HS.out 2 d hd
      cases hA2
      obtain ⟨y, hy⟩ : ∃ y, ws[1]? = some y := ⟨_, List.getElem?_eq_getElem (by rw [HN.out]; omega)⟩
      obtain ⟨bb2, o2, hA2, hcy⟩ := HS.out 1 y hy
      cases hA2
      have hC := fun W h => number_any (sB y) W h (by rw [sB_size]; have := HW.out y (List.mem_of_getElem? hy); omega)
      rw [sB_data] at hC
      have HP := Aside0.mk hC
      have HX := Aside0.mk (show ws.head? = some wIndex by rw [List.head?_eq_getElem?, hx, hx5])
      have HD := Aside0.mk hd
      have HY := Aside0.mk hy
      have HcdA := Aside0.mk hcd
      have htd : (sB d).toList = d := by rw [Lib.toList_data, sB_data]
      have c8 : w.cell? ⟨b, 8, none⟩ = some (.int .i64 s.bits) := blk_cell HB.out 8
      have c9 : w.cell? ⟨b, 9, none⟩ = some (.bool s.dedup) := blk_cell HB.out 9
      have f8 := blk_frozen HB.out 8
      have f9 := blk_frozen HB.out 9
      have hblt := blk_lt HB.out
      clear ht hx5 hx hxm hd hy hC
      have hend : ∀ (n0 : Int) (dd : Bool) (w1 : World), Below w.heap.size w w1 → ((w1.setCell ⟨b, 8, none⟩ (.int .i64 n0)).setCell ⟨b, 9, none⟩ (.bool dd)).heap[b]? = some (.cells (rdC { s with bits := n0, dedup := dd } v 2 k) 63 (0, 0)) ∧ w.grownBy ((w1.setCell ⟨b, 8, none⟩ (.int .i64 n0)).setCell ⟨b, 9, none⟩ (.bool dd)) (some b) := fun n0 dd w1 h => by
        refine ⟨?_, grown_set (grown_set (grown_of_below (b := some b) h) 8 (.int .i64 n0)) 9 (.bool dd)⟩
        rw [← eta_idx]
        exact blk_set (blk_set ((h.block b hblt).trans HB.out) 8 (.int .i64 n0)) 9 (.bool dd)
      have HZ := Aside0.mk hend
      clear hend
      by_cases hd1 : d = wDedup
      · have hqd : (sB d).toList = [100, 101, 100, 117, 112] := by rw [htd, hd1]; rfl
        have HDD := Aside0.mk hd1
        clear htd hd1
        go_enter Tryz.func27, Tryz.ntmps27
        go_wp2_with (go_at_call 37; refine (HP.out w hE).mono ?_; rintro e w1 ⟨⟨n, ok, rfl, h1, h2⟩, hB⟩; have HB1 := Aside0.mk hB; have hcd1 := cell_later hB hcd; have d8 := cell_later hB c8; have d9 := cell_later hB c9; have g8 := blk_frozen ((hB.block b hblt).trans HB.out) 8; have g9 := blk_frozen ((hB.block b hblt).trans HB.out) 9; clear hB; cases ok)
        · exact bodyPost_ret (v := .bool false) (by simp [results, Tryz.f27, go_sem]) rfl (HdP.bad (headG_idx_num HN.out HX.out HY.out (h2 trivial).1) (rdC_cells (HZ.out _ _ w1 HB1.out).1) (HZ.out _ _ w1 HB1.out).2)
        · exact bodyPost_ret (v := .bool true) (by simp [results, Tryz.f27, go_sem]) rfl (HdP.good (by rw [headG_idx_ok HN.out HX.out HY.out HD.out (.inl HDD.out) (h1 trivial), decide_eq_true (HDD.out)]) (HZ.out _ _ w1 HB1.out).1 (HZ.out _ _ w1 HB1.out).2)
      · have hqd : ¬ (sB d).toList = [100, 101, 100, 117, 112] := by rw [htd]; exact hd1
        by_cases hd2 : d = wPlain
        · have hqe : (sB d).toList = [112, 108, 97, 105, 110] := by rw [htd, hd2]; rfl
          have HDD := Aside0.mk (And.intro hd1 hd2)
          clear htd hd1 hd2
          go_enter Tryz.func27, Tryz.ntmps27
          go_wp2_with (go_at_call 37; refine (HP.out w hE).mono ?_; rintro e w1 ⟨⟨n, ok, rfl, h1, h2⟩, hB⟩; have HB1 := Aside0.mk hB; have hcd1 := cell_later hB hcd; have d8 := cell_later hB c8; have d9 := cell_later hB c9; have g8 := blk_frozen ((hB.block b hblt).trans HB.out) 8; have g9 := blk_frozen ((hB.block b hblt).trans HB.out) 9; clear hB; cases ok)
          · exact bodyPost_ret (v := .bool false) (by simp [results, Tryz.f27, go_sem]) rfl (HdP.bad (headG_idx_num HN.out HX.out HY.out (h2 trivial).1) (rdC_cells (HZ.out _ _ w1 HB1.out).1) (HZ.out _ _ w1 HB1.out).2)
          · exact bodyPost_ret (v := .bool true) (by simp [results, Tryz.f27, go_sem]) rfl (HdP.good (by rw [headG_idx_ok HN.out HX.out HY.out HD.out (.inr HDD.out.2) (h1 trivial), decide_eq_false (HDD.out.1)]) (HZ.out _ _ w1 HB1.out).1 (HZ.out _ _ w1 HB1.out).2)
        · have hqe : ¬ (sB d).toList = [112, 108, 97, 105, 110] := by rw [htd]; exact hd2
          have HDD := Aside0.mk (And.intro hd1 hd2)
          clear htd hd1 hd2
          go_enter Tryz.func27, Tryz.ntmps27
          go_wp2_with (go_at_call 37; refine (HP.out w hE).mono ?_; rintro e w1 ⟨⟨n, ok, rfl, h1, h2⟩, hB⟩; have HB1 := Aside0.mk hB; have hcd1 := cell_later hB hcd; have d8 := cell_later hB c8; have d9 := cell_later hB c9; have g8 := blk_frozen ((hB.block b hblt).trans HB.out) 8; have g9 := blk_frozen ((hB.block b hblt).trans HB.out) 9; clear hB; cases ok)
          · exact bodyPost_ret (v := .bool false) (by simp [results, Tryz.f27, go_sem]) rfl (HdP.bad (headG_idx_num HN.out HX.out HY.out (h2 trivial).1) (rdC_cells (HZ.out _ _ w1 HB1.out).1) (HZ.out _ _ w1 HB1.out).2)
          · exact bodyPost_ret (v := .bool false) (by simp [results, Tryz.f27, go_sem, hqe, hqd]) rfl (HdP.bad (headG_idx_word HN.out HX.out HY.out HD.out (fun h => h.elim HDD.out.1 HDD.out.2)) (rdC_cells (HZ.out _ _ w1 HB1.out).1) (HZ.out _ _ w1 HB1.out).2)
    · have HR := Aside0.mk (headG_len2 (s := s) (ws := ws) (fun h => hN5 (by rw [← HN.out]; exact h.1)))
      have hq : (sB x).toList = [105, 110, 100, 101, 120] := by rw [ht, hx5]; rfl
      have hq4 : ((N : Int) - 1 == 2) = false := by simp; omega
      clear ht hx5 hx hxm
      go_enter Tryz.func27, Tryz.ntmps27
      go_wp2_with fail
      exact bodyPost_ret (v := .bool false) (by simp [results, Tryz.f27, go_sem]) rfl (HdP.bad HR.out (rdC_cells HB.out) (grown_of_below (Below.refl _ _)))
  · have HR := Aside0.mk (headG_len2 (s := s) (ws := ws) (fun h => hx5 (by have h2 := h.2; rw [List.head?_eq_getElem?, hx] at h2; exact Option.some.inj h2)))
    have hq : ¬ (sB x).toList = [105, 110, 100, 101, 120] := by rw [ht]; exact hx5
    clear ht hx5 hx hxm
    go_enter Tryz.func27, Tryz.ntmps27
    go_wp2_with fail
    exact bodyPost_ret (v := .bool false) (by simp [results, Tryz.f27, go_sem]) rfl (HdP.bad HR.out (rdC_cells HB.out) (grown_of_below (Below.refl _ _)))
end Go.Proofs.YteglbmindbfkeaaGreatDoor.H
