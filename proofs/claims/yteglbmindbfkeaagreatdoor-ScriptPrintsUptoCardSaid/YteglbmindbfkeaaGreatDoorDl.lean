/- The reader's head, by the program: the second of the first three lines. -/
import Derived.Test.YteglbmindbfkeaaGreatDoorDk
namespace Go.Proofs.YteglbmindbfkeaaGreatDoor.H
open Go.RowKit Go.Proofs.YteglbmindbfkeaaGreatDoorW.PrintWords
set_option linter.unusedVariables false
set_option linter.unusedSimpArgs false
theorem below_grown {w0 w w' : World} {b : Nat} (h : Below w0.heap.size w0 w) (hg : w.grownBy w' (some b)) (hb : w0.heap.size ≤ b) : Below w0.heap.size w0 w' :=
  ⟨hg.os.trans h.os, hg.tape.trans h.tape, hg.output.trans h.output, Nat.le_trans h.size hg.size, fun k hk => (hg.block k (Nat.lt_of_lt_of_le hk h.size) (fun e => by cases e; omega)).trans (h.block k hk)⟩
theorem grown_below {w w' w2 : World} {row : Option Nat} (hg : w.grownBy w' row) (h : Below w'.heap.size w' w2) : w.grownBy w2 row :=
  ⟨h.os.trans hg.os, h.tape.trans hg.tape, h.output.trans hg.output, Nat.le_trans hg.size h.size, fun k hk hne => (h.block k (Nat.lt_of_lt_of_le hk hg.size)).trans (hg.block k hk hne)⟩
theorem headG_len1 {s : ShapeV} {ws : List Bs} (h : ¬ (ws.length = 5 ∧ ws.head? = some wCut)) : headG 1 s ws = none := by
  unfold headG
  split
  · next h0 => cases h0
  · next a b c d _ =>
    split
    · next e => exact absurd ⟨rfl, by rw [e]; rfl⟩ h
    · rfl
  · next h0 => cases h0
  · rfl
theorem headG_cut {s : ShapeV} {ws : List Bs} {d : Bs} (hl : ws.length = 5) (hh : ws.head? = some wCut) (hd : ws[4]? = some d) : headG 1 s ws = match numsL (ws.tail.take 3), seedL d with
    | some [x, y, z], some u => some { s with min := x, normal := y, max := z, seed := u }
    | _, _ => none := by
  match ws, hl with
  | [w, a, b, c, e], _ =>
    have hw : w = wCut := by simpa using hh
    have he : e = d := by simpa using hd
    subst he
    unfold headG
    simp only [if_pos hw, List.tail_cons, List.take_succ_cons, List.take_zero]
    generalize numsL [a, b, c] = r
    generalize seedL e = q
    split
    · rfl
    · next h =>
      split
      · next x y z u => exact absurd rfl (h x y z u rfl)
      · rfl
theorem headG_cut_nums {s : ShapeV} {ws : List Bs} (hl : ws.length = 5) (hh : ws.head? = some wCut) (hn : numsL (ws.tail.take 3) = none) : headG 1 s ws = none := by
  rw [headG_cut hl hh (List.getElem?_eq_getElem (i := 4) (by omega)), hn]
theorem headG_cut_seed {s : ShapeV} {ws : List Bs} {d : Bs} (hl : ws.length = 5) (hh : ws.head? = some wCut) (hd : ws[4]? = some d) (hn : seedL d = none) : headG 1 s ws = none := by
  rw [headG_cut hl hh hd, hn]
  split
  · next h => cases h
  · rfl
theorem eta_cut (s : ShapeV) (a0 a1 a2 : Int) (u : Nat) (v : Value) (n : Nat) (k : Bool) : ((((rdC s v n k).setIfInBounds 4 (.int .i64 a0)).setIfInBounds 5 (.int .i64 a1)).setIfInBounds 6 (.int .i64 a2)).setIfInBounds 7 (.int .u64 (u : Int)) = rdC { s with min := a0, normal := a1, max := a2, seed := u } v n k := by
  unfold rdC
  simp
set_option maxRecDepth 100000 in
set_option maxHeartbeats 4000000 in
theorem head1_any (b : Nat) (s : ShapeV) (v : Value) (k : Bool) (A : Option Addr) (c : Nat) (ws : List Bs) (w0 w : World) (hE0 : Env w0) (hB0 : Below w0.heap.size w0 w) (hb0 : w0.heap.size ≤ b) (hb : w.heap[b]? = some (.cells (rdC s v 1 k) 63 (0, 0)))
    (hA : ∀ bb o, A = some ⟨bb, o, none⟩ → bb ≠ b) (hS : SR w A ws) (hc : ws.length ≤ c) (h0 : 1 ≤ ws.length) (hn : ws.length ≤ 1048577) (hw : ∀ x ∈ ws, x.length ≤ 1048576) :
    Calls Tryz.prog 27 #[.pointer (some ⟨b, 0, none⟩), .slice A ws.length c] w fun e w' => HdP (headG 1 s ws) b v 1 k w e w' := by
  have HB := Aside0.mk hb
  have HE0 := Aside0.mk (And.intro hE0 (And.intro hB0 hb0))
  have hE := hE0.below hB0
  have e11 : w.cell? ⟨b, 11, none⟩ = some (.int .i64 1) := rdC_cells hb
  have HS := Aside0.mk hS
  have HW := Aside0.mk hw
  have HC := Aside0.mk hc
  obtain ⟨N, hN⟩ : ∃ N, ws.length = N := ⟨_, rfl⟩
  rw [hN] at hn hc h0 ⊢
  have HN := Aside0.mk hN
  obtain ⟨x, bb, o, hx, hxm, rfl, hcl⟩ := HS.out.get (i := 0) (by rw [HN.out]; omega)
  have hcl0 : w.cell? ⟨bb, o, none⟩ = some (.string (sB x)) := hcl
  have hbbb : bb ≠ b := hA bb o rfl
  clear hA
  have hN1 : 0 < N := by omega
  have hN2 : (0 : Int) < (N : Int) := by omega
  have wN : wrap64 ((N : Int) - 1) = (N : Int) - 1 := by unfold wrap64; omega
  clear hb hS hw hN hE0 hB0 hb0
  have ht : (sB x).toList = x := by rw [Lib.toList_data, sB_data]
  by_cases hx5 : x = wCut
  · by_cases hN5 : N = 5
    · subst hN5
      have hq : (sB x).toList = [99, 117, 116] := by rw [ht, hx5]; rfl
      have hc1 : ¬ c = 1 := by omega
      obtain ⟨d, hd⟩ : ∃ d, ws[4]? = some d := ⟨_, List.getElem?_eq_getElem (by rw [HN.out]; omega)⟩
      obtain ⟨bb2, o2, hA2, hcd⟩ := HS.out 4 d hd
      cases hA2
      have hdm : d.length ≤ 1048576 := HW.out d (List.mem_of_getElem? hd)
      have HT := Aside0.mk (show SR w (some ⟨bb, o + 1, none⟩) (ws.tail.take 3) by have := HS.out.drop 1; rw [List.drop_one] at this; exact this.take 3)
      have hl3 : (ws.tail.take 3).length = 3 := by rw [List.length_take, List.length_tail, HN.out]; rfl
      have HN5 := Aside0.mk (nums_any (some ⟨bb, o + 1, none⟩) (c - 1) (ws.tail.take 3) w hE HT.out (by rw [hl3]; omega) (fun y hy => HW.out y (List.mem_of_mem_tail (List.mem_of_mem_take hy))))
      rw [hl3] at HN5
      have HP := Aside0.mk (fun W hW => parseuint_any d W hW hdm)
      have HX := Aside0.mk (show ws.head? = some wCut by rw [List.head?_eq_getElem?, hx, hx5])
      have HD := Aside0.mk hd
      have HcdA := Aside0.mk hcd
      clear ht hx5 hx hxm hd hdm hcd
      cases hns : numsL (ws.tail.take 3) with
      | none =>
        rw [hns] at HN5
        have HR0 := Aside0.mk (headG_cut_nums (s := s) HN.out HX.out hns)
        clear hns hl3
        go_enter Tryz.func27, Tryz.ntmps27
        go_wp2_with (first
          | (go_at_call 55; refine HN5.out.mono ?_; rintro e w1 ⟨rfl, hB⟩; have HB1 := Aside0.mk hB; have hcd := cell_later hB HcdA.out; clear hB)
          | (go_at_call 56; refine (HP.out w1 (hE.below HB1.out)).mono ?_; rintro e w2 ⟨hP, hB⟩; have HB2 := Aside0.mk (below_step HB1.out hB); clear hB; rcases hP with ⟨u, rfl, hu, _⟩ | ⟨u, t, p, rfl, hu, _⟩))
        all_goals go_quiet (fail)
        all_goals go_wp2
        all_goals exact bodyPost_ret (v := .bool false) (by simp [results, Tryz.f27, go_sem]) rfl (HdP.bad HR0.out (cell_later (pw_below_drewN HB2.out _) (rdC_cells HB.out)) (grown_of_below (pw_below_drewN HB2.out _)))
      | some ns =>
        rw [hns] at HN5
        have hnl := numsL_len hns
        rw [hl3] at hnl
        match ns, hnl with
        | [a0, a1, a2], _ =>
        have HR0 := Aside0.mk (headG_cut (s := s) HN.out HX.out HD.out)
        rw [hns] at HR0
        have hblt := blk_lt HB.out
        clear hns hl3
        go_enter Tryz.func27, Tryz.ntmps27
        go_wp2_with (first
          | (go_at_call 55; refine HN5.out.mono ?_; rintro e w1 ⟨⟨v1, rfl, hO⟩, hB⟩; obtain ⟨g, c1, rfl, hg1, hg2, hg3, hgc⟩ := own_nums hO (Nat.succ_pos _); have HB1 := Aside0.mk hB; have HG := Aside0.mk (And.intro hg1 (And.intro hg2 hgc)); have hcd := cell_later hB HcdA.out; clear hB hO hgc)
          | (go_at_call 56; refine (HP.out w1 (hE.below HB1.out)).mono ?_; rintro e w2 ⟨hP, hB⟩; have HB2 := Aside0.mk (below_step HB1.out hB); have HB3 := Aside0.mk hB; clear hB; rcases hP with ⟨u, rfl, hu, hu1, hu2⟩ | ⟨u, t, p, rfl, hu, hu1⟩))
        all_goals
          have hbb : w2.heap[b]? = some (.cells (rdC s v 1 k) 63 (0, 0)) := (HB2.out.block b hblt).trans HB.out
          have HBB := Aside0.mk hbb
          have k0 := cell_later HB3.out (HG.out.2.2 0 a0 rfl)
          have k1 := cell_later HB3.out (HG.out.2.2 1 a1 rfl)
          have k2 := cell_later HB3.out (HG.out.2.2 2 a2 rfl)
          have c4 : w2.cell? ⟨b, 4, none⟩ = some (.int .i64 s.min) := blk_cell hbb 4
          have c5 : w2.cell? ⟨b, 5, none⟩ = some (.int .i64 s.normal) := blk_cell hbb 5
          have c6 : w2.cell? ⟨b, 6, none⟩ = some (.int .i64 s.max) := blk_cell hbb 6
          have c7 : w2.cell? ⟨b, 7, none⟩ = some (.int .u64 (s.seed : Int)) := blk_cell hbb 7
          have f4 := blk_frozen hbb 4
          have f5 := blk_frozen hbb 5
          have f6 := blk_frozen hbb 6
          have f7 := blk_frozen hbb 7
          have hgb : g ≠ b := by omega
          have hbg : b ≠ g := by omega
          have hcd2 := cell_later HB3.out hcd
          clear hbb hblt
          go_region_held3 (fun W => W.cell? ⟨g, 0, none⟩ = some (.int .i64 a0) ∧ W.cell? ⟨g, 1, none⟩ = some (.int .i64 a1) ∧ W.cell? ⟨g, 2, none⟩ = some (.int .i64 a2)) (first | exact ⟨k0, k1, k2⟩ | go_keep) (first | fail)
          rename_i hH
          clear hH k0 k1 k2 c4 c5 c6 c7 f4 f5 f6 f7
          go_wp2
          obtain ⟨w3, hw3⟩ : ∃ w3, ((((w2.setCell ⟨b, 4, none⟩ (.int .i64 a0)).setCell ⟨b, 5, none⟩ (.int .i64 a1)).setCell ⟨b, 6, none⟩ (.int .i64 a2)).setCell ⟨b, 7, none⟩ (.int .u64 (u : Int))).drew = w3 := ⟨_, rfl⟩
          rw [hw3]
          have H3 := Aside0.mk (show w3.heap[b]? = some (.cells (rdC { s with min := a0, normal := a1, max := a2, seed := u } v 1 k) 63 (0, 0)) by
            rw [← hw3, ← eta_cut]
            exact blk_set (blk_set (blk_set (blk_set HBB.out 4 (.int .i64 a0)) 5 (.int .i64 a1)) 6 (.int .i64 a2)) 7 (.int .u64 (u : Int)))
          have HG3 := Aside0.mk (show w.grownBy w3 (some b) by
            have h := grown_set (grown_set (grown_set (grown_set (grown_of_below (b := some b) HB2.out) 4 (.int .i64 a0)) 5 (.int .i64 a1)) 6 (.int .i64 a2)) 7 (.int .u64 (u : Int))
            rw [← hw3]
            exact ⟨h.os, h.tape, h.output, h.size, h.block⟩)
          have hcd3 := HG3.out.cell HcdA.out (by simpa using hbbb)
          have HB03 := Aside0.mk (below_grown HE0.out.2.1 HG3.out HE0.out.2.2)
          clear hw3 HBB hcd hcd2
        · by_cases he : Lib.decDigits u = d
          · have hee := eq_data (Lib.decDigits u) d he
            have HR1 := Aside0.mk (show headG 1 s ws = some { s with min := a0, normal := a1, max := a2, seed := u } by rw [HR0.out, hu1 he])
            clear he hu1 hu2
            go_region_held3 (fun W => W.cell? ⟨bb, o + 4, none⟩ = some (.string (sB d)) ∧ Below w3.heap.size w3 W) (first | exact ⟨hcd3, Below.refl _ _⟩ | exact ⟨hcd3, below_drew (Below.refl _ _)⟩ | exact ⟨cell_later hBn hcd3, below_step (below_drew (Below.refl _ _)) hBn⟩) (first
              | (go_at_call 47; refine (fmtuint_any u _ (HE0.out.1.below (below_drew HB03.out)) hu).mono ?_; rintro e w' ⟨rfl, hBn⟩))
            rename_i hSx
            have HSx := Aside0.mk hSx.2
            clear hSx
            go_wp2
            exact bodyPost_ret (v := .bool true) (by simp [results, Tryz.f27, go_sem]) rfl (HdP.good HR1.out ((HSx.out.block b (blk_lt H3.out)).trans H3.out) (grown_below HG3.out HSx.out))
          · have hee := ne_data (Lib.decDigits u) d he
            have HR1 := Aside0.mk (show headG 1 s ws = none from headG_cut_seed HN.out HX.out HD.out (hu2 he))
            clear he hu1 hu2
            go_region_held3 (fun W => W.cell? ⟨bb, o + 4, none⟩ = some (.string (sB d)) ∧ Below w3.heap.size w3 W) (first | exact ⟨hcd3, Below.refl _ _⟩ | exact ⟨hcd3, below_drew (Below.refl _ _)⟩ | exact ⟨cell_later hBn hcd3, below_step (below_drew (Below.refl _ _)) hBn⟩) (first
              | (go_at_call 47; refine (fmtuint_any u _ (HE0.out.1.below (below_drew HB03.out)) hu).mono ?_; rintro e w' ⟨rfl, hBn⟩))
            rename_i hSx
            have HSx := Aside0.mk hSx.2
            clear hSx
            go_wp2
            exact bodyPost_ret (v := .bool false) (by simp [results, Tryz.f27, go_sem]) rfl (HdP.bad HR1.out (cell_later HSx.out (rdC_cells H3.out)) (grown_below HG3.out HSx.out))
        · have HR1 := Aside0.mk (show headG 1 s ws = none from headG_cut_seed HN.out HX.out HD.out hu1)
          clear hu1
          go_quiet (fail)
          go_wp2
          exact bodyPost_ret (v := .bool false) (by simp [results, Tryz.f27, go_sem]) rfl (HdP.bad HR1.out (rdC_cells H3.out) (grown_below HG3.out (pw_below_drewN (Below.refl _ _) _)))
    · have HR := Aside0.mk (headG_len1 (s := s) (ws := ws) (fun h => hN5 (by rw [← HN.out]; exact h.1)))
      have hq : (sB x).toList = [99, 117, 116] := by rw [ht, hx5]; rfl
      have hq4 : ((N : Int) - 1 == 4) = false := by simp; omega
      clear ht hx5 hx hxm
      go_enter Tryz.func27, Tryz.ntmps27
      go_wp2_with fail
      exact bodyPost_ret (v := .bool false) (by simp [results, Tryz.f27, go_sem]) rfl (HdP.bad HR.out (rdC_cells HB.out) (grown_of_below (Below.refl _ _)))
  · have HR := Aside0.mk (headG_len1 (s := s) (ws := ws) (fun h => hx5 (by have h2 := h.2; rw [List.head?_eq_getElem?, hx] at h2; exact Option.some.inj h2)))
    have hq : ¬ (sB x).toList = [99, 117, 116] := by rw [ht]; exact hx5
    clear ht hx5 hx hxm
    go_enter Tryz.func27, Tryz.ntmps27
    go_wp2_with fail
    exact bodyPost_ret (v := .bool false) (by simp [results, Tryz.f27, go_sem]) rfl (HdP.bad HR.out (rdC_cells HB.out) (grown_of_below (Below.refl _ _)))
end Go.Proofs.YteglbmindbfkeaaGreatDoor.H
