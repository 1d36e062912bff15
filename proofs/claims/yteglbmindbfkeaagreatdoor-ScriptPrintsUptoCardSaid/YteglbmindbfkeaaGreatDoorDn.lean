/- A shape's lines, by the reference. -/
import Derived.Test.YteglbmindbfkeaaGreatDoorDm
namespace Go.Proofs.YteglbmindbfkeaaGreatDoor.H
open Go.RowKit Go.Proofs.YteglbmindbfkeaaGreatDoorW.PrintWords
set_option linter.unusedVariables false
set_option linter.unusedSimpArgs false
/-- What shapeLine answers. -/
def SlP (R : Option ShapeV) (b : Nat) (w : World) (e : Ending) (w' : World) : Prop :=
  (match R with
    | some s => e = .returned (.bool true) ∧ w'.heap[b]? = some (.cells (shC s) 26 (0, 0))
    | none => e = .returned (.bool false)) ∧ w.grownBy w' (some b)
theorem SlP.bad {R : Option ShapeV} {b : Nat} {w w' : World} (hR : R = none) (hg : w.grownBy w' (some b)) : SlP R b w (.returned (.bool false)) w' := by
  subst hR
  exact ⟨rfl, hg⟩
theorem SlP.good {R : Option ShapeV} {s : ShapeV} {b : Nat} {w w' : World} (hR : R = some s) (hb : w'.heap[b]? = some (.cells (shC s) 26 (0, 0))) (hg : w.grownBy w' (some b)) : SlP R b w (.returned (.bool true)) w' := by
  subst hR
  exact ⟨⟨rfl, hb⟩, hg⟩
theorem headR_vol {s : ShapeV} {ws : List Bs} : headG 0 s ws = match numsR ws wVolume 4 with
    | some [x, y, z, u] => some { s with sector := x, sectors := y, journal := z, pack := u }
    | _ => none := by
  unfold numsR
  by_cases h : ws.length = 5 ∧ ws.head? = some wVolume
  · rw [headG_vol h.1 h.2, if_pos ⟨by omega, h.2⟩]
    generalize numsL ws.tail = r
    split
    · rfl
    · next h =>
      split
      · next x y z u => exact absurd rfl (h x y z u)
      · rfl
  · rw [headG_len0 h, if_neg (fun e => h ⟨by omega, e.2⟩)]
theorem headR_cut_len {s : ShapeV} {ws : List Bs} (h : ws.length ≠ 5) : headG 1 s ws = none := headG_len1 (fun e => h e.1)
theorem headR_cut {s : ShapeV} {ws : List Bs} {d : Bs} (hl : ws.length = 5) (hd : ws[4]? = some d) : headG 1 s ws = match numsR (ws.take 4) wCut 3, seedL d with
    | some [x, y, z], some u => some { s with min := x, normal := y, max := z, seed := u }
    | _, _ => none := by
  match ws, hl with
  | [w, a, b, c, e], _ =>
    by_cases hh : w = wCut
    · subst hh
      rw [headG_cut rfl rfl hd]
      unfold numsR
      rw [if_pos ⟨by simp, by simp⟩]
      simp only [List.take_succ_cons, List.take_zero, List.tail_cons]
      generalize numsL [a, b, c] = r
      generalize seedL d = q
      split
      · rfl
      · next h =>
        split
        · next x y z u => exact absurd rfl (h x y z u rfl)
        · rfl
    · rw [headG_len1 (fun e => hh (by simpa using e.2))]
      unfold numsR
      rw [if_neg (fun e => hh (by simpa using e.2))]
theorem headR_idx_len {s : ShapeV} {ws : List Bs} (h : ws.length ≠ 3) : headG 2 s ws = none := headG_len2 (fun e => h e.1)
theorem headR_idx_word {s : ShapeV} {ws : List Bs} {d : Bs} (hl : ws.length = 3) (hd : ws[2]? = some d) (h : ¬ (d = wDedup ∨ d = wPlain)) : headG 2 s ws = none := by
  match ws, hl with
  | [w, a, e], _ =>
    have he : e = d := by simpa using hd
    subst he
    unfold headG
    simp only
    rw [if_neg (fun e => h e.2)]
theorem headR_idx {s : ShapeV} {ws : List Bs} {d : Bs} (hl : ws.length = 3) (hd : ws[2]? = some d) (h : d = wDedup ∨ d = wPlain) : headG 2 s ws = match numsR (ws.take 2) wIndex 1 with
    | some [x] => some { s with bits := x, dedup := decide (d = wDedup) }
    | _ => none := by
  match ws, hl with
  | [w, a, e], _ =>
    have he : e = d := by simpa using hd
    subst he
    by_cases hh : w = wIndex
    · subst hh
      unfold headG numsR
      simp only [true_and, List.take_succ_cons, List.take_zero, List.tail_cons, List.length_cons, List.length_nil, List.head?_cons, numsL, if_pos h]
      rw [if_pos (by simp)]
      cases numL a with
      | none => rfl
      | some x => rfl
    · rw [headG_len2 (fun e => hh (by simpa using e.2))]
      unfold numsR
      rw [if_neg (fun e => hh (by simpa using e.2))]
theorem sh_eta4 (s : ShapeV) (a0 a1 a2 a3 : Int) : ((((shC s).setIfInBounds 0 (.int .i64 a0)).setIfInBounds 1 (.int .i64 a1)).setIfInBounds 2 (.int .i64 a2)).setIfInBounds 3 (.int .i64 a3) = shC { s with sector := a0, sectors := a1, journal := a2, pack := a3 } := by
  unfold shC
  simp
theorem sh_eta_cut (s : ShapeV) (a0 a1 a2 : Int) (u : Nat) : ((((shC s).setIfInBounds 4 (.int .i64 a0)).setIfInBounds 5 (.int .i64 a1)).setIfInBounds 6 (.int .i64 a2)).setIfInBounds 7 (.int .u64 (u : Int)) = shC { s with min := a0, normal := a1, max := a2, seed := u } := by
  unfold shC
  simp
theorem sh_eta_idx (s : ShapeV) (n0 : Int) (dd : Bool) : ((shC s).setIfInBounds 8 (.int .i64 n0)).setIfInBounds 9 (.bool dd) = shC { s with bits := n0, dedup := dd } := by
  unfold shC
  simp
theorem numsR_len {ws : List Bs} {first : Bs} {n : Nat} {ns : List Int} (h : numsR ws first (n : Int) = some ns) : ns.length = n := by
  unfold numsR at h
  split at h
  · next hc =>
    have h1 := numsL_len h
    have h2 := hc.1
    rw [List.length_tail] at h1
    omega
  · cases h
set_option maxRecDepth 100000 in
set_option maxHeartbeats 4000000 in
theorem shape0_any (b : Nat) (s : ShapeV) (A : Option Addr) (c : Nat) (ws : List Bs) (w : World) (hb : w.heap[b]? = some (.cells (shC s) 26 (0, 0)))
    (hS : SR w A ws) (hc : ws.length ≤ c) (hn : ws.length ≤ 1048577) (hw : ∀ x ∈ ws, x.length ≤ 1048576) :
    Calls Tryz.prog 30 #[.pointer (some ⟨b, 0, none⟩), .int .i64 0, .slice A ws.length c] w fun e w' => SlP (headG 0 s ws) b w e w' := by
  have HB := Aside0.mk hb
  have HN5 := Aside0.mk (rnums_any A c ws wVolume 4 w hS hc hn (by omega) hw)
  rw [show sB wVolume = ⟨#[118, 111, 108, 117, 109, 101]⟩ from rfl] at HN5
  have HR0 := Aside0.mk (headR_vol (s := s) (ws := ws))
  have hblt := blk_lt HB.out
  clear hb hS hw
  cases hns : numsR ws wVolume 4 with
  | none =>
    rw [hns] at HN5 HR0
    clear hns
    go_enter Tryz.func30, Tryz.ntmps30
    go_wp2_with (go_at_call 57; refine HN5.out.mono ?_; rintro e w1 ⟨rfl, hB⟩; have HB1 := Aside0.mk hB; clear hB)
    exact bodyPost_ret (v := .bool false) (by simp [results, Tryz.f30, go_sem]) rfl (SlP.bad HR0.out (grown_of_below HB1.out))
  | some ns =>
    rw [hns] at HN5 HR0
    have hnl := numsR_len (n := 4) hns
    match ns, hnl with
    | [a0, a1, a2, a3], _ =>
    clear hns
    go_enter Tryz.func30, Tryz.ntmps30
    go_wp2_with (go_at_call 57; refine HN5.out.mono ?_; rintro e w1 ⟨⟨v1, rfl, hO⟩, hB⟩; obtain ⟨g, c1, rfl, hg1, hg2, hg3, hgc⟩ := own_nums hO (Nat.succ_pos _); have HB1 := Aside0.mk hB; have HG := Aside0.mk (And.intro hg1 (And.intro hg2 hgc)); clear hB hO hgc)
    have hbb : w1.heap[b]? = some (.cells (shC s) 26 (0, 0)) := (HB1.out.block b hblt).trans HB.out
    have HBB := Aside0.mk hbb
    have k0 := HG.out.2.2 0 a0 rfl
    have k1 := HG.out.2.2 1 a1 rfl
    have k2 := HG.out.2.2 2 a2 rfl
    have k3 := HG.out.2.2 3 a3 rfl
    have c0 : w1.cell? ⟨b, 0, none⟩ = some (.int .i64 s.sector) := blk_cell hbb 0
    have c1' : w1.cell? ⟨b, 1, none⟩ = some (.int .i64 s.sectors) := blk_cell hbb 1
    have c2 : w1.cell? ⟨b, 2, none⟩ = some (.int .i64 s.journal) := blk_cell hbb 2
    have c3 : w1.cell? ⟨b, 3, none⟩ = some (.int .i64 s.pack) := blk_cell hbb 3
    have f0 := blk_frozen hbb 0
    have f1 := blk_frozen hbb 1
    have f2 := blk_frozen hbb 2
    have f3 := blk_frozen hbb 3
    have hgb : g ≠ b := by omega
    have hbg : b ≠ g := by omega
    have hsz : w.heap.size ≤ w1.heap.size := HB1.out.size
    clear hbb hblt
    go_region_held3 (fun W => W.cell? ⟨g, 0, none⟩ = some (.int .i64 a0) ∧ W.cell? ⟨g, 1, none⟩ = some (.int .i64 a1) ∧ W.cell? ⟨g, 2, none⟩ = some (.int .i64 a2) ∧ W.cell? ⟨g, 3, none⟩ = some (.int .i64 a3)) (first | exact ⟨k0, k1, k2, k3⟩ | go_keep) (first | fail)
    go_wp2
    refine bodyPost_ret (v := .bool true) (by simp [results, Tryz.f30, go_sem]) rfl (SlP.good HR0.out ?_ ?_)
    · have h := blk_set (blk_set (blk_set (blk_set HBB.out 0 (.int .i64 a0)) 1 (.int .i64 a1)) 2 (.int .i64 a2)) 3 (.int .i64 a3)
      rw [sh_eta4] at h
      exact h
    · have h := grown_set (grown_set (grown_set (grown_set (grown_of_below (b := some b) HB1.out) 0 (.int .i64 a0)) 1 (.int .i64 a1)) 2 (.int .i64 a2)) 3 (.int .i64 a3)
      exact ⟨h.os, h.tape, h.output, h.size, h.block⟩
set_option maxRecDepth 100000 in
set_option maxHeartbeats 4000000 in
theorem shape1_any (b : Nat) (s : ShapeV) (A : Option Addr) (c : Nat) (ws : List Bs) (w : World) (hb : w.heap[b]? = some (.cells (shC s) 26 (0, 0)))
    (hS : SR w A ws) (hc : ws.length ≤ c) (hn : ws.length ≤ 1048577) (hw : ∀ x ∈ ws, x.length ≤ 1048576) :
    Calls Tryz.prog 30 #[.pointer (some ⟨b, 0, none⟩), .int .i64 1, .slice A ws.length c] w fun e w' => SlP (headG 1 s ws) b w e w' := by
  have HB := Aside0.mk hb
  have hblt := blk_lt hb
  obtain ⟨N, hN⟩ : ∃ N, ws.length = N := ⟨_, rfl⟩
  rw [hN] at hc hn ⊢
  have HN := Aside0.mk hN
  have HS := Aside0.mk hS
  have HW := Aside0.mk hw
  clear hb hS hw hN
  by_cases hN5 : N = 5
  · subst hN5
    obtain ⟨d, hd⟩ : ∃ d, ws[4]? = some d := ⟨_, List.getElem?_eq_getElem (by rw [HN.out]; omega)⟩
    obtain ⟨bb, o, rfl, hcd⟩ := HS.out 4 d hd
    have hdm : d.length ≤ 1048576 := HW.out d (List.mem_of_getElem? hd)
    have HN5 := Aside0.mk (rnums_any (some ⟨bb, o, none⟩) c (ws.take 4) wCut 3 w (HS.out.take 4) (by rw [List.length_take, HN.out]; omega) (by rw [List.length_take, HN.out]; omega) (by omega) (fun y hy => HW.out y (List.mem_of_mem_take hy)))
    rw [show sB wCut = ⟨#[99, 117, 116]⟩ from rfl, show (ws.take 4).length = 4 by rw [List.length_take, HN.out]; rfl] at HN5
    have HP := Aside0.mk (fun W => rreadseed_any d W hdm)
    have HR0 := Aside0.mk (headR_cut (s := s) HN.out hd)
    have HcdA := Aside0.mk hcd
    clear hd hdm hcd
    cases hns : numsR (ws.take 4) wCut 3 with
    | none =>
      rw [hns] at HN5 HR0
      clear hns
      go_enter Tryz.func30, Tryz.ntmps30
      go_wp2_with (first
        | (go_at_call 57; refine HN5.out.mono ?_; rintro e w1 ⟨rfl, hB⟩; have HB1 := Aside0.mk hB; have hcd := cell_later hB HcdA.out; clear hB)
        | (go_at_call 58; refine (HP.out w1).mono ?_; rintro e w2 ⟨⟨u, ok, rfl, hu, _, _⟩, hB⟩; have HB2 := Aside0.mk (below_step HB1.out hB); clear hB))
      exact bodyPost_ret (v := .bool false) (by simp [results, Tryz.f30, go_sem]) rfl (SlP.bad HR0.out (grown_of_below HB2.out))
    | some ns =>
      rw [hns] at HN5 HR0
      have hnl := numsR_len (n := 3) hns
      match ns, hnl with
      | [a0, a1, a2], _ =>
      clear hns
      go_enter Tryz.func30, Tryz.ntmps30
      go_wp2_with (first
        | (go_at_call 57; refine HN5.out.mono ?_; rintro e w1 ⟨⟨v1, rfl, hO⟩, hB⟩; obtain ⟨g, c1, rfl, hg1, hg2, hg3, hgc⟩ := own_nums hO (Nat.succ_pos _); have HB1 := Aside0.mk hB; have HG := Aside0.mk (And.intro hg1 (And.intro hg2 hgc)); have hcd := cell_later hB HcdA.out; clear hB hO hgc)
        | (go_at_call 58; refine (HP.out w1).mono ?_; rintro e w2 ⟨⟨u, ok, rfl, hu, hu1, hu2⟩, hB⟩; have HB2 := Aside0.mk (below_step HB1.out hB); have HB3 := Aside0.mk hB; clear hB; cases ok))
      · exact bodyPost_ret (v := .bool false) (by simp [results, Tryz.f30, go_sem]) rfl (SlP.bad (by rw [HR0.out, hu2 trivial]) (grown_of_below HB2.out))
      · have HR1 := Aside0.mk (show headG 1 s ws = some { s with min := a0, normal := a1, max := a2, seed := u } by rw [HR0.out, hu1 trivial])
        have hbb : w2.heap[b]? = some (.cells (shC s) 26 (0, 0)) := (HB2.out.block b hblt).trans HB.out
        have HBB := Aside0.mk hbb
        have k0 := cell_later HB3.out (HG.out.2.2 0 a0 rfl)
        have k1 := cell_later HB3.out (HG.out.2.2 1 a1 rfl)
        have k2 := cell_later HB3.out (HG.out.2.2 2 a2 rfl)
        have c4 : w2.cell? ⟨b, 4, none⟩ = some (.int .i64 s.min) := blk_cell hbb 4
        have c5 : w2.cell? ⟨b, 5, none⟩ = some (.int .i64 s.normal) := blk_cell hbb 5
        have c6 : w2.cell? ⟨b, 6, none⟩ = some (.int .i64 s.max) := blk_cell hbb 6
        have c7 : w2.cell? ⟨b, 7, none⟩ = some (.int .u64 (s.seed : Int)) := blk_cell hbb 7
        have f4 := blk_frozen hbb 4
        have f5 := blk_frozen hbb 5
        have f6 := blk_frozen hbb 6
        have f7 := blk_frozen hbb 7
        have hgb : g ≠ b := by omega
        have hbg : b ≠ g := by omega
        clear hbb hblt hcd hu1 hu2
        go_region_held3 (fun W => W.cell? ⟨g, 0, none⟩ = some (.int .i64 a0) ∧ W.cell? ⟨g, 1, none⟩ = some (.int .i64 a1) ∧ W.cell? ⟨g, 2, none⟩ = some (.int .i64 a2)) (first | exact ⟨k0, k1, k2⟩ | go_keep) (first | fail)
        go_wp2
        refine bodyPost_ret (v := .bool true) (by simp [results, Tryz.f30, go_sem]) rfl (SlP.good HR1.out ?_ ?_)
        · rw [← sh_eta_cut]
          exact blk_set (blk_set (blk_set (blk_set HBB.out 4 (.int .i64 a0)) 5 (.int .i64 a1)) 6 (.int .i64 a2)) 7 (.int .u64 (u : Int))
        · have h := grown_set (grown_set (grown_set (grown_set (grown_of_below (b := some b) HB2.out) 4 (.int .i64 a0)) 5 (.int .i64 a1)) 6 (.int .i64 a2)) 7 (.int .u64 (u : Int))
          exact ⟨h.os, h.tape, h.output, h.size, h.block⟩
  · have HR := Aside0.mk (headR_cut_len (s := s) (ws := ws) (fun h => hN5 (by rw [← HN.out]; exact h)))
    have hq4 : ((N : Int) == 5) = false := by simp; omega
    go_enter Tryz.func30, Tryz.ntmps30
    go_wp2_with fail
    exact bodyPost_ret (v := .bool false) (by simp [results, Tryz.f30, go_sem]) rfl (SlP.bad HR.out (grown_of_below (Below.refl _ _)))
set_option maxRecDepth 100000 in
set_option maxHeartbeats 4000000 in
theorem shape2_any (b : Nat) (s : ShapeV) (A : Option Addr) (c : Nat) (ws : List Bs) (w : World) (hb : w.heap[b]? = some (.cells (shC s) 26 (0, 0)))
    (hA : ∀ bb o, A = some ⟨bb, o, none⟩ → bb ≠ b) (hS : SR w A ws) (hc : ws.length ≤ c) (hn : ws.length ≤ 1048577) (hw : ∀ x ∈ ws, x.length ≤ 1048576) :
    Calls Tryz.prog 30 #[.pointer (some ⟨b, 0, none⟩), .int .i64 2, .slice A ws.length c] w fun e w' => SlP (headG 2 s ws) b w e w' := by
  have HB := Aside0.mk hb
  have hblt := blk_lt hb
  obtain ⟨N, hN⟩ : ∃ N, ws.length = N := ⟨_, rfl⟩
  rw [hN] at hc hn ⊢
  have HN := Aside0.mk hN
  have HS := Aside0.mk hS
  have HW := Aside0.mk hw
  clear hb hS hw hN
  by_cases hN5 : N = 3
  · subst hN5
    obtain ⟨d, hd⟩ : ∃ d, ws[2]? = some d := ⟨_, List.getElem?_eq_getElem (by rw [HN.out]; omega)⟩
    obtain ⟨bb, o, rfl, hcd⟩ := HS.out 2 d hd
    have hbbb : bb ≠ b := hA bb o rfl
    have hbbc : b ≠ bb := hbbb.symm
    clear hA
    have HN5 := Aside0.mk (rnums_any (some ⟨bb, o, none⟩) c (ws.take 2) wIndex 1 w (HS.out.take 2) (by rw [List.length_take, HN.out]; omega) (by rw [List.length_take, HN.out]; omega) (by omega) (fun y hy => HW.out y (List.mem_of_mem_take hy)))
    rw [show sB wIndex = ⟨#[105, 110, 100, 101, 120]⟩ from rfl, show (ws.take 2).length = 2 by rw [List.length_take, HN.out]; rfl] at HN5
    have htd : (sB d).toList = d := by rw [Lib.toList_data, sB_data]
    have HcdA := Aside0.mk hcd
    have HD := Aside0.mk hd
    clear hd
    by_cases hor : d = wDedup ∨ d = wPlain
    · have HR0 := Aside0.mk (headR_idx (s := s) HN.out HD.out hor)
      have hq : (((sB d).toList = [100, 101, 100, 117, 112] ∧ ((sB d).toList == [100, 101, 100, 117, 112]) = true) ∧ d = wDedup) ∨ ((¬ (sB d).toList = [100, 101, 100, 117, 112] ∧ ((sB d).toList == [100, 101, 100, 117, 112]) = false) ∧ ((sB d).toList = [112, 108, 97, 105, 110] ∧ ((sB d).toList == [112, 108, 97, 105, 110]) = true) ∧ ¬ d = wDedup) := by
        rw [htd]
        rcases hor with h | h
        · left
          subst h
          exact ⟨⟨rfl, rfl⟩, rfl⟩
        · right
          subst h
          exact ⟨⟨by decide, by decide⟩, ⟨rfl, rfl⟩, by decide⟩
      clear htd hor
      cases hns : numsR (ws.take 2) wIndex 1 with
      | none =>
        rw [hns] at HN5 HR0
        clear hns
        rcases hq with ⟨⟨hq, hb1⟩, hx⟩ | ⟨⟨hq, hb1⟩, ⟨hqe, hb2⟩, hx⟩
        all_goals
          clear hx
          go_enter Tryz.func30, Tryz.ntmps30
          go_wp2_with (go_at_call 57; refine HN5.out.mono ?_; rintro e w1 ⟨rfl, hB⟩; have HB1 := Aside0.mk hB; clear hB)
          exact bodyPost_ret (v := .bool false) (by simp [results, Tryz.f30, go_sem]) rfl (SlP.bad HR0.out (grown_of_below HB1.out))
      | some ns =>
        rw [hns] at HN5 HR0
        have hnl := numsR_len (n := 1) hns
        match ns, hnl with
        | [a0], _ =>
        clear hns
        have HQ := Aside0.mk (show ∀ dd, decide (d = wDedup) = dd → headG 2 s ws = some { s with bits := a0, dedup := dd } from fun dd h => by rw [HR0.out, ← h])
        have hend : ∀ (n0 : Int) (dd : Bool) (w1 : World), Below w.heap.size w w1 → ((w1.setCell ⟨b, 8, none⟩ (.int .i64 n0)).setCell ⟨b, 9, none⟩ (.bool dd)).drew.heap[b]? = some (.cells (shC { s with bits := n0, dedup := dd }) 26 (0, 0)) ∧ w.grownBy ((w1.setCell ⟨b, 8, none⟩ (.int .i64 n0)).setCell ⟨b, 9, none⟩ (.bool dd)).drew (some b) := fun n0 dd w1 h => by
          have h2 := grown_set (grown_set (grown_of_below (b := some b) h) 8 (.int .i64 n0)) 9 (.bool dd)
          refine ⟨?_, ⟨h2.os, h2.tape, h2.output, h2.size, h2.block⟩⟩
          rw [← sh_eta_idx]
          exact blk_set (blk_set ((h.block b hblt).trans HB.out) 8 (.int .i64 n0)) 9 (.bool dd)
        have HZ := Aside0.mk hend
        clear hend
        rcases hq with ⟨⟨hq, hb1⟩, hdd⟩ | ⟨⟨hq, hb1⟩, ⟨hqe, hb2⟩, hdd⟩
        all_goals
          have HDD := Aside0.mk hdd
          clear hdd
          go_enter Tryz.func30, Tryz.ntmps30
          go_wp2_with (go_at_call 57; refine HN5.out.mono ?_; rintro e w1 ⟨⟨v1, rfl, hO⟩, hB⟩; obtain ⟨g, c1, rfl, hg1, hg2, hg3, hgc⟩ := own_nums hO (Nat.succ_pos _); have HB1 := Aside0.mk hB; have HG := Aside0.mk (And.intro hg1 (And.intro hg2 hgc)); clear hO hgc; have hcd1 := cell_later hB hcd; clear hB)
          have hbb : w1.heap[b]? = some (.cells (shC s) 26 (0, 0)) := (HB1.out.block b hblt).trans HB.out
          have k0 := HG.out.2.2 0 a0 rfl
          have c8 : w1.cell? ⟨b, 8, none⟩ = some (.int .i64 s.bits) := blk_cell hbb 8
          have c9 : w1.cell? ⟨b, 9, none⟩ = some (.bool s.dedup) := blk_cell hbb 9
          have f8 := blk_frozen hbb 8
          have f9 := blk_frozen hbb 9
          have hgb : g ≠ b := by omega
          have hbg : b ≠ g := by omega
          clear hbb hblt hcd
          go_region_held3 (fun W => W.cell? ⟨g, 0, none⟩ = some (.int .i64 a0) ∧ W.cell? ⟨bb, o + 2, none⟩ = some (.string (sB d))) (first | exact ⟨k0, hcd1⟩ | go_keep) (first | fail)
          go_wp2
        · exact bodyPost_ret (v := .bool true) (by simp [results, Tryz.f30, go_sem]) rfl (SlP.good (HQ.out true (decide_eq_true HDD.out)) (HZ.out a0 true w1 HB1.out).1 (HZ.out a0 true w1 HB1.out).2)
        · exact bodyPost_ret (v := .bool true) (by simp [results, Tryz.f30, go_sem]) rfl (SlP.good (HQ.out false (decide_eq_false HDD.out)) (HZ.out a0 false w1 HB1.out).1 (HZ.out a0 false w1 HB1.out).2)
    · have HR := Aside0.mk (headR_idx_word (s := s) HN.out HD.out hor)
      have hq : ¬ (sB d).toList = [100, 101, 100, 117, 112] := by rw [htd]; exact fun h => hor (.inl h)
      have hqe : ¬ (sB d).toList = [112, 108, 97, 105, 110] := by rw [htd]; exact fun h => hor (.inr h)
      have hb1 : ((sB d).toList == [100, 101, 100, 117, 112]) = false := by rw [beq_eq_false_iff_ne]; exact hq
      have hb2 : ((sB d).toList == [112, 108, 97, 105, 110]) = false := by rw [beq_eq_false_iff_ne]; exact hqe
      clear htd hor
      go_enter Tryz.func30, Tryz.ntmps30
      go_wp2_with fail
      exact bodyPost_ret (v := .bool false) (by simp [results, Tryz.f30, go_sem]) rfl (SlP.bad HR.out (grown_of_below (Below.refl _ _)))
  · have HR := Aside0.mk (headR_idx_len (s := s) (ws := ws) (fun h => hN5 (by rw [← HN.out]; exact h)))
    have hq4 : ((N : Int) == 3) = false := by simp; omega
    go_enter Tryz.func30, Tryz.ntmps30
    go_wp2_with fail
    exact bodyPost_ret (v := .bool false) (by simp [results, Tryz.f30, go_sem]) rfl (SlP.bad HR.out (grown_of_below (Below.refl _ _)))
end Go.Proofs.YteglbmindbfkeaaGreatDoor.H
