/- PrintResult of both at a Stat. Condition: the texts are together no longer than 2^20 bytes. -/
import Derived.Test.YteglbmindbfkeaaDoorRv
namespace Go.Proofs.YteglbmindbfkeaaDoor.H
open Go.RowKit Go.Proofs.YteglbmindbfkeaaDoorW.PrintWords Go.Proofs.YteglbmindbfkeaaDoorW.PrintLast Go.Proofs.YteglbmindbfkeaaDoorW.PrintMore
set_option linter.unusedVariables false
set_option linter.unusedSimpArgs false
set_option maxRecDepth 100000 in
set_option maxHeartbeats 8000000 in
theorem presult_6 (o : OpV) (r : ResV) (A : Option Addr) (c : Nat) (w : World) (hE : Env w) (hr : ResOk r) (h0 : r.err = 0) (hk : o.kind = 6) :
    Calls Tryd.prog 18 #[opV o, .agg (resC r A c)] w fun e w' => e = .returned (.string (sB (resL o r))) ∧ Below w.heap.size w w' := by
  have HL := Aside0.mk (resL_6 h0 hk)
  obtain ⟨V, hV⟩ : ∃ V, opC o = V := ⟨_, rfl⟩
  obtain ⟨R, hR⟩ : ∃ R, resC r A c = R := ⟨_, rfl⟩
  unfold opV
  rw [hV, hR]
  obtain ⟨w2, hw2⟩ : ∃ w2, (w.alloc (.cells V 23)).alloc (.cells R 39) = w2 := ⟨_, rfl⟩
  have hsz : (w.alloc (.cells V 23)).heap.size = w.heap.size + 1 := by simp
  have hb1 : w2.heap[w.heap.size + 1]? = some (.cells R 39 (0, 0)) := by rw [← hw2, ← hsz]; exact blk_new _ _
  have hb0 : w2.heap[w.heap.size]? = some (.cells V 23 (0, 0)) := by rw [← hw2]; exact blk_alloc (blk_new w _) _
  have HB0 := Aside0.mk (show Below w.heap.size w w2 by rw [← hw2]; exact below_alloc (below_alloc (Below.refl _ _) _) _)
  have k0 : w2.cell? ⟨w.heap.size, 0, none⟩ = some (.int .i64 o.kind) := (blk_cell hb0 0).trans (by rw [← hV]; rfl)
  have r0 : w2.cell? ⟨w.heap.size + 1, 0, none⟩ = some (.int .i64 r.err) := (blk_cell hb1 0).trans (by rw [← hR]; rfl)
  have r1 : w2.cell? ⟨w.heap.size + 1, 1, none⟩ = some (.int .i64 r.handle) := (blk_cell hb1 1).trans (by rw [← hR]; rfl)
  have r2 : w2.cell? ⟨w.heap.size + 1, 2, none⟩ = some (.int .i64 r.n) := (blk_cell hb1 2).trans (by rw [← hR]; rfl)
  have r3 : w2.cell? ⟨w.heap.size + 1, 3, none⟩ = some (.string (sB r.data)) := (blk_cell hb1 3).trans (by rw [← hR]; rfl)
  have r4 : w2.cell? ⟨w.heap.size + 1, 4, none⟩ = some (.int .i64 r.number) := (blk_cell hb1 4).trans (by rw [← hR]; rfl)
  have r5 : w2.cell? ⟨w.heap.size + 1, 5, none⟩ = some (.bool r.dir) := (blk_cell hb1 5).trans (by rw [← hR]; rfl)
  have r6 : w2.cell? ⟨w.heap.size + 1, 6, none⟩ = some (.int .i64 r.size) := (blk_cell hb1 6).trans (by rw [← hR]; rfl)
  have r7 : w2.cell? ⟨w.heap.size + 1, 7, none⟩ = some (.int .i64 r.links) := (blk_cell hb1 7).trans (by rw [← hR]; rfl)
  have r8 : w2.cell? ⟨w.heap.size + 1, 8, none⟩ = some (.slice A r.names.length c) := (blk_cell hb1 8).trans (by rw [← hR]; rfl)
  have HE := Aside0.mk (hE.below HB0.out)
  have HOk := Aside0.mk hr
  clear hb0 hb1 hV hR hE hr hsz
  have n1 : -9223372036854775808 ≤ r.number := HOk.out.number.1
  have n2 : r.number ≤ 9223372036854775807 := HOk.out.number.2
  have s1 : -9223372036854775808 ≤ r.size := HOk.out.size.1
  have s2 : r.size ≤ 9223372036854775807 := HOk.out.size.2
  have l1 : -9223372036854775808 ≤ r.links := HOk.out.links.1
  have l2 : r.links ≤ 9223372036854775807 := HOk.out.links.2
  have hzn := itoa_len HOk.out.number
  have hzs := itoa_len HOk.out.size
  have hzl := itoa_len HOk.out.links
  rw [h0] at r0
  rw [hk] at k0
  clear h0 hk
  cases hd : r.dir with
  | true =>
    rw [hd] at r5
    have HD := Aside0.mk hd
    have HJ := Aside0.mk (show (Lib.itoa r.number).length + ([100, 105, 114] : Bs).length + (Lib.itoa r.size).length + (Lib.itoa r.links).length ≤ 1048576 by simp only [List.length_cons, List.length_nil]; omega)
    clear hd
    subst hw2
    go_enter Tryd.func18, Tryd.ntmps18
    go_wp2_with fail
    obtain ⟨w2, hw2⟩ : ∃ w2, (w.alloc (.cells V 23)).alloc (.cells R 39) = w2 := ⟨_, rfl⟩
    rw [hw2] at r4 r6 r7 HB0 HE ⊢
    clear hw2 r0 r1 r2 r3 r5 r8 k0
    go_region_held3 (fun w' => w'.cell? ⟨w.heap.size + 1, 4, none⟩ = some (.int .i64 r.number) ∧ w'.cell? ⟨w.heap.size + 1, 6, none⟩ = some (.int .i64 r.size) ∧ w'.cell? ⟨w.heap.size + 1, 7, none⟩ = some (.int .i64 r.links)) (first
      | exact ⟨cell_later HB4.out r4, cell_later HB4.out r6, cell_later HB4.out r7⟩
      | exact ⟨cell_later (below_alloc HB3.out _) r4, cell_later (below_alloc HB3.out _) r6, cell_later (below_alloc HB3.out _) r7⟩
      | exact ⟨cell_later HB3.out r4, cell_later HB3.out r6, cell_later HB3.out r7⟩
      | exact ⟨cell_later HB2.out r4, cell_later HB2.out r6, cell_later HB2.out r7⟩
      | exact ⟨cell_later HB1.out r4, cell_later HB1.out r6, cell_later HB1.out r7⟩
      | exact ⟨r4, r6, r7⟩) (first
      | (go_at_call 39; refine (join_four _ (Lib.itoa r.number) [100, 105, 114] (Lib.itoa r.size) (Lib.itoa r.links) HJ.out).mono ?_; rintro e w6 ⟨rfl, hBn⟩; have HB4 := Aside0.mk (below_step HB3.out hBn); clear hBn)
      | (go_at_call 24; refine (itoa_any _ _ (HE.out.below HB2.out) (by assumption) (by assumption)).mono ?_; rintro e w5 ⟨rfl, hBn⟩; have HB3 := Aside0.mk (below_step HB2.out hBn); clear hBn)
      | (go_at_call 24; refine (itoa_any _ _ (HE.out.below HB1.out) (by assumption) (by assumption)).mono ?_; rintro e w4 ⟨rfl, hBn⟩; have HB2 := Aside0.mk (below_step HB1.out hBn); clear hBn)
      | (go_at_call 24; refine (itoa_any _ _ (HE.out.below (below_drew (Below.refl _ _))) (by assumption) (by assumption)).mono ?_; rintro e w3 ⟨rfl, hBn⟩; have HB1 := Aside0.mk (below_step (below_drew (Below.refl w2.heap.size w2)) hBn); clear hBn))
    all_goals
      go_wp2
      refine bodyPost_ret (v := .string (sB (Lib.itoa r.number ++ 32 :: ([100, 105, 114] ++ 32 :: (Lib.itoa r.size ++ 32 :: Lib.itoa r.links))))) (by simp [results, Tryd.f18, go_sem]) rfl ⟨?_, HB0.out.trans (HB4.out.mono HB0.out.size)⟩
      rw [HL.out]
      unfold statL
      rw [HD.out]
      rfl
  | false =>
    rw [hd] at r5
    have HD := Aside0.mk hd
    have HJ := Aside0.mk (show (Lib.itoa r.number).length + ([102, 105, 108, 101] : Bs).length + (Lib.itoa r.size).length + (Lib.itoa r.links).length ≤ 1048576 by simp only [List.length_cons, List.length_nil]; omega)
    clear hd
    subst hw2
    go_enter Tryd.func18, Tryd.ntmps18
    go_wp2_with fail
    obtain ⟨w2, hw2⟩ : ∃ w2, (w.alloc (.cells V 23)).alloc (.cells R 39) = w2 := ⟨_, rfl⟩
    rw [hw2] at r4 r6 r7 HB0 HE ⊢
    clear hw2 r0 r1 r2 r3 r5 r8 k0
    go_region_held3 (fun w' => w'.cell? ⟨w.heap.size + 1, 4, none⟩ = some (.int .i64 r.number) ∧ w'.cell? ⟨w.heap.size + 1, 6, none⟩ = some (.int .i64 r.size) ∧ w'.cell? ⟨w.heap.size + 1, 7, none⟩ = some (.int .i64 r.links)) (first
      | exact ⟨cell_later HB4.out r4, cell_later HB4.out r6, cell_later HB4.out r7⟩
      | exact ⟨cell_later (below_alloc HB3.out _) r4, cell_later (below_alloc HB3.out _) r6, cell_later (below_alloc HB3.out _) r7⟩
      | exact ⟨cell_later HB3.out r4, cell_later HB3.out r6, cell_later HB3.out r7⟩
      | exact ⟨cell_later HB2.out r4, cell_later HB2.out r6, cell_later HB2.out r7⟩
      | exact ⟨cell_later HB1.out r4, cell_later HB1.out r6, cell_later HB1.out r7⟩
      | exact ⟨r4, r6, r7⟩) (first
      | (go_at_call 39; refine (join_four _ (Lib.itoa r.number) [102, 105, 108, 101] (Lib.itoa r.size) (Lib.itoa r.links) HJ.out).mono ?_; rintro e w6 ⟨rfl, hBn⟩; have HB4 := Aside0.mk (below_step HB3.out hBn); clear hBn)
      | (go_at_call 24; refine (itoa_any _ _ (HE.out.below HB2.out) (by assumption) (by assumption)).mono ?_; rintro e w5 ⟨rfl, hBn⟩; have HB3 := Aside0.mk (below_step HB2.out hBn); clear hBn)
      | (go_at_call 24; refine (itoa_any _ _ (HE.out.below HB1.out) (by assumption) (by assumption)).mono ?_; rintro e w4 ⟨rfl, hBn⟩; have HB2 := Aside0.mk (below_step HB1.out hBn); clear hBn)
      | (go_at_call 24; refine (itoa_any _ _ (HE.out.below (below_drew (Below.refl _ _))) (by assumption) (by assumption)).mono ?_; rintro e w3 ⟨rfl, hBn⟩; have HB1 := Aside0.mk (below_step (below_drew (Below.refl w2.heap.size w2)) hBn); clear hBn))
    all_goals
      go_wp2
      refine bodyPost_ret (v := .string (sB (Lib.itoa r.number ++ 32 :: ([102, 105, 108, 101] ++ 32 :: (Lib.itoa r.size ++ 32 :: Lib.itoa r.links))))) (by simp [results, Tryd.f18, go_sem]) rfl ⟨?_, HB0.out.trans (HB4.out.mono HB0.out.size)⟩
      rw [HL.out]
      unfold statL
      rw [HD.out]
      rfl
set_option maxRecDepth 100000 in
set_option maxHeartbeats 8000000 in
theorem rresult_6 (o : OpV) (r : ResV) (A : Option Addr) (c : Nat) (w : World) (hE : Env w) (hr : ResOk r) (h0 : r.err = 0) (hk : o.kind = 6) :
    Calls Tryd.prog 19 #[opV o, .agg (resC r A c)] w fun e w' => e = .returned (.string (sB (resL o r))) ∧ Below w.heap.size w w' := by
  have HL := Aside0.mk (resL_6 h0 hk)
  obtain ⟨V, hV⟩ : ∃ V, opC o = V := ⟨_, rfl⟩
  obtain ⟨R, hR⟩ : ∃ R, resC r A c = R := ⟨_, rfl⟩
  unfold opV
  rw [hV, hR]
  obtain ⟨w2, hw2⟩ : ∃ w2, (w.alloc (.cells V 23)).alloc (.cells R 39) = w2 := ⟨_, rfl⟩
  have hsz : (w.alloc (.cells V 23)).heap.size = w.heap.size + 1 := by simp
  have hb1 : w2.heap[w.heap.size + 1]? = some (.cells R 39 (0, 0)) := by rw [← hw2, ← hsz]; exact blk_new _ _
  have hb0 : w2.heap[w.heap.size]? = some (.cells V 23 (0, 0)) := by rw [← hw2]; exact blk_alloc (blk_new w _) _
  have HB0 := Aside0.mk (show Below w.heap.size w w2 by rw [← hw2]; exact below_alloc (below_alloc (Below.refl _ _) _) _)
  have k0 : w2.cell? ⟨w.heap.size, 0, none⟩ = some (.int .i64 o.kind) := (blk_cell hb0 0).trans (by rw [← hV]; rfl)
  have r0 : w2.cell? ⟨w.heap.size + 1, 0, none⟩ = some (.int .i64 r.err) := (blk_cell hb1 0).trans (by rw [← hR]; rfl)
  have r1 : w2.cell? ⟨w.heap.size + 1, 1, none⟩ = some (.int .i64 r.handle) := (blk_cell hb1 1).trans (by rw [← hR]; rfl)
  have r2 : w2.cell? ⟨w.heap.size + 1, 2, none⟩ = some (.int .i64 r.n) := (blk_cell hb1 2).trans (by rw [← hR]; rfl)
  have r3 : w2.cell? ⟨w.heap.size + 1, 3, none⟩ = some (.string (sB r.data)) := (blk_cell hb1 3).trans (by rw [← hR]; rfl)
  have r4 : w2.cell? ⟨w.heap.size + 1, 4, none⟩ = some (.int .i64 r.number) := (blk_cell hb1 4).trans (by rw [← hR]; rfl)
  have r5 : w2.cell? ⟨w.heap.size + 1, 5, none⟩ = some (.bool r.dir) := (blk_cell hb1 5).trans (by rw [← hR]; rfl)
  have r6 : w2.cell? ⟨w.heap.size + 1, 6, none⟩ = some (.int .i64 r.size) := (blk_cell hb1 6).trans (by rw [← hR]; rfl)
  have r7 : w2.cell? ⟨w.heap.size + 1, 7, none⟩ = some (.int .i64 r.links) := (blk_cell hb1 7).trans (by rw [← hR]; rfl)
  have r8 : w2.cell? ⟨w.heap.size + 1, 8, none⟩ = some (.slice A r.names.length c) := (blk_cell hb1 8).trans (by rw [← hR]; rfl)
  have HE := Aside0.mk (hE.below HB0.out)
  have HOk := Aside0.mk hr
  clear hb0 hb1 hV hR hE hr hsz
  have n1 : -9223372036854775808 ≤ r.number := HOk.out.number.1
  have n2 : r.number ≤ 9223372036854775807 := HOk.out.number.2
  have s1 : -9223372036854775808 ≤ r.size := HOk.out.size.1
  have s2 : r.size ≤ 9223372036854775807 := HOk.out.size.2
  have l1 : -9223372036854775808 ≤ r.links := HOk.out.links.1
  have l2 : r.links ≤ 9223372036854775807 := HOk.out.links.2
  have hzn := itoa_len HOk.out.number
  have hzs := itoa_len HOk.out.size
  have hzl := itoa_len HOk.out.links
  rw [h0] at r0
  rw [hk] at k0
  clear h0 hk
  cases hd : r.dir with
  | true =>
    rw [hd] at r5
    have HD := Aside0.mk hd
    have HJ := Aside0.mk (show (Lib.itoa r.number).length + ([100, 105, 114] : Bs).length + (Lib.itoa r.size).length + (Lib.itoa r.links).length ≤ 1048576 by simp only [List.length_cons, List.length_nil]; omega)
    clear hd
    have hq1 : (sB (Lib.itoa r.number)).size ≤ 21 := by rw [sB_size]; exact hzn
    have hq2 : (sB (Lib.itoa r.size)).size ≤ 21 := by rw [sB_size]; exact hzs
    have hq3 : (sB (Lib.itoa r.links)).size ≤ 21 := by rw [sB_size]; exact hzl
    have hS : sB (statL r) = sB (Lib.itoa r.number) ++ (⟨#[32]⟩ : ByteArray) ++ sB [100, 105, 114] ++ (⟨#[32]⟩ : ByteArray) ++ sB (Lib.itoa r.size) ++ (⟨#[32]⟩ : ByteArray) ++ sB (Lib.itoa r.links) := by
      rw [show (⟨#[32]⟩ : ByteArray) = sB [32] from rfl, sB_app, sB_app, sB_app, sB_app, sB_app, sB_app]
      unfold statL
      rw [HD.out]
      simp
    rw [show sB [100, 105, 114] = (⟨#[100, 105, 114]⟩ : ByteArray) from rfl] at hS
    have HS := Aside0.mk hS
    have t1 : ¬ 9223372036854775807 < (sB (Lib.itoa r.number)).size + 1 := by omega
    have t2 : ¬ 9223372036854775807 < (sB (Lib.itoa r.number)).size + 1 + 3 := by omega
    have t3 : ¬ 9223372036854775807 < (sB (Lib.itoa r.number)).size + 1 + 3 + 1 := by omega
    have t4 : ¬ 9223372036854775807 < (sB (Lib.itoa r.number)).size + 1 + 3 + 1 + (sB (Lib.itoa r.size)).size := by omega
    have t5 : ¬ 9223372036854775807 < (sB (Lib.itoa r.number)).size + 1 + 3 + 1 + (sB (Lib.itoa r.size)).size + 1 := by omega
    have t6 : ¬ 9223372036854775807 < (sB (Lib.itoa r.number)).size + 1 + 3 + 1 + (sB (Lib.itoa r.size)).size + 1 + (sB (Lib.itoa r.links)).size := by omega
    clear hS hzn hzs hzl
    subst hw2
    go_enter Tryd.func19, Tryd.ntmps19
    go_wp2_with fail
    obtain ⟨w2, hw2⟩ : ∃ w2, (w.alloc (.cells V 23)).alloc (.cells R 39) = w2 := ⟨_, rfl⟩
    rw [hw2] at r4 r6 r7 HB0 HE ⊢
    clear hw2 r0 r1 r2 r3 r5 r8 k0
    go_region_held3 (fun w' => w'.cell? ⟨w.heap.size + 1, 4, none⟩ = some (.int .i64 r.number) ∧ w'.cell? ⟨w.heap.size + 1, 6, none⟩ = some (.int .i64 r.size) ∧ w'.cell? ⟨w.heap.size + 1, 7, none⟩ = some (.int .i64 r.links)) (first
      | exact ⟨cell_later HB3.out r4, cell_later HB3.out r6, cell_later HB3.out r7⟩
      | exact ⟨cell_later HB2.out r4, cell_later HB2.out r6, cell_later HB2.out r7⟩
      | exact ⟨cell_later HB1.out r4, cell_later HB1.out r6, cell_later HB1.out r7⟩
      | exact ⟨r4, r6, r7⟩) (first
      | (go_at_call 27; have HBx := HB2.out; refine (rnumber_any _ _ (by assumption) (by assumption)).mono ?_; rintro e w39 ⟨rfl, hBn⟩; have HB3 := Aside0.mk (below_step HBx hBn); clear hBn HBx)
      | (go_at_call 27; have HBx := HB1.out; refine (rnumber_any _ _ (by assumption) (by assumption)).mono ?_; rintro e w29 ⟨rfl, hBn⟩; have HB2 := Aside0.mk (below_step HBx hBn); clear hBn HBx)
      | (go_at_call 27; have HBx := below_drew (Below.refl w2.heap.size w2); refine (rnumber_any _ _ (by assumption) (by assumption)).mono ?_; rintro e w19 ⟨rfl, hBn⟩; have HB1 := Aside0.mk (below_step HBx hBn); clear hBn HBx))
    all_goals
      go_wp2
      refine bodyPost_ret (v := .string (sB (Lib.itoa r.number) ++ ⟨#[32]⟩ ++ ⟨#[100, 105, 114]⟩ ++ ⟨#[32]⟩ ++ sB (Lib.itoa r.size) ++ ⟨#[32]⟩ ++ sB (Lib.itoa r.links))) (by simp [results, Tryd.f19, go_sem]) rfl ⟨?_, HB0.out.trans (HB3.out.mono HB0.out.size)⟩
      rw [HL.out, HS.out]
  | false =>
    rw [hd] at r5
    have HD := Aside0.mk hd
    have HJ := Aside0.mk (show (Lib.itoa r.number).length + ([102, 105, 108, 101] : Bs).length + (Lib.itoa r.size).length + (Lib.itoa r.links).length ≤ 1048576 by simp only [List.length_cons, List.length_nil]; omega)
    clear hd
    have hq1 : (sB (Lib.itoa r.number)).size ≤ 21 := by rw [sB_size]; exact hzn
    have hq2 : (sB (Lib.itoa r.size)).size ≤ 21 := by rw [sB_size]; exact hzs
    have hq3 : (sB (Lib.itoa r.links)).size ≤ 21 := by rw [sB_size]; exact hzl
    have hS : sB (statL r) = sB (Lib.itoa r.number) ++ (⟨#[32]⟩ : ByteArray) ++ sB [102, 105, 108, 101] ++ (⟨#[32]⟩ : ByteArray) ++ sB (Lib.itoa r.size) ++ (⟨#[32]⟩ : ByteArray) ++ sB (Lib.itoa r.links) := by
      rw [show (⟨#[32]⟩ : ByteArray) = sB [32] from rfl, sB_app, sB_app, sB_app, sB_app, sB_app, sB_app]
      unfold statL
      rw [HD.out]
      simp
    rw [show sB [102, 105, 108, 101] = (⟨#[102, 105, 108, 101]⟩ : ByteArray) from rfl] at hS
    have HS := Aside0.mk hS
    have t1 : ¬ 9223372036854775807 < (sB (Lib.itoa r.number)).size + 1 := by omega
    have t2 : ¬ 9223372036854775807 < (sB (Lib.itoa r.number)).size + 1 + 4 := by omega
    have t3 : ¬ 9223372036854775807 < (sB (Lib.itoa r.number)).size + 1 + 4 + 1 := by omega
    have t4 : ¬ 9223372036854775807 < (sB (Lib.itoa r.number)).size + 1 + 4 + 1 + (sB (Lib.itoa r.size)).size := by omega
    have t5 : ¬ 9223372036854775807 < (sB (Lib.itoa r.number)).size + 1 + 4 + 1 + (sB (Lib.itoa r.size)).size + 1 := by omega
    have t6 : ¬ 9223372036854775807 < (sB (Lib.itoa r.number)).size + 1 + 4 + 1 + (sB (Lib.itoa r.size)).size + 1 + (sB (Lib.itoa r.links)).size := by omega
    clear hS hzn hzs hzl
    subst hw2
    go_enter Tryd.func19, Tryd.ntmps19
    go_wp2_with fail
    obtain ⟨w2, hw2⟩ : ∃ w2, (w.alloc (.cells V 23)).alloc (.cells R 39) = w2 := ⟨_, rfl⟩
    rw [hw2] at r4 r6 r7 HB0 HE ⊢
    clear hw2 r0 r1 r2 r3 r5 r8 k0
    go_region_held3 (fun w' => w'.cell? ⟨w.heap.size + 1, 4, none⟩ = some (.int .i64 r.number) ∧ w'.cell? ⟨w.heap.size + 1, 6, none⟩ = some (.int .i64 r.size) ∧ w'.cell? ⟨w.heap.size + 1, 7, none⟩ = some (.int .i64 r.links)) (first
      | exact ⟨cell_later HB3.out r4, cell_later HB3.out r6, cell_later HB3.out r7⟩
      | exact ⟨cell_later HB2.out r4, cell_later HB2.out r6, cell_later HB2.out r7⟩
      | exact ⟨cell_later HB1.out r4, cell_later HB1.out r6, cell_later HB1.out r7⟩
      | exact ⟨r4, r6, r7⟩) (first
      | (go_at_call 27; have HBx := HB2.out; refine (rnumber_any _ _ (by assumption) (by assumption)).mono ?_; rintro e w39 ⟨rfl, hBn⟩; have HB3 := Aside0.mk (below_step HBx hBn); clear hBn HBx)
      | (go_at_call 27; have HBx := HB1.out; refine (rnumber_any _ _ (by assumption) (by assumption)).mono ?_; rintro e w29 ⟨rfl, hBn⟩; have HB2 := Aside0.mk (below_step HBx hBn); clear hBn HBx)
      | (go_at_call 27; have HBx := below_drew (Below.refl w2.heap.size w2); refine (rnumber_any _ _ (by assumption) (by assumption)).mono ?_; rintro e w19 ⟨rfl, hBn⟩; have HB1 := Aside0.mk (below_step HBx hBn); clear hBn HBx))
    all_goals
      go_wp2
      refine bodyPost_ret (v := .string (sB (Lib.itoa r.number) ++ ⟨#[32]⟩ ++ ⟨#[102, 105, 108, 101]⟩ ++ ⟨#[32]⟩ ++ sB (Lib.itoa r.size) ++ ⟨#[32]⟩ ++ sB (Lib.itoa r.links))) (by simp [results, Tryd.f19, go_sem]) rfl ⟨?_, HB0.out.trans (HB3.out.mono HB0.out.size)⟩
      rw [HL.out, HS.out]
end Go.Proofs.YteglbmindbfkeaaDoor.H
