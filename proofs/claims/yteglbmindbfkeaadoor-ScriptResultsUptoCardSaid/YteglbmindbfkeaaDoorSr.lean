/- ScriptResults answers true. Condition: the texts are together no longer than 2^20 bytes. -/
import Derived.Test.YteglbmindbfkeaaDoorRy
namespace Go.Proofs.YteglbmindbfkeaaDoor.H
open Go.RowKit Go.Proofs.YteglbmindbfkeaaDoorW.PrintWords Go.Proofs.YteglbmindbfkeaaDoorW.PrintLast Go.Proofs.YteglbmindbfkeaaDoorW.PrintMore
set_option linter.unusedVariables false
set_option linter.unusedSimpArgs false
set_option maxRecDepth 100000 in
set_option maxHeartbeats 8000000 in
theorem results_any (o : OpV) (r : ResV) (A : Option Addr) (c : Nat) (w : World) (hE : Env w) (hr : ResOk r) (hA : RdS w A r.names.length r.names) :
    Calls Tryd.prog 8 #[opV o, .agg (resC r A c)] w fun e w' => e = .returned (.bool true) ∧ Below w.heap.size w w' := by
  have hP := fun W h h2 => presult_any o r A c W h hr h2
  have hR := fun W h h2 => rresult_any o r A c W h hr h2
  have HP := Aside0.mk hP
  have HR := Aside0.mk hR
  clear hP hR
  unfold opV resC at HP HR ⊢
  unfold opC at HP HR ⊢
  have hb0 : ((w.alloc (.cells (opC o) 23)).alloc (.cells (resC r A c) 39)).heap[w.heap.size]? = some (.cells (opC o) 23 (0, 0)) := blk_alloc (blk_new w _) _
  have hsz : (w.alloc (.cells (opC o) 23)).heap.size = w.heap.size + 1 := by simp
  have hb1 : ((w.alloc (.cells (opC o) 23)).alloc (.cells (resC r A c) 39)).heap[w.heap.size + 1]? = some (.cells (resC r A c) 39 (0, 0)) := by rw [← hsz]; exact blk_new _ _
  have HB0 := Aside0.mk (show Below w.heap.size w ((w.alloc (.cells (opC o) 23)).alloc (.cells (resC r A c) 39)) from below_alloc (below_alloc (Below.refl _ _) _) _)
  have c0 := (blk_cell hb0 0).trans (show (opC o)[0]? = some (.int .i64 o.kind) from rfl)
  have c1 := (blk_cell hb0 1).trans (show (opC o)[1]? = some (.string (sB o.path)) from rfl)
  have c2 := (blk_cell hb0 2).trans (show (opC o)[2]? = some (.string (sB o.other)) from rfl)
  have c3 := (blk_cell hb0 3).trans (show (opC o)[3]? = some (.int .i64 o.handle) from rfl)
  have c4 := (blk_cell hb0 4).trans (show (opC o)[4]? = some (.int .i64 o.offset) from rfl)
  have c5 := (blk_cell hb0 5).trans (show (opC o)[5]? = some (.int .i64 o.n) from rfl)
  have c6 := (blk_cell hb0 6).trans (show (opC o)[6]? = some (.int .i64 o.flags) from rfl)
  have c7 := (blk_cell hb0 7).trans (show (opC o)[7]? = some (.string (sB o.data)) from rfl)
  have r0 := (blk_cell hb1 0).trans (show (resC r A c)[0]? = some (.int .i64 r.err) from rfl)
  have r1 := (blk_cell hb1 1).trans (show (resC r A c)[1]? = some (.int .i64 r.handle) from rfl)
  have r2 := (blk_cell hb1 2).trans (show (resC r A c)[2]? = some (.int .i64 r.n) from rfl)
  have r3 := (blk_cell hb1 3).trans (show (resC r A c)[3]? = some (.string (sB r.data)) from rfl)
  have r4 := (blk_cell hb1 4).trans (show (resC r A c)[4]? = some (.int .i64 r.number) from rfl)
  have r5 := (blk_cell hb1 5).trans (show (resC r A c)[5]? = some (.bool r.dir) from rfl)
  have r6 := (blk_cell hb1 6).trans (show (resC r A c)[6]? = some (.int .i64 r.size) from rfl)
  have r7 := (blk_cell hb1 7).trans (show (resC r A c)[7]? = some (.int .i64 r.links) from rfl)
  have r8 := (blk_cell hb1 8).trans (show (resC r A c)[8]? = some (.slice A r.names.length c) from rfl)
  unfold opC resC at HB0
  have HE := Aside0.mk (hE.below HB0.out)
  have HA := Aside0.mk (hA.below HB0.out)
  clear hE hA hb0 hb1 hsz
  go_enter Tryd.func8, Tryd.ntmps8
  go_wp2_with fail
  unfold opC resC at c0 c1 c2 c3 c4 c5 c6 c7 r0 r1 r2 r3 r4 r5 r6 r7 r8
  obtain ⟨w2, hw2⟩ : ∃ w2, (w.alloc (.cells #[.int .i64 o.kind, .string (sB o.path), .string (sB o.other), .int .i64 o.handle, .int .i64 o.offset, .int .i64 o.n, .int .i64 o.flags, .string (sB o.data)] 23)).alloc (.cells #[.int .i64 r.err, .int .i64 r.handle, .int .i64 r.n, .string (sB r.data), .int .i64 r.number, .bool r.dir, .int .i64 r.size, .int .i64 r.links, .slice A r.names.length c] 39) = w2 := ⟨_, rfl⟩
  rw [hw2] at c0 c1 c2 c3 c4 c5 c6 c7 r0 r1 r2 r3 r4 r5 r6 r7 r8 HB0 HE HA ⊢
  clear hw2
  go_region_held3 (fun w' => w'.cell? ⟨w.heap.size, 0, none⟩ = some (.int .i64 o.kind) ∧ w'.cell? ⟨w.heap.size, 1, none⟩ = some (.string (sB o.path)) ∧ w'.cell? ⟨w.heap.size, 2, none⟩ = some (.string (sB o.other)) ∧ w'.cell? ⟨w.heap.size, 3, none⟩ = some (.int .i64 o.handle) ∧ w'.cell? ⟨w.heap.size, 4, none⟩ = some (.int .i64 o.offset) ∧ w'.cell? ⟨w.heap.size, 5, none⟩ = some (.int .i64 o.n) ∧ w'.cell? ⟨w.heap.size, 6, none⟩ = some (.int .i64 o.flags) ∧ w'.cell? ⟨w.heap.size, 7, none⟩ = some (.string (sB o.data)) ∧ w'.cell? ⟨w.heap.size + 1, 0, none⟩ = some (.int .i64 r.err) ∧ w'.cell? ⟨w.heap.size + 1, 1, none⟩ = some (.int .i64 r.handle) ∧ w'.cell? ⟨w.heap.size + 1, 2, none⟩ = some (.int .i64 r.n) ∧ w'.cell? ⟨w.heap.size + 1, 3, none⟩ = some (.string (sB r.data)) ∧ w'.cell? ⟨w.heap.size + 1, 4, none⟩ = some (.int .i64 r.number) ∧ w'.cell? ⟨w.heap.size + 1, 5, none⟩ = some (.bool r.dir) ∧ w'.cell? ⟨w.heap.size + 1, 6, none⟩ = some (.int .i64 r.size) ∧ w'.cell? ⟨w.heap.size + 1, 7, none⟩ = some (.int .i64 r.links) ∧ w'.cell? ⟨w.heap.size + 1, 8, none⟩ = some (.slice A r.names.length c)) (first
    | exact ⟨cell_later HB3.out c0, cell_later HB3.out c1, cell_later HB3.out c2, cell_later HB3.out c3, cell_later HB3.out c4, cell_later HB3.out c5, cell_later HB3.out c6, cell_later HB3.out c7, cell_later HB3.out r0, cell_later HB3.out r1, cell_later HB3.out r2, cell_later HB3.out r3, cell_later HB3.out r4, cell_later HB3.out r5, cell_later HB3.out r6, cell_later HB3.out r7, cell_later HB3.out r8⟩
    | exact ⟨cell_later HB2.out c0, cell_later HB2.out c1, cell_later HB2.out c2, cell_later HB2.out c3, cell_later HB2.out c4, cell_later HB2.out c5, cell_later HB2.out c6, cell_later HB2.out c7, cell_later HB2.out r0, cell_later HB2.out r1, cell_later HB2.out r2, cell_later HB2.out r3, cell_later HB2.out r4, cell_later HB2.out r5, cell_later HB2.out r6, cell_later HB2.out r7, cell_later HB2.out r8⟩
    | exact ⟨cell_later HB1.out c0, cell_later HB1.out c1, cell_later HB1.out c2, cell_later HB1.out c3, cell_later HB1.out c4, cell_later HB1.out c5, cell_later HB1.out c6, cell_later HB1.out c7, cell_later HB1.out r0, cell_later HB1.out r1, cell_later HB1.out r2, cell_later HB1.out r3, cell_later HB1.out r4, cell_later HB1.out r5, cell_later HB1.out r6, cell_later HB1.out r7, cell_later HB1.out r8⟩
    | exact ⟨c0, c1, c2, c3, c4, c5, c6, c7, r0, r1, r2, r3, r4, r5, r6, r7, r8⟩) (first
    | (go_at_call 9; refine (awake_any _ (HE.out.below (below_drew (Below.refl _ _)))).mono ?_; rintro e w3 ⟨rfl, hBn⟩; have HB1 := Aside0.mk (below_step (below_drew (Below.refl w2.heap.size w2)) hBn); clear hBn)
    | (go_at_call 18; refine (HP.out _ (HE.out.below HB2.out) (HA.out.below HB2.out)).mono ?_; rintro e w5 ⟨rfl, hBn⟩; have HB3 := Aside0.mk (below_step HB2.out hBn); clear hBn)
    | (go_at_call 18; refine (HP.out _ (HE.out.below HB1.out) (HA.out.below HB1.out)).mono ?_; rintro e w4 ⟨rfl, hBn⟩; have HB2 := Aside0.mk (below_step HB1.out hBn); clear hBn)
    | (go_at_call 19; refine (HR.out _ (HE.out.below HB2.out) (HA.out.below HB2.out)).mono ?_; rintro e w5 ⟨rfl, hBn⟩; have HB3 := Aside0.mk (below_step HB2.out hBn); clear hBn)
    | (go_at_call 19; refine (HR.out _ (HE.out.below HB1.out) (HA.out.below HB1.out)).mono ?_; rintro e w4 ⟨rfl, hBn⟩; have HB2 := Aside0.mk (below_step HB1.out hBn); clear hBn))
  all_goals
    go_wp2
    go_ret
    exact ⟨by simp, HB0.out.trans (HB3.out.mono HB0.out.size)⟩
end Go.Proofs.YteglbmindbfkeaaDoor.H
