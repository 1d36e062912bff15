/- PrintResult of the program and of the reference. Condition: the texts are together no longer than 2^20 bytes. -/
import Derived.Test.YteglbmindbfkeaaDoorRt
namespace Go.Proofs.YteglbmindbfkeaaDoor.H
open Go.RowKit Go.Proofs.YteglbmindbfkeaaDoorW.PrintWords Go.Proofs.YteglbmindbfkeaaDoorW.PrintLast Go.Proofs.YteglbmindbfkeaaDoorW.PrintMore
set_option linter.unusedVariables false
set_option linter.unusedSimpArgs false
theorem resL_err {o : OpV} {r : ResV} (h : r.err ≠ 0) : resL o r = [101, 114, 114, 111, 114, 32] ++ Lib.itoa r.err := if_pos h
theorem resL_1 {o : OpV} {r : ResV} (h : r.err = 0) (hk : o.kind = 1) : resL o r = Lib.itoa r.handle := by unfold resL; rw [if_neg (by simp [h]), if_pos hk]
theorem resL_3 {o : OpV} {r : ResV} (h : r.err = 0) (hk : o.kind = 3) : resL o r = quoteL r.data := by unfold resL; rw [if_neg (by simp [h]), hk]; rfl
theorem resL_4 {o : OpV} {r : ResV} (h : r.err = 0) (hk : o.kind = 4) : resL o r = Lib.itoa r.n := by unfold resL; rw [if_neg (by simp [h]), hk]; rfl
theorem resL_6 {o : OpV} {r : ResV} (h : r.err = 0) (hk : o.kind = 6) : resL o r = statL r := by unfold resL; rw [if_neg (by simp [h]), hk]; rfl
theorem resL_7 {o : OpV} {r : ResV} (h : r.err = 0) (hk : o.kind = 7) : resL o r = namesL r.names := by unfold resL; rw [if_neg (by simp [h]), hk]; rfl
theorem resL_ok {o : OpV} {r : ResV} (h : r.err = 0) (h1 : o.kind ≠ 1) (h3 : o.kind ≠ 3) (h4 : o.kind ≠ 4) (h6 : o.kind ≠ 6) (h7 : o.kind ≠ 7) : resL o r = [111, 107] := by
  unfold resL
  rw [if_neg (by simp [h]), if_neg h1, if_neg h3, if_neg h4, if_neg h6, if_neg h7]
theorem itoa_len {n : Int} (h : I64 n) : (Lib.itoa n).length ≤ 21 := by
  have := Lib.itoa_length_le n h.1 h.2
  omega
set_option maxRecDepth 100000 in
set_option maxHeartbeats 4000000 in
theorem presult_err (o : OpV) (r : ResV) (A : Option Addr) (c : Nat) (w : World) (hE : Env w) (hr : ResOk r) (h0 : r.err ≠ 0) :
    Calls Tryd.prog 18 #[opV o, .agg (resC r A c)] w fun e w' => e = .returned (.string (sB (resL o r))) ∧ Below w.heap.size w w' := by
  have HL := Aside0.mk (resL_err (o := o) h0)
  obtain ⟨V, hV⟩ : ∃ V, opC o = V := ⟨_, rfl⟩
  obtain ⟨R, hR⟩ : ∃ R, resC r A c = R := ⟨_, rfl⟩
  unfold opV
  rw [hV, hR]
  obtain ⟨w2, hw2⟩ : ∃ w2, (w.alloc (.cells V 23)).alloc (.cells R 39) = w2 := ⟨_, rfl⟩
  have hsz : (w.alloc (.cells V 23)).heap.size = w.heap.size + 1 := by simp
  have hb1 : w2.heap[w.heap.size + 1]? = some (.cells R 39 (0, 0)) := by rw [← hw2, ← hsz]; exact blk_new _ _
  have hb0 : w2.heap[w.heap.size]? = some (.cells V 23 (0, 0)) := by rw [← hw2]; exact blk_alloc (blk_new w _) _
  have HB0 := Aside0.mk (show Below w.heap.size w w2 by rw [← hw2]; exact below_alloc (below_alloc (Below.refl _ _) _) _)
  have k0 : w2.cell? ⟨w.heap.size, 0, none⟩ = some (.int .i64 o.kind) := (blk_cell hb0 0).trans (by rw [← hV]; rfl)
  have r0 : w2.cell? ⟨w.heap.size + 1, 0, none⟩ = some (.int .i64 r.err) := (blk_cell hb1 0).trans (by rw [← hR]; rfl)
  have r1 : w2.cell? ⟨w.heap.size + 1, 1, none⟩ = some (.int .i64 r.handle) := (blk_cell hb1 1).trans (by rw [← hR]; rfl)
  have r2 : w2.cell? ⟨w.heap.size + 1, 2, none⟩ = some (.int .i64 r.n) := (blk_cell hb1 2).trans (by rw [← hR]; rfl)
  have r3 : w2.cell? ⟨w.heap.size + 1, 3, none⟩ = some (.string (sB r.data)) := (blk_cell hb1 3).trans (by rw [← hR]; rfl)
  have r4 : w2.cell? ⟨w.heap.size + 1, 4, none⟩ = some (.int .i64 r.number) := (blk_cell hb1 4).trans (by rw [← hR]; rfl)
  have r5 : w2.cell? ⟨w.heap.size + 1, 5, none⟩ = some (.bool r.dir) := (blk_cell hb1 5).trans (by rw [← hR]; rfl)
  have r6 : w2.cell? ⟨w.heap.size + 1, 6, none⟩ = some (.int .i64 r.size) := (blk_cell hb1 6).trans (by rw [← hR]; rfl)
  have r7 : w2.cell? ⟨w.heap.size + 1, 7, none⟩ = some (.int .i64 r.links) := (blk_cell hb1 7).trans (by rw [← hR]; rfl)
  have r8 : w2.cell? ⟨w.heap.size + 1, 8, none⟩ = some (.slice A r.names.length c) := (blk_cell hb1 8).trans (by rw [← hR]; rfl)
  have HE := Aside0.mk (hE.below HB0.out)
  have HOk := Aside0.mk hr
  clear hb0 hb1 hV hR hE hr hsz
  have HI := Aside0.mk HOk.out.err
  have hz := itoa_len HOk.out.err
  rw [← sB_size] at hz
  have hcl := fun W (h : Env W) => itoa_any r.err W h HI.out.1 HI.out.2
  obtain ⟨Z, hZ⟩ : ∃ Z, sB (Lib.itoa r.err) = Z := ⟨_, rfl⟩
  rw [hZ] at hcl hz
  have HZ := Aside0.mk hZ
  have he : (r.err != 0) = true := by simpa using h0
  clear hZ h0
  subst hw2
  go_enter Tryd.func18, Tryd.ntmps18
  go_wp2_with (go_at_call 24; refine (hcl _ HE.out).mono ?_; rintro e w3 ⟨rfl, hB⟩; have HB3 := Aside0.mk (HB0.out.trans (hB.mono HB0.out.size)); clear hB)
  refine bodyPost_ret (v := .string (⟨#[101, 114, 114, 111, 114, 32]⟩ ++ Z)) (by simp [results, Tryd.f18, go_sem]) rfl ⟨?_, HB3.out⟩
  rw [HL.out, ← HZ.out]
  rw [show (⟨#[101, 114, 114, 111, 114, 32]⟩ : ByteArray) = sB [101, 114, 114, 111, 114, 32] from rfl, sB_app]

set_option maxRecDepth 100000 in
set_option maxHeartbeats 4000000 in
theorem presult_1 (o : OpV) (r : ResV) (A : Option Addr) (c : Nat) (w : World) (hE : Env w) (hr : ResOk r) (h0 : r.err = 0) (hk : o.kind = 1) :
    Calls Tryd.prog 18 #[opV o, .agg (resC r A c)] w fun e w' => e = .returned (.string (sB (resL o r))) ∧ Below w.heap.size w w' := by
  have HL := Aside0.mk (resL_1 h0 hk)
  obtain ⟨V, hV⟩ : ∃ V, opC o = V := ⟨_, rfl⟩
  obtain ⟨R, hR⟩ : ∃ R, resC r A c = R := ⟨_, rfl⟩
  unfold opV
  rw [hV, hR]
  obtain ⟨w2, hw2⟩ : ∃ w2, (w.alloc (.cells V 23)).alloc (.cells R 39) = w2 := ⟨_, rfl⟩
  have hsz : (w.alloc (.cells V 23)).heap.size = w.heap.size + 1 := by simp
  have hb1 : w2.heap[w.heap.size + 1]? = some (.cells R 39 (0, 0)) := by rw [← hw2, ← hsz]; exact blk_new _ _
  have hb0 : w2.heap[w.heap.size]? = some (.cells V 23 (0, 0)) := by rw [← hw2]; exact blk_alloc (blk_new w _) _
  have HB0 := Aside0.mk (show Below w.heap.size w w2 by rw [← hw2]; exact below_alloc (below_alloc (Below.refl _ _) _) _)
  have k0 : w2.cell? ⟨w.heap.size, 0, none⟩ = some (.int .i64 o.kind) := (blk_cell hb0 0).trans (by rw [← hV]; rfl)
  have r0 : w2.cell? ⟨w.heap.size + 1, 0, none⟩ = some (.int .i64 r.err) := (blk_cell hb1 0).trans (by rw [← hR]; rfl)
  have r1 : w2.cell? ⟨w.heap.size + 1, 1, none⟩ = some (.int .i64 r.handle) := (blk_cell hb1 1).trans (by rw [← hR]; rfl)
  have r2 : w2.cell? ⟨w.heap.size + 1, 2, none⟩ = some (.int .i64 r.n) := (blk_cell hb1 2).trans (by rw [← hR]; rfl)
  have r3 : w2.cell? ⟨w.heap.size + 1, 3, none⟩ = some (.string (sB r.data)) := (blk_cell hb1 3).trans (by rw [← hR]; rfl)
  have r4 : w2.cell? ⟨w.heap.size + 1, 4, none⟩ = some (.int .i64 r.number) := (blk_cell hb1 4).trans (by rw [← hR]; rfl)
  have r5 : w2.cell? ⟨w.heap.size + 1, 5, none⟩ = some (.bool r.dir) := (blk_cell hb1 5).trans (by rw [← hR]; rfl)
  have r6 : w2.cell? ⟨w.heap.size + 1, 6, none⟩ = some (.int .i64 r.size) := (blk_cell hb1 6).trans (by rw [← hR]; rfl)
  have r7 : w2.cell? ⟨w.heap.size + 1, 7, none⟩ = some (.int .i64 r.links) := (blk_cell hb1 7).trans (by rw [← hR]; rfl)
  have r8 : w2.cell? ⟨w.heap.size + 1, 8, none⟩ = some (.slice A r.names.length c) := (blk_cell hb1 8).trans (by rw [← hR]; rfl)
  have HE := Aside0.mk (hE.below HB0.out)
  have HOk := Aside0.mk hr
  clear hb0 hb1 hV hR hE hr hsz
  have HI := Aside0.mk HOk.out.handle
  have hz := itoa_len HOk.out.handle
  rw [← sB_size] at hz
  have hcl := fun W (h : Env W) => itoa_any r.handle W h HI.out.1 HI.out.2
  obtain ⟨Z, hZ⟩ : ∃ Z, sB (Lib.itoa r.handle) = Z := ⟨_, rfl⟩
  rw [hZ] at hcl hz
  have HZ := Aside0.mk hZ
  rw [h0] at r0
  rw [hk] at k0
  clear hZ h0 hk
  subst hw2
  go_enter Tryd.func18, Tryd.ntmps18
  go_wp2_with (go_at_call 24; refine (hcl _ HE.out).mono ?_; rintro e w3 ⟨rfl, hB⟩; have HB3 := Aside0.mk (HB0.out.trans (hB.mono HB0.out.size)); clear hB)
  refine bodyPost_ret (v := .string Z) (by simp [results, Tryd.f18, go_sem]) rfl ⟨?_, HB3.out⟩
  rw [HL.out, ← HZ.out]
  

set_option maxRecDepth 100000 in
set_option maxHeartbeats 4000000 in
theorem presult_4 (o : OpV) (r : ResV) (A : Option Addr) (c : Nat) (w : World) (hE : Env w) (hr : ResOk r) (h0 : r.err = 0) (hk : o.kind = 4) :
    Calls Tryd.prog 18 #[opV o, .agg (resC r A c)] w fun e w' => e = .returned (.string (sB (resL o r))) ∧ Below w.heap.size w w' := by
  have HL := Aside0.mk (resL_4 h0 hk)
  obtain ⟨V, hV⟩ : ∃ V, opC o = V := ⟨_, rfl⟩
  obtain ⟨R, hR⟩ : ∃ R, resC r A c = R := ⟨_, rfl⟩
  unfold opV
  rw [hV, hR]
  obtain ⟨w2, hw2⟩ : ∃ w2, (w.alloc (.cells V 23)).alloc (.cells R 39) = w2 := ⟨_, rfl⟩
  have hsz : (w.alloc (.cells V 23)).heap.size = w.heap.size + 1 := by simp
  have hb1 : w2.heap[w.heap.size + 1]? = some (.cells R 39 (0, 0)) := by rw [← hw2, ← hsz]; exact blk_new _ _
  have hb0 : w2.heap[w.heap.size]? = some (.cells V 23 (0, 0)) := by rw [← hw2]; exact blk_alloc (blk_new w _) _
  have HB0 := Aside0.mk (show Below w.heap.size w w2 by rw [← hw2]; exact below_alloc (below_alloc (Below.refl _ _) _) _)
  have k0 : w2.cell? ⟨w.heap.size, 0, none⟩ = some (.int .i64 o.kind) := (blk_cell hb0 0).trans (by rw [← hV]; rfl)
  have r0 : w2.cell? ⟨w.heap.size + 1, 0, none⟩ = some (.int .i64 r.err) := (blk_cell hb1 0).trans (by rw [← hR]; rfl)
  have r1 : w2.cell? ⟨w.heap.size + 1, 1, none⟩ = some (.int .i64 r.handle) := (blk_cell hb1 1).trans (by rw [← hR]; rfl)
  have r2 : w2.cell? ⟨w.heap.size + 1, 2, none⟩ = some (.int .i64 r.n) := (blk_cell hb1 2).trans (by rw [← hR]; rfl)
  have r3 : w2.cell? ⟨w.heap.size + 1, 3, none⟩ = some (.string (sB r.data)) := (blk_cell hb1 3).trans (by rw [← hR]; rfl)
  have r4 : w2.cell? ⟨w.heap.size + 1, 4, none⟩ = some (.int .i64 r.number) := (blk_cell hb1 4).trans (by rw [← hR]; rfl)
  have r5 : w2.cell? ⟨w.heap.size + 1, 5, none⟩ = some (.bool r.dir) := (blk_cell hb1 5).trans (by rw [← hR]; rfl)
  have r6 : w2.cell? ⟨w.heap.size + 1, 6, none⟩ = some (.int .i64 r.size) := (blk_cell hb1 6).trans (by rw [← hR]; rfl)
  have r7 : w2.cell? ⟨w.heap.size + 1, 7, none⟩ = some (.int .i64 r.links) := (blk_cell hb1 7).trans (by rw [← hR]; rfl)
  have r8 : w2.cell? ⟨w.heap.size + 1, 8, none⟩ = some (.slice A r.names.length c) := (blk_cell hb1 8).trans (by rw [← hR]; rfl)
  have HE := Aside0.mk (hE.below HB0.out)
  have HOk := Aside0.mk hr
  clear hb0 hb1 hV hR hE hr hsz
  have HI := Aside0.mk HOk.out.n
  have hz := itoa_len HOk.out.n
  rw [← sB_size] at hz
  have hcl := fun W (h : Env W) => itoa_any r.n W h HI.out.1 HI.out.2
  obtain ⟨Z, hZ⟩ : ∃ Z, sB (Lib.itoa r.n) = Z := ⟨_, rfl⟩
  rw [hZ] at hcl hz
  have HZ := Aside0.mk hZ
  rw [h0] at r0
  rw [hk] at k0
  clear hZ h0 hk
  subst hw2
  go_enter Tryd.func18, Tryd.ntmps18
  go_wp2_with (go_at_call 24; refine (hcl _ HE.out).mono ?_; rintro e w3 ⟨rfl, hB⟩; have HB3 := Aside0.mk (HB0.out.trans (hB.mono HB0.out.size)); clear hB)
  refine bodyPost_ret (v := .string Z) (by simp [results, Tryd.f18, go_sem]) rfl ⟨?_, HB3.out⟩
  rw [HL.out, ← HZ.out]
  

set_option maxRecDepth 100000 in
set_option maxHeartbeats 4000000 in
theorem presult_3 (o : OpV) (r : ResV) (A : Option Addr) (c : Nat) (w : World) (hE : Env w) (hr : ResOk r) (h0 : r.err = 0) (hk : o.kind = 3) :
    Calls Tryd.prog 18 #[opV o, .agg (resC r A c)] w fun e w' => e = .returned (.string (sB (resL o r))) ∧ Below w.heap.size w w' := by
  have HL := Aside0.mk (resL_3 h0 hk)
  obtain ⟨V, hV⟩ : ∃ V, opC o = V := ⟨_, rfl⟩
  obtain ⟨R, hR⟩ : ∃ R, resC r A c = R := ⟨_, rfl⟩
  unfold opV
  rw [hV, hR]
  obtain ⟨w2, hw2⟩ : ∃ w2, (w.alloc (.cells V 23)).alloc (.cells R 39) = w2 := ⟨_, rfl⟩
  have hsz : (w.alloc (.cells V 23)).heap.size = w.heap.size + 1 := by simp
  have hb1 : w2.heap[w.heap.size + 1]? = some (.cells R 39 (0, 0)) := by rw [← hw2, ← hsz]; exact blk_new _ _
  have hb0 : w2.heap[w.heap.size]? = some (.cells V 23 (0, 0)) := by rw [← hw2]; exact blk_alloc (blk_new w _) _
  have HB0 := Aside0.mk (show Below w.heap.size w w2 by rw [← hw2]; exact below_alloc (below_alloc (Below.refl _ _) _) _)
  have k0 : w2.cell? ⟨w.heap.size, 0, none⟩ = some (.int .i64 o.kind) := (blk_cell hb0 0).trans (by rw [← hV]; rfl)
  have r0 : w2.cell? ⟨w.heap.size + 1, 0, none⟩ = some (.int .i64 r.err) := (blk_cell hb1 0).trans (by rw [← hR]; rfl)
  have r1 : w2.cell? ⟨w.heap.size + 1, 1, none⟩ = some (.int .i64 r.handle) := (blk_cell hb1 1).trans (by rw [← hR]; rfl)
  have r2 : w2.cell? ⟨w.heap.size + 1, 2, none⟩ = some (.int .i64 r.n) := (blk_cell hb1 2).trans (by rw [← hR]; rfl)
  have r3 : w2.cell? ⟨w.heap.size + 1, 3, none⟩ = some (.string (sB r.data)) := (blk_cell hb1 3).trans (by rw [← hR]; rfl)
  have r4 : w2.cell? ⟨w.heap.size + 1, 4, none⟩ = some (.int .i64 r.number) := (blk_cell hb1 4).trans (by rw [← hR]; rfl)
  have r5 : w2.cell? ⟨w.heap.size + 1, 5, none⟩ = some (.bool r.dir) := (blk_cell hb1 5).trans (by rw [← hR]; rfl)
  have r6 : w2.cell? ⟨w.heap.size + 1, 6, none⟩ = some (.int .i64 r.size) := (blk_cell hb1 6).trans (by rw [← hR]; rfl)
  have r7 : w2.cell? ⟨w.heap.size + 1, 7, none⟩ = some (.int .i64 r.links) := (blk_cell hb1 7).trans (by rw [← hR]; rfl)
  have r8 : w2.cell? ⟨w.heap.size + 1, 8, none⟩ = some (.slice A r.names.length c) := (blk_cell hb1 8).trans (by rw [← hR]; rfl)
  have HE := Aside0.mk (hE.below HB0.out)
  have HOk := Aside0.mk hr
  clear hb0 hb1 hV hR hE hr hsz
  have hQ := fun W => pquote_any (sB r.data) W (by rw [sB_size]; have := HOk.out.data; omega)
  rw [sB_data] at hQ
  obtain ⟨Z, hZ⟩ : ∃ Z, sB (quoteL r.data) = Z := ⟨_, rfl⟩
  rw [hZ] at hQ
  have HZ := Aside0.mk hZ
  rw [h0] at r0
  rw [hk] at k0
  clear hZ h0 hk
  subst hw2
  go_enter Tryd.func18, Tryd.ntmps18
  go_wp2_with (go_at_call 14; refine (hQ _).mono ?_; rintro e w3 ⟨rfl, hB⟩; have HB3 := Aside0.mk (HB0.out.trans (hB.mono HB0.out.size)); clear hB)
  refine bodyPost_ret (v := .string Z) (by simp [results, Tryd.f18, go_sem]) rfl ⟨?_, HB3.out⟩
  rw [HL.out, ← HZ.out]

set_option maxRecDepth 100000 in
set_option maxHeartbeats 4000000 in
theorem presult_ok (o : OpV) (r : ResV) (A : Option Addr) (c : Nat) (w : World) (hE : Env w) (hr : ResOk r) (h0 : r.err = 0) (h1 : o.kind ≠ 1) (h3 : o.kind ≠ 3) (h4 : o.kind ≠ 4) (h6 : o.kind ≠ 6) (h7 : o.kind ≠ 7) :
    Calls Tryd.prog 18 #[opV o, .agg (resC r A c)] w fun e w' => e = .returned (.string (sB (resL o r))) ∧ Below w.heap.size w w' := by
  have HL := Aside0.mk (resL_ok h0 h1 h3 h4 h6 h7)
  obtain ⟨V, hV⟩ : ∃ V, opC o = V := ⟨_, rfl⟩
  obtain ⟨R, hR⟩ : ∃ R, resC r A c = R := ⟨_, rfl⟩
  unfold opV
  rw [hV, hR]
  obtain ⟨w2, hw2⟩ : ∃ w2, (w.alloc (.cells V 23)).alloc (.cells R 39) = w2 := ⟨_, rfl⟩
  have hsz : (w.alloc (.cells V 23)).heap.size = w.heap.size + 1 := by simp
  have hb1 : w2.heap[w.heap.size + 1]? = some (.cells R 39 (0, 0)) := by rw [← hw2, ← hsz]; exact blk_new _ _
  have hb0 : w2.heap[w.heap.size]? = some (.cells V 23 (0, 0)) := by rw [← hw2]; exact blk_alloc (blk_new w _) _
  have HB0 := Aside0.mk (show Below w.heap.size w w2 by rw [← hw2]; exact below_alloc (below_alloc (Below.refl _ _) _) _)
  have k0 : w2.cell? ⟨w.heap.size, 0, none⟩ = some (.int .i64 o.kind) := (blk_cell hb0 0).trans (by rw [← hV]; rfl)
  have r0 : w2.cell? ⟨w.heap.size + 1, 0, none⟩ = some (.int .i64 r.err) := (blk_cell hb1 0).trans (by rw [← hR]; rfl)
  have r1 : w2.cell? ⟨w.heap.size + 1, 1, none⟩ = some (.int .i64 r.handle) := (blk_cell hb1 1).trans (by rw [← hR]; rfl)
  have r2 : w2.cell? ⟨w.heap.size + 1, 2, none⟩ = some (.int .i64 r.n) := (blk_cell hb1 2).trans (by rw [← hR]; rfl)
  have r3 : w2.cell? ⟨w.heap.size + 1, 3, none⟩ = some (.string (sB r.data)) := (blk_cell hb1 3).trans (by rw [← hR]; rfl)
  have r4 : w2.cell? ⟨w.heap.size + 1, 4, none⟩ = some (.int .i64 r.number) := (blk_cell hb1 4).trans (by rw [← hR]; rfl)
  have r5 : w2.cell? ⟨w.heap.size + 1, 5, none⟩ = some (.bool r.dir) := (blk_cell hb1 5).trans (by rw [← hR]; rfl)
  have r6 : w2.cell? ⟨w.heap.size + 1, 6, none⟩ = some (.int .i64 r.size) := (blk_cell hb1 6).trans (by rw [← hR]; rfl)
  have r7 : w2.cell? ⟨w.heap.size + 1, 7, none⟩ = some (.int .i64 r.links) := (blk_cell hb1 7).trans (by rw [← hR]; rfl)
  have r8 : w2.cell? ⟨w.heap.size + 1, 8, none⟩ = some (.slice A r.names.length c) := (blk_cell hb1 8).trans (by rw [← hR]; rfl)
  have HE := Aside0.mk (hE.below HB0.out)
  have HOk := Aside0.mk hr
  clear hb0 hb1 hV hR hE hr hsz
  have e1 : (o.kind == 1) = false := by simpa using h1
  have e3 : (o.kind == 3) = false := by simpa using h3
  have e4 : (o.kind == 4) = false := by simpa using h4
  have e6 : (o.kind == 6) = false := by simpa using h6
  have e7 : (o.kind == 7) = false := by simpa using h7
  rw [h0] at r0
  clear h0 h1 h3 h4 h6 h7
  subst hw2
  go_enter Tryd.func18, Tryd.ntmps18
  go_wp2_with fail
  refine bodyPost_ret (v := .string ⟨#[111, 107]⟩) (by simp [results, Tryd.f18, go_sem]) rfl ⟨?_, HB0.out⟩
  rw [HL.out]
  rfl

set_option maxRecDepth 100000 in
set_option maxHeartbeats 4000000 in
theorem rresult_err (o : OpV) (r : ResV) (A : Option Addr) (c : Nat) (w : World) (hE : Env w) (hr : ResOk r) (h0 : r.err ≠ 0) :
    Calls Tryd.prog 19 #[opV o, .agg (resC r A c)] w fun e w' => e = .returned (.string (sB (resL o r))) ∧ Below w.heap.size w w' := by
  have HL := Aside0.mk (resL_err (o := o) h0)
  obtain ⟨V, hV⟩ : ∃ V, opC o = V := ⟨_, rfl⟩
  obtain ⟨R, hR⟩ : ∃ R, resC r A c = R := ⟨_, rfl⟩
  unfold opV
  rw [hV, hR]
  obtain ⟨w2, hw2⟩ : ∃ w2, (w.alloc (.cells V 23)).alloc (.cells R 39) = w2 := ⟨_, rfl⟩
  have hsz : (w.alloc (.cells V 23)).heap.size = w.heap.size + 1 := by simp
  have hb1 : w2.heap[w.heap.size + 1]? = some (.cells R 39 (0, 0)) := by rw [← hw2, ← hsz]; exact blk_new _ _
  have hb0 : w2.heap[w.heap.size]? = some (.cells V 23 (0, 0)) := by rw [← hw2]; exact blk_alloc (blk_new w _) _
  have HB0 := Aside0.mk (show Below w.heap.size w w2 by rw [← hw2]; exact below_alloc (below_alloc (Below.refl _ _) _) _)
  have k0 : w2.cell? ⟨w.heap.size, 0, none⟩ = some (.int .i64 o.kind) := (blk_cell hb0 0).trans (by rw [← hV]; rfl)
  have r0 : w2.cell? ⟨w.heap.size + 1, 0, none⟩ = some (.int .i64 r.err) := (blk_cell hb1 0).trans (by rw [← hR]; rfl)
  have r1 : w2.cell? ⟨w.heap.size + 1, 1, none⟩ = some (.int .i64 r.handle) := (blk_cell hb1 1).trans (by rw [← hR]; rfl)
  have r2 : w2.cell? ⟨w.heap.size + 1, 2, none⟩ = some (.int .i64 r.n) := (blk_cell hb1 2).trans (by rw [← hR]; rfl)
  have r3 : w2.cell? ⟨w.heap.size + 1, 3, none⟩ = some (.string (sB r.data)) := (blk_cell hb1 3).trans (by rw [← hR]; rfl)
  have r4 : w2.cell? ⟨w.heap.size + 1, 4, none⟩ = some (.int .i64 r.number) := (blk_cell hb1 4).trans (by rw [← hR]; rfl)
  have r5 : w2.cell? ⟨w.heap.size + 1, 5, none⟩ = some (.bool r.dir) := (blk_cell hb1 5).trans (by rw [← hR]; rfl)
  have r6 : w2.cell? ⟨w.heap.size + 1, 6, none⟩ = some (.int .i64 r.size) := (blk_cell hb1 6).trans (by rw [← hR]; rfl)
  have r7 : w2.cell? ⟨w.heap.size + 1, 7, none⟩ = some (.int .i64 r.links) := (blk_cell hb1 7).trans (by rw [← hR]; rfl)
  have r8 : w2.cell? ⟨w.heap.size + 1, 8, none⟩ = some (.slice A r.names.length c) := (blk_cell hb1 8).trans (by rw [← hR]; rfl)
  have HE := Aside0.mk (hE.below HB0.out)
  have HOk := Aside0.mk hr
  clear hb0 hb1 hV hR hE hr hsz
  have HI := Aside0.mk HOk.out.err
  have hz := itoa_len HOk.out.err
  rw [← sB_size] at hz
  have hcl := fun W (h : Env W) => rnumber_any r.err W HI.out.1 HI.out.2
  obtain ⟨Z, hZ⟩ : ∃ Z, sB (Lib.itoa r.err) = Z := ⟨_, rfl⟩
  rw [hZ] at hcl hz
  have HZ := Aside0.mk hZ
  have he : (r.err != 0) = true := by simpa using h0
  clear hZ h0
  subst hw2
  go_enter Tryd.func19, Tryd.ntmps19
  go_wp2_with (go_at_call 27; refine (hcl _ HE.out).mono ?_; rintro e w3 ⟨rfl, hB⟩; have HB3 := Aside0.mk (HB0.out.trans (hB.mono HB0.out.size)); clear hB)
  refine bodyPost_ret (v := .string (⟨#[101, 114, 114, 111, 114, 32]⟩ ++ Z)) (by simp [results, Tryd.f19, go_sem]) rfl ⟨?_, HB3.out⟩
  rw [HL.out, ← HZ.out]
  rw [show (⟨#[101, 114, 114, 111, 114, 32]⟩ : ByteArray) = sB [101, 114, 114, 111, 114, 32] from rfl, sB_app]

set_option maxRecDepth 100000 in
set_option maxHeartbeats 4000000 in
theorem rresult_1 (o : OpV) (r : ResV) (A : Option Addr) (c : Nat) (w : World) (hE : Env w) (hr : ResOk r) (h0 : r.err = 0) (hk : o.kind = 1) :
    Calls Tryd.prog 19 #[opV o, .agg (resC r A c)] w fun e w' => e = .returned (.string (sB (resL o r))) ∧ Below w.heap.size w w' := by
  have HL := Aside0.mk (resL_1 h0 hk)
  obtain ⟨V, hV⟩ : ∃ V, opC o = V := ⟨_, rfl⟩
  obtain ⟨R, hR⟩ : ∃ R, resC r A c = R := ⟨_, rfl⟩
  unfold opV
  rw [hV, hR]
  obtain ⟨w2, hw2⟩ : ∃ w2, (w.alloc (.cells V 23)).alloc (.cells R 39) = w2 := ⟨_, rfl⟩
  have hsz : (w.alloc (.cells V 23)).heap.size = w.heap.size + 1 := by simp
  have hb1 : w2.heap[w.heap.size + 1]? = some (.cells R 39 (0, 0)) := by rw [← hw2, ← hsz]; exact blk_new _ _
  have hb0 : w2.heap[w.heap.size]? = some (.cells V 23 (0, 0)) := by rw [← hw2]; exact blk_alloc (blk_new w _) _
  have HB0 := Aside0.mk (show Below w.heap.size w w2 by rw [← hw2]; exact below_alloc (below_alloc (Below.refl _ _) _) _)
  have k0 : w2.cell? ⟨w.heap.size, 0, none⟩ = some (.int .i64 o.kind) := (blk_cell hb0 0).trans (by rw [← hV]; rfl)
  have r0 : w2.cell? ⟨w.heap.size + 1, 0, none⟩ = some (.int .i64 r.err) := (blk_cell hb1 0).trans (by rw [← hR]; rfl)
  have r1 : w2.cell? ⟨w.heap.size + 1, 1, none⟩ = some (.int .i64 r.handle) := (blk_cell hb1 1).trans (by rw [← hR]; rfl)
  have r2 : w2.cell? ⟨w.heap.size + 1, 2, none⟩ = some (.int .i64 r.n) := (blk_cell hb1 2).trans (by rw [← hR]; rfl)
  have r3 : w2.cell? ⟨w.heap.size + 1, 3, none⟩ = some (.string (sB r.data)) := (blk_cell hb1 3).trans (by rw [← hR]; rfl)
  have r4 : w2.cell? ⟨w.heap.size + 1, 4, none⟩ = some (.int .i64 r.number) := (blk_cell hb1 4).trans (by rw [← hR]; rfl)
  have r5 : w2.cell? ⟨w.heap.size + 1, 5, none⟩ = some (.bool r.dir) := (blk_cell hb1 5).trans (by rw [← hR]; rfl)
  have r6 : w2.cell? ⟨w.heap.size + 1, 6, none⟩ = some (.int .i64 r.size) := (blk_cell hb1 6).trans (by rw [← hR]; rfl)
  have r7 : w2.cell? ⟨w.heap.size + 1, 7, none⟩ = some (.int .i64 r.links) := (blk_cell hb1 7).trans (by rw [← hR]; rfl)
  have r8 : w2.cell? ⟨w.heap.size + 1, 8, none⟩ = some (.slice A r.names.length c) := (blk_cell hb1 8).trans (by rw [← hR]; rfl)
  have HE := Aside0.mk (hE.below HB0.out)
  have HOk := Aside0.mk hr
  clear hb0 hb1 hV hR hE hr hsz
  have HI := Aside0.mk HOk.out.handle
  have hz := itoa_len HOk.out.handle
  rw [← sB_size] at hz
  have hcl := fun W (h : Env W) => rnumber_any r.handle W HI.out.1 HI.out.2
  obtain ⟨Z, hZ⟩ : ∃ Z, sB (Lib.itoa r.handle) = Z := ⟨_, rfl⟩
  rw [hZ] at hcl hz
  have HZ := Aside0.mk hZ
  rw [h0] at r0
  rw [hk] at k0
  clear hZ h0 hk
  subst hw2
  go_enter Tryd.func19, Tryd.ntmps19
  go_wp2_with (go_at_call 27; refine (hcl _ HE.out).mono ?_; rintro e w3 ⟨rfl, hB⟩; have HB3 := Aside0.mk (HB0.out.trans (hB.mono HB0.out.size)); clear hB)
  refine bodyPost_ret (v := .string Z) (by simp [results, Tryd.f19, go_sem]) rfl ⟨?_, HB3.out⟩
  rw [HL.out, ← HZ.out]
  

set_option maxRecDepth 100000 in
set_option maxHeartbeats 4000000 in
theorem rresult_4 (o : OpV) (r : ResV) (A : Option Addr) (c : Nat) (w : World) (hE : Env w) (hr : ResOk r) (h0 : r.err = 0) (hk : o.kind = 4) :
    Calls Tryd.prog 19 #[opV o, .agg (resC r A c)] w fun e w' => e = .returned (.string (sB (resL o r))) ∧ Below w.heap.size w w' := by
  have HL := Aside0.mk (resL_4 h0 hk)
  obtain ⟨V, hV⟩ : ∃ V, opC o = V := ⟨_, rfl⟩
  obtain ⟨R, hR⟩ : ∃ R, resC r A c = R := ⟨_, rfl⟩
  unfold opV
  rw [hV, hR]
  obtain ⟨w2, hw2⟩ : ∃ w2, (w.alloc (.cells V 23)).alloc (.cells R 39) = w2 := ⟨_, rfl⟩
  have hsz : (w.alloc (.cells V 23)).heap.size = w.heap.size + 1 := by simp
  have hb1 : w2.heap[w.heap.size + 1]? = some (.cells R 39 (0, 0)) := by rw [← hw2, ← hsz]; exact blk_new _ _
  have hb0 : w2.heap[w.heap.size]? = some (.cells V 23 (0, 0)) := by rw [← hw2]; exact blk_alloc (blk_new w _) _
  have HB0 := Aside0.mk (show Below w.heap.size w w2 by rw [← hw2]; exact below_alloc (below_alloc (Below.refl _ _) _) _)
  have k0 : w2.cell? ⟨w.heap.size, 0, none⟩ = some (.int .i64 o.kind) := (blk_cell hb0 0).trans (by rw [← hV]; rfl)
  have r0 : w2.cell? ⟨w.heap.size + 1, 0, none⟩ = some (.int .i64 r.err) := (blk_cell hb1 0).trans (by rw [← hR]; rfl)
  have r1 : w2.cell? ⟨w.heap.size + 1, 1, none⟩ = some (.int .i64 r.handle) := (blk_cell hb1 1).trans (by rw [← hR]; rfl)
  have r2 : w2.cell? ⟨w.heap.size + 1, 2, none⟩ = some (.int .i64 r.n) := (blk_cell hb1 2).trans (by rw [← hR]; rfl)
  have r3 : w2.cell? ⟨w.heap.size + 1, 3, none⟩ = some (.string (sB r.data)) := (blk_cell hb1 3).trans (by rw [← hR]; rfl)
  have r4 : w2.cell? ⟨w.heap.size + 1, 4, none⟩ = some (.int .i64 r.number) := (blk_cell hb1 4).trans (by rw [← hR]; rfl)
  have r5 : w2.cell? ⟨w.heap.size + 1, 5, none⟩ = some (.bool r.dir) := (blk_cell hb1 5).trans (by rw [← hR]; rfl)
  have r6 : w2.cell? ⟨w.heap.size + 1, 6, none⟩ = some (.int .i64 r.size) := (blk_cell hb1 6).trans (by rw [← hR]; rfl)
  have r7 : w2.cell? ⟨w.heap.size + 1, 7, none⟩ = some (.int .i64 r.links) := (blk_cell hb1 7).trans (by rw [← hR]; rfl)
  have r8 : w2.cell? ⟨w.heap.size + 1, 8, none⟩ = some (.slice A r.names.length c) := (blk_cell hb1 8).trans (by rw [← hR]; rfl)
  have HE := Aside0.mk (hE.below HB0.out)
  have HOk := Aside0.mk hr
  clear hb0 hb1 hV hR hE hr hsz
  have HI := Aside0.mk HOk.out.n
  have hz := itoa_len HOk.out.n
  rw [← sB_size] at hz
  have hcl := fun W (h : Env W) => rnumber_any r.n W HI.out.1 HI.out.2
  obtain ⟨Z, hZ⟩ : ∃ Z, sB (Lib.itoa r.n) = Z := ⟨_, rfl⟩
  rw [hZ] at hcl hz
  have HZ := Aside0.mk hZ
  rw [h0] at r0
  rw [hk] at k0
  clear hZ h0 hk
  subst hw2
  go_enter Tryd.func19, Tryd.ntmps19
  go_wp2_with (go_at_call 27; refine (hcl _ HE.out).mono ?_; rintro e w3 ⟨rfl, hB⟩; have HB3 := Aside0.mk (HB0.out.trans (hB.mono HB0.out.size)); clear hB)
  refine bodyPost_ret (v := .string Z) (by simp [results, Tryd.f19, go_sem]) rfl ⟨?_, HB3.out⟩
  rw [HL.out, ← HZ.out]
  

set_option maxRecDepth 100000 in
set_option maxHeartbeats 4000000 in
theorem rresult_3 (o : OpV) (r : ResV) (A : Option Addr) (c : Nat) (w : World) (hE : Env w) (hr : ResOk r) (h0 : r.err = 0) (hk : o.kind = 3) :
    Calls Tryd.prog 19 #[opV o, .agg (resC r A c)] w fun e w' => e = .returned (.string (sB (resL o r))) ∧ Below w.heap.size w w' := by
  have HL := Aside0.mk (resL_3 h0 hk)
  obtain ⟨V, hV⟩ : ∃ V, opC o = V := ⟨_, rfl⟩
  obtain ⟨R, hR⟩ : ∃ R, resC r A c = R := ⟨_, rfl⟩
  unfold opV
  rw [hV, hR]
  obtain ⟨w2, hw2⟩ : ∃ w2, (w.alloc (.cells V 23)).alloc (.cells R 39) = w2 := ⟨_, rfl⟩
  have hsz : (w.alloc (.cells V 23)).heap.size = w.heap.size + 1 := by simp
  have hb1 : w2.heap[w.heap.size + 1]? = some (.cells R 39 (0, 0)) := by rw [← hw2, ← hsz]; exact blk_new _ _
  have hb0 : w2.heap[w.heap.size]? = some (.cells V 23 (0, 0)) := by rw [← hw2]; exact blk_alloc (blk_new w _) _
  have HB0 := Aside0.mk (show Below w.heap.size w w2 by rw [← hw2]; exact below_alloc (below_alloc (Below.refl _ _) _) _)
  have k0 : w2.cell? ⟨w.heap.size, 0, none⟩ = some (.int .i64 o.kind) := (blk_cell hb0 0).trans (by rw [← hV]; rfl)
  have r0 : w2.cell? ⟨w.heap.size + 1, 0, none⟩ = some (.int .i64 r.err) := (blk_cell hb1 0).trans (by rw [← hR]; rfl)
  have r1 : w2.cell? ⟨w.heap.size + 1, 1, none⟩ = some (.int .i64 r.handle) := (blk_cell hb1 1).trans (by rw [← hR]; rfl)
  have r2 : w2.cell? ⟨w.heap.size + 1, 2, none⟩ = some (.int .i64 r.n) := (blk_cell hb1 2).trans (by rw [← hR]; rfl)
  have r3 : w2.cell? ⟨w.heap.size + 1, 3, none⟩ = some (.string (sB r.data)) := (blk_cell hb1 3).trans (by rw [← hR]; rfl)
  have r4 : w2.cell? ⟨w.heap.size + 1, 4, none⟩ = some (.int .i64 r.number) := (blk_cell hb1 4).trans (by rw [← hR]; rfl)
  have r5 : w2.cell? ⟨w.heap.size + 1, 5, none⟩ = some (.bool r.dir) := (blk_cell hb1 5).trans (by rw [← hR]; rfl)
  have r6 : w2.cell? ⟨w.heap.size + 1, 6, none⟩ = some (.int .i64 r.size) := (blk_cell hb1 6).trans (by rw [← hR]; rfl)
  have r7 : w2.cell? ⟨w.heap.size + 1, 7, none⟩ = some (.int .i64 r.links) := (blk_cell hb1 7).trans (by rw [← hR]; rfl)
  have r8 : w2.cell? ⟨w.heap.size + 1, 8, none⟩ = some (.slice A r.names.length c) := (blk_cell hb1 8).trans (by rw [← hR]; rfl)
  have HE := Aside0.mk (hE.below HB0.out)
  have HOk := Aside0.mk hr
  clear hb0 hb1 hV hR hE hr hsz
  have hQ := fun W => rquote_any (sB r.data) W (by rw [sB_size]; have := HOk.out.data; omega)
  rw [sB_data] at hQ
  obtain ⟨Z, hZ⟩ : ∃ Z, sB (quoteL r.data) = Z := ⟨_, rfl⟩
  rw [hZ] at hQ
  have HZ := Aside0.mk hZ
  rw [h0] at r0
  rw [hk] at k0
  clear hZ h0 hk
  subst hw2
  go_enter Tryd.func19, Tryd.ntmps19
  go_wp2_with (go_at_call 16; refine (hQ _).mono ?_; rintro e w3 ⟨rfl, hB⟩; have HB3 := Aside0.mk (HB0.out.trans (hB.mono HB0.out.size)); clear hB)
  refine bodyPost_ret (v := .string Z) (by simp [results, Tryd.f19, go_sem]) rfl ⟨?_, HB3.out⟩
  rw [HL.out, ← HZ.out]

set_option maxRecDepth 100000 in
set_option maxHeartbeats 4000000 in
theorem rresult_ok (o : OpV) (r : ResV) (A : Option Addr) (c : Nat) (w : World) (hE : Env w) (hr : ResOk r) (h0 : r.err = 0) (h1 : o.kind ≠ 1) (h3 : o.kind ≠ 3) (h4 : o.kind ≠ 4) (h6 : o.kind ≠ 6) (h7 : o.kind ≠ 7) :
    Calls Tryd.prog 19 #[opV o, .agg (resC r A c)] w fun e w' => e = .returned (.string (sB (resL o r))) ∧ Below w.heap.size w w' := by
  have HL := Aside0.mk (resL_ok h0 h1 h3 h4 h6 h7)
  obtain ⟨V, hV⟩ : ∃ V, opC o = V := ⟨_, rfl⟩
  obtain ⟨R, hR⟩ : ∃ R, resC r A c = R := ⟨_, rfl⟩
  unfold opV
  rw [hV, hR]
  obtain ⟨w2, hw2⟩ : ∃ w2, (w.alloc (.cells V 23)).alloc (.cells R 39) = w2 := ⟨_, rfl⟩
  have hsz : (w.alloc (.cells V 23)).heap.size = w.heap.size + 1 := by simp
  have hb1 : w2.heap[w.heap.size + 1]? = some (.cells R 39 (0, 0)) := by rw [← hw2, ← hsz]; exact blk_new _ _
  have hb0 : w2.heap[w.heap.size]? = some (.cells V 23 (0, 0)) := by rw [← hw2]; exact blk_alloc (blk_new w _) _
  have HB0 := Aside0.mk (show Below w.heap.size w w2 by rw [← hw2]; exact below_alloc (below_alloc (Below.refl _ _) _) _)
  have k0 : w2.cell? ⟨w.heap.size, 0, none⟩ = some (.int .i64 o.kind) := (blk_cell hb0 0).trans (by rw [← hV]; rfl)
  have r0 : w2.cell? ⟨w.heap.size + 1, 0, none⟩ = some (.int .i64 r.err) := (blk_cell hb1 0).trans (by rw [← hR]; rfl)
  have r1 : w2.cell? ⟨w.heap.size + 1, 1, none⟩ = some (.int .i64 r.handle) := (blk_cell hb1 1).trans (by rw [← hR]; rfl)
  have r2 : w2.cell? ⟨w.heap.size + 1, 2, none⟩ = some (.int .i64 r.n) := (blk_cell hb1 2).trans (by rw [← hR]; rfl)
  have r3 : w2.cell? ⟨w.heap.size + 1, 3, none⟩ = some (.string (sB r.data)) := (blk_cell hb1 3).trans (by rw [← hR]; rfl)
  have r4 : w2.cell? ⟨w.heap.size + 1, 4, none⟩ = some (.int .i64 r.number) := (blk_cell hb1 4).trans (by rw [← hR]; rfl)
  have r5 : w2.cell? ⟨w.heap.size + 1, 5, none⟩ = some (.bool r.dir) := (blk_cell hb1 5).trans (by rw [← hR]; rfl)
  have r6 : w2.cell? ⟨w.heap.size + 1, 6, none⟩ = some (.int .i64 r.size) := (blk_cell hb1 6).trans (by rw [← hR]; rfl)
  have r7 : w2.cell? ⟨w.heap.size + 1, 7, none⟩ = some (.int .i64 r.links) := (blk_cell hb1 7).trans (by rw [← hR]; rfl)
  have r8 : w2.cell? ⟨w.heap.size + 1, 8, none⟩ = some (.slice A r.names.length c) := (blk_cell hb1 8).trans (by rw [← hR]; rfl)
  have HE := Aside0.mk (hE.below HB0.out)
  have HOk := Aside0.mk hr
  clear hb0 hb1 hV hR hE hr hsz
  have e1 : (o.kind == 1) = false := by simpa using h1
  have e3 : (o.kind == 3) = false := by simpa using h3
  have e4 : (o.kind == 4) = false := by simpa using h4
  have e6 : (o.kind == 6) = false := by simpa using h6
  have e7 : (o.kind == 7) = false := by simpa using h7
  rw [h0] at r0
  clear h0 h1 h3 h4 h6 h7
  subst hw2
  go_enter Tryd.func19, Tryd.ntmps19
  go_wp2_with fail
  refine bodyPost_ret (v := .string ⟨#[111, 107]⟩) (by simp [results, Tryd.f19, go_sem]) rfl ⟨?_, HB0.out⟩
  rw [HL.out]
  rfl

end Go.Proofs.YteglbmindbfkeaaDoor.H
