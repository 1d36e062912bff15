/- wordOf as a contract. -/
import Derived.Test.YteglbmindbfkeaaGreatDoorFo
namespace Go.Proofs.YteglbmindbfkeaaGreatDoor.H
open Go.RowKit Go.Proofs.YteglbmindbfkeaaGreatDoorW.PrintWords
set_option linter.unusedVariables false
set_option linter.unusedSimpArgs false

/-- The iterator over the table. -/
structure It (w : World) (r bm : Nat) (seen : Array Nat) : Prop where
  it : ∃ c, w.heap[r]? = some (.mapIter (some bm) 19 seen c) ∧ 19 ≤ c
  map : MapIs w bm 19
theorem It.below {w w' : World} {r bm : Nat} {seen : Array Nat} (h : It w r bm seen) (hb : Below w.heap.size w w') : It w' r bm seen :=
  ⟨h.it.elim fun c hc => ⟨c, (hb.block r (blk_lt hc.1)).trans hc.1, hc.2⟩, h.map.below hb⟩
theorem ents_born {x : MapEntry} (h : x ∈ ents) : ∃ k wd fs, kinds[x.born]? = some (k, wd, fs) ∧ x = { key := .string (sB wd), val := formV k fs, born := x.born } := by
  obtain ⟨j, hj⟩ := List.getElem?_of_mem h
  have hl := (List.getElem?_eq_some_iff.1 hj).1
  rw [ents_length] at hl
  obtain ⟨⟨k, wd, fs⟩, hk⟩ : ∃ e, kinds[j]? = some e := ⟨_, List.getElem?_eq_getElem hl⟩
  have := ents_get hk
  rw [hj] at this
  cases this
  exact ⟨k, wd, fs, hk, rfl⟩
theorem ents19 : (ents.take 19).toArray = ents.toArray := by rw [List.take_of_length_le (by rw [ents_length]; omega)]
/-- What wordOf answers. -/
def wordV (kd : Int) : Value := match kindOf kd with
  | some (wd, fs) => .tuple #[.string (sB wd), .agg #[.int .i64 kd, .string (sB (fs.map fldB))]]
  | none => .tuple #[.string ⟨#[]⟩, .agg #[.int .i64 0, .string ⟨#[]⟩]]
/-- How many are still to come. -/
def mz (seen : Array Nat) : Nat := ((List.range 19).filter fun j => !seen.contains j).length
theorem mz_push {seen : Array Nat} {j : Nat} (h : j ∉ seen) (hj : j < 19) : mz (seen.push j) < mz seen := by
  unfold mz
  refine filter_lt (fun i => !seen.contains i) (fun i => !(seen.push j).contains i) (fun x hx => ?_) j (by simpa using h) (by simp) _ (by simpa using hj)
  simp at hx ⊢
  exact hx.1
theorem iterSeen_of {w : World} {r bm : Nat} {seen : Array Nat} (h : It w r bm seen) : w.iterSeen r = seen := by
  obtain ⟨c, hr, _⟩ := h.it
  unfold World.iterSeen
  rw [hr]
theorem next_any (ty : TypeId) {w : World} {r bm : Nat} {seen : Array Nat} (h : It w r bm seen) (hne : r ≠ bm) :
    ((∀ j, j < 19 → j ∈ seen) ∧ (Instr.next (.pointer (some ⟨r, 0, none⟩)) false ty).run Tryz.prog w = .ok (.tuple #[.bool false]) w) ∨
    ∃ (j k : Nat) (wd : Bs) (fs : List Fld) (W : World), kinds[j]? = some (k, wd, fs) ∧ j ∉ seen ∧
      (Instr.next (.pointer (some ⟨r, 0, none⟩)) false ty).run Tryz.prog w = .ok (.tuple #[.bool true, .string (sB wd), formV k fs]) W ∧ It W r bm (seen.push j) ∧
      (Instr.entry (.pointer (some ⟨r, 0, none⟩))).run Tryz.prog W = .ok (.tuple #[.string (sB wd), formV k fs]) W ∧ (∀ i, i ≠ r → W.heap[i]? = w.heap[i]?) ∧ W.heap.size = w.heap.size ∧ W.os = w.os ∧ W.tape = w.tape ∧ W.output = w.output := by
  obtain ⟨c, hr, hc⟩ := h.it
  have hM := h.map.out
  rw [ents19] at hM
  have hold : ∀ x ∈ ents.toArray.toList, x.born < 19 := fun x hx => by
    obtain ⟨k, wd, fs, hk, _⟩ := ents_born (by simpa using hx)
    exact (List.getElem?_eq_some_iff.1 hk).1
  rcases run_next_at (P := Tryz.prog) w ty r bm 19 c seen ents.toArray 19 hr hM hold hc with ⟨h0, hrun⟩ | ⟨e, he, w1, hw1, hrun⟩
  · refine .inl ⟨fun j hj => ?_, hrun⟩
    apply Classical.byContradiction
    intro hn
    have hl : leftOf ents.toArray seen = #[] := Array.eq_empty_of_size_eq_zero h0
    unfold leftOf at hl
    rw [Array.filter_eq_empty_iff] at hl
    obtain ⟨⟨k, wd, fs⟩, hk⟩ : ∃ e, kinds[j]? = some e := ⟨_, List.getElem?_eq_getElem hj⟩
    have hg := ents_get hk
    have hm : ({ key := .string (sB wd), val := formV k fs, born := j } : MapEntry) ∈ ents.toArray := by
      rw [List.mem_toArray]; exact List.mem_of_getElem? hg
    have := hl _ hm
    simp at this
    exact hn this
  · have hm : e ∈ ents.toArray ∧ e.born ∉ seen := by
      have := he
      unfold leftOf at this
      simpa using this
    obtain ⟨k, wd, fs, hk, hx⟩ := ents_born (by simpa using hm.1)
    obtain ⟨j, hj⟩ : ∃ j, e.born = j := ⟨_, rfl⟩
    rw [hj] at hk hx hm hrun
    subst hx
    have hs : r < w.heap.size := blk_lt hr
    have hd : w1.heap = w.heap ∧ w1.os = w.os ∧ w1.tape = w.tape ∧ w1.output = w.output := by rcases hw1 with rfl | rfl <;> exact ⟨rfl, rfl, rfl, rfl⟩
    obtain ⟨W, hW⟩ : ∃ W, ChangeMaps.setBlock w1 r (.mapIter (some bm) 19 (seen.push j) 19) = W := ⟨_, rfl⟩
    rw [hW] at hrun
    have hWh : W.heap = w.heap.setIfInBounds r (.mapIter (some bm) 19 (seen.push j) 19) := by rw [← hW, ← hd.1]; rfl
    have hr2 : W.heap[r]? = some (.mapIter (some bm) 19 (seen.push j) 19) := by rw [hWh]; simp [hs]
    have ho : ∀ i, i ≠ r → W.heap[i]? = w.heap[i]? := fun i hi => by rw [hWh]; simp [Ne.symm hi]
    have hM2 : W.heap[bm]? = some (.map ents.toArray 19) := (ho bm (fun e => hne e.symm)).trans hM
    have hnd : (ents.toArray.toList.map (·.born)).Nodup := by decide +kernel
    refine .inr ⟨j, k, wd, fs, W, hk, hm.2, hrun, ⟨⟨19, hr2, Nat.le_refl _⟩, ⟨by rw [ents19]; exact hM2⟩⟩, ?_, ho, by rw [hWh]; simp, by rw [← hW]; exact hd.2.1, by rw [← hW]; exact hd.2.2.1, by rw [← hW]; exact hd.2.2.2⟩
    exact run_entry_at (P := Tryz.prog) W r bm 19 seen ents.toArray 19 { key := .string (sB wd), val := formV k fs, born := j } hr2 hM2 (by simpa using hm.1) hnd
set_option maxRecDepth 100000 in
set_option maxHeartbeats 4000000 in
theorem wordOf_any (kd : Int) (w : World) : Calls Tryz.prog 39 #[.int .i64 kd] w fun e w' => e = .returned (wordV kd) ∧ Below w.heap.size w w' := by
  go_enter Tryz.func39, Tryz.ntmps39
  go_wp2_with (go_at_call 33; refine (forms_any _).mono ?_; rintro e w1 ⟨rfl, hM, hB⟩; have HM := Aside0.mk (show MapIs w1 (w.heap.size + 1) 19 by rw [← World.size_alloc]; exact hM); have HB1 := Aside0.mk hB; clear hM hB; have hrg := run_range_map (P := Tryz.prog) w1 79 9 77 (w.heap.size + 1) _ 19 Tryz.underlying79 HM.out.out)
  have hB0 := HB1.out
  have hz0 : (w.alloc (Obj.cells #[.int .i64 0, .string ⟨#[]⟩] 77)).heap.size = w.heap.size + 1 := by simp
  have hs1 := hB0.size
  rw [hz0] at hs1
  have hM1 := HM.out.out
  have hlM := blk_lt hM1
  have HRb := Aside0.mk (show w1.heap[w.heap.size]? = some (.cells #[.int .i64 0, .string ⟨#[]⟩] 77 (0, 0)) from (hB0.block _ (by simp)).trans (blk_new w _))
  have HBw := Aside0.mk (show Below w.heap.size w w1 from (below_alloc (Below.refl w.heap.size w) _).trans (hB0.mono (by simp)))
  obtain ⟨r, hr⟩ : ∃ r, w1.heap.size = r := ⟨_, rfl⟩
  have HR := Aside0.mk hr
  have hrM : r ≠ w.heap.size + 1 := by omega
  have hrH : r ≠ w.heap.size := by omega
  have hr0 : w.heap.size ≤ r := by omega
  have hIt : It (w1.alloc (.mapIter (some (w.heap.size + 1)) 19 #[] 19)) r (w.heap.size + 1) #[] := ⟨⟨19, by rw [← hr]; exact blk_new w1 _, Nat.le_refl _⟩, HM.out.below (below_alloc (Below.refl _ _) _)⟩
  have HIt := Aside0.mk hIt
  rw [hr]
  clear hB0 hs1 hM1 hlM hr hIt hz0 hrg
  go_loopw [8] (fun _ wr => ∃ seen, Aside0 (It wr r (w.heap.size + 1) seen) ∧ Aside0 (∀ j, j ∈ seen → ∀ k wd fs, kinds[j]? = some (k, wd, fs) → (k : Int) ≠ kd) ∧ Aside0 (Below w.heap.size w wr ∧ wr.heap[w.heap.size]? = some (.cells #[.int .i64 0, .string ⟨#[]⟩] 77 (0, 0)))) (fun _ wr => mz (wr.iterSeen r))
  case atStart => exact ⟨#[], HIt, ⟨fun j hj => by simp at hj⟩, ⟨below_alloc HBw.out _, blk_alloc HRb.out _⟩⟩
  case round =>
    obtain ⟨seen, HI, HN, HW⟩ := hrel
    have hsn := iterSeen_of HI.out
    rcases next_any 0 HI.out hrM with ⟨hall, hnext⟩ | ⟨j, k, wd, fs, W, hk, hj, hnext, hI2, hent, ho, hsz, hos, htp, hout⟩
    · have HK := Aside0.mk (show kindOf kd = none by
        cases hk : kindOf kd with
        | none => rfl
        | some p =>
          obtain ⟨wd, fs⟩ := p
          obtain ⟨k, rfl, hm⟩ := kindOf_mem hk
          obtain ⟨j, hj⟩ := List.getElem?_of_mem hm
          exact absurd rfl (HN.out j (hall j (List.getElem?_eq_some_iff.1 hj).1) k wd fs hj))
      have c0 : wr.cell? ⟨w.heap.size, 0, none⟩ = some (.int .i64 0) := (blk_cell HW.out.2 0).trans rfl
      have c1 : wr.cell? ⟨w.heap.size, 1, none⟩ = some (.string ⟨#[]⟩) := (blk_cell HW.out.2 1).trans rfl
      have f0 := blk_frozen HW.out.2 0
      have f1 := blk_frozen HW.out.2 1
      clear hall hsn
      go_wp2
      have hb1 := blk_put (blk_put HW.out.2 0 (.int .i64 0) rfl) 1 (.string ⟨#[]⟩) rfl
      have hBf : Below w.heap.size w ((wr.setCell ⟨w.heap.size, 0, none⟩ (.int .i64 0)).setCell ⟨w.heap.size, 1, none⟩ (.string ⟨#[]⟩)) := (HW.out.1.setCell (p := ⟨w.heap.size, 0, none⟩) (Nat.le_refl _) _).setCell (p := ⟨w.heap.size, 1, none⟩) (Nat.le_refl _) _
      obtain ⟨Wf, hWf⟩ : ∃ Wf, (wr.setCell ⟨w.heap.size, 0, none⟩ (.int .i64 0)).setCell ⟨w.heap.size, 1, none⟩ (.string ⟨#[]⟩) = Wf := ⟨_, rfl⟩
      rw [hWf] at hb1 hBf ⊢
      have d0 : Wf.cell? ⟨w.heap.size, 0, none⟩ = some (.int .i64 0) := (blk_cell hb1 0).trans rfl
      have d1 : Wf.cell? ⟨w.heap.size, 1, none⟩ = some (.string ⟨#[]⟩) := (blk_cell hb1 1).trans rfl
      refine bodyPost_ret (v := .tuple #[.string ⟨#[]⟩, .agg #[.int .i64 0, .string ⟨#[]⟩]]) (by simp [results, Tryz.f39, go_sem, d0, d1]) rfl ⟨by unfold wordV; rw [HK.out], hBf⟩
    · have hjl := (List.getElem?_eq_some_iff.1 hk).1
      have hmz := mz_push hj hjl
      have hsn2 := iterSeen_of hI2
      have hBW : Below w.heap.size w W := ⟨hos.trans HW.out.1.os, htp.trans HW.out.1.tape, hout.trans HW.out.1.output, by rw [hsz]; exact HW.out.1.size, fun i hi => (ho i (by omega)).trans (HW.out.1.block i hi)⟩
      have hbW : W.heap[w.heap.size]? = some (.cells #[.int .i64 0, .string ⟨#[]⟩] 77 (0, 0)) := (ho _ (fun e => hrH e.symm)).trans HW.out.2
      have HW2 := Aside0.mk (And.intro hBW hbW)
      have HI2 := Aside0.mk hI2
      have HK := Aside0.mk hk
      have HMz := Aside0.mk (And.intro hmz (And.intro hsn hsn2))
      unfold formV at hnext hent
      obtain ⟨T, hT⟩ : ∃ T, sB wd = T := ⟨_, rfl⟩
      obtain ⟨F, hF⟩ : ∃ F, sB (fs.map fldB) = F := ⟨_, rfl⟩
      rw [hT, hF] at hnext hent
      have HTF := Aside0.mk (And.intro hT hF)
      clear hmz hsn hsn2 hBW hbW hI2 hk hj hT hF ho hsz hos htp hout hjl
      by_cases he : (k : Int) = kd
      · subst he
        have e1 : ((k : Int) == (k : Int)) = true := by simp
        go_wp2
        have hbN : (W.alloc (.cells #[.int .i64 k, .string F] 77)).heap[W.heap.size]? = some (.cells #[.int .i64 k, .string F] 77 (0, 0)) := blk_new W _
        have hbH := blk_alloc HW2.out.2 (.cells #[.int .i64 k, .string F] 77)
        have hBV := below_alloc HW2.out.1 (.cells #[.int .i64 k, .string F] 77)
        obtain ⟨V, hV⟩ : ∃ V, W.alloc (.cells #[.int .i64 k, .string F] 77) = V := ⟨_, rfl⟩
        rw [hV] at hbN hbH hBV ⊢
        have d0 : V.cell? ⟨W.heap.size, 0, none⟩ = some (.int .i64 k) := (blk_cell hbN 0).trans rfl
        have d1 : V.cell? ⟨W.heap.size, 1, none⟩ = some (.string F) := (blk_cell hbN 1).trans rfl
        have c0 : V.cell? ⟨w.heap.size, 0, none⟩ = some (.int .i64 0) := (blk_cell hbH 0).trans rfl
        have c1 : V.cell? ⟨w.heap.size, 1, none⟩ = some (.string ⟨#[]⟩) := (blk_cell hbH 1).trans rfl
        have f0 := blk_frozen hbH 0
        have f1 := blk_frozen hbH 1
        have HH := Aside0.mk (And.intro hbH hBV)
        clear hbN hbH hBV hV
        go_region
        all_goals
          go_wp2
          have hb1 := blk_put (blk_put HH.out.1 0 (.int .i64 k) rfl) 1 (.string F) rfl
          have hBf := (HH.out.2.setCell (p := ⟨w.heap.size, 0, none⟩) (Nat.le_refl _) (.int .i64 k)).setCell (p := ⟨w.heap.size, 1, none⟩) (Nat.le_refl _) (.string F)
          obtain ⟨Wf, hWf⟩ : ∃ Wf, (V.setCell ⟨w.heap.size, 0, none⟩ (.int .i64 k)).setCell ⟨w.heap.size, 1, none⟩ (.string F) = Wf := ⟨_, rfl⟩
          rw [hWf] at hb1 hBf ⊢
          have g0 : Wf.drew.cell? ⟨w.heap.size, 0, none⟩ = some (.int .i64 k) := (blk_cell (blk_drew hb1) 0).trans rfl
          have g1 : Wf.drew.cell? ⟨w.heap.size, 1, none⟩ = some (.string F) := (blk_cell (blk_drew hb1) 1).trans rfl
          have g2 : Wf.cell? ⟨w.heap.size, 0, none⟩ = some (.int .i64 k) := g0
          have g3 : Wf.cell? ⟨w.heap.size, 1, none⟩ = some (.string F) := g1
          refine bodyPost_ret (v := .tuple #[.string T, .agg #[.int .i64 k, .string F]]) (by simp [results, Tryz.f39, go_sem, g0, g1, g2, g3]) rfl ⟨?_, below_drew hBf⟩
          have hko := (kinds_fields _ (List.mem_of_getElem? HK.out)).2.2.2.2
          unfold wordV
          rw [hko, ← HTF.out.1, ← HTF.out.2]
      · have e1 : ((k : Int) == kd) = false := by simp [he]
        have HNe := Aside0.mk he
        clear he
        go_wp2
        have hI3 := HI2.out.below (below_alloc (Below.refl _ _) (.cells #[.int .i64 k, .string F] 77))
        refine ⟨⟨seen.push j, ⟨hI3⟩, ⟨fun i hi k2 w2 f2 h2 => ?_⟩, ⟨below_alloc HW2.out.1 _, blk_alloc HW2.out.2 _⟩⟩, ?_⟩
        · rcases Array.mem_push.1 hi with h | h
          · exact HN.out i h k2 w2 f2 h2
          · subst h
            rw [HK.out] at h2
            cases h2
            exact HNe.out
        · rw [iterSeen_of hI3, HMz.out.2.1]
          exact HMz.out.1
end Go.Proofs.YteglbmindbfkeaaGreatDoor.H
