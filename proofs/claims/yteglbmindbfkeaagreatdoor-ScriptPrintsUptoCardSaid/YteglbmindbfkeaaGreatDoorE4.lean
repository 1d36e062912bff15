/- Parsing whole scripts, by the program and by the reference; what the two laws answer. -/
import Derived.Test.YteglbmindbfkeaaGreatDoorDu
import Derived.Test.YteglbmindbfkeaaGreatDoorAw
namespace Go.Proofs.YteglbmindbfkeaaGreatDoor.H
open Go.RowKit Go.Proofs.YteglbmindbfkeaaGreatDoorW.PrintWords
set_option linter.unusedVariables false
set_option linter.unusedSimpArgs false
def strSz : Value → Nat
  | .string s => s.size
  | _ => 0
/-- What holds between two lines. -/
structure PrI (w wr : World) (rb b : Nat) (st : St) (n : Nat) (v : Value) (xs : List Lv3) : Prop where
  rd : wr.heap[b]? = some (.cells (rdC st.s v st.n st.kept) 63 (0, 0))
  lv : LvRow wr b v xs
  map : xs.map (·.1) = st.ls
  res : ShAt wr rb {}
  bel : Below w.heap.size w wr
  pl : Pl st n
theorem LvRow.less {W : World} {B B' : Nat} {v : Value} {xs : List Lv3} (h : LvRow W B v xs) (hb : B' ≤ B) : LvRow W B' v xs :=
  ⟨own_less h.row hb, fun x hx => ⟨own_less (h.each x hx).ops hb, own_less (h.each x hx).keep hb⟩, h.apart⟩
theorem grown_stS (w : World) (b : Nat) (t : ShapeV) : w.grownBy (stS w b t) (some b) :=
  grown_set (grown_set (grown_set (grown_set (grown_set (grown_set (grown_set (grown_set (grown_set (grown_set (grown_of_below (Below.refl _ _)) 0 _) 1 _) 2 _) 3 _) 4 _) 5 _) 6 _) 7 _) 8 _) 9 _
theorem cell_drew (W : World) (a : Addr) : W.drew.cell? a = W.cell? a := rfl
theorem cell_set_far {W : World} {p a : Addr} {u v : Value} (hne : p.block ≠ a.block) (h : W.cell? a = some v) : (W.setCell p u).cell? a = some v :=
  (World.cell?_of_block (Below.heap_setCell _ _ _ _ hne.symm)).trans h
theorem rd_eta_n (s : ShapeV) (v : Value) (n : Nat) (k : Bool) : (rdC s v n k).setIfInBounds 11 (.int .i64 ((n : Int) + 1)) = rdC s v (n + 1) k := by
  unfold rdC
  simp
theorem cutV_none {l : Bs} (h : cutN l = none) : cutV l = .tuple #[.string (sB l), .string ⟨#[]⟩, .bool false] := by unfold cutV; rw [h]
theorem cutV_some {l a b : Bs} (h : cutN l = some (a, b)) : cutV l = .tuple #[.string (sB a), .string (sB b), .bool true] := by unfold cutV; rw [h]
set_option maxRecDepth 100000 in
set_option maxHeartbeats 8000000 in
theorem pParse_any (text : Bs) (w : World) (hE : Env w) : Calls Tryz.prog 8 #[.string (sB text)] w fun e w' => PaP (parseT text) w e w' := by
  have HE := Aside0.mk hE
  have hsz := sB_size text
  clear hE
  have HR0 := Aside0.mk (show ShAt (w.alloc (.cells (shC {}) 26)) w.heap.size {} from blk_new w _)
  by_cases hlong : 1048576 < text.length
  · have HR := Aside0.mk (parseT_long hlong)
    obtain ⟨f0, f1, f2, f3, f4, f5, f6, f7, f8, f9⟩ := HR0.out.frozens
    obtain ⟨z0, z1, z2, z3, z4, z5, z6, z7, z8, z9⟩ := HR0.out.cells
    have hgt : (1048576 : Int) < ((sB text).size : Int) := by omega
    go_enter Tryz.func8, Tryz.ntmps8
    go_wp2_with fail
    obtain ⟨W0, hW0⟩ : ∃ W0, w.alloc (.cells (shC {}) 26) = W0 := ⟨_, rfl⟩
    have hB0 : Below w.heap.size w W0 := by rw [← hW0]; exact below_alloc (Below.refl _ _) _
    change bodyPost _ _ _ _ _ (w.alloc (.cells (shC {}) 26))
    rw [hW0] at HR0 ⊢
    obtain ⟨c0, c1, c2, c3, c4, c5, c6, c7, c8, c9⟩ := HR0.out.cells
    exact bodyPost_ret (v := .tuple #[shV {}, .slice none 0 0, .int .i64 3, .int .i64 0]) (by simp [results, Tryz.f8, go_sem, c0, c1, c2, c3, c4, c5, c6, c7, c8, c9]; rfl) rfl (PaP.bad HR.out rfl hB0)
  · have hle : ((sB text).size : Int) ≤ 1048576 := by omega
    have HT := Aside0.mk hlong
    have htl : text.length ≤ 1048576 := by omega
    have HRD := Aside0.mk (show ((w.alloc (.cells (shC {}) 26)).alloc (.cells (rdC {} (.slice none 0 0) 0 false) 63)).heap[w.heap.size + 1]? = some (.cells (rdC {} (.slice none 0 0) 0 false) 63 (0, 0)) by
      have := blk_new (w.alloc (.cells (shC {}) 26)) (.cells (rdC {} (.slice none 0 0) 0 false) 63)
      rwa [show (w.alloc (.cells (shC {}) 26)).heap.size = w.heap.size + 1 by simp] at this)
    have HR1 := Aside0.mk (HR0.out.below (below_alloc (Below.refl _ _) (.cells (rdC {} (.slice none 0 0) 0 false) 63)))
    have HB1 := Aside0.mk (below_alloc (below_alloc (Below.refl w.heap.size w) (.cells (shC {}) 26)) (.cells (rdC {} (.slice none 0 0) 0 false) 63))
    clear hlong HR0
    go_enter Tryz.func8, Tryz.ntmps8
    go_wp2_with fail
    obtain ⟨b, hb⟩ : ∃ b, w.heap.size + 1 = b := ⟨_, rfl⟩
    rw [hb] at HRD ⊢
    have hb0 : w.heap.size ≤ b := by omega
    have hb1 : w.heap.size ≠ b := by omega
    have hb2 : b ≠ w.heap.size := by omega
    have hb3 : w.heap.size < b := by omega
    clear hb hle
    go_loopw [0] (fun tv wr => ∃ (st : St) (rest : Bs) (v : Value) (xs : List Lv3), tv = .string (sB rest) ∧ rest.length ≤ text.length ∧ Aside0 (runL {} text = runL st rest) ∧ Aside0 (PrI w wr w.heap.size b st (text.length - rest.length) v xs)) (fun tv _ => strSz tv)
    case atStart => exact ⟨{}, text, .slice none 0 0, [], rfl, Nat.le_refl _, ⟨rfl⟩, ⟨⟨HRD.out, LvRow.nil _ _, rfl, HR1.out, HB1.out, by rw [Nat.sub_self]; exact Pl.zero _ rfl⟩⟩⟩
    case round =>
      obtain ⟨st, rest, v, xs, rfl, hrl, HRun, HP⟩ := hrel
      obtain ⟨f0, f1, f2, f3, f4, f5, f6, f7, f8, f9⟩ := HP.out.res.frozens
      obtain ⟨z0, z1, z2, z3, z4, z5, z6, z7, z8, z9⟩ := HP.out.res.cells
      obtain ⟨q, hq⟩ : ∃ q : Int, (st.n : Int) = q := ⟨_, rfl⟩
      have HQ := Aside0.mk hq
      have e11 : wr.cell? ⟨b, 11, none⟩ = some (.int .i64 q) := by rw [← hq]; exact rdC_cells HP.out.rd
      have hstn : st.n ≤ 1048576 := by have := HP.out.pl.num; omega
      have hq0 : 0 ≤ q := by omega
      have hq9 : q ≤ 1048576 := by omega
      clear hq
      by_cases h0 : rest = []
      · subst h0
        have hemp : (sB []).toList.isEmpty = true := by rw [Lib.toList_data, sB_data]; rfl
        have HRn := Aside0.mk (parseT_end HT.out (HRun.out.trans (runL_nil st)))
        have g11 := blk_frozen HP.out.rd 11
        by_cases h3 : st.n < 3
        · rw [if_pos h3] at HRn
          have h3i : q < 3 := by have := HQ.out; omega
          clear h3
          go_wp2_with fail
          go_region_held3 (fun W => W.cell? ⟨b, 11, none⟩ = some (.int .i64 q)) (first | (with_reducible exact e11) | (show World.cell? _ _ = _; rw [cell_drew]; (repeat' (with_reducible refine cell_set_far hb1 ?_)); with_reducible exact e11)) (first | fail)
          rename_i hH
          clear hH
          go_wp2
          have hst := ShAt.store HP.out.res {}
          have hBc := below_stS HP.out.bel (Nat.le_refl _) {}
          change bodyPost _ _ _ _ _ (stS wr w.heap.size {}).drew
          obtain ⟨W9, hW9⟩ : ∃ W9, stS wr w.heap.size {} = W9 := ⟨_, rfl⟩
          rw [hW9] at hst hBc ⊢
          obtain ⟨c0, c1, c2, c3, c4, c5, c6, c7, c8, c9⟩ := hst.cells
          exact bodyPost_ret (v := .tuple #[shV {}, .slice none 0 0, .int .i64 260, .int .i64 q]) (by simp [results, Tryz.f8, go_sem, c0, c1, c2, c3, c4, c5, c6, c7, c8, c9]; rfl) rfl (PaP.bad HRn.out HQ.out.symm (below_drew hBc))
        · rw [if_neg h3] at HRn
          have h3i : ¬ q < 3 := by have := HQ.out; omega
          have h3d : decide (q < 3) = false := decide_eq_false h3i
          obtain ⟨A9, cV, hv⟩ := own_slice HP.out.lv.row
          subst hv
          obtain ⟨X, hX⟩ : ∃ X, xs.length = X := ⟨_, rfl⟩
          have HFew := Aside0.mk (fun W (hB : Below wr.heap.size wr W) => few_any A9 cV st.ls W (by rw [← HP.out.map]; exact (HP.out.lv.below hB).lives) (HP.out.pl.lives (by omega)))
          rw [show st.ls.length = X by rw [← HP.out.map, List.length_map, hX]] at HFew
          rw [hX] at HP
          have q0 : wr.cell? ⟨b, 0, none⟩ = some (.int .i64 st.s.sector) := blk_cell HP.out.rd 0
          have q1 : wr.cell? ⟨b, 1, none⟩ = some (.int .i64 st.s.sectors) := blk_cell HP.out.rd 1
          have q2 : wr.cell? ⟨b, 2, none⟩ = some (.int .i64 st.s.journal) := blk_cell HP.out.rd 2
          have q3 : wr.cell? ⟨b, 3, none⟩ = some (.int .i64 st.s.pack) := blk_cell HP.out.rd 3
          have q4 : wr.cell? ⟨b, 4, none⟩ = some (.int .i64 st.s.min) := blk_cell HP.out.rd 4
          have q5 : wr.cell? ⟨b, 5, none⟩ = some (.int .i64 st.s.normal) := blk_cell HP.out.rd 5
          have q6 : wr.cell? ⟨b, 6, none⟩ = some (.int .i64 st.s.max) := blk_cell HP.out.rd 6
          have q7 : wr.cell? ⟨b, 7, none⟩ = some (.int .u64 (st.s.seed : Int)) := blk_cell HP.out.rd 7
          have q8 : wr.cell? ⟨b, 8, none⟩ = some (.int .i64 st.s.bits) := blk_cell HP.out.rd 8
          have q9 : wr.cell? ⟨b, 9, none⟩ = some (.bool st.s.dedup) := blk_cell HP.out.rd 9
          have q10 : wr.cell? ⟨b, 10, none⟩ = some (.slice A9 X cV) := blk_cell HP.out.rd 10
          have HX := Aside0.mk hX
          have HCk := Aside0.mk (fun W => check_any st.s W)
          unfold shV shC at HCk
          clear hX h3
          cases hck : checkL st.s with
          | false =>
            rw [hck, if_neg (by decide)] at HCk
            rw [hck, if_pos rfl] at HRn
            clear hck
            go_wp2_with (go_at_call 13; refine (HCk.out _).mono ?_; rintro e w1 ⟨rfl, hB⟩; have HB1 := Aside0.mk hB; have HR3 := Aside0.mk (HP.out.res.below hB); clear f0 f1 f2 f3 f4 f5 f6 f7 f8 f9 z0 z1 z2 z3 z4 z5 z6 z7 z8 z9; obtain ⟨f0, f1, f2, f3, f4, f5, f6, f7, f8, f9⟩ := HR3.out.frozens; obtain ⟨z0, z1, z2, z3, z4, z5, z6, z7, z8, z9⟩ := HR3.out.cells; have r10 := cell_later hB q10; clear hB)
            have hst := ShAt.store HR3.out {}
            have hBc := below_stS (HP.out.bel.trans (HB1.out.mono HP.out.bel.size)) (Nat.le_refl _) {}
            change bodyPost _ _ _ _ _ (stS w1 w.heap.size {})
            obtain ⟨W9, hW9⟩ : ∃ W9, stS w1 w.heap.size {} = W9 := ⟨_, rfl⟩
            rw [hW9] at hst hBc ⊢
            obtain ⟨c0, c1, c2, c3, c4, c5, c6, c7, c8, c9⟩ := hst.cells
            exact bodyPost_ret (v := .tuple #[shV {}, .slice none 0 0, .int .i64 41, .int .i64 0]) (by simp [results, Tryz.f8, go_sem, c0, c1, c2, c3, c4, c5, c6, c7, c8, c9]; rfl) rfl (PaP.bad HRn.out rfl hBc)
          | true =>
            rw [hck, if_pos rfl] at HCk
            rw [hck, if_neg (by decide)] at HRn
            clear hck
            cases hfw : fewL st.ls with
            | false =>
              rw [hfw] at HFew
              rw [hfw, if_pos rfl] at HRn
              clear hfw
              go_wp2_with (first | (go_at_call 13; refine (HCk.out _).mono ?_; rintro e w1 ⟨rfl, hB⟩; have HB1 := Aside0.mk hB; have HR3 := Aside0.mk (HP.out.res.below hB); clear f0 f1 f2 f3 f4 f5 f6 f7 f8 f9 z0 z1 z2 z3 z4 z5 z6 z7 z8 z9; obtain ⟨f0, f1, f2, f3, f4, f5, f6, f7, f8, f9⟩ := HR3.out.frozens; obtain ⟨z0, z1, z2, z3, z4, z5, z6, z7, z8, z9⟩ := HR3.out.cells; have r10 := cell_later hB q10; clear hB) | (go_at_call 14; refine (HFew.out _ HB1.out).mono ?_; rintro e w2 ⟨rfl, hB⟩; have HB3 := Aside0.mk (below_step HB1.out hB); have HR4 := Aside0.mk (HR3.out.below hB); clear f0 f1 f2 f3 f4 f5 f6 f7 f8 f9 z0 z1 z2 z3 z4 z5 z6 z7 z8 z9; obtain ⟨f0, f1, f2, f3, f4, f5, f6, f7, f8, f9⟩ := HR4.out.frozens; obtain ⟨z0, z1, z2, z3, z4, z5, z6, z7, z8, z9⟩ := HR4.out.cells; clear hB))
              have hst := ShAt.store HR4.out {}
              have hBc := below_stS (HP.out.bel.trans (HB3.out.mono HP.out.bel.size)) (Nat.le_refl _) {}
              change bodyPost _ _ _ _ _ (stS w2 w.heap.size {})
              obtain ⟨W9, hW9⟩ : ∃ W9, stS w2 w.heap.size {} = W9 := ⟨_, rfl⟩
              rw [hW9] at hst hBc ⊢
              obtain ⟨c0, c1, c2, c3, c4, c5, c6, c7, c8, c9⟩ := hst.cells
              exact bodyPost_ret (v := .tuple #[shV {}, .slice none 0 0, .int .i64 3, .int .i64 0]) (by simp [results, Tryz.f8, go_sem, c0, c1, c2, c3, c4, c5, c6, c7, c8, c9]; rfl) rfl (PaP.bad HRn.out rfl hBc)
            | true =>
              rw [hfw] at HFew
              rw [hfw, if_neg (by decide)] at HRn
              clear hfw
              go_wp2_with (first | (go_at_call 13; refine (HCk.out _).mono ?_; rintro e w1 ⟨rfl, hB⟩; have HB1 := Aside0.mk hB; have HR3 := Aside0.mk (HP.out.res.below hB); clear f0 f1 f2 f3 f4 f5 f6 f7 f8 f9 z0 z1 z2 z3 z4 z5 z6 z7 z8 z9; obtain ⟨f0, f1, f2, f3, f4, f5, f6, f7, f8, f9⟩ := HR3.out.frozens; obtain ⟨z0, z1, z2, z3, z4, z5, z6, z7, z8, z9⟩ := HR3.out.cells; have r10 := cell_later hB q10; clear hB) | (go_at_call 14; refine (HFew.out _ HB1.out).mono ?_; rintro e w2 ⟨rfl, hB⟩; have HB3 := Aside0.mk (below_step HB1.out hB); have HR4 := Aside0.mk (HR3.out.below hB); clear f0 f1 f2 f3 f4 f5 f6 f7 f8 f9 z0 z1 z2 z3 z4 z5 z6 z7 z8 z9; obtain ⟨f0, f1, f2, f3, f4, f5, f6, f7, f8, f9⟩ := HR4.out.frozens; obtain ⟨z0, z1, z2, z3, z4, z5, z6, z7, z8, z9⟩ := HR4.out.cells; clear hB))
              have q0 := cell_later HB3.out q0
              have q1 := cell_later HB3.out q1
              have q2 := cell_later HB3.out q2
              have q3 := cell_later HB3.out q3
              have q4 := cell_later HB3.out q4
              have q5 := cell_later HB3.out q5
              have q6 := cell_later HB3.out q6
              have q7 := cell_later HB3.out q7
              have q8 := cell_later HB3.out q8
              have q9 := cell_later HB3.out q9
              have q10 := cell_later HB3.out q10
              go_region_held3 (fun W => W.cell? ⟨b, 0, none⟩ = some (.int .i64 st.s.sector) ∧ W.cell? ⟨b, 1, none⟩ = some (.int .i64 st.s.sectors) ∧ W.cell? ⟨b, 2, none⟩ = some (.int .i64 st.s.journal) ∧ W.cell? ⟨b, 3, none⟩ = some (.int .i64 st.s.pack) ∧ W.cell? ⟨b, 4, none⟩ = some (.int .i64 st.s.min) ∧ W.cell? ⟨b, 5, none⟩ = some (.int .i64 st.s.normal) ∧ W.cell? ⟨b, 6, none⟩ = some (.int .i64 st.s.max) ∧ W.cell? ⟨b, 7, none⟩ = some (.int .u64 (st.s.seed : Int)) ∧ W.cell? ⟨b, 8, none⟩ = some (.int .i64 st.s.bits) ∧ W.cell? ⟨b, 9, none⟩ = some (.bool st.s.dedup) ∧ W.cell? ⟨b, 10, none⟩ = some (.slice A9 X cV)) (first | ((refine ⟨?_, ?_, ?_, ?_, ?_, ?_, ?_, ?_, ?_, ?_, ?_⟩ <;> (rw [cell_drew]; (repeat' (with_reducible refine cell_set_far hb1 ?_)); with_reducible assumption)))) (first | fail)
              rename_i hH
              clear hH
              go_wp2
              have hst := ShAt.store HR4.out st.s
              have hBc := below_stS (HP.out.bel.trans (HB3.out.mono HP.out.bel.size)) (Nat.le_refl _) st.s
              have hLv := (((HP.out.lv.below HB3.out).grown HR4.out (by decide) (by decide) (by decide) (grown_stS w2 w.heap.size st.s)).less hb0).drew
              change bodyPost _ _ _ _ _ (stS w2 w.heap.size st.s).drew
              obtain ⟨W9, hW9⟩ : ∃ W9, stS w2 w.heap.size st.s = W9 := ⟨_, rfl⟩
              rw [hW9] at hst hBc hLv ⊢
              obtain ⟨c0, c1, c2, c3, c4, c5, c6, c7, c8, c9⟩ := hst.cells
              exact bodyPost_ret (v := .tuple #[shV st.s, .slice A9 X cV, .int .i64 0, .int .i64 0]) (by simp [results, Tryz.f8, go_sem, c0, c1, c2, c3, c4, c5, c6, c7, c8, c9]; rfl) rfl (PaP.good (by rw [HRn.out, HP.out.map]) HX.out hLv (below_drew hBc))
      · have hemp : (sB rest).toList.isEmpty = false := by rw [Lib.toList_data, sB_data]; simpa using h0
        have HCut := Aside0.mk (fun W hW => cutn_any (sB rest) W hW (by rw [sB_size]; omega))
        rw [sB_data] at HCut
        cases hc : cutN rest with
        | none =>
          rw [cutV_none hc] at HCut
          have HSpl := Aside0.mk (fun W hW => split_any (sB rest) W hW (by rw [sB_size]; omega))
          unfold SplQ at HSpl
          have HRn := Aside0.mk (parseT_err HT.out (HRun.out.trans (runL_cutn h0 hc)))
          clear hc h0
          go_wp2_with (first
            | (go_at_call 25; refine (HCut.out _ (HE.out.below HP.out.bel)).mono ?_; rintro e w1 ⟨rfl, hB⟩; have HB1 := Aside0.mk hB; have HB2 := Aside0.mk (HP.out.bel.trans (hB.mono HP.out.bel.size)); clear hB)
            | (go_at_call 26; refine (HSpl.out _ (HE.out.below HB2.out)).mono ?_; rintro e w2 ⟨g, c, rfl, hcc, hS, hg, hB⟩; have HB3 := Aside0.mk (below_step HB1.out hB); have HB4 := Aside0.mk (HB2.out.trans (hB.mono HB2.out.size)); have e11a := cell_later HB3.out e11; have HR3 := Aside0.mk (HP.out.res.below HB3.out); clear hB hS hg hcc))
          obtain ⟨f0, f1, f2, f3, f4, f5, f6, f7, f8, f9⟩ := HR3.out.frozens
          obtain ⟨z0, z1, z2, z3, z4, z5, z6, z7, z8, z9⟩ := HR3.out.cells
          go_region_held3 (fun W => W.cell? ⟨b, 11, none⟩ = some (.int .i64 q)) (first | (with_reducible exact e11a) | (show World.cell? _ _ = _; rw [cell_drew]; (repeat' (with_reducible refine cell_set_far hb1 ?_)); with_reducible exact e11a)) (first | fail)
          rename_i hH
          clear hH
          go_wp2
          have hst := ShAt.store HR3.out {}
          have hBc := below_stS HB4.out (Nat.le_refl _) {}
          change bodyPost _ _ _ _ _ (stS w2 w.heap.size {}).drew
          obtain ⟨W9, hW9⟩ : ∃ W9, stS w2 w.heap.size {} = W9 := ⟨_, rfl⟩
          rw [hW9] at hst hBc ⊢
          obtain ⟨c0, c1, c2, c3, c4, c5, c6, c7, c8, c9⟩ := hst.cells
          exact bodyPost_ret (v := .tuple #[shV {}, .slice none 0 0, .int .i64 260, .int .i64 q]) (by simp [results, Tryz.f8, go_sem, c0, c1, c2, c3, c4, c5, c6, c7, c8, c9]; rfl) rfl (PaP.bad HRn.out HQ.out.symm (below_drew hBc))
        | some lr =>
          obtain ⟨line, r'⟩ := lr
          rw [cutV_some hc] at HCut
          obtain ⟨hsp, _⟩ := cutN_some hc
          have hlen : line.length + 1 + r'.length = rest.length := by rw [hsp, List.length_append, List.length_cons]; omega
          have hln : line.length ≤ 1048576 := by omega
          have HSpl := Aside0.mk (fun W hW => split_any (sB line) W hW (by rw [sB_size]; omega))
          rw [sB_data] at HSpl
          unfold SplQ at HSpl
          obtain ⟨N, hN⟩ : ∃ N, (splB [] line).length = N := ⟨_, rfl⟩
          rw [hN] at HSpl
          clear hsp h0
          have w5 : wrap64 (q + 1) = q + 1 := by unfold wrap64; omega
          by_cases h3 : st.n < 3
          · have HHd := Aside0.mk (fun W g cc (hB : Below wr.heap.size wr W) (hS : SR W (some ⟨g, 0, none⟩) (splB [] line)) (hg : wr.heap.size ≤ g) (hcc : N ≤ cc) => head_any b st.s v st.n st.kept (some ⟨g, 0, none⟩) cc (splB [] line) w W h3 HE.out (HP.out.bel.trans (hB.mono HP.out.bel.size)) hb0 ((hB.block b (blk_lt HP.out.rd)).trans HP.out.rd) (fun bb o e => by cases e; have := blk_lt HP.out.rd; omega) hS (by rw [hN]; exact hcc) (splB_num line).1 (by have := splB_num line; omega) (fun x hx => by have := splB_lens hx; simp at this; omega))
            have h3i : q < 3 := by have := HQ.out; omega
            have h3d : decide (q < 3) = true := decide_eq_true h3i
            have h3g : decide (3 ≤ q) = false := decide_eq_false (by omega)
            have hst2 := stepL_head (line := line) h3
            cases hh : headG st.n st.s (splB [] line) with
            | none =>
              rw [hh] at hst2
              have HRn := Aside0.mk (parseT_err HT.out (HRun.out.trans (runL_bad hc hst2)))
              rw [hh, hN] at HHd
              clear hc hh hN hst2 h3
              go_wp2_with (first
                | (go_at_call 25; refine (HCut.out _ (HE.out.below HP.out.bel)).mono ?_; rintro e w1 ⟨rfl, hB⟩; have HB1 := Aside0.mk hB; have HB2 := Aside0.mk (HP.out.bel.trans (hB.mono HP.out.bel.size)); clear hB)
                | (go_at_call 26; refine (HSpl.out _ (HE.out.below HB2.out)).mono ?_; rintro e w2 ⟨g, cc, rfl, hcc, hS, hg, hB⟩; have HS := Aside0.mk hS; have hg1 : wr.heap.size ≤ g := Nat.le_trans HB1.out.size hg; have HB3 := Aside0.mk (below_step HB1.out hB); have HB4 := Aside0.mk (HB2.out.trans (hB.mono HB2.out.size)); have e11a := cell_later HB3.out e11; have HR3 := Aside0.mk (HP.out.res.below HB3.out); clear hB hS hg)
                | (go_at_call 27; refine (HHd.out _ _ _ HB3.out HS.out hg1 hcc).mono ?_; rintro e w3 ⟨⟨rfl, e11b⟩, hG⟩; rw [HQ.out] at e11b; have HR4 := Aside0.mk (HR3.out.grown hG hb1); have HB5 := Aside0.mk (below_grown HB4.out hG hb0); clear hG))
              clear f0 f1 f2 f3 f4 f5 f6 f7 f8 f9 z0 z1 z2 z3 z4 z5 z6 z7 z8 z9 e11 e11a
              obtain ⟨f0, f1, f2, f3, f4, f5, f6, f7, f8, f9⟩ := HR4.out.frozens
              obtain ⟨z0, z1, z2, z3, z4, z5, z6, z7, z8, z9⟩ := HR4.out.cells
              go_region_held3 (fun W => W.cell? ⟨b, 11, none⟩ = some (.int .i64 q)) (first | (with_reducible exact e11b) | (show World.cell? _ _ = _; rw [cell_drew]; (repeat' (with_reducible refine cell_set_far hb1 ?_)); with_reducible exact e11b)) (first | fail)
              rename_i hH
              clear hH
              go_wp2
              have hst := ShAt.store HR4.out {}
              have hBc := below_stS HB5.out (Nat.le_refl _) {}
              change bodyPost _ _ _ _ _ (stS w3 w.heap.size {}).drew
              obtain ⟨W9, hW9⟩ : ∃ W9, stS w3 w.heap.size {} = W9 := ⟨_, rfl⟩
              rw [hW9] at hst hBc ⊢
              obtain ⟨c0, c1, c2, c3, c4, c5, c6, c7, c8, c9⟩ := hst.cells
              exact bodyPost_ret (v := .tuple #[shV {}, .slice none 0 0, .int .i64 260, .int .i64 q]) (by simp [results, Tryz.f8, go_sem, c0, c1, c2, c3, c4, c5, c6, c7, c8, c9]; rfl) rfl (PaP.bad HRn.out HQ.out.symm (below_drew hBc))
            | some s' =>
              rw [hh] at hst2
              have HRn := Aside0.mk (HRun.out.trans (runL_good hc hst2))
              have HPl := Aside0.mk (HP.out.pl.head h3 hh (text.length - r'.length) (by omega))
              rw [hh, hN] at HHd
              clear hc hh hN hst2 h3
              go_wp2_with (first
                | (go_at_call 25; refine (HCut.out _ (HE.out.below HP.out.bel)).mono ?_; rintro e w1 ⟨rfl, hB⟩; have HB1 := Aside0.mk hB; have HB2 := Aside0.mk (HP.out.bel.trans (hB.mono HP.out.bel.size)); clear hB)
                | (go_at_call 26; refine (HSpl.out _ (HE.out.below HB2.out)).mono ?_; rintro e w2 ⟨g, cc, rfl, hcc, hS, hg, hB⟩; have HS := Aside0.mk hS; have hg1 : wr.heap.size ≤ g := Nat.le_trans HB1.out.size hg; have HB3 := Aside0.mk (below_step HB1.out hB); have HB4 := Aside0.mk (HB2.out.trans (hB.mono HB2.out.size)); have e11a := cell_later HB3.out e11; have HR3 := Aside0.mk (HP.out.res.below HB3.out); clear hB hS hg)
                | (go_at_call 27; refine (HHd.out _ _ _ HB3.out HS.out hg1 hcc).mono ?_; rintro e w3 ⟨⟨rfl, hrd⟩, hG⟩; have e11b := rdC_cells hrd; rw [HQ.out] at e11b; have g11 := blk_frozen hrd 11; have HRd := Aside0.mk hrd; have HG := Aside0.mk hG; clear hrd hG))
              refine ⟨⟨{ st with s := s', n := st.n + 1 }, r', v, xs, rfl, by omega, HRn, ⟨?_⟩⟩, by simp [strSz, sB_size]; omega⟩
              refine ⟨?_, ?_, HP.out.map, ?_, ?_, HPl.out⟩
              · rw [← rd_eta_n, HQ.out]
                exact blk_set HRd.out 11 _
              · exact ((HP.out.lv.below HB3.out).grown ((HB3.out.block b (blk_lt HP.out.rd)).trans HP.out.rd) (by decide) (by decide) (by decide) HG.out).far HRd.out _
              · exact (HR3.out.grown HG.out hb1).far hb1 _
              · exact below_set (below_grown HB4.out HG.out hb0) hb0 _
          · have HBd := Aside0.mk (fun W g cc (hB : Below wr.heap.size wr W) (hS : SR W (some ⟨g, 0, none⟩) (splB [] line)) (hcc : N ≤ cc) => body_any b b st.s v st.n st.kept xs (some ⟨g, 0, none⟩) cc line W (HE.out.below (HP.out.bel.trans (hB.mono HP.out.bel.size))) (Nat.le_refl _) ((hB.block b (blk_lt HP.out.rd)).trans HP.out.rd) (HP.out.lv.below hB) hS (by rw [hN]; exact hcc) hln (by rw [HP.out.map]; exact HP.out.pl.lives (by omega)))
            rw [HP.out.map, hN] at HBd
            have h3i : ¬ q < 3 := by have := HQ.out; omega
            have h3d : decide (q < 3) = false := decide_eq_false h3i
            have h3j : 3 ≤ q := by omega
            have h3g : decide (3 ≤ q) = true := decide_eq_true h3j
            have hst2 := stepL_body (line := line) h3
            cases hh : bodyP st.ls st.kept line with
            | none =>
              rw [hh] at hst2
              have HRn := Aside0.mk (parseT_err HT.out (HRun.out.trans (runL_bad hc hst2)))
              rw [hh] at HBd
              clear hc hh hN hst2 h3
              go_wp2_with (first
                | (go_at_call 25; refine (HCut.out _ (HE.out.below HP.out.bel)).mono ?_; rintro e w1 ⟨rfl, hB⟩; have HB1 := Aside0.mk hB; have HB2 := Aside0.mk (HP.out.bel.trans (hB.mono HP.out.bel.size)); clear hB)
                | (go_at_call 26; refine (HSpl.out _ (HE.out.below HB2.out)).mono ?_; rintro e w2 ⟨g, cc, rfl, hcc, hS, hg, hB⟩; have HS := Aside0.mk hS; have HB3 := Aside0.mk (below_step HB1.out hB); have HB4 := Aside0.mk (HB2.out.trans (hB.mono HB2.out.size)); have e11a := cell_later HB3.out e11; have HR3 := Aside0.mk (HP.out.res.below HB3.out); clear hB hS hg)
                | (go_at_call 28; refine (HBd.out _ _ _ HB3.out HS.out hcc).mono ?_; rintro e w3 ⟨⟨rfl, e11b⟩, hG⟩; rw [HQ.out] at e11b; have HR4 := Aside0.mk (show ShAt w3 w.heap.size {} from (hG.block w.heap.size hb3).trans HR3.out); have HB5 := Aside0.mk (HB4.out.trans (hG.mono hb0)); clear hG))
              clear f0 f1 f2 f3 f4 f5 f6 f7 f8 f9 z0 z1 z2 z3 z4 z5 z6 z7 z8 z9 e11 e11a
              obtain ⟨f0, f1, f2, f3, f4, f5, f6, f7, f8, f9⟩ := HR4.out.frozens
              obtain ⟨z0, z1, z2, z3, z4, z5, z6, z7, z8, z9⟩ := HR4.out.cells
              go_region_held3 (fun W => W.cell? ⟨b, 11, none⟩ = some (.int .i64 q)) (first | (with_reducible exact e11b) | (show World.cell? _ _ = _; rw [cell_drew]; (repeat' (with_reducible refine cell_set_far hb1 ?_)); with_reducible exact e11b)) (first | fail)
              rename_i hH
              clear hH
              go_wp2
              have hst := ShAt.store HR4.out {}
              have hBc := below_stS HB5.out (Nat.le_refl _) {}
              change bodyPost _ _ _ _ _ (stS w3 w.heap.size {}).drew
              obtain ⟨W9, hW9⟩ : ∃ W9, stS w3 w.heap.size {} = W9 := ⟨_, rfl⟩
              rw [hW9] at hst hBc ⊢
              obtain ⟨c0, c1, c2, c3, c4, c5, c6, c7, c8, c9⟩ := hst.cells
              exact bodyPost_ret (v := .tuple #[shV {}, .slice none 0 0, .int .i64 260, .int .i64 q]) (by simp [results, Tryz.f8, go_sem, c0, c1, c2, c3, c4, c5, c6, c7, c8, c9]; rfl) rfl (PaP.bad HRn.out HQ.out.symm (below_drew hBc))
            | some p =>
              obtain ⟨ls', k'⟩ := p
              rw [hh] at hst2
              have HRn := Aside0.mk (HRun.out.trans (runL_good hc hst2))
              have HPl := Aside0.mk (HP.out.pl.body h3 hh (text.length - r'.length) (by omega))
              rw [hh] at HBd
              clear hc hh hN hst2 h3
              go_wp2_with (first
                | (go_at_call 25; refine (HCut.out _ (HE.out.below HP.out.bel)).mono ?_; rintro e w1 ⟨rfl, hB⟩; have HB1 := Aside0.mk hB; have HB2 := Aside0.mk (HP.out.bel.trans (hB.mono HP.out.bel.size)); clear hB)
                | (go_at_call 26; refine (HSpl.out _ (HE.out.below HB2.out)).mono ?_; rintro e w2 ⟨g, cc, rfl, hcc, hS, hg, hB⟩; have HS := Aside0.mk hS; have HB3 := Aside0.mk (below_step HB1.out hB); have HB4 := Aside0.mk (HB2.out.trans (hB.mono HB2.out.size)); have e11a := cell_later HB3.out e11; have HR3 := Aside0.mk (HP.out.res.below HB3.out); clear hB hS hg)
                | (go_at_call 28; refine (HBd.out _ _ _ HB3.out HS.out hcc).mono ?_; rintro e w3 ⟨⟨rfl, v', xs', hm, hrd, hlv⟩, hG⟩; have HR4 := Aside0.mk (show ShAt w3 w.heap.size {} from (hG.block w.heap.size hb3).trans HR3.out); have HB5 := Aside0.mk (HB4.out.trans (hG.mono hb0)); have e11b := rdC_cells hrd; rw [HQ.out] at e11b; have g11 := blk_frozen hrd 11; have HRd := Aside0.mk hrd; have HLv := Aside0.mk hlv; have HM := Aside0.mk hm; clear hrd hlv hm; clear hG))
              refine ⟨⟨{ st with ls := ls', kept := k', n := st.n + 1 }, r', v', xs', rfl, by omega, HRn, ⟨?_⟩⟩, by simp [strSz, sB_size]; omega⟩
              refine ⟨?_, HLv.out.far HRd.out _, HM.out, HR4.out.far hb1 _, below_set HB5.out hb0 _, HPl.out⟩
              rw [← rd_eta_n, HQ.out]
              exact blk_set HRd.out 11 _
end Go.Proofs.YteglbmindbfkeaaGreatDoor.H
namespace Go.Proofs.YteglbmindbfkeaaGreatDoor.H
open Go.RowKit Go.Proofs.YteglbmindbfkeaaGreatDoorW.PrintWords
set_option linter.unusedVariables false
set_option linter.unusedSimpArgs false
/-- What holds between two bytes. -/
structure RfI (w wr : World) (nb sb B : Nat) (st : St) (n : Nat) (v : Value) (xs : List Lv3) : Prop where
  res : ShAt wr w.heap.size {}
  non : ShAt wr nb {}
  shp : ShAt wr sb st.s
  lv : LvRow wr B v xs
  map : xs.map (·.1) = st.ls
  bel : Below w.heap.size w wr
  big : B ≤ wr.heap.size
  pl : Pl st n
def midL (l : Bs) (f i : Nat) : Bs := (l.take i).drop f
theorem midL_len {l : Bs} {f i : Nat} (hi : i ≤ l.length) : (midL l f i).length = i - f := by
  unfold midL
  rw [List.length_drop, List.length_take]
  omega
theorem midL_snoc {l : Bs} {f i : Nat} {d : UInt8} (hf : f ≤ i) (hd : l[i]? = some d) : midL l f (i + 1) = midL l f i ++ [d] := by
  unfold midL
  obtain ⟨hi, _⟩ := List.getElem?_eq_some_iff.1 hd
  rw [List.take_add_one, hd, Option.toList, List.drop_append_of_le_length (by rw [List.length_take]; omega)]
theorem midL_drop {l : Bs} {f i : Nat} (hf : f ≤ i) (hi : i ≤ l.length) : l.drop f = midL l f i ++ l.drop i := by
  unfold midL
  rw [← List.drop_append_of_le_length (by rw [List.length_take]; omega), List.take_append_drop]
theorem midL_cut {l : Bs} {f i : Nat} (hf : f ≤ i) (hd : l[i]? = some 10) (hn : ∀ c ∈ midL l f i, c ≠ 10) : cutN (l.drop f) = some (midL l f i, l.drop (i + 1)) := by
  obtain ⟨hi, _⟩ := List.getElem?_eq_some_iff.1 hd
  rw [midL_drop hf (by omega), drop_at hd]
  exact cutN_line _ hn
theorem midL_end {l : Bs} {f : Nat} (hn : ∀ c ∈ midL l f l.length, c ≠ 10) : cutN (l.drop f) = none := by
  unfold midL at hn
  rw [List.take_length] at hn
  exact cutN_none.2 hn
set_option maxRecDepth 100000 in
set_option maxHeartbeats 8000000 in
theorem rParse_any (text : Bs) (w : World) : Calls Tryz.prog 10 #[.string (sB text)] w fun e w' => PaP (parseT text) w e w' := by
  have hsz0 := sB_size text
  obtain ⟨S, hSS⟩ : ∃ S, sB text = S := ⟨_, rfl⟩
  have HSD := Aside0.mk (show S.data.toList = text by rw [← hSS, sB_data])
  rw [hSS] at hsz0 ⊢
  clear hSS
  have hz1 : ShAt (w.alloc (.cells (shC {}) 26)) w.heap.size {} := blk_new w _
  have hz2 : ShAt ((w.alloc (.cells (shC {}) 26)).alloc (.cells (shC {}) 26)) (w.heap.size + 1) {} := by
    have := blk_new (w.alloc (.cells (shC {}) 26)) (.cells (shC {}) 26)
    rwa [show (w.alloc (.cells (shC {}) 26)).heap.size = w.heap.size + 1 by simp] at this
  have hz3 : ShAt (((w.alloc (.cells (shC {}) 26)).alloc (.cells (shC {}) 26)).alloc (.cells (shC {}) 26)) (w.heap.size + 1 + 1) {} := by
    have := blk_new ((w.alloc (.cells (shC {}) 26)).alloc (.cells (shC {}) 26)) (.cells (shC {}) 26)
    rwa [show ((w.alloc (.cells (shC {}) 26)).alloc (.cells (shC {}) 26)).heap.size = w.heap.size + 1 + 1 by simp] at this
  have hb2 : Below w.heap.size w ((w.alloc (.cells (shC {}) 26)).alloc (.cells (shC {}) 26)) := below_alloc (below_alloc (Below.refl _ _) _) _
  by_cases hlong : 1048576 < text.length
  · have HR := Aside0.mk (parseT_long hlong)
    have HRb := Aside0.mk (hz1.below (below_alloc (Below.refl _ _) (.cells (shC {}) 26)))
    have HNo := Aside0.mk hz2
    have HB2 := Aside0.mk hb2
    clear hz1 hz2 hz3 hb2
    have hgt : (1048576 : Int) < (S.size : Int) := by omega
    go_enter Tryz.func10, Tryz.ntmps10
    go_wp2_with fail
    obtain ⟨W1, hW1⟩ : ∃ W1, (w.alloc (.cells (shC {}) 26)).alloc (.cells (shC {}) 26) = W1 := ⟨_, rfl⟩
    change bodyPost _ _ _ _ _ ((w.alloc (.cells (shC {}) 26)).alloc (.cells (shC {}) 26))
    rw [hW1] at HRb HB2 ⊢
    obtain ⟨c0, c1, c2, c3, c4, c5, c6, c7, c8, c9⟩ := HRb.out.cells
    exact bodyPost_ret (v := .tuple #[shV {}, .slice none 0 0, .int .i64 3, .int .i64 0]) (by simp [results, Tryz.f10, go_sem, c0, c1, c2, c3, c4, c5, c6, c7, c8, c9]; rfl) rfl (PaP.bad HR.out rfl HB2.out)
  · have hle : ¬ (1048576 : Int) < (S.size : Int) := by omega
    have HT := Aside0.mk hlong
    have htl : text.length ≤ 1048576 := by omega
    have HZ1 := Aside0.mk ((hz1.below (below_alloc (Below.refl _ _) (.cells (shC {}) 26))).below (below_alloc (Below.refl _ _) (.cells (shC {}) 26)))
    have HZ2 := Aside0.mk (hz2.below (below_alloc (Below.refl _ _) (.cells (shC {}) 26)))
    have HZ3 := Aside0.mk hz3
    have HB3 := Aside0.mk (below_alloc hb2 (.cells (shC {}) 26))
    have HB9 := Aside0.mk (show w.heap.size + 1 + 1 + 1 ≤ (((w.alloc (.cells (shC {}) 26)).alloc (.cells (shC {}) 26)).alloc (.cells (shC {}) 26)).heap.size by simp)
    clear hz1 hz2 hz3 hb2 hlong
    go_enter Tryz.func10, Tryz.ntmps10
    go_wp2_with fail
    obtain ⟨nb, hnb⟩ : ∃ b, w.heap.size + 1 = b := ⟨_, rfl⟩
    rw [hnb] at HZ2 HZ3 HB9 ⊢
    obtain ⟨sb, hsb⟩ : ∃ b, nb + 1 = b := ⟨_, rfl⟩
    rw [hsb] at HZ3 HB9 ⊢
    obtain ⟨B, hB⟩ : ∃ b, sb + 1 = b := ⟨_, rfl⟩
    rw [hB] at HB9
    have o1 : w.heap.size ≠ nb := by omega
    have o2 : w.heap.size ≠ sb := by omega
    have o3 : nb ≠ sb := by omega
    have o4 : nb ≠ w.heap.size := by omega
    have o5 : sb ≠ w.heap.size := by omega
    have o6 : sb ≠ nb := by omega
    have o7 : w.heap.size < B := by omega
    have o8 : nb < B := by omega
    have o9 : sb < B := by omega
    have o10 : w.heap.size ≤ sb := by omega
    clear hnb hsb hB hle
    go_loopw [8, 9, 10, 11, 12] (fun lv cv fv nv iv wr => ∃ (st : St) (F I q : Int) (xs : List Lv3), cv = .bool st.kept ∧ fv = .int .i64 F ∧ nv = .int .i64 q ∧ iv = .int .i64 I ∧ 0 ≤ F ∧ F ≤ I ∧ I ≤ text.length ∧ Aside0 (runL {} text = runL st (text.drop F.toNat)) ∧ Aside0 (∀ c ∈ midL text F.toNat I.toNat, c ≠ 10) ∧ Aside0 (RfI w wr nb sb B st F.toNat lv xs) ∧ Aside0 ((st.n : Int) = q)) (fun _ _ _ _ iv _ => (text.length - intOf iv).toNat)
    case atStart => exact ⟨{}, 0, 0, 0, [], rfl, rfl, rfl, rfl, Int.le_refl _, Int.le_refl _, by omega, ⟨rfl⟩, ⟨fun c hc => by simp [midL] at hc⟩, ⟨⟨HZ1.out, HZ2.out, HZ3.out, LvRow.nil _ _, rfl, HB3.out, HB9.out, Pl.zero _ rfl⟩⟩, ⟨rfl⟩⟩
    case round =>
      obtain ⟨st, F, I, q, xs, rfl, rfl, rfl, rfl, F0, FI, I9, HRun, HNn, HP, HQ⟩ := hrel
      have hstn : st.n ≤ 1048576 := by have := HP.out.pl.num; omega
      have hq0 : 0 ≤ q := by have := HQ.out; omega
      have hq9 : q ≤ 1048576 := by have := HQ.out; omega
      have w4 : wrap64 (I + 1) = I + 1 := by unfold wrap64; omega
      have w5 : wrap64 (q + 1) = q + 1 := by unfold wrap64; omega
      by_cases hlt : I < (S.size : Int)
      · have hlt1 : decide (I < (S.size : Int)) = true := decide_eq_true hlt
        have hin : I.toNat < S.size := by omega
        have hbt := bt_at S I
        obtain ⟨d, hd⟩ : ∃ d, text[I.toNat]? = some d := ⟨_, List.getElem?_eq_getElem (by omega)⟩
        have hb := bt_get S I d (by rw [HSD.out]; exact hd)
        have HD := Aside0.mk hd
        by_cases h10 : d = 10
        · subst h10
          have hb : bt S I = 10 := hb
          have hcut := midL_cut (by omega) hd HNn.out
          have hmid := midL_len (l := text) (f := F.toNat) (i := I.toNat) (by omega)
          obtain ⟨line, hline⟩ : ∃ line, midL text F.toNat I.toNat = line := ⟨_, rfl⟩
          have hex : S.extract F.toNat I.toNat = sB line := by rw [ext_sB, HSD.out, ← hline]; rfl
          rw [hline] at hcut hmid
          have hln : line.length ≤ 1048576 := by omega
          have hFS : F ≤ (S.size : Int) := by omega
          by_cases h3 : st.n < 3
          · have h3i : q < 3 := by have := HQ.out; omega
            have h3d : decide (q < 3) = true := decide_eq_true h3i
            have hst2 := stepL_head (line := line) h3
            have HSp := Aside0.mk (rsplit_words line hln)
            unfold SpW at HSp
            rw [← hex] at HSp
            obtain ⟨N, hN⟩ : ∃ N, (splL line).length = N := ⟨_, rfl⟩
            rw [hN] at HSp
            have HHd := Aside0.mk (fun W g cc (hB : Below wr.heap.size wr W) (hS : SR W (some ⟨g, 0, none⟩) (splL line)) (hg : wr.heap.size ≤ g) (hcc : N ≤ cc) => shape_any sb st.s st.n (some ⟨g, 0, none⟩) cc (splL line) W h3 (HP.out.shp.below hB) (fun bb o e => by cases e; have := blk_lt HP.out.shp; omega) hS (by rw [hN]; exact hcc) (by have := splL_num line; omega) (fun x hx => by have := (splL_num line).2.2 x hx; omega))
            rw [head_same, hN, HQ.out] at HHd
            cases hh : headG st.n st.s (splB [] line) with
            | none =>
              rw [hh] at hst2 HHd
              have HRn := Aside0.mk (parseT_err HT.out (HRun.out.trans (runL_bad hcut hst2)))
              clear hh hN hst2 h3 hex hline hcut
              go_wp2_with (first
                | (go_at_call 31; refine (HSp.out _).mono ?_; rintro e w1 ⟨g, cc, rfl, hg, hcc, hS, hB⟩; have HS := Aside0.mk hS; have HB1 := Aside0.mk hB; clear hS hB)
                | (go_at_call 30; refine (HHd.out _ _ _ HB1.out HS.out hg hcc).mono ?_; rintro e w2 ⟨rfl, hG⟩; have HR4 := Aside0.mk ((HP.out.res.below HB1.out).grown hG o2); have HN4 := Aside0.mk ((HP.out.non.below HB1.out).grown hG o3); have HB5 := Aside0.mk (below_grown (HP.out.bel.trans (HB1.out.mono HP.out.bel.size)) hG o10); clear hG; obtain ⟨f0, f1, f2, f3, f4, f5, f6, f7, f8, f9⟩ := HR4.out.frozens; obtain ⟨z0, z1, z2, z3, z4, z5, z6, z7, z8, z9⟩ := HR4.out.cells; obtain ⟨c0, c1, c2, c3, c4, c5, c6, c7, c8, c9⟩ := HN4.out.cells))
              have hst := ShAt.store HR4.out {}
              have hBc := below_stS HB5.out (Nat.le_refl _) {}
              change bodyPost _ _ _ _ _ (stS w2 w.heap.size {})
              obtain ⟨W9, hW9⟩ : ∃ W9, stS w2 w.heap.size {} = W9 := ⟨_, rfl⟩
              rw [hW9] at hst hBc ⊢
              clear c0 c1 c2 c3 c4 c5 c6 c7 c8 c9
              obtain ⟨c0, c1, c2, c3, c4, c5, c6, c7, c8, c9⟩ := hst.cells
              exact bodyPost_ret (v := .tuple #[shV {}, .slice none 0 0, .int .i64 260, .int .i64 q]) (by simp [results, Tryz.f10, go_sem, c0, c1, c2, c3, c4, c5, c6, c7, c8, c9]; rfl) rfl (PaP.bad HRn.out HQ.out.symm hBc)
            | some s' =>
              rw [hh] at hst2 HHd
              have HRn := Aside0.mk (HRun.out.trans (runL_good hcut hst2))
              have HPl := Aside0.mk (HP.out.pl.head h3 hh (I + 1).toNat (by omega))
              have hI1 : I.toNat + 1 = (I + 1).toNat := by omega
              rw [hI1] at HRn
              clear hh hN hst2 h3 hex hline hcut hI1
              go_wp2_with (first
                | (go_at_call 31; refine (HSp.out _).mono ?_; rintro e w1 ⟨g, cc, rfl, hg, hcc, hS, hB⟩; have HS := Aside0.mk hS; have HB1 := Aside0.mk hB; clear hS hB)
                | (go_at_call 30; refine (HHd.out _ _ _ HB1.out HS.out hg hcc).mono ?_; rintro e w2 ⟨⟨rfl, hsh⟩, hG⟩; have HG := Aside0.mk hG; have HSh := Aside0.mk hsh; clear hG hsh))
              refine ⟨⟨{ st with s := s', n := st.n + 1 }, I + 1, I + 1, q + 1, xs, rfl, rfl, rfl, rfl, by omega, Int.le_refl _, by omega, HRn, ⟨fun c hc => by simp [midL] at hc⟩, ⟨?_⟩, ⟨by have := HQ.out; show ((st.n + 1 : Nat) : Int) = q + 1; omega⟩⟩, by simp [intOf]; omega⟩
              exact ⟨(HP.out.res.below HB1.out).grown HG.out o2, (HP.out.non.below HB1.out).grown HG.out o3, HSh.out, (HP.out.lv.below HB1.out).grown (HP.out.shp.below HB1.out) (by decide) (by decide) (by decide) HG.out, HP.out.map, below_grown (HP.out.bel.trans (HB1.out.mono HP.out.bel.size)) HG.out o10, Nat.le_trans HP.out.big (Nat.le_trans HB1.out.size HG.out.size), HPl.out⟩
          · have h3i : ¬ q < 3 := by have := HQ.out; omega
            have h3d : decide (q < 3) = false := decide_eq_false h3i
            have hst2 := stepL_body (line := line) h3
            have HLl := Aside0.mk (lifeLine_any B u8 st.kept xs line wr HP.out.big HP.out.lv hln (by rw [HP.out.map]; exact HP.out.pl.lives (by omega)))
            rw [HP.out.map, ← hex] at HLl
            cases hh : bodyP st.ls st.kept line with
            | none =>
              rw [hh] at hst2 HLl
              have HRn := Aside0.mk (parseT_err HT.out (HRun.out.trans (runL_bad hcut hst2)))
              clear hh hst2 h3 hex hline hcut
              go_wp2_with (go_at_call 32; refine HLl.out.mono ?_; rintro e w2 ⟨⟨v2, k2, rfl⟩, hG⟩; have HR4 := Aside0.mk (show ShAt w2 w.heap.size {} from (hG.block w.heap.size o7).trans HP.out.res); have HN4 := Aside0.mk (show ShAt w2 nb {} from (hG.block nb o8).trans HP.out.non); have HB5 := Aside0.mk (HP.out.bel.trans (hG.mono (Nat.le_of_lt o7))); clear hG; obtain ⟨f0, f1, f2, f3, f4, f5, f6, f7, f8, f9⟩ := HR4.out.frozens; obtain ⟨z0, z1, z2, z3, z4, z5, z6, z7, z8, z9⟩ := HR4.out.cells; obtain ⟨c0, c1, c2, c3, c4, c5, c6, c7, c8, c9⟩ := HN4.out.cells)
              have hst := ShAt.store HR4.out {}
              have hBc := below_stS HB5.out (Nat.le_refl _) {}
              change bodyPost _ _ _ _ _ (stS w2 w.heap.size {})
              obtain ⟨W9, hW9⟩ : ∃ W9, stS w2 w.heap.size {} = W9 := ⟨_, rfl⟩
              rw [hW9] at hst hBc ⊢
              clear c0 c1 c2 c3 c4 c5 c6 c7 c8 c9
              obtain ⟨c0, c1, c2, c3, c4, c5, c6, c7, c8, c9⟩ := hst.cells
              exact bodyPost_ret (v := .tuple #[shV {}, .slice none 0 0, .int .i64 260, .int .i64 q]) (by simp [results, Tryz.f10, go_sem, c0, c1, c2, c3, c4, c5, c6, c7, c8, c9]; rfl) rfl (PaP.bad HRn.out HQ.out.symm hBc)
            | some p =>
              obtain ⟨ls', k'⟩ := p
              rw [hh] at hst2 HLl
              have HRn := Aside0.mk (HRun.out.trans (runL_good hcut hst2))
              have HPl := Aside0.mk (HP.out.pl.body h3 hh (I + 1).toNat (by omega))
              have hI1 : I.toNat + 1 = (I + 1).toNat := by omega
              rw [hI1] at HRn
              clear hh hst2 h3 hex hline hcut hI1
              go_wp2_with (go_at_call 32; refine HLl.out.mono ?_; rintro e w2 ⟨⟨v2, xs2, rfl, hm, hlv⟩, hG⟩; have HG := Aside0.mk hG; have HLv := Aside0.mk hlv; have HM := Aside0.mk hm; clear hG hlv hm)
              refine ⟨⟨{ st with ls := ls', kept := k', n := st.n + 1 }, I + 1, I + 1, q + 1, xs2, rfl, rfl, rfl, rfl, by omega, Int.le_refl _, by omega, HRn, ⟨fun c hc => by simp [midL] at hc⟩, ⟨?_⟩, ⟨by have := HQ.out; show ((st.n + 1 : Nat) : Int) = q + 1; omega⟩⟩, by simp [intOf]; omega⟩
              exact ⟨(HG.out.block w.heap.size o7).trans HP.out.res, (HG.out.block nb o8).trans HP.out.non, (HG.out.block sb o9).trans HP.out.shp, HLv.out, HM.out, HP.out.bel.trans (HG.out.mono (Nat.le_of_lt o7)), Nat.le_trans HP.out.big HG.out.size, HPl.out⟩
        · have n10 := u8_ne (k := 10) h10 (by decide) 10 rfl
          have HS2 := Aside0.mk (show ∀ c ∈ midL text F.toNat (I + 1).toNat, c ≠ 10 by
            rw [show (I + 1).toNat = I.toNat + 1 by omega, midL_snoc (by omega) hd]
            intro c hc
            rcases List.mem_append.1 hc with hc | hc
            · exact HNn.out c hc
            · rw [List.mem_singleton.1 hc]; exact h10)
          clear h10 hd
          go_wp2_with fail
          exact ⟨⟨st, F, I + 1, q, xs, rfl, rfl, rfl, rfl, F0, by omega, by omega, HRun, HS2, HP, HQ⟩, by simp [intOf]; omega⟩
      · have hlt1 : decide (I < (S.size : Int)) = false := decide_eq_false hlt
        have hfrz := HP.out.res.frozens
        obtain ⟨f0, f1, f2, f3, f4, f5, f6, f7, f8, f9⟩ := hfrz
        obtain ⟨z0, z1, z2, z3, z4, z5, z6, z7, z8, z9⟩ := HP.out.res.cells
        obtain ⟨c0, c1, c2, c3, c4, c5, c6, c7, c8, c9⟩ := HP.out.non.cells
        clear w4 w5
        have hIl : I.toNat = text.length := by omega
        have hnn := HNn.out
        rw [hIl] at hnn
        by_cases hF : F < (S.size : Int)
        · have hF1 : decide (F < (S.size : Int)) = true := decide_eq_true hF
          have HRn := Aside0.mk (parseT_err HT.out (HRun.out.trans (runL_cutn (fun e => by have h2 := congrArg List.length e; rw [List.length_drop] at h2; simp at h2; omega) (midL_end hnn))))
          clear hIl hnn
          go_wp2_with fail
          have hst := ShAt.store HP.out.res {}
          have hBc := below_stS HP.out.bel (Nat.le_refl _) {}
          change bodyPost _ _ _ _ _ (stS wr w.heap.size {})
          obtain ⟨W9, hW9⟩ : ∃ W9, stS wr w.heap.size {} = W9 := ⟨_, rfl⟩
          rw [hW9] at hst hBc ⊢
          clear c0 c1 c2 c3 c4 c5 c6 c7 c8 c9
          obtain ⟨c0, c1, c2, c3, c4, c5, c6, c7, c8, c9⟩ := hst.cells
          exact bodyPost_ret (v := .tuple #[shV {}, .slice none 0 0, .int .i64 260, .int .i64 q]) (by simp [results, Tryz.f10, go_sem, c0, c1, c2, c3, c4, c5, c6, c7, c8, c9]; rfl) rfl (PaP.bad HRn.out HQ.out.symm hBc)
        · have hF1 : decide (F < (S.size : Int)) = false := decide_eq_false hF
          have hdr : text.drop F.toNat = [] := List.drop_eq_nil_of_le (by omega)
          have hRu := HRun.out
          rw [hdr, runL_nil] at hRu
          have HRn := Aside0.mk (parseT_end HT.out hRu)
          clear hIl hnn hdr hRu
          by_cases h3 : st.n < 3
          · rw [if_pos h3] at HRn
            have h3i : q < 3 := by have := HQ.out; omega
            clear h3
            go_wp2_with fail
            have hst := ShAt.store HP.out.res {}
            have hBc := below_stS HP.out.bel (Nat.le_refl _) {}
            change bodyPost _ _ _ _ _ (stS wr w.heap.size {})
            obtain ⟨W9, hW9⟩ : ∃ W9, stS wr w.heap.size {} = W9 := ⟨_, rfl⟩
            rw [hW9] at hst hBc ⊢
            clear c0 c1 c2 c3 c4 c5 c6 c7 c8 c9
            obtain ⟨c0, c1, c2, c3, c4, c5, c6, c7, c8, c9⟩ := hst.cells
            exact bodyPost_ret (v := .tuple #[shV {}, .slice none 0 0, .int .i64 260, .int .i64 q]) (by simp [results, Tryz.f10, go_sem, c0, c1, c2, c3, c4, c5, c6, c7, c8, c9]; rfl) rfl (PaP.bad HRn.out HQ.out.symm hBc)
          · rw [if_neg h3] at HRn
            have h3i : ¬ q < 3 := by have := HQ.out; omega
            have h3d : decide (q < 3) = false := decide_eq_false h3i
            obtain ⟨A9, cV, hv⟩ := own_slice HP.out.lv.row
            subst hv
            obtain ⟨X, hX⟩ : ∃ X, xs.length = X := ⟨_, rfl⟩
            have HFew := Aside0.mk (fun W (hB : Below wr.heap.size wr W) => toomany_any A9 cV st.ls W (by rw [← HP.out.map]; exact (HP.out.lv.below hB).lives) (HP.out.pl.lives (by omega)))
            rw [show st.ls.length = X by rw [← HP.out.map, List.length_map, hX]] at HFew
            rw [hX] at HP ⊢
            have HX := Aside0.mk hX
            obtain ⟨p0, p1, p2, p3, p4, p5, p6, p7, p8, p9⟩ := HP.out.shp.cells
            have HCk := Aside0.mk (fun W => rcheck_any st.s W)
            unfold shV shC at HCk
            clear hX h3
            cases hck : checkL st.s with
            | false =>
              rw [hck, if_neg (by decide)] at HCk
              rw [hck, if_pos rfl] at HRn
              clear hck
              go_wp2_with (go_at_call 20; refine (HCk.out _).mono ?_; rintro e w1 ⟨rfl, hB⟩; have HB1 := Aside0.mk hB; have HR3 := Aside0.mk (HP.out.res.below hB); have HN3 := Aside0.mk (HP.out.non.below hB); clear hB; clear f0 f1 f2 f3 f4 f5 f6 f7 f8 f9 z0 z1 z2 z3 z4 z5 z6 z7 z8 z9 c0 c1 c2 c3 c4 c5 c6 c7 c8 c9; obtain ⟨f0, f1, f2, f3, f4, f5, f6, f7, f8, f9⟩ := HR3.out.frozens; obtain ⟨z0, z1, z2, z3, z4, z5, z6, z7, z8, z9⟩ := HR3.out.cells; obtain ⟨c0, c1, c2, c3, c4, c5, c6, c7, c8, c9⟩ := HN3.out.cells)
              have hst := ShAt.store HR3.out {}
              have hBc := below_stS (HP.out.bel.trans (HB1.out.mono HP.out.bel.size)) (Nat.le_refl _) {}
              change bodyPost _ _ _ _ _ (stS w1 w.heap.size {})
              obtain ⟨W9, hW9⟩ : ∃ W9, stS w1 w.heap.size {} = W9 := ⟨_, rfl⟩
              rw [hW9] at hst hBc ⊢
              clear c0 c1 c2 c3 c4 c5 c6 c7 c8 c9
              obtain ⟨c0, c1, c2, c3, c4, c5, c6, c7, c8, c9⟩ := hst.cells
              exact bodyPost_ret (v := .tuple #[shV {}, .slice none 0 0, .int .i64 41, .int .i64 0]) (by simp [results, Tryz.f10, go_sem, c0, c1, c2, c3, c4, c5, c6, c7, c8, c9]; rfl) rfl (PaP.bad HRn.out rfl hBc)
            | true =>
              rw [hck, if_pos rfl] at HCk
              rw [hck, if_neg (by decide)] at HRn
              clear hck
              cases hfw : fewL st.ls with
              | false =>
                rw [hfw, Bool.not_false] at HFew
                rw [hfw, if_pos rfl] at HRn
                clear hfw
                go_wp2_with (first | (go_at_call 20; refine (HCk.out _).mono ?_; rintro e w1 ⟨rfl, hB⟩; have HB1 := Aside0.mk hB; have HR3 := Aside0.mk (HP.out.res.below hB); have HN3 := Aside0.mk (HP.out.non.below hB); clear hB; clear f0 f1 f2 f3 f4 f5 f6 f7 f8 f9 z0 z1 z2 z3 z4 z5 z6 z7 z8 z9 c0 c1 c2 c3 c4 c5 c6 c7 c8 c9; obtain ⟨f0, f1, f2, f3, f4, f5, f6, f7, f8, f9⟩ := HR3.out.frozens; obtain ⟨z0, z1, z2, z3, z4, z5, z6, z7, z8, z9⟩ := HR3.out.cells; obtain ⟨c0, c1, c2, c3, c4, c5, c6, c7, c8, c9⟩ := HN3.out.cells) | (go_at_call 21; refine (HFew.out _ HB1.out).mono ?_; rintro e w2 ⟨rfl, hB⟩; have HB3 := Aside0.mk (below_step HB1.out hB); have HR4 := Aside0.mk (HR3.out.below hB); have HN4 := Aside0.mk (HN3.out.below hB); clear hB; clear f0 f1 f2 f3 f4 f5 f6 f7 f8 f9 z0 z1 z2 z3 z4 z5 z6 z7 z8 z9 c0 c1 c2 c3 c4 c5 c6 c7 c8 c9; obtain ⟨f0, f1, f2, f3, f4, f5, f6, f7, f8, f9⟩ := HR4.out.frozens; obtain ⟨z0, z1, z2, z3, z4, z5, z6, z7, z8, z9⟩ := HR4.out.cells; obtain ⟨c0, c1, c2, c3, c4, c5, c6, c7, c8, c9⟩ := HN4.out.cells))
                have hst := ShAt.store HR4.out {}
                have hBc := below_stS (HP.out.bel.trans (HB3.out.mono HP.out.bel.size)) (Nat.le_refl _) {}
                change bodyPost _ _ _ _ _ (stS w2 w.heap.size {})
                obtain ⟨W9, hW9⟩ : ∃ W9, stS w2 w.heap.size {} = W9 := ⟨_, rfl⟩
                rw [hW9] at hst hBc ⊢
                clear c0 c1 c2 c3 c4 c5 c6 c7 c8 c9
                obtain ⟨c0, c1, c2, c3, c4, c5, c6, c7, c8, c9⟩ := hst.cells
                exact bodyPost_ret (v := .tuple #[shV {}, .slice none 0 0, .int .i64 3, .int .i64 0]) (by simp [results, Tryz.f10, go_sem, c0, c1, c2, c3, c4, c5, c6, c7, c8, c9]; rfl) rfl (PaP.bad HRn.out rfl hBc)
              | true =>
                rw [hfw, Bool.not_true] at HFew
                rw [hfw, if_neg (by decide)] at HRn
                clear hfw
                go_wp2_with (first | (go_at_call 20; refine (HCk.out _).mono ?_; rintro e w1 ⟨rfl, hB⟩; have HB1 := Aside0.mk hB; have HR3 := Aside0.mk (HP.out.res.below hB); have HN3 := Aside0.mk (HP.out.non.below hB); clear hB; clear f0 f1 f2 f3 f4 f5 f6 f7 f8 f9 z0 z1 z2 z3 z4 z5 z6 z7 z8 z9 c0 c1 c2 c3 c4 c5 c6 c7 c8 c9; obtain ⟨f0, f1, f2, f3, f4, f5, f6, f7, f8, f9⟩ := HR3.out.frozens; obtain ⟨z0, z1, z2, z3, z4, z5, z6, z7, z8, z9⟩ := HR3.out.cells; obtain ⟨c0, c1, c2, c3, c4, c5, c6, c7, c8, c9⟩ := HN3.out.cells) | (go_at_call 21; refine (HFew.out _ HB1.out).mono ?_; rintro e w2 ⟨rfl, hB⟩; have HB3 := Aside0.mk (below_step HB1.out hB); have HR4 := Aside0.mk (HR3.out.below hB); have HN4 := Aside0.mk (HN3.out.below hB); have HS4 := Aside0.mk (HP.out.shp.below HB3.out); clear hB; clear p0 p1 p2 p3 p4 p5 p6 p7 p8 p9 f0 f1 f2 f3 f4 f5 f6 f7 f8 f9 z0 z1 z2 z3 z4 z5 z6 z7 z8 z9 c0 c1 c2 c3 c4 c5 c6 c7 c8 c9; obtain ⟨f0, f1, f2, f3, f4, f5, f6, f7, f8, f9⟩ := HR4.out.frozens; obtain ⟨z0, z1, z2, z3, z4, z5, z6, z7, z8, z9⟩ := HR4.out.cells; obtain ⟨c0, c1, c2, c3, c4, c5, c6, c7, c8, c9⟩ := HN4.out.cells; obtain ⟨p0, p1, p2, p3, p4, p5, p6, p7, p8, p9⟩ := HS4.out.cells))
                have hst := ShAt.store HR4.out st.s
                have hBc := below_stS (HP.out.bel.trans (HB3.out.mono HP.out.bel.size)) (Nat.le_refl _) st.s
                have hLv := ((HP.out.lv.below HB3.out).grown HR4.out (by decide) (by decide) (by decide) (grown_stS w2 w.heap.size st.s)).less (Nat.le_of_lt o7)
                change bodyPost _ _ _ _ _ (stS w2 w.heap.size st.s)
                obtain ⟨W9, hW9⟩ : ∃ W9, stS w2 w.heap.size st.s = W9 := ⟨_, rfl⟩
                rw [hW9] at hst hBc hLv ⊢
                clear c0 c1 c2 c3 c4 c5 c6 c7 c8 c9
                obtain ⟨c0, c1, c2, c3, c4, c5, c6, c7, c8, c9⟩ := hst.cells
                exact bodyPost_ret (v := .tuple #[shV st.s, .slice A9 X cV, .int .i64 0, .int .i64 0]) (by simp [results, Tryz.f10, go_sem, c0, c1, c2, c3, c4, c5, c6, c7, c8, c9]; rfl) rfl (PaP.good (by rw [HRn.out, HP.out.map]) HX.out hLv hBc)
end Go.Proofs.YteglbmindbfkeaaGreatDoor.H
namespace Go.Proofs.YteglbmindbfkeaaGreatDoor.H
open Go.RowKit Go.Proofs.YteglbmindbfkeaaGreatDoorW.PrintWords
set_option linter.unusedVariables false
set_option linter.unusedSimpArgs false
theorem parseT_kind {text : Bs} {k : Int} {n : Nat} (h : parseT text = .error (k, n)) : (k == 0) = false := by
  unfold parseT at h
  split at h
  · cases h; rfl
  · split at h
    · cases h; rfl
    · split at h
      · cases h; rfl
      · split at h
        · cases h; rfl
        · split at h
          · cases h; rfl
          · cases h
theorem printT_ok {s : ShapeV} {ls : List LifeV} {t : Bs} (hs : s.seed < 18446744073709551616) (h : printT s ls = .ok t) : ShOk s ∧ LvOk ls ∧ t.length ≤ 1048576 := by
  unfold printT at h
  split at h
  · cases h
  · next h1 =>
    split at h
    · cases h
    · split at h
      · cases h
      · next u hu =>
        split at h
        · cases h
        · next h3 =>
          cases h
          have hc : checkL s = true := by cases e : checkL s with
            | true => rfl
            | false => exact absurd e h1
          obtain ⟨f1, f2, f3, f4, f5, f6, f7, f8⟩ := check_few hc
          rw [List.length_append] at h3
          exact ⟨⟨fewD_I64 f1, fewD_I64 f2, fewD_I64 f3, fewD_I64 f4, fewD_I64 f5, fewD_I64 f6, fewD_I64 f7, hs, fewD_I64 f8⟩, livesL_ok hu (by omega), by rw [List.length_append]; omega⟩
theorem lives_none (w : World) : LivesR w none [] := fun i l h => by simp at h
theorem box_at (w : World) (s : ShapeV) : ShAt (w.alloc (.cells #[.int .i64 s.sector, .int .i64 s.sectors, .int .i64 s.journal, .int .i64 s.pack, .int .i64 s.min, .int .i64 s.normal, .int .i64 s.max, .int .u64 (s.seed : Int), .int .i64 s.bits, .bool s.dedup] 26)) w.heap.size s := blk_new w _
set_option maxRecDepth 100000 in
set_option maxHeartbeats 8000000 in
theorem parses_any (text : Bs) (w : World) (hE : Env w) : Calls Tryz.prog 4 #[.string (sB text)] w fun e w' => e = .returned (.bool true) ∧ Below w.heap.size w w' := by
  have HE := Aside0.mk hE
  have HA := Aside0.mk (fun W h => awake_any W h)
  clear hE
  cases hp : parseT text with
  | error kn =>
    obtain ⟨k, n⟩ := kn
    have hk := parseT_kind hp
    have HS := Aside0.mk (fun W => same_true none 0 none 0 [] W (lives_none W) (lives_none W) ⟨by simp, fun l h => by simp at h⟩)
    simp only [List.length_nil] at HS
    obtain ⟨m, hm⟩ : ∃ m : Int, (n : Int) = m := ⟨_, rfl⟩
    obtain ⟨s, hs⟩ : ∃ s : ShapeV, ({} : ShapeV) = s := ⟨_, rfl⟩
    have HP := Aside0.mk (fun W h => show Calls Tryz.prog 8 #[.string (sB text)] W fun e w' => e = .returned (.tuple #[.agg #[.int .i64 s.sector, .int .i64 s.sectors, .int .i64 s.journal, .int .i64 s.pack, .int .i64 s.min, .int .i64 s.normal, .int .i64 s.max, .int .u64 (s.seed : Int), .int .i64 s.bits, .bool s.dedup], .slice none 0 0, .int .i64 k, .int .i64 m]) ∧ Below W.heap.size W w' from (pParse_any text W h).mono (fun e w' hP => by rw [hp] at hP; rw [← hm, ← hs]; exact hP))
    have HQ := Aside0.mk (fun W => show Calls Tryz.prog 10 #[.string (sB text)] W fun e w' => e = .returned (.tuple #[.agg #[.int .i64 s.sector, .int .i64 s.sectors, .int .i64 s.journal, .int .i64 s.pack, .int .i64 s.min, .int .i64 s.normal, .int .i64 s.max, .int .u64 (s.seed : Int), .int .i64 s.bits, .bool s.dedup], .slice none 0 0, .int .i64 k, .int .i64 m]) ∧ Below W.heap.size W w' from (rParse_any text W).mono (fun e w' hP => by rw [hp] at hP; rw [← hm, ← hs]; exact hP))
    clear hp hm hs
    go_enter Tryz.func4, Tryz.ntmps4
    go_wp2_with (first
      | (go_at_call 5; refine (HA.out _ HE.out).mono ?_; rintro e w1 ⟨rfl, hB⟩; have HB1 := Aside0.mk hB; clear hB)
      | (go_at_call 8; refine (HP.out _ (HE.out.below HB1.out)).mono ?_; rintro e w2 ⟨rfl, hB⟩; have HB2 := Aside0.mk (below_step HB1.out hB); clear hB)
      | (go_at_call 10; refine (HQ.out _).mono ?_; rintro e w3 ⟨rfl, hB⟩; have HB3 := Aside0.mk (below_step (below_alloc HB2.out _) hB); have hbx := (box_at w2 s).below hB; obtain ⟨a0, a1, a2, a3, a4, a5, a6, a7, a8, a9⟩ := hbx.cells; have hby := hbx.below (below_alloc (Below.refl _ _) (.cells #[.int .i64 s.sector, .int .i64 s.sectors, .int .i64 s.journal, .int .i64 s.pack, .int .i64 s.min, .int .i64 s.normal, .int .i64 s.max, .int .u64 (s.seed : Int), .int .i64 s.bits, .bool s.dedup] 26)); obtain ⟨b0, b1, b2, b3, b4, b5, b6, b7, b8, b9⟩ := hby.cells; clear hB hbx hby)
      | (go_at_call 9; refine (HS.out _).mono ?_; rintro e w4 ⟨rfl, hB⟩; have HB4 := Aside0.mk (below_step (below_alloc HB3.out _) hB); clear hB))
    exact bodyPost_ret (v := .bool true) (by simp [results, Tryz.f4, go_sem]) rfl ⟨rfl, HB4.out⟩
  | ok p =>
    obtain ⟨s, ls⟩ := p
    obtain ⟨hpr, hsd⟩ := print_parse hp
    obtain ⟨hsk, hok, htl⟩ := printT_ok hsd hpr
    have HP := Aside0.mk (fun W h => show Calls Tryz.prog 8 #[.string (sB text)] W fun e w' => ∃ A c, (e = .returned (.tuple #[.agg #[.int .i64 s.sector, .int .i64 s.sectors, .int .i64 s.journal, .int .i64 s.pack, .int .i64 s.min, .int .i64 s.normal, .int .i64 s.max, .int .u64 (s.seed : Int), .int .i64 s.bits, .bool s.dedup], .slice A ls.length c, .int .i64 0, .int .i64 0]) ∧ LivesR w' A ls) ∧ Below W.heap.size W w' from (pParse_any text W h).mono (fun e w' hP => by
      rw [hp] at hP
      obtain ⟨⟨A, c, xs, he, hm, hl⟩, hB⟩ := hP
      have h1 := hl.lives
      rw [hm] at h1
      rw [← List.length_map (f := (·.1)), hm] at he
      exact ⟨A, c, ⟨he, h1⟩, hB⟩))
    have HQ := Aside0.mk (fun W => show Calls Tryz.prog 10 #[.string (sB text)] W fun e w' => ∃ A c, (e = .returned (.tuple #[.agg #[.int .i64 s.sector, .int .i64 s.sectors, .int .i64 s.journal, .int .i64 s.pack, .int .i64 s.min, .int .i64 s.normal, .int .i64 s.max, .int .u64 (s.seed : Int), .int .i64 s.bits, .bool s.dedup], .slice A ls.length c, .int .i64 0, .int .i64 0]) ∧ LivesR w' A ls) ∧ Below W.heap.size W w' from (rParse_any text W).mono (fun e w' hP => by
      rw [hp] at hP
      obtain ⟨⟨A, c, xs, he, hm, hl⟩, hB⟩ := hP
      have h1 := hl.lives
      rw [hm] at h1
      rw [← List.length_map (f := (·.1)), hm] at he
      exact ⟨A, c, ⟨he, h1⟩, hB⟩))
    have HS := Aside0.mk (fun W A1 c1 A2 c2 (h1 : LivesR W A1 ls) (h2 : LivesR W A2 ls) => same_true A1 c1 A2 c2 ls W h1 h2 hok)
    have HPr := Aside0.mk (fun W A c hE (hL : LivesR W A ls) => pPrint_any s A c ls W hE hsk hL hok)
    rw [hpr] at HPr
    unfold prV shV shC at HPr
    obtain ⟨N, hN⟩ : ∃ N, ls.length = N := ⟨_, rfl⟩
    rw [hN] at HP HQ HS HPr
    clear hp hpr hsd hsk hok hN
    go_enter Tryz.func4, Tryz.ntmps4
    go_wp2_with (first
      | (go_at_call 5; refine (HA.out _ HE.out).mono ?_; rintro e w1 ⟨rfl, hB⟩; have HB1 := Aside0.mk hB; clear hB)
      | (go_at_call 8; refine (HP.out _ (HE.out.below HB1.out)).mono ?_; rintro e w2 ⟨A1, c1, ⟨rfl, hl⟩, hB⟩; have HB2 := Aside0.mk (below_step HB1.out hB); have HL1 := Aside0.mk hl; clear hB hl)
      | (go_at_call 10; refine (HQ.out _).mono ?_; rintro e w3 ⟨A2, c2, ⟨rfl, hl⟩, hB⟩; have HB3 := Aside0.mk (below_step (below_alloc HB2.out _) hB); have HL2 := Aside0.mk (And.intro hl ((HL1.out.below (below_alloc (Below.refl _ _) _)).below hB)); have hbx := (box_at w2 s).below hB; obtain ⟨a0, a1, a2, a3, a4, a5, a6, a7, a8, a9⟩ := hbx.cells; have hby := hbx.below (below_alloc (Below.refl _ _) (.cells #[.int .i64 s.sector, .int .i64 s.sectors, .int .i64 s.journal, .int .i64 s.pack, .int .i64 s.min, .int .i64 s.normal, .int .i64 s.max, .int .u64 (s.seed : Int), .int .i64 s.bits, .bool s.dedup] 26)); obtain ⟨b0, b1, b2, b3, b4, b5, b6, b7, b8, b9⟩ := hby.cells; have HBy := Aside0.mk hby; clear hB hbx hby hl)
      | (go_at_call 9; refine (HS.out _ _ _ _ _ (HL2.out.2.below (below_alloc (Below.refl _ _) _)) (HL2.out.1.below (below_alloc (Below.refl _ _) _))).mono ?_; rintro e w4 ⟨rfl, hB⟩; have HB4 := Aside0.mk (below_step (below_alloc HB3.out _) hB); have HL4 := Aside0.mk ((HL2.out.2.below (below_alloc (Below.refl _ _) _)).below hB); have hbz := HBy.out.below hB; obtain ⟨d0, d1, d2, d3, d4, d5, d6, d7, d8, d9⟩ := hbz.cells; clear hB hbz)
      | (go_at_call 6; refine (HPr.out _ _ _ (HE.out.below HB4.out) HL4.out).mono ?_; rintro e w5 ⟨rfl, hB⟩; have HB5 := Aside0.mk (below_step HB4.out hB); clear hB))
    exact bodyPost_ret (v := .bool true) (by simp [results, Tryz.f4, go_sem]) rfl ⟨rfl, HB5.out⟩
theorem parses_str (s : ByteArray) (w : World) (hE : Env w) : Calls Tryz.prog 4 #[.string s] w fun e w' => e = .returned (.bool true) ∧ Below w.heap.size w w' := by
  have := parses_any s.data.toList w hE
  rwa [data_sB] at this
end Go.Proofs.YteglbmindbfkeaaGreatDoor.H
namespace Go.Proofs.YteglbmindbfkeaaGreatDoor.H
open Go.RowKit Go.Proofs.YteglbmindbfkeaaGreatDoorW.PrintWords
set_option linter.unusedVariables false
set_option linter.unusedSimpArgs false
theorem printT_kind {s : ShapeV} {ls : List LifeV} {k : Int} (h : printT s ls = .error k) : (k == 0) = false := by
  unfold printT at h
  split at h
  · cases h; rfl
  · split at h
    · cases h; rfl
    · split at h
      · cases h; rfl
      · split at h
        · cases h; rfl
        · cases h
set_option maxRecDepth 100000 in
set_option maxHeartbeats 8000000 in
theorem prints_any (s : ShapeV) (A : Option Addr) (c : Nat) (ls : List LifeV) (w : World) (hE : Env w) (hs : ShOk s) (hL : LivesR w A ls) (hok : LvOk ls) : Calls Tryz.prog 3 #[shV s, .slice A ls.length c] w fun e w' => e = .returned (.bool true) ∧ Below w.heap.size w w' := by
  have HE := Aside0.mk hE
  have HA := Aside0.mk (fun W h => awake_any W h)
  have HPr := Aside0.mk (fun W hE (hL : LivesR W A ls) => pPrint_any s A c ls W hE hs hL hok)
  have HRr := Aside0.mk (fun W hE (hL : LivesR W A ls) => rPrint_any s A c ls W hE hs hL hok)
  have HL := Aside0.mk hL
  have HB0 := Aside0.mk (below_alloc (Below.refl w.heap.size w) (.cells #[.int .i64 s.sector, .int .i64 s.sectors, .int .i64 s.journal, .int .i64 s.pack, .int .i64 s.min, .int .i64 s.normal, .int .i64 s.max, .int .u64 (s.seed : Int), .int .i64 s.bits, .bool s.dedup] 26))
  have HX0 := Aside0.mk (box_at w s)
  clear hE hL
  cases hp : printT s ls with
  | error k =>
    have hk := printT_kind hp
    rw [hp] at HPr HRr
    unfold prV shV shC at HPr HRr
    unfold shV shC
    obtain ⟨N, hN⟩ : ∃ N, ls.length = N := ⟨_, rfl⟩
    rw [hN] at HPr HRr ⊢
    clear hp hN hs hok
    go_enter Tryz.func3, Tryz.ntmps3
    go_wp2_with (first
      | (go_at_call 5; refine (HA.out _ (HE.out.below HB0.out)).mono ?_; rintro e w1 ⟨rfl, hB⟩; have HB1 := Aside0.mk (below_step HB0.out hB); have hbx := HX0.out.below hB; obtain ⟨a0, a1, a2, a3, a4, a5, a6, a7, a8, a9⟩ := hbx.cells; have HX1 := Aside0.mk hbx; clear hB hbx)
      | (go_at_call 6; refine (HPr.out _ (HE.out.below HB1.out) (HL.out.below HB1.out)).mono ?_; rintro e w2 ⟨rfl, hB⟩; have HB2 := Aside0.mk (below_step HB1.out hB); have hbx := HX1.out.below hB; obtain ⟨b0, b1, b2, b3, b4, b5, b6, b7, b8, b9⟩ := hbx.cells; have HX2 := Aside0.mk hbx; clear hB hbx)
      | (go_at_call 7; refine (HRr.out _ (HE.out.below HB2.out) (HL.out.below HB2.out)).mono ?_; rintro e w3 ⟨rfl, hB⟩; have HB3 := Aside0.mk (below_step HB2.out hB); clear hB))
    exact bodyPost_ret (v := .bool true) (by simp [results, Tryz.f3, go_sem]) rfl ⟨rfl, HB3.out⟩
  | ok t =>
    have hpp := parse_print hs.seed hp
    have HP := Aside0.mk (fun W h => show Calls Tryz.prog 8 #[.string (sB t)] W fun e w' => ∃ A c, (e = .returned (.tuple #[.agg #[.int .i64 s.sector, .int .i64 s.sectors, .int .i64 s.journal, .int .i64 s.pack, .int .i64 s.min, .int .i64 s.normal, .int .i64 s.max, .int .u64 (s.seed : Int), .int .i64 s.bits, .bool s.dedup], .slice A ls.length c, .int .i64 0, .int .i64 0]) ∧ LivesR w' A ls) ∧ Below W.heap.size W w' from (pParse_any t W h).mono (fun e w' hP => by
      rw [hpp] at hP
      obtain ⟨⟨A, c, xs, he, hm, hl⟩, hB⟩ := hP
      have h1 := hl.lives
      rw [hm] at h1
      rw [← List.length_map (f := (·.1)), hm] at he
      exact ⟨A, c, ⟨he, h1⟩, hB⟩))
    have HS := Aside0.mk (fun W A1 c1 A2 c2 (h1 : LivesR W A1 ls) (h2 : LivesR W A2 ls) => same_true A1 c1 A2 c2 ls W h1 h2 hok)
    rw [hp] at HPr HRr
    unfold prV shV shC at HPr HRr
    unfold shV shC
    obtain ⟨N, hN⟩ : ∃ N, ls.length = N := ⟨_, rfl⟩
    rw [hN] at HPr HRr HP HS ⊢
    clear hp hpp hN hs hok
    go_enter Tryz.func3, Tryz.ntmps3
    go_wp2_with (first
      | (go_at_call 5; refine (HA.out _ (HE.out.below HB0.out)).mono ?_; rintro e w1 ⟨rfl, hB⟩; have HB1 := Aside0.mk (below_step HB0.out hB); have hbx := HX0.out.below hB; obtain ⟨a0, a1, a2, a3, a4, a5, a6, a7, a8, a9⟩ := hbx.cells; have HX1 := Aside0.mk hbx; clear hB hbx)
      | (go_at_call 6; refine (HPr.out _ (HE.out.below HB1.out) (HL.out.below HB1.out)).mono ?_; rintro e w2 ⟨rfl, hB⟩; have HB2 := Aside0.mk (below_step HB1.out hB); have hbx := HX1.out.below hB; obtain ⟨b0, b1, b2, b3, b4, b5, b6, b7, b8, b9⟩ := hbx.cells; have HX2 := Aside0.mk hbx; clear hB hbx)
      | (go_at_call 7; refine (HRr.out _ (HE.out.below HB2.out) (HL.out.below HB2.out)).mono ?_; rintro e w3 ⟨rfl, hB⟩; have HB3 := Aside0.mk (below_step HB2.out hB); have HX3 := Aside0.mk (HX2.out.below hB); clear hB)
      | (go_at_call 8; refine (HP.out _ (HE.out.below HB3.out)).mono ?_; rintro e w4 ⟨A1, c1, ⟨rfl, hl⟩, hB⟩; have HB4 := Aside0.mk (below_step HB3.out hB); have HL1 := Aside0.mk hl; have hby := (HX3.out.below hB).below (below_alloc (Below.refl _ _) (.cells #[.int .i64 s.sector, .int .i64 s.sectors, .int .i64 s.journal, .int .i64 s.pack, .int .i64 s.min, .int .i64 s.normal, .int .i64 s.max, .int .u64 (s.seed : Int), .int .i64 s.bits, .bool s.dedup] 26)); obtain ⟨d0, d1, d2, d3, d4, d5, d6, d7, d8, d9⟩ := hby.cells; clear hB hl hby)
      | (go_at_call 9; refine (HS.out _ _ _ _ _ (HL1.out.below (below_alloc (Below.refl _ _) _)) (HL.out.below (below_alloc HB4.out _))).mono ?_; rintro e w5 ⟨rfl, hB⟩; have HB5 := Aside0.mk (below_step (below_alloc HB4.out _) hB); clear hB))
    exact bodyPost_ret (v := .bool true) (by simp [results, Tryz.f3, go_sem]) rfl ⟨rfl, HB5.out⟩
end Go.Proofs.YteglbmindbfkeaaGreatDoor.H
