/- PrintOp of the program as a contract. -/
import Derived.Test.YteglbmindbfkeaaGreatDoorOq
namespace Go.Proofs.YteglbmindbfkeaaGreatDoor.H
open Go.RowKit Go.Proofs.YteglbmindbfkeaaGreatDoorW.PrintWords
set_option linter.unusedVariables false
set_option linter.unusedSimpArgs false
theorem OpAt.alloc {w : World} {b : Nat} {o : OpV} (h : OpAt w b o) (x : Obj) : OpAt (w.alloc x) b o := blk_alloc h x
theorem OpAt.new (w : World) (o : OpV) : OpAt (w.alloc (.cells (opC o) 38)) w.heap.size o := blk_new w _
theorem OpAt.kind {w : World} {b : Nat} {o : OpV} (h : OpAt w b o) : w.cell? ⟨b, 0, none⟩ = some (.int .i64 o.kind) := (blk_cell h 0).trans rfl
/-- Where a text's iterator stands. -/
def strPos (w : World) (r : Nat) : Nat := match w.heap[r]? with
  | some (.stringIter _ p) => p
  | _ => 0
theorem strPos_of {w : World} {r p : Nat} {F : ByteArray} (h : w.heap[r]? = some (.stringIter F p)) : strPos w r = p := by unfold strPos; rw [h]
theorem OpAt.iter {w : World} {b ib : Nat} {o : OpV} (h : OpAt w b o) (hn : b ≠ ib) (F : ByteArray) (p : Nat) : OpAt (w.iterAt ib F p) b o := (Lib.iterAt_other w ib b F p hn).trans h
theorem fields_get {fs : List Fld} {i : Nat} (h : i < fs.length) : ∃ f, fs[i]? = some f ∧ f ∈ fs ∧ ∃ hs : i < (sB (fs.map fldB)).size, ((sB (fs.map fldB))[i]'hs) = fldB f := by
  refine ⟨fs[i], List.getElem?_eq_getElem h, List.getElem_mem h, by rw [sB_size]; simpa using h, ?_⟩
  simp [sB, ByteArray.getElem_eq_getElem_data]
theorem add_sp (a b : Bs) : sB a ++ ((⟨#[32]⟩ : ByteArray) ++ sB b) = sB (a ++ 32 :: b) := by
  rw [show (⟨#[32]⟩ : ByteArray) = sB [32] from rfl, sB_app, sB_app]
  rfl
theorem out_size {o : OpV} {wd : Bs} {fs : List Fld} (hk : kindOf o.kind = some (wd, fs)) (ho : OpOk 34359738368 o) (i : Nat) : (sB (wd ++ body o (fs.take i))).size ≤ 412316860498 := by
  obtain ⟨j, _, hm⟩ := kindOf_mem hk
  obtain ⟨h3, h10⟩ := kinds_len _ hm
  rw [sB_size, List.length_append]
  have hb := body_len ho (fs.take i)
  have h3 : fs.length ≤ 3 := h3
  have hl : (fs.take i).length ≤ 3 := by rw [List.length_take]; omega
  have := Nat.mul_le_mul_right (4 * 34359738368 + 24) hl
  have h10 : wd.length ≤ 10 := h10
  omega
theorem render_size {o : OpV} (ho : OpOk 34359738368 o) (f : Fld) : (sB (render o f)).size ≤ 137438953495 := by
  rw [sB_size]
  have := render_len ho f
  omega
theorem OpAt.cells {w : World} {b : Nat} {o : OpV} (h : OpAt w b o) : w.cell? ⟨b, 0, none⟩ = some (.int .i64 o.kind) ∧ w.cell? ⟨b, 1, none⟩ = some (.string (sB o.path)) ∧ w.cell? ⟨b, 2, none⟩ = some (.string (sB o.other)) ∧ w.cell? ⟨b, 3, none⟩ = some (.int .i64 o.handle) ∧ w.cell? ⟨b, 4, none⟩ = some (.int .i64 o.offset) ∧ w.cell? ⟨b, 5, none⟩ = some (.int .i64 o.n) ∧ w.cell? ⟨b, 6, none⟩ = some (.int .i64 o.flags) ∧ w.cell? ⟨b, 7, none⟩ = some (.string (sB o.data)) :=
  ⟨(blk_cell h 0).trans rfl, (blk_cell h 1).trans rfl, (blk_cell h 2).trans rfl, (blk_cell h 3).trans rfl, (blk_cell h 4).trans rfl, (blk_cell h 5).trans rfl, (blk_cell h 6).trans rfl, (blk_cell h 7).trans rfl⟩
theorem op_ext {t o : OpV} (h0 : t.kind = o.kind) (h1 : (sB t.path).toList = (sB o.path).toList) (h2 : (sB t.other).toList = (sB o.other).toList) (h3 : t.handle = o.handle) (h4 : t.offset = o.offset) (h5 : t.n = o.n) (h6 : t.flags = o.flags) (h7 : (sB t.data).toList = (sB o.data).toList) : t = o := by
  rw [Lib.toList_data, Lib.toList_data, sB_data, sB_data] at h1 h2 h7
  obtain ⟨a1, a2, a3, a4, a5, a6, a7, a8⟩ := t
  obtain ⟨b1, b2, b3, b4, b5, b6, b7, b8⟩ := o
  simp only at h0 h1 h2 h3 h4 h5 h6 h7
  subst h0 h1 h2 h3 h4 h5 h6 h7
  rfl
set_option maxRecDepth 100000 in
set_option maxHeartbeats 4000000 in
theorem pprint_any (o : OpV) (w : World) (hE : Env w) (ho : OpOk 34359738368 o) : Calls Tryz.prog 12 #[opV o] w fun e w' => e = .returned (printV o) ∧ Below w.heap.size w w' := by
  have HE := Aside0.mk hE
  have HO := Aside0.mk ho
  have hk := ho.kind
  clear hE ho
  obtain ⟨V, hV⟩ : ∃ V, opC o = V := ⟨_, rfl⟩
  unfold opV
  rw [hV]
  have h0 : V[0]? = some (.int .i64 o.kind) := by rw [← hV]; rfl
  have c0 : (w.alloc (.cells V 38)).cell? ⟨w.heap.size, 0, none⟩ = some (.int .i64 o.kind) := (blk_cell (blk_new w _) 0).trans h0
  have HV := Aside0.mk (And.intro hV h0)
  have HA0 := Aside0.mk (show OpAt (w.alloc (.cells V 38)) w.heap.size o by rw [← hV]; exact OpAt.new w o)
  clear hV h0
  cases hK : kindOf o.kind with
  | none =>
    have hW : ∀ W, Calls Tryz.prog 39 #[.int .i64 o.kind] W fun e w' => e = .returned (.tuple #[.string ⟨#[]⟩, .agg #[.int .i64 0, .string ⟨#[]⟩]]) ∧ Below W.heap.size W w' := fun W => by
      have := wordOf_any o.kind W
      unfold wordV at this
      rw [hK] at this
      exact this
    have HK := Aside0.mk hK
    clear hK
    go_enter Tryz.func12, Tryz.ntmps12
    go_wp2_with (go_at_call 39; refine (hW _).mono ?_; rintro e w1 ⟨rfl, hB⟩; have HB1 := Aside0.mk hB; clear hB)
    refine bodyPost_ret (v := .tuple #[.string ⟨#[]⟩, .int .i64 260]) (by simp [results, Tryz.f12, go_sem]) rfl ⟨by unfold printV printL; rw [HK.out], ?_⟩
    exact below_alloc ((below_alloc (Below.refl _ _) _).trans (HB1.out.mono (by simp))) _
  | some p =>
    obtain ⟨wd, fs⟩ := p
    have hW : ∀ W, Calls Tryz.prog 39 #[.int .i64 o.kind] W fun e w' => e = .returned (.tuple #[.string (sB wd), .agg #[.int .i64 o.kind, .string (sB (fs.map fldB))]]) ∧ Below W.heap.size W w' := fun W => by
      have := wordOf_any o.kind W
      unfold wordV at this
      rw [hK] at this
      exact this
    have hws : (sB wd).toList.isEmpty = false := by
      obtain ⟨j, _, hm⟩ := kindOf_mem hK
      have := (kinds_fields _ hm).2.1
      rw [Lib.toList_data, sB_data]
      simpa using this
    obtain ⟨F, hF⟩ : ∃ F, sB (fs.map fldB) = F := ⟨_, rfl⟩
    rw [hF] at hW
    obtain ⟨T, hT⟩ : ∃ T, sB wd = T := ⟨_, rfl⟩
    rw [hT] at hW hws
    have HK := Aside0.mk (And.intro hK (And.intro hF hT))
    clear hK hF hT
    go_enter Tryz.func12, Tryz.ntmps12
    go_wp2_with (go_at_call 39; refine (hW _).mono ?_; rintro e w1 ⟨rfl, hB⟩; have HA1 := Aside0.mk ((HA0.out.below hB).alloc (.cells #[.int .i64 o.kind, .string F] 77)); have HB1 := Aside0.mk (below_alloc ((below_alloc (Below.refl w.heap.size w) (.cells V 38)).trans (hB.mono (by simp))) (.cells #[.int .i64 o.kind, .string F] 77)); have c1 := HA1.out.kind; have c2 := (blk_cell (blk_new w1 (.cells #[.int .i64 o.kind, .string F] 77)) 1); clear hB)
    obtain ⟨hK, hF, hT⟩ := HK.out
    obtain ⟨t0, ht0⟩ : ∃ t0 : OpV, ({ kind := o.kind } : OpV) = t0 := ⟨_, rfl⟩
    have ha2 : OpAt ((w1.alloc (.cells #[.int .i64 o.kind, .string F] 77)).alloc (.cells #[.int .i64 o.kind, .string ⟨#[]⟩, .string ⟨#[]⟩, .int .i64 0, .int .i64 0, .int .i64 0, .int .i64 0, .string ⟨#[]⟩] 38)) (w1.heap.size + 1) t0 := by
      rw [← ht0, show w1.heap.size + 1 = (w1.alloc (.cells #[.int .i64 o.kind, .string F] 77)).heap.size from by simp]
      exact OpAt.new (w1.alloc (.cells #[.int .i64 o.kind, .string F] 77)) { kind := o.kind }
    have ha1 := HA1.out.alloc (.cells #[.int .i64 o.kind, .string ⟨#[]⟩, .string ⟨#[]⟩, .int .i64 0, .int .i64 0, .int .i64 0, .int .i64 0, .string ⟨#[]⟩] 38)
    have hb1 := below_alloc HB1.out (.cells #[.int .i64 o.kind, .string ⟨#[]⟩, .string ⟨#[]⟩, .int .i64 0, .int .i64 0, .int .i64 0, .int .i64 0, .string ⟨#[]⟩] 38)
    have hz : ((w1.alloc (.cells #[.int .i64 o.kind, .string F] 77)).alloc (.cells #[.int .i64 o.kind, .string ⟨#[]⟩, .string ⟨#[]⟩, .int .i64 0, .int .i64 0, .int .i64 0, .int .i64 0, .string ⟨#[]⟩] 38)).heap.size = w1.heap.size + 1 + 1 := by simp
    have hz1 := HA1.out.lt
    have hz2 : (w1.alloc (.cells #[.int .i64 o.kind, .string F] 77)).heap.size = w1.heap.size + 1 := by simp
    rw [hz2] at hz1
    obtain ⟨W0, hW0⟩ : ∃ W0, (w1.alloc (.cells #[.int .i64 o.kind, .string F] 77)).alloc (.cells #[.int .i64 o.kind, .string ⟨#[]⟩, .string ⟨#[]⟩, .int .i64 0, .int .i64 0, .int .i64 0, .int .i64 0, .string ⟨#[]⟩] 38) = W0 := ⟨_, rfl⟩
    rw [hW0] at ha2 ha1 hb1 hz ⊢
    obtain ⟨tb, htb⟩ : ∃ tb, w1.heap.size + 1 = tb := ⟨_, rfl⟩
    rw [htb] at ha2 hz hz1 ⊢
    have hit : (W0.alloc (.stringIter F 0)).heap[tb + 1]? = some (.stringIter F 0) := by rw [← hz]; exact blk_new W0 _
    have hob : tb ≠ w.heap.size := by
      intro e
      have := ha2.symm.trans (e ▸ ha1)
      omega
    have HT0 := Aside0.mk ht0
    have HA2 := Aside0.mk (And.intro ha2 (And.intro ha1 hb1))
    have HIt := Aside0.mk hit
    have HZ := Aside0.mk (And.intro hz1 hob)
    have HKF := Aside0.mk hK
    have HFF := Aside0.mk hF
    rw [← hT]
    clear ha2 ha1 hb1 hit hz hz1 hz2 hob hW0 c0 c1 c2 htb hW hws ht0 hK hF HK HA1 HB1 HA0 hT
    go_loopw [4] (fun v wr => ∃ i, v = .string (sB (wd ++ body o (fs.take i))) ∧ i ≤ fs.length ∧ Aside0 (fewF o (fs.take i) = true) ∧ Aside0 (wr.heap[tb + 1]? = some (.stringIter F i)) ∧ Aside0 (OpAt wr tb (copyAll o (fs.take i) t0)) ∧ Aside0 (Below w.heap.size w wr ∧ OpAt wr w.heap.size o)) (fun _ wr => fs.length - strPos wr (tb + 1))
    case atStart =>
      refine ⟨0, by simp [body], Nat.zero_le _, ⟨rfl⟩, ⟨HIt.out⟩, ⟨HA2.out.1.alloc _⟩, ⟨below_alloc HA2.out.2.2 _, HA2.out.2.1.alloc _⟩⟩
    case round =>
      obtain ⟨i, rfl, hi, HN, HI, HTold, HB⟩ := hrel
      have hsp := strPos_of HI.out
      by_cases hlt : i < fs.length
      · obtain ⟨f, hf, hfm, hs, hsf⟩ := fields_get hlt
        have hs' : i < F.size := by rw [← HFF.out]; exact hs
        have hsf' : (F[i]'hs') = fldB f := by rw [← hsf]; congr 1; exact HFF.out.symm
        have hnext : ∀ ty, (Instr.next (.pointer (some ⟨tb + 1, 0, none⟩)) true ty).run Tryz.prog wr = .ok (.tuple #[.bool true, .int .i64 i, .int .i32 (fldB f).toNat]) (wr.iterAt (tb + 1) F (i + 1)) := fun ty => by
          have := Lib.run_next_ascii_at (P := Tryz.prog) wr (tb + 1) F i ty HI.out hs' (by rw [hsf']; exact fld_ascii f)
          rw [hsf'] at this
          exact this
        have HI2 := Aside0.mk (Lib.iterAt_heap wr (tb + 1) F i (i + 1) HI.out)
        have HT2 := Aside0.mk (HTold.out.iter (show tb ≠ tb + 1 by omega) F (i + 1))
        have HO2 := Aside0.mk (HB.out.2.iter (show w.heap.size ≠ tb + 1 by have := HZ.out.1; omega) F (i + 1))
        have HB2 := Aside0.mk (Lib.below_iterAt HB.out.1 (show w.heap.size ≤ tb + 1 by have := HZ.out.1; omega) F (i + 1))
        obtain ⟨W, hW⟩ : ∃ W, wr.iterAt (tb + 1) F (i + 1) = W := ⟨_, rfl⟩
        rw [hW] at hnext HI2 HT2 HO2 HB2
        have HFI := Aside0.mk (And.intro hf (And.intro hfm (And.intro hlt hsp)))
        clear hW hs' hsf' hs hsf hi hf hfm hlt hsp
        by_cases ht : f.isText = true
        · have hTx : ∀ b V, Calls Tryz.prog 35 #[.pointer (some ⟨b, 0, none⟩), .int .i32 (fldB f).toNat] V fun e w' => e = .returned (.pointer (some ⟨b, fldO f, none⟩)) ∧ w' = V := fun b V => by
            have := text_any b f V
            rw [if_pos ht] at this
            exact this
          have HTt := Aside0.mk ht
          have cO := HO2.out.txt ht
          have cT := HT2.out.txt ht
          have fT := HT2.out.frozen (fldO f)
          have hQ : ∀ V, Calls Tryz.prog 40 #[.string (sB (o.txt f))] V fun e w' => e = .returned (.string (sB (quoteL (o.txt f)))) ∧ Below V.heap.size V w' := fun V => by
            have := pquote_any (sB (o.txt f)) V (by rw [sB_size]; exact HO.out.txt f)
            rw [sB_data] at this
            exact this
          have HT3 := Aside0.mk (HT2.out.setTxt ht (o.txt f))
          have HO3 := Aside0.mk (HO2.out.far (p := ⟨tb, fldO f, none⟩) (fun e => HZ.out.2 e.symm) (.string (sB (o.txt f))))
          have HB3 := Aside0.mk (HB2.out.setCell (p := ⟨tb, fldO f, none⟩) (Nat.le_of_lt HZ.out.1) (.string (sB (o.txt f))))
          have HI3 := Aside0.mk (show (W.setCell ⟨tb, fldO f, none⟩ (.string (sB (o.txt f)))).heap[tb + 1]? = some (.stringIter F (i + 1)) from (Below.heap_setCell _ _ _ _ (show tb + 1 ≠ tb by omega)).trans HI2.out)
          have hz1 := render_size HO.out f
          rw [show render o f = quoteL (o.txt f) from if_pos ht] at hz1
          have hz2 := out_size HKF.out HO.out i
          clear ht
          go_wp2_with (first | (go_at_call 35; refine (hTx _ _).mono ?_; rintro e w1 ⟨rfl, rfl⟩) | (go_at_call 40; refine (hQ _).mono ?_; rintro e w3 ⟨rfl, hB4⟩; have HB4 := Aside0.mk hB4; clear hB4))
          obtain ⟨hf, hfm, hlt, hsp⟩ := HFI.out
          have hbt := body_take (o := o) hf
          have hct := copyAll_take (o := o) (t := t0) hf
          have hI4 := (HB4.out.block _ (blk_lt HI3.out)).trans HI3.out
          refine ⟨⟨i + 1, ?_, hlt, ⟨?_⟩, ⟨hI4⟩, ⟨?_⟩, ⟨HB3.out.trans (HB4.out.mono HB3.out.size), HO3.out.below HB4.out⟩⟩, ?_⟩
          · rw [hbt, add_sp, List.append_assoc, show render o f = quoteL (o.txt f) from if_pos HTt.out]
          · rw [few_take hf, HN.out, HTt.out]; rfl
          · rw [hct]
            unfold OpV.copy
            rw [if_pos HTt.out]
            exact HT3.out.below HB4.out
          · rw [strPos_of hI4, hsp]; omega
        · have hTx : ∀ V, Calls Tryz.prog 35 #[.pointer (some ⟨tb, 0, none⟩), .int .i32 (fldB f).toNat] V fun e w' => e = .returned (.pointer none) ∧ w' = V := fun V => by
            have := text_any tb f V
            rw [if_neg ht] at this
            exact this
          have hNm := fun b V => num_any b f ht V
          have HTt := Aside0.mk ht
          have cO := HO2.out.num ht
          have hn := HO.out.num f
          have hS := fun V hV => short_any (o.num f) V hV hn.1 hn.2
          have hIa := fun V hV => itoa_any (o.num f) V hV hn.1 hn.2
          have HEW := Aside0.mk (HE.out.below HB2.out)
          have hz1 := render_size HO.out f
          rw [show render o f = Lib.itoa (o.num f) from if_neg ht] at hz1
          have hz2 := out_size HKF.out HO.out i
          clear ht
          by_cases hfw : fewD (o.num f)
          · rw [decide_eq_true hfw] at hS
            have HFw := Aside0.mk hfw
            clear hfw hn
            go_wp2_with (first
              | (go_at_call 35; refine (hTx _).mono ?_; rintro e w1 ⟨rfl, rfl⟩)
              | (go_at_call 38; refine (hNm _ _).mono ?_; rintro e w1 ⟨rfl, rfl⟩)
              | (go_at_call 41; refine (hS _ HEW.out).mono ?_; rintro e w4 ⟨rfl, hB4⟩; have HB4 := Aside0.mk hB4; have HT4 := Aside0.mk (HT2.out.below hB4); have HO4 := Aside0.mk (HO2.out.below hB4); have cT := HT4.out.num HTt.out; have fT := HT4.out.frozen (fldO f); have HE5 := Aside0.mk (HE.out.below ((HB2.out.trans (hB4.mono HB2.out.size)).setCell (p := ⟨tb, fldO f, none⟩) (Nat.le_of_lt HZ.out.1) (.int .i64 (o.num f)))); clear hB4)
              | (go_at_call 42; refine (hIa _ HE5.out).mono ?_; rintro e w5 ⟨rfl, hB5⟩; have HB5 := Aside0.mk hB5; clear hB5))
            have HT5 := Aside0.mk ((HT4.out.setNum HTt.out (o.num f)).below HB5.out)
            obtain ⟨hf, hfm, hlt, hsp⟩ := HFI.out
            have hbt := body_take (o := o) hf
            have hct := copyAll_take (o := o) (t := t0) hf
            have hB4 := (HB2.out.trans (HB4.out.mono HB2.out.size)).setCell (p := ⟨tb, fldO f, none⟩) (Nat.le_of_lt HZ.out.1) (.int .i64 (o.num f))
            have hI3 := (Below.heap_setCell _ ⟨tb, fldO f, none⟩ (.int .i64 (o.num f)) (tb + 1) (show tb + 1 ≠ tb by omega)).trans ((HB4.out.block _ (blk_lt HI2.out)).trans HI2.out)
            have hI5 := (HB5.out.block _ (blk_lt hI3)).trans hI3
            refine ⟨⟨i + 1, ?_, hlt, ⟨?_⟩, ⟨hI5⟩, ⟨?_⟩, ⟨hB4.trans (HB5.out.mono hB4.size), (HO4.out.far (p := ⟨tb, fldO f, none⟩) (fun e => HZ.out.2 e.symm) (.int .i64 (o.num f))).below HB5.out⟩⟩, ?_⟩
            · rw [hbt, add_sp, List.append_assoc, show render o f = Lib.itoa (o.num f) from if_neg HTt.out]
            · rw [few_take hf, HN.out, decide_eq_true HFw.out]; simp
            · rw [hct]
              unfold OpV.copy
              rw [if_neg HTt.out]
              exact HT5.out
            · rw [strPos_of hI5, hsp]; omega
          · rw [decide_eq_false hfw] at hS
            have HFw := Aside0.mk hfw
            clear hfw hn
            go_wp2_with (first
              | (go_at_call 35; refine (hTx _).mono ?_; rintro e w1 ⟨rfl, rfl⟩)
              | (go_at_call 38; refine (hNm _ _).mono ?_; rintro e w1 ⟨rfl, rfl⟩)
              | (go_at_call 41; refine (hS _ HEW.out).mono ?_; rintro e w4 ⟨rfl, hB4⟩; have HB4 := Aside0.mk hB4; clear hB4))
            refine bodyPost_ret (v := .tuple #[.string ⟨#[]⟩, .int .i64 260]) (by simp [results, Tryz.f12, go_sem]) rfl ⟨?_, HB2.out.trans (HB4.out.mono HB2.out.size)⟩
            unfold printV printL
            rw [HKF.out]
            simp only
            rw [if_neg (fun h => few_bad HFI.out.2.1 HTt.out HFw.out h.1)]
      · have hnext : ∀ ty, (Instr.next (.pointer (some ⟨tb + 1, 0, none⟩)) true ty).run Tryz.prog wr = .ok (.tuple #[.bool false]) wr := fun ty =>
          Lib.run_next_end_at (P := Tryz.prog) wr (tb + 1) F i ty HI.out (by rw [← HFF.out, sB_size, List.length_map]; exact hlt)
        have hie : i = fs.length := by omega
        subst hie
        have hK := HKF.out
        rw [List.take_length] at HN HTold ⊢
        obtain ⟨t, ht⟩ : ∃ t, copyAll o fs t0 = t := ⟨_, rfl⟩
        rw [ht] at HTold
        obtain ⟨c0, c1, c2, c3, c4, c5, c6, c7⟩ := HTold.out.cells
        obtain ⟨d0, d1, d2, d3, d4, d5, d6, d7⟩ := HB.out.2.cells
        have HTE := Aside0.mk ht
        have HP := Aside0.mk (show printV o = if fewF o fs = true ∧ t = o then .tuple #[.string (sB (wd ++ body o fs)), .int .i64 0] else .tuple #[.string ⟨#[]⟩, .int .i64 260] by
          unfold printV printL
          rw [hK]
          simp only
          rw [HT0.out, ht]
          by_cases h : fewF o fs = true ∧ t = o
          · rw [if_pos h, if_pos h]
          · rw [if_neg h, if_neg h])
        clear hlt hi hsp hK ht
        by_cases he : t = o
        · subst he
          clear d0 d1 d2 d3 d4 d5 d6 d7
          obtain ⟨d0, d1, d2, d3, d4, d5, d6, d7⟩ := HB.out.2.cells
          go_wp2
          refine bodyPost_ret (v := .tuple #[.string (sB (wd ++ body t fs)), .int .i64 0]) (by simp [results, Tryz.f12, go_sem]) rfl ⟨?_, HB.out.1⟩
          rw [HP.out]
          simp [HN.out]
        · have HEq := Aside0.mk he
          clear he
          go_wp2
          all_goals first
            | (exfalso
               refine HEq.out (op_ext ?_ ?_ ?_ ?_ ?_ ?_ ?_ ?_) <;> assumption)
            | (refine bodyPost_ret (v := .tuple #[.string ⟨#[]⟩, .int .i64 260]) (by simp [results, Tryz.f12, go_sem]) rfl ⟨?_, HB.out.1⟩
               rw [HP.out, if_neg (fun h => HEq.out h.2)])
end Go.Proofs.YteglbmindbfkeaaGreatDoor.H
