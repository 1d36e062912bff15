/- The reference's ParseOp. Condition: the line is no longer than 2^35 bytes. -/
import Derived.Test.YteglbmindbfkeaaGreatDoorRq
namespace Go.Proofs.YteglbmindbfkeaaGreatDoor.H
open Go.RowKit Go.Proofs.YteglbmindbfkeaaGreatDoorW.PrintWords
set_option linter.unusedVariables false
set_option linter.unusedSimpArgs false
theorem prs_none {l x : Bs} {ws : List Bs} (hs : splL l = x :: ws) (h : wordOf x = none) : parseR l = none := by
  unfold parseR
  rw [hs]
  simp only
  rw [h]
theorem prs_len {l x : Bs} {ws : List Bs} {k : Nat} {fs : List Fld} (hs : splL l = x :: ws) (h : wordOf x = some (k, fs)) (hn : ¬ ws.length = fs.length) : parseR l = none := by
  unfold parseR
  rw [hs]
  simp only
  rw [h]
  simp only
  rw [if_neg hn]
theorem prs_some {l x : Bs} {ws : List Bs} {k : Nat} {fs : List Fld} (hs : splL l = x :: ws) (h : wordOf x = some (k, fs)) (hn : ws.length = fs.length) : parseR l = (readR fs ws { kind := k }).bind fun o => if printL o = some l then some o else none := by
  unfold parseR
  rw [hs]
  simp only
  rw [h]
  simp only
  rw [if_pos hn]
  cases readR fs ws { kind := k } <;> rfl
theorem fin_below {w wr : World} {tb g : Nat} {xs : List Bs} {t : OpV} (h : PzI w tb g xs t wr) (r : OpV) : Below w.heap.size w (stW wr w.heap.size r) ∧ OpAt (stW wr w.heap.size r) w.heap.size r :=
  ⟨below_stW h.bel (Nat.le_refl _) r, h.res.store r⟩
theorem eq_data (a b : Bs) (h : a = b) : ((sB a).toList == (sB b).toList) = true := by rw [eq_toList]; exact decide_eq_true h
theorem ne_data (a b : Bs) (h : a ≠ b) : ((sB a).toList == (sB b).toList) = false := by rw [eq_toList]; exact decide_eq_false h
set_option maxRecDepth 100000 in
set_option maxHeartbeats 8000000 in
theorem rparse_any (s : ByteArray) (w : World) (hs : s.size ≤ 34359738368) : Calls Tryz.prog 59 #[.string s] w fun e w' => e = .returned (parseV (parseR s.data.toList)) ∧ Below w.heap.size w w' := by
  have HS := Aside0.mk hs
  have hspl := fun W => rsplit_row s W hs
  obtain ⟨l, hl⟩ : ∃ l, s.data.toList = l := ⟨_, rfl⟩
  have hll : l.length = s.size := by rw [← hl, data_length]
  rw [hl] at hspl ⊢
  obtain ⟨xs, hxs⟩ : ∃ xs, splL l = xs := ⟨_, rfl⟩
  have hxl : ∀ x ∈ xs, x.length ≤ 34359738368 := fun x hx => by have := splL_len (hxs ▸ hx); omega
  have hxn : xs ≠ [] := hxs ▸ splR_some _ _ _
  rw [hxs] at hspl
  obtain ⟨x, ws, rfl⟩ : ∃ x ws, xs = x :: ws := by cases xs with | nil => exact absurd rfl hxn | cons x ws => exact ⟨x, ws, rfl⟩
  have HL := Aside0.mk hl
  have HXs := Aside0.mk hxs
  have HXl := Aside0.mk hxl
  have HLL := Aside0.mk hll
  obtain ⟨N, hN⟩ : ∃ N, (x :: ws).length = N := ⟨_, rfl⟩
  rw [hN] at hspl
  have hNs : N ≤ 34359738369 := by
    have h1 := splL_cnt l
    rw [hxs, hN] at h1
    omega
  have HN := Aside0.mk hN
  have HSpl := Aside0.mk hspl
  have hz0 := Aside0.mk (OpAt.new w {})
  clear hl hll hxs hxl hxn hN hspl
  go_enter Tryz.func59, Tryz.ntmps59
  go_wp2_with (go_at_call 31; refine (HSpl.out _).mono ?_; rintro e w1 ⟨g, c, rfl, hR, hg, hB⟩; have HR1 := Aside0.mk hR; have HB1 := Aside0.mk hB; have HG1 := Aside0.mk hg; clear hR hg hB)
  have hlt : w.heap.size < w1.heap.size := by have := HB1.out.size; simp at this; omega
  have HI0 := Aside0.mk (show PzI w w1.heap.size g (x :: ws) {} (w1.alloc (.cells (opC {}) 38)) from
    ⟨(hz0.out.below HB1.out).alloc _, OpAt.new w1 {}, HR1.out.alloc _, below_alloc ((below_alloc (Below.refl w.heap.size w) _).trans (HB1.out.mono (by simp))) _⟩)
  change Code.wp _ _ _ _ (w1.alloc (.cells (opC {}) 38))
  obtain ⟨W0, hW0⟩ : ∃ W0, w1.alloc (.cells (opC {}) 38) = W0 := ⟨_, rfl⟩
  rw [hW0] at HI0 ⊢
  obtain ⟨tb, htb⟩ : ∃ tb, w1.heap.size = tb := ⟨_, rfl⟩
  rw [htb] at HI0 hlt ⊢
  have HLt := Aside0.mk hlt
  have hN1 : (0 : Int) < (N : Int) := by rw [← HN.out, List.length_cons]; omega
  have hN2 : 0 < N := by omega
  clear hW0 htb hlt HG1 HB1 HR1 hz0
  go_loopw [6] (fun iv wr => ∃ i : Int, iv = .int .i64 i ∧ 1 ≤ i ∧ i ≤ 20 ∧ Aside0 (PzI w tb g (x :: ws) { kind := kdTo x (i - 1).toNat } wr)) (fun iv _ => (20 - intOf iv).toNat)
  case atStart => exact ⟨1, rfl, Int.le_refl _, by omega, HI0⟩
  case round =>
    obtain ⟨i, rfl, i0, i1, HI⟩ := hrel
    have w4 : wrap64 (i + 1) = i + 1 := by unfold wrap64; omega
    by_cases hlt : i ≤ 19
    · have hlt1 : decide (i ≤ 19) = true := decide_eq_true hlt
      have hc0 := HI.out.row.cell (j := 0) rfl
      have hnm := fun W => rname_any i W (by omega) (by omega)
      have HNm := Aside0.mk hnm
      have hij : (i + 1 - 1).toNat = (i - 1).toNat + 1 := by omega
      have HK := Aside0.mk (show kdTo x (i + 1 - 1).toNat = if x = nameL i then i else kdTo x (i - 1).toNat by rw [hij, kdTo, show (((i - 1).toNat : Nat) : Int) + 1 = i by omega])
      clear hnm hij
      by_cases hx : x = nameL i
      · have hxe := eq_data _ _ hx
        have HX := Aside0.mk hx
        clear hx
        go_wp2_with fail
        go_region_held3 (fun w' => w'.cell? ⟨g, 0, none⟩ = some (.string (sB x)) ∧ Below wr.heap.size wr w') (first | exact ⟨hc0, below_drew (Below.refl _ _)⟩ | exact ⟨cell_later hBn hc0, below_step (below_drew (Below.refl _ _)) hBn⟩) (first
          | (go_at_call 50; refine (HNm.out _).mono ?_; rintro e w' ⟨rfl, hBn⟩))
        all_goals
          rename_i hS9
          have HI9 := Aside0.mk (HI.out.below hS9.2)
          obtain ⟨d0, d1, d2, d3, d4, d5, d6, d7⟩ := HI9.out.op.cells
          obtain ⟨f0, f1, f2, f3, f4, f5, f6, f7⟩ := HI9.out.op.frozens
          clear hS9 hBn
          go_wp2
          refine ⟨⟨i + 1, rfl, by omega, by omega, ⟨?_⟩⟩, by simp [intOf]; omega⟩
          rw [HK.out, if_pos HX.out]
          exact HI9.out.kind HLt.out i
      · have hxe := ne_data _ _ hx
        have HX := Aside0.mk hx
        clear hx
        go_wp2_with fail
        go_region_held3 (fun w' => w'.cell? ⟨g, 0, none⟩ = some (.string (sB x)) ∧ Below wr.heap.size wr w') (first | exact ⟨hc0, below_drew (Below.refl _ _)⟩ | exact ⟨cell_later hBn hc0, below_step (below_drew (Below.refl _ _)) hBn⟩) (first
          | (go_at_call 50; refine (HNm.out _).mono ?_; rintro e w' ⟨rfl, hBn⟩))
        all_goals
          rename_i hS9
          have HI9 := Aside0.mk (HI.out.below hS9.2)
          clear hS9 hBn
          go_wp2
          refine ⟨⟨i + 1, rfl, by omega, by omega, ⟨?_⟩⟩, by simp [intOf]; omega⟩
          rw [HK.out, if_neg HX.out]
          exact HI9.out
    · have hlt1 : decide (i ≤ 19) = false := decide_eq_false hlt
      obtain rfl : i = 20 := by omega
      replace HI := Aside0.mk (show PzI w tb g (x :: ws) { kind := kdTo x 19 } wr from HI.out)
      clear hlt w4
      cases hW : wordOf x with
      | none =>
        rw [kdTo_none hW] at HI
        have HP := Aside0.mk (prs_none HXs.out hW)
        clear hW
        obtain ⟨c0, c1, c2, c3, c4, c5, c6, c7⟩ := HI.out.res.cells
        obtain ⟨e0, e1, e2, e3, e4, e5, e6, e7⟩ := HI.out.res.frozens
        obtain ⟨d0, d1, d2, d3, d4, d5, d6, d7⟩ := HI.out.op.cells
        go_wp2
        clear c0 c1 c2 c3 c4 c5 c6 c7 d0 d1 d2 d3 d4 d5 d6 d7 e0 e1 e2 e3 e4 e5 e6 e7
        change bodyPost _ _ _ _ _ (stW wr w.heap.size {})
        obtain ⟨c0, c1, c2, c3, c4, c5, c6, c7⟩ := (fin_below HI.out {}).2.cells
        refine bodyPost_ret (v := .tuple #[opV {}, .int .i64 260]) (by simp [results, Tryz.f59, go_sem, c0, c1, c2, c3, c4, c5, c6, c7]; rfl) rfl ⟨?_, (fin_below HI.out {}).1⟩
        rw [HP.out]
        rfl
      | some p =>
        obtain ⟨k, fs⟩ := p
        rw [kdTo_some hW] at HI
        have hkm := wordOf_mem hW
        have hK := (kinds_fields _ hkm).2.2.2.2
        have hk1 : 1 ≤ k ∧ k ≤ 19 := by
          have : ∀ e ∈ kinds, 1 ≤ e.1 ∧ e.1 ≤ 19 := by decide
          exact this _ hkm
        have hk0 : ((k : Int) == 0) = false := by simp; omega
        have hws := fun W => rwords_any (k : Int) W (by omega) (by omega)
        rw [fsL_some hK] at hws
        have HWs := Aside0.mk hws
        have hfl : fs.length ≤ 3 := (kinds_len _ hkm).1
        obtain ⟨M, hM⟩ : ∃ M, fs.length = M := ⟨_, rfl⟩
        rw [hM] at hfl
        have HM := Aside0.mk hM
        have HK := Aside0.mk hK
        have HW := Aside0.mk hW
        clear hK hkm hws hM hW
        by_cases hn : ws.length = fs.length
        · have heq : ((N : Int) != 1 + (M : Int)) = false := by
            have h1 := HN.out
            rw [List.length_cons] at h1
            have h2 := HM.out
            simp only [bne_eq_false_iff_eq]
            omega
          have HLn := Aside0.mk hn
          have hNM : (N : Int) = M + 1 := by
            have h1 := HN.out
            rw [List.length_cons] at h1
            have h2 := HM.out
            omega
          have HNM := Aside0.mk hNM
          obtain ⟨d0, d1, d2, d3, d4, d5, d6, d7⟩ := HI.out.op.cells
          clear hn hNM
          go_wp2_with (first
            | (go_at_call 51; refine (HWs.out _).mono ?_; rintro e w4 ⟨v4, rfl, hR, hB⟩; have HI4 := Aside0.mk (HI9.out.below hB); obtain ⟨A4, rfl⟩ := hR.slice; rw [HM.out] at hR; have HR4 := Aside0.mk hR; rw [HM.out]; clear hR hB HI9)
            | (go_at_call 51; refine (HWs.out _).mono ?_; rintro e w3 ⟨v3, rfl, hR, hB⟩; have HI9 := Aside0.mk (HI.out.below hB); obtain ⟨A3, rfl⟩ := hR.slice; rw [HM.out]; obtain ⟨d0, d1, d2, d3, d4, d5, d6, d7⟩ := HI9.out.op.cells; clear hR hB HI))
          have HT0 := Aside0.mk (show RdT 34359738368 (k : Int) ws fs { kind := k } { kind := k } 0 from ⟨rfl, ok_kind hk1.2, rfl⟩)
          clear d0 d1 d2 d3 d4 d5 d6 d7 heq hk0 HWs
          go_loopw [48] (fun iv wr => ∃ (i : Int) (t : OpV), iv = .int .i64 i ∧ 0 ≤ i ∧ i ≤ M ∧ Aside0 (RdT 34359738368 (k : Int) ws fs { kind := k } t i) ∧ Aside0 (PzI w tb g (x :: ws) t wr) ∧ Aside0 (FldRow wr (.slice A4 M M) fs)) (fun iv _ => (M - intOf iv).toNat)
          case atStart => exact ⟨0, _, rfl, Int.le_refl _, by omega, HT0, HI4, HR4⟩
          case round =>
            obtain ⟨i, t, rfl, i0, i1, HT, HI, HR⟩ := hrel
            have w4 : wrap64 (i + 1) = i + 1 := by unfold wrap64; omega
            by_cases hlt : i < (M : Int)
            · have hlt1 : decide (i < (M : Int)) = true := decide_eq_true hlt
              have hiN : i + 1 < (N : Int) := by have := HNM.out; omega
              obtain ⟨f, hf⟩ : ∃ f, fs[i.toNat]? = some f := ⟨_, List.getElem?_eq_getElem (by rw [HM.out]; omega)⟩
              obtain ⟨y, hy⟩ : ∃ y, ws[i.toNat]? = some y := ⟨_, List.getElem?_eq_getElem (by rw [HLn.out, HM.out]; omega)⟩
              obtain ⟨rb, rfl, hcF⟩ := HR.out.cell hf
              have hcS := HI.out.row.cell (j := (i + 1).toNat) (x := y) (by rw [show (i + 1).toNat = i.toNat + 1 by omega]; simpa using hy)
              have hyl : y.length ≤ 34359738368 := HXl.out y (List.mem_cons_of_mem _ (List.mem_of_getElem? hy))
              have hRd := fun W => rread_any y W hyl
              have hUq := fun W => runquote_any (sB y) W (by rw [sB_size]; exact hyl)
              have HF := Aside0.mk (And.intro hf hy)
              have HYl := Aside0.mk hyl
              clear hf hy hyl
              cases f with
              | H =>
                replace hcF : wr.cell? ⟨rb, i.toNat, none⟩ = some (.int .i64 1) := hcF
                obtain ⟨b2, ok2, hu⟩ := unqV_any y
                rw [hu] at hUq
                clear hu
                cases hN2 : refN y with
                | some m =>
                  rw [hN2] at hRd
                  have HT2 := Aside0.mk (HT.out.num i0 HF.out.1 HF.out.2 (f := .H) (by decide) hN2)
                  clear hN2
                  go_wp2_with (first
                    | (go_at_call 77; refine (hRd _).mono ?_; rintro e w9 ⟨hr9, rfl⟩; obtain rfl := RdN.some hr9; clear hr9)
                    | (go_at_call 78; refine (hUq _).mono ?_; rintro e w5 ⟨rfl, hB5⟩; have HI5 := Aside0.mk (HI.out.below hB5); have HR5 := Aside0.mk (HR.out.below hB5); obtain ⟨d0, d1, d2, d3, d4, d5, d6, d7⟩ := HI5.out.op.cells; obtain ⟨f0, f1, f2, f3, f4, f5, f6, f7⟩ := HI5.out.op.frozens; clear hB5))
                  exact ⟨⟨i + 1, _, rfl, by omega, by omega, HT2, ⟨HI5.out.num HLt.out (f := .H) (by decide) m⟩, ⟨HR5.out.set HI5.out.op⟩⟩, by simp [intOf]; omega⟩
                | none =>
                  rw [hN2] at hRd
                  have HP := Aside0.mk (show parseR l = none by rw [prs_some HXs.out HW.out HLn.out, HT.out.badN HF.out.1 HF.out.2 (f := .H) (by decide) hN2]; rfl)
                  clear hN2
                  go_wp2_with (first
                    | (go_at_call 77; refine (hRd _).mono ?_; rintro e w9 ⟨hr9, rfl⟩; obtain ⟨m, rfl⟩ := RdN.none hr9; clear hr9)
                    | (go_at_call 78; refine (hUq _).mono ?_; rintro e w5 ⟨rfl, hB5⟩; have HI5 := Aside0.mk (HI.out.below hB5); obtain ⟨c0, c1, c2, c3, c4, c5, c6, c7⟩ := HI5.out.res.cells; obtain ⟨e0, e1, e2, e3, e4, e5, e6, e7⟩ := HI5.out.res.frozens; clear hB5))
                  clear c0 c1 c2 c3 c4 c5 c6 c7 e0 e1 e2 e3 e4 e5 e6 e7
                  change bodyPost _ _ _ _ _ (stW w5 w.heap.size {})
                  obtain ⟨c0, c1, c2, c3, c4, c5, c6, c7⟩ := (fin_below HI5.out {}).2.cells
                  refine bodyPost_ret (v := .tuple #[opV {}, .int .i64 260]) (by simp [results, Tryz.f59, go_sem, c0, c1, c2, c3, c4, c5, c6, c7]; rfl) rfl ⟨?_, (fin_below HI5.out {}).1⟩
                  rw [HP.out]
                  rfl
              | O =>
                replace hcF : wr.cell? ⟨rb, i.toNat, none⟩ = some (.int .i64 2) := hcF
                obtain ⟨b2, ok2, hu⟩ := unqV_any y
                rw [hu] at hUq
                clear hu
                cases hN2 : refN y with
                | some m =>
                  rw [hN2] at hRd
                  have HT2 := Aside0.mk (HT.out.num i0 HF.out.1 HF.out.2 (f := .O) (by decide) hN2)
                  clear hN2
                  go_wp2_with (first
                    | (go_at_call 77; refine (hRd _).mono ?_; rintro e w9 ⟨hr9, rfl⟩; obtain rfl := RdN.some hr9; clear hr9)
                    | (go_at_call 78; refine (hUq _).mono ?_; rintro e w5 ⟨rfl, hB5⟩; have HI5 := Aside0.mk (HI.out.below hB5); have HR5 := Aside0.mk (HR.out.below hB5); obtain ⟨d0, d1, d2, d3, d4, d5, d6, d7⟩ := HI5.out.op.cells; obtain ⟨f0, f1, f2, f3, f4, f5, f6, f7⟩ := HI5.out.op.frozens; clear hB5))
                  exact ⟨⟨i + 1, _, rfl, by omega, by omega, HT2, ⟨HI5.out.num HLt.out (f := .O) (by decide) m⟩, ⟨HR5.out.set HI5.out.op⟩⟩, by simp [intOf]; omega⟩
                | none =>
                  rw [hN2] at hRd
                  have HP := Aside0.mk (show parseR l = none by rw [prs_some HXs.out HW.out HLn.out, HT.out.badN HF.out.1 HF.out.2 (f := .O) (by decide) hN2]; rfl)
                  clear hN2
                  go_wp2_with (first
                    | (go_at_call 77; refine (hRd _).mono ?_; rintro e w9 ⟨hr9, rfl⟩; obtain ⟨m, rfl⟩ := RdN.none hr9; clear hr9)
                    | (go_at_call 78; refine (hUq _).mono ?_; rintro e w5 ⟨rfl, hB5⟩; have HI5 := Aside0.mk (HI.out.below hB5); obtain ⟨c0, c1, c2, c3, c4, c5, c6, c7⟩ := HI5.out.res.cells; obtain ⟨e0, e1, e2, e3, e4, e5, e6, e7⟩ := HI5.out.res.frozens; clear hB5))
                  clear c0 c1 c2 c3 c4 c5 c6 c7 e0 e1 e2 e3 e4 e5 e6 e7
                  change bodyPost _ _ _ _ _ (stW w5 w.heap.size {})
                  obtain ⟨c0, c1, c2, c3, c4, c5, c6, c7⟩ := (fin_below HI5.out {}).2.cells
                  refine bodyPost_ret (v := .tuple #[opV {}, .int .i64 260]) (by simp [results, Tryz.f59, go_sem, c0, c1, c2, c3, c4, c5, c6, c7]; rfl) rfl ⟨?_, (fin_below HI5.out {}).1⟩
                  rw [HP.out]
                  rfl
              | N =>
                replace hcF : wr.cell? ⟨rb, i.toNat, none⟩ = some (.int .i64 3) := hcF
                obtain ⟨b2, ok2, hu⟩ := unqV_any y
                rw [hu] at hUq
                clear hu
                cases hN2 : refN y with
                | some m =>
                  rw [hN2] at hRd
                  have HT2 := Aside0.mk (HT.out.num i0 HF.out.1 HF.out.2 (f := .N) (by decide) hN2)
                  clear hN2
                  go_wp2_with (first
                    | (go_at_call 77; refine (hRd _).mono ?_; rintro e w9 ⟨hr9, rfl⟩; obtain rfl := RdN.some hr9; clear hr9)
                    | (go_at_call 78; refine (hUq _).mono ?_; rintro e w5 ⟨rfl, hB5⟩; have HI5 := Aside0.mk (HI.out.below hB5); have HR5 := Aside0.mk (HR.out.below hB5); obtain ⟨d0, d1, d2, d3, d4, d5, d6, d7⟩ := HI5.out.op.cells; obtain ⟨f0, f1, f2, f3, f4, f5, f6, f7⟩ := HI5.out.op.frozens; clear hB5))
                  exact ⟨⟨i + 1, _, rfl, by omega, by omega, HT2, ⟨HI5.out.num HLt.out (f := .N) (by decide) m⟩, ⟨HR5.out.set HI5.out.op⟩⟩, by simp [intOf]; omega⟩
                | none =>
                  rw [hN2] at hRd
                  have HP := Aside0.mk (show parseR l = none by rw [prs_some HXs.out HW.out HLn.out, HT.out.badN HF.out.1 HF.out.2 (f := .N) (by decide) hN2]; rfl)
                  clear hN2
                  go_wp2_with (first
                    | (go_at_call 77; refine (hRd _).mono ?_; rintro e w9 ⟨hr9, rfl⟩; obtain ⟨m, rfl⟩ := RdN.none hr9; clear hr9)
                    | (go_at_call 78; refine (hUq _).mono ?_; rintro e w5 ⟨rfl, hB5⟩; have HI5 := Aside0.mk (HI.out.below hB5); obtain ⟨c0, c1, c2, c3, c4, c5, c6, c7⟩ := HI5.out.res.cells; obtain ⟨e0, e1, e2, e3, e4, e5, e6, e7⟩ := HI5.out.res.frozens; clear hB5))
                  clear c0 c1 c2 c3 c4 c5 c6 c7 e0 e1 e2 e3 e4 e5 e6 e7
                  change bodyPost _ _ _ _ _ (stW w5 w.heap.size {})
                  obtain ⟨c0, c1, c2, c3, c4, c5, c6, c7⟩ := (fin_below HI5.out {}).2.cells
                  refine bodyPost_ret (v := .tuple #[opV {}, .int .i64 260]) (by simp [results, Tryz.f59, go_sem, c0, c1, c2, c3, c4, c5, c6, c7]; rfl) rfl ⟨?_, (fin_below HI5.out {}).1⟩
                  rw [HP.out]
                  rfl
              | F =>
                replace hcF : wr.cell? ⟨rb, i.toNat, none⟩ = some (.int .i64 4) := hcF
                obtain ⟨b2, ok2, hu⟩ := unqV_any y
                rw [hu] at hUq
                clear hu
                cases hN2 : refN y with
                | some m =>
                  rw [hN2] at hRd
                  have HT2 := Aside0.mk (HT.out.num i0 HF.out.1 HF.out.2 (f := .F) (by decide) hN2)
                  clear hN2
                  go_wp2_with (first
                    | (go_at_call 77; refine (hRd _).mono ?_; rintro e w9 ⟨hr9, rfl⟩; obtain rfl := RdN.some hr9; clear hr9)
                    | (go_at_call 78; refine (hUq _).mono ?_; rintro e w5 ⟨rfl, hB5⟩; have HI5 := Aside0.mk (HI.out.below hB5); have HR5 := Aside0.mk (HR.out.below hB5); obtain ⟨d0, d1, d2, d3, d4, d5, d6, d7⟩ := HI5.out.op.cells; obtain ⟨f0, f1, f2, f3, f4, f5, f6, f7⟩ := HI5.out.op.frozens; clear hB5))
                  exact ⟨⟨i + 1, _, rfl, by omega, by omega, HT2, ⟨HI5.out.num HLt.out (f := .F) (by decide) m⟩, ⟨HR5.out.set HI5.out.op⟩⟩, by simp [intOf]; omega⟩
                | none =>
                  rw [hN2] at hRd
                  have HP := Aside0.mk (show parseR l = none by rw [prs_some HXs.out HW.out HLn.out, HT.out.badN HF.out.1 HF.out.2 (f := .F) (by decide) hN2]; rfl)
                  clear hN2
                  go_wp2_with (first
                    | (go_at_call 77; refine (hRd _).mono ?_; rintro e w9 ⟨hr9, rfl⟩; obtain ⟨m, rfl⟩ := RdN.none hr9; clear hr9)
                    | (go_at_call 78; refine (hUq _).mono ?_; rintro e w5 ⟨rfl, hB5⟩; have HI5 := Aside0.mk (HI.out.below hB5); obtain ⟨c0, c1, c2, c3, c4, c5, c6, c7⟩ := HI5.out.res.cells; obtain ⟨e0, e1, e2, e3, e4, e5, e6, e7⟩ := HI5.out.res.frozens; clear hB5))
                  clear c0 c1 c2 c3 c4 c5 c6 c7 e0 e1 e2 e3 e4 e5 e6 e7
                  change bodyPost _ _ _ _ _ (stW w5 w.heap.size {})
                  obtain ⟨c0, c1, c2, c3, c4, c5, c6, c7⟩ := (fin_below HI5.out {}).2.cells
                  refine bodyPost_ret (v := .tuple #[opV {}, .int .i64 260]) (by simp [results, Tryz.f59, go_sem, c0, c1, c2, c3, c4, c5, c6, c7]; rfl) rfl ⟨?_, (fin_below HI5.out {}).1⟩
                  rw [HP.out]
                  rfl
              | P =>
                replace hcF : wr.cell? ⟨rb, i.toNat, none⟩ = some (.int .i64 5) := hcF
                unfold RdN at hRd
                cases hN2 : unqL y with
                | some b =>
                  rw [unqV_some hN2] at hUq
                  have HT2 := Aside0.mk (HT.out.txt i0 HF.out.1 HF.out.2 (f := .P) rfl hN2 HYl.out)
                  clear hN2
                  go_wp2_with (first
                    | (go_at_call 77; refine (hRd _).mono ?_; rintro e w9 ⟨⟨m, ok2, rfl, -, -, -, -⟩, rfl⟩)
                    | (go_at_call 78; refine (hUq _).mono ?_; rintro e w5 ⟨rfl, hB5⟩; have HI5 := Aside0.mk (HI.out.below hB5); have HR5 := Aside0.mk (HR.out.below hB5); obtain ⟨d0, d1, d2, d3, d4, d5, d6, d7⟩ := HI5.out.op.cells; obtain ⟨f0, f1, f2, f3, f4, f5, f6, f7⟩ := HI5.out.op.frozens; clear hB5))
                  exact ⟨⟨i + 1, _, rfl, by omega, by omega, HT2, ⟨HI5.out.txt HLt.out (f := .P) rfl b⟩, ⟨HR5.out.set HI5.out.op⟩⟩, by simp [intOf]; omega⟩
                | none =>
                  obtain ⟨b2, hu⟩ := unqV_none hN2
                  rw [hu] at hUq
                  have HP := Aside0.mk (show parseR l = none by rw [prs_some HXs.out HW.out HLn.out, HT.out.badT HF.out.1 HF.out.2 (f := .P) rfl hN2]; rfl)
                  clear hN2 hu
                  go_wp2_with (first
                    | (go_at_call 77; refine (hRd _).mono ?_; rintro e w9 ⟨⟨m, ok2, rfl, -, -, -, -⟩, rfl⟩)
                    | (go_at_call 78; refine (hUq _).mono ?_; rintro e w5 ⟨rfl, hB5⟩; have HI5 := Aside0.mk (HI.out.below hB5); obtain ⟨c0, c1, c2, c3, c4, c5, c6, c7⟩ := HI5.out.res.cells; obtain ⟨e0, e1, e2, e3, e4, e5, e6, e7⟩ := HI5.out.res.frozens; clear hB5))
                  clear c0 c1 c2 c3 c4 c5 c6 c7 e0 e1 e2 e3 e4 e5 e6 e7
                  change bodyPost _ _ _ _ _ (stW w5 w.heap.size {})
                  obtain ⟨c0, c1, c2, c3, c4, c5, c6, c7⟩ := (fin_below HI5.out {}).2.cells
                  refine bodyPost_ret (v := .tuple #[opV {}, .int .i64 260]) (by simp [results, Tryz.f59, go_sem, c0, c1, c2, c3, c4, c5, c6, c7]; rfl) rfl ⟨?_, (fin_below HI5.out {}).1⟩
                  rw [HP.out]
                  rfl
              | Q =>
                replace hcF : wr.cell? ⟨rb, i.toNat, none⟩ = some (.int .i64 6) := hcF
                unfold RdN at hRd
                cases hN2 : unqL y with
                | some b =>
                  rw [unqV_some hN2] at hUq
                  have HT2 := Aside0.mk (HT.out.txt i0 HF.out.1 HF.out.2 (f := .Q) rfl hN2 HYl.out)
                  clear hN2
                  go_wp2_with (first
                    | (go_at_call 77; refine (hRd _).mono ?_; rintro e w9 ⟨⟨m, ok2, rfl, -, -, -, -⟩, rfl⟩)
                    | (go_at_call 78; refine (hUq _).mono ?_; rintro e w5 ⟨rfl, hB5⟩; have HI5 := Aside0.mk (HI.out.below hB5); have HR5 := Aside0.mk (HR.out.below hB5); obtain ⟨d0, d1, d2, d3, d4, d5, d6, d7⟩ := HI5.out.op.cells; obtain ⟨f0, f1, f2, f3, f4, f5, f6, f7⟩ := HI5.out.op.frozens; clear hB5))
                  exact ⟨⟨i + 1, _, rfl, by omega, by omega, HT2, ⟨HI5.out.txt HLt.out (f := .Q) rfl b⟩, ⟨HR5.out.set HI5.out.op⟩⟩, by simp [intOf]; omega⟩
                | none =>
                  obtain ⟨b2, hu⟩ := unqV_none hN2
                  rw [hu] at hUq
                  have HP := Aside0.mk (show parseR l = none by rw [prs_some HXs.out HW.out HLn.out, HT.out.badT HF.out.1 HF.out.2 (f := .Q) rfl hN2]; rfl)
                  clear hN2 hu
                  go_wp2_with (first
                    | (go_at_call 77; refine (hRd _).mono ?_; rintro e w9 ⟨⟨m, ok2, rfl, -, -, -, -⟩, rfl⟩)
                    | (go_at_call 78; refine (hUq _).mono ?_; rintro e w5 ⟨rfl, hB5⟩; have HI5 := Aside0.mk (HI.out.below hB5); obtain ⟨c0, c1, c2, c3, c4, c5, c6, c7⟩ := HI5.out.res.cells; obtain ⟨e0, e1, e2, e3, e4, e5, e6, e7⟩ := HI5.out.res.frozens; clear hB5))
                  clear c0 c1 c2 c3 c4 c5 c6 c7 e0 e1 e2 e3 e4 e5 e6 e7
                  change bodyPost _ _ _ _ _ (stW w5 w.heap.size {})
                  obtain ⟨c0, c1, c2, c3, c4, c5, c6, c7⟩ := (fin_below HI5.out {}).2.cells
                  refine bodyPost_ret (v := .tuple #[opV {}, .int .i64 260]) (by simp [results, Tryz.f59, go_sem, c0, c1, c2, c3, c4, c5, c6, c7]; rfl) rfl ⟨?_, (fin_below HI5.out {}).1⟩
                  rw [HP.out]
                  rfl
              | D =>
                replace hcF : wr.cell? ⟨rb, i.toNat, none⟩ = some (.int .i64 7) := hcF
                unfold RdN at hRd
                cases hN2 : unqL y with
                | some b =>
                  rw [unqV_some hN2] at hUq
                  have HT2 := Aside0.mk (HT.out.txt i0 HF.out.1 HF.out.2 (f := .D) rfl hN2 HYl.out)
                  clear hN2
                  go_wp2_with (first
                    | (go_at_call 77; refine (hRd _).mono ?_; rintro e w9 ⟨⟨m, ok2, rfl, -, -, -, -⟩, rfl⟩)
                    | (go_at_call 78; refine (hUq _).mono ?_; rintro e w5 ⟨rfl, hB5⟩; have HI5 := Aside0.mk (HI.out.below hB5); have HR5 := Aside0.mk (HR.out.below hB5); obtain ⟨d0, d1, d2, d3, d4, d5, d6, d7⟩ := HI5.out.op.cells; obtain ⟨f0, f1, f2, f3, f4, f5, f6, f7⟩ := HI5.out.op.frozens; clear hB5))
                  exact ⟨⟨i + 1, _, rfl, by omega, by omega, HT2, ⟨HI5.out.txt HLt.out (f := .D) rfl b⟩, ⟨HR5.out.set HI5.out.op⟩⟩, by simp [intOf]; omega⟩
                | none =>
                  obtain ⟨b2, hu⟩ := unqV_none hN2
                  rw [hu] at hUq
                  have HP := Aside0.mk (show parseR l = none by rw [prs_some HXs.out HW.out HLn.out, HT.out.badT HF.out.1 HF.out.2 (f := .D) rfl hN2]; rfl)
                  clear hN2 hu
                  go_wp2_with (first
                    | (go_at_call 77; refine (hRd _).mono ?_; rintro e w9 ⟨⟨m, ok2, rfl, -, -, -, -⟩, rfl⟩)
                    | (go_at_call 78; refine (hUq _).mono ?_; rintro e w5 ⟨rfl, hB5⟩; have HI5 := Aside0.mk (HI.out.below hB5); obtain ⟨c0, c1, c2, c3, c4, c5, c6, c7⟩ := HI5.out.res.cells; obtain ⟨e0, e1, e2, e3, e4, e5, e6, e7⟩ := HI5.out.res.frozens; clear hB5))
                  clear c0 c1 c2 c3 c4 c5 c6 c7 e0 e1 e2 e3 e4 e5 e6 e7
                  change bodyPost _ _ _ _ _ (stW w5 w.heap.size {})
                  obtain ⟨c0, c1, c2, c3, c4, c5, c6, c7⟩ := (fin_below HI5.out {}).2.cells
                  refine bodyPost_ret (v := .tuple #[opV {}, .int .i64 260]) (by simp [results, Tryz.f59, go_sem, c0, c1, c2, c3, c4, c5, c6, c7]; rfl) rfl ⟨?_, (fin_below HI5.out {}).1⟩
                  rw [HP.out]
                  rfl
            · have hlt1 : decide (i < (M : Int)) = false := decide_eq_false hlt
              have hrr := HT.out.last (by rw [HM.out]; omega)
              have hpr := prs_some HXs.out HW.out HLn.out
              rw [hrr] at hpr
              have hpr : parseR l = if printL t = some l then some t else none := hpr
              have hPr := fun W => rprint_any t W HT.out.ok
              unfold opV opC at hPr
              have hsl : s = sB l := by rw [← HL.out, data_sB]
              obtain ⟨d0, d1, d2, d3, d4, d5, d6, d7⟩ := HI.out.op.cells
              clear hrr hlt i0 i1 w4
              cases hq : printL t with
              | none =>
                rw [hq] at hpr
                rw [printV_none hq] at hPr
                have HP := Aside0.mk hpr
                clear hpr hq hsl
                go_wp2_with (go_at_call 24; refine (hPr _).mono ?_; rintro e w5 ⟨rfl, hB5⟩; have HI5 := Aside0.mk (HI.out.below hB5); obtain ⟨c0, c1, c2, c3, c4, c5, c6, c7⟩ := HI5.out.res.cells; obtain ⟨e0, e1, e2, e3, e4, e5, e6, e7⟩ := HI5.out.res.frozens; clear hB5)
                clear c0 c1 c2 c3 c4 c5 c6 c7 e0 e1 e2 e3 e4 e5 e6 e7 d0 d1 d2 d3 d4 d5 d6 d7
                change bodyPost _ _ _ _ _ (stW w5 w.heap.size {})
                obtain ⟨c0, c1, c2, c3, c4, c5, c6, c7⟩ := (fin_below HI5.out {}).2.cells
                refine bodyPost_ret (v := .tuple #[opV {}, .int .i64 260]) (by simp [results, Tryz.f59, go_sem, c0, c1, c2, c3, c4, c5, c6, c7]; rfl) rfl ⟨?_, (fin_below HI5.out {}).1⟩
                rw [HP.out]
                rfl
              | some q =>
                rw [hq] at hpr
                rw [printV_some hq] at hPr
                by_cases hql : q = l
                · subst hql
                  rw [if_pos rfl] at hpr
                  have hqe : ((sB q).toList == s.toList) = true := by rw [hsl]; exact eq_data _ _ rfl
                  have HP := Aside0.mk hpr
                  clear hpr hq hsl
                  go_wp2_with (go_at_call 24; refine (hPr _).mono ?_; rintro e w5 ⟨rfl, hB5⟩; have HI5 := Aside0.mk (HI.out.below hB5); clear d0 d1 d2 d3 d4 d5 d6 d7; obtain ⟨d0, d1, d2, d3, d4, d5, d6, d7⟩ := HI5.out.op.cells; obtain ⟨c0, c1, c2, c3, c4, c5, c6, c7⟩ := HI5.out.res.cells; obtain ⟨e0, e1, e2, e3, e4, e5, e6, e7⟩ := HI5.out.res.frozens; clear hB5)
                  clear c0 c1 c2 c3 c4 c5 c6 c7 e0 e1 e2 e3 e4 e5 e6 e7 d0 d1 d2 d3 d4 d5 d6 d7
                  change bodyPost _ _ _ _ _ (stW w5 w.heap.size t)
                  obtain ⟨c0, c1, c2, c3, c4, c5, c6, c7⟩ := (fin_below HI5.out t).2.cells
                  refine bodyPost_ret (v := .tuple #[opV t, .int .i64 0]) (by simp [results, Tryz.f59, go_sem, c0, c1, c2, c3, c4, c5, c6, c7]; rfl) rfl ⟨?_, (fin_below HI5.out t).1⟩
                  rw [HP.out]
                  rfl
                · rw [if_neg (fun h => hql (Option.some.inj h))] at hpr
                  have hqe : ((sB q).toList == s.toList) = false := by rw [hsl]; exact ne_data _ _ hql
                  have HP := Aside0.mk hpr
                  clear hpr hq hsl hql
                  go_wp2_with (go_at_call 24; refine (hPr _).mono ?_; rintro e w5 ⟨rfl, hB5⟩; have HI5 := Aside0.mk (HI.out.below hB5); obtain ⟨c0, c1, c2, c3, c4, c5, c6, c7⟩ := HI5.out.res.cells; obtain ⟨e0, e1, e2, e3, e4, e5, e6, e7⟩ := HI5.out.res.frozens; clear hB5)
                  clear c0 c1 c2 c3 c4 c5 c6 c7 e0 e1 e2 e3 e4 e5 e6 e7 d0 d1 d2 d3 d4 d5 d6 d7
                  change bodyPost _ _ _ _ _ (stW w5 w.heap.size {})
                  obtain ⟨c0, c1, c2, c3, c4, c5, c6, c7⟩ := (fin_below HI5.out {}).2.cells
                  refine bodyPost_ret (v := .tuple #[opV {}, .int .i64 260]) (by simp [results, Tryz.f59, go_sem, c0, c1, c2, c3, c4, c5, c6, c7]; rfl) rfl ⟨?_, (fin_below HI5.out {}).1⟩
                  rw [HP.out]
                  rfl
        · have HP := Aside0.mk (prs_len HXs.out HW.out hn)
          have hne : ((N : Int) != 1 + (M : Int)) = true := by
            have h1 := HN.out
            rw [List.length_cons] at h1
            have h2 := HM.out
            simp only [bne_iff_ne, ne_eq]
            omega
          obtain ⟨d0, d1, d2, d3, d4, d5, d6, d7⟩ := HI.out.op.cells
          clear hn
          go_wp2_with (go_at_call 51; refine (HWs.out _).mono ?_; rintro e w3 ⟨v3, rfl, hR, hB⟩; have HI9 := Aside0.mk (HI.out.below hB); obtain ⟨A3, rfl⟩ := hR.slice; rw [HM.out]; obtain ⟨c0, c1, c2, c3, c4, c5, c6, c7⟩ := HI9.out.res.cells; obtain ⟨e0, e1, e2, e3, e4, e5, e6, e7⟩ := HI9.out.res.frozens; clear hR hB)
          clear c0 c1 c2 c3 c4 c5 c6 c7 d0 d1 d2 d3 d4 d5 d6 d7 e0 e1 e2 e3 e4 e5 e6 e7
          change bodyPost _ _ _ _ _ (stW w3 w.heap.size {})
          obtain ⟨c0, c1, c2, c3, c4, c5, c6, c7⟩ := (fin_below HI9.out {}).2.cells
          refine bodyPost_ret (v := .tuple #[opV {}, .int .i64 260]) (by simp [results, Tryz.f59, go_sem, c0, c1, c2, c3, c4, c5, c6, c7]; rfl) rfl ⟨?_, (fin_below HI9.out {}).1⟩
          rw [HP.out]
          rfl
end Go.Proofs.YteglbmindbfkeaaGreatDoor.H
