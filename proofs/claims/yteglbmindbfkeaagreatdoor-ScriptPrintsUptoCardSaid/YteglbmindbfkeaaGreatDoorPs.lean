/- ParseOp of the program as a contract: a word that is known. -/
import Derived.Test.YteglbmindbfkeaaGreatDoorPq
import Derived.Lib.OthersKept
namespace Go.Proofs.YteglbmindbfkeaaGreatDoor.H
open Go.RowKit Go.Proofs.YteglbmindbfkeaaGreatDoorW.PrintWords
set_option linter.unusedVariables false
set_option linter.unusedSimpArgs false

theorem ext_drop (s : ByteArray) (n : Nat) : s.extract n s.size = sB (s.data.toList.drop n) := by
  rw [← data_sB (s.extract n s.size)]
  congr 1
  rw [ByteArray.data_extract, Array.toList_extract]
  show List.take _ (List.drop _ _) = _
  rw [List.take_of_length_le]
  rw [List.length_drop, data_length]
  exact Nat.le_refl _
theorem parseF_32 {f : Fld} {fs : List Fld} {r : Bs} {t : OpV} : parseF (f :: fs) (32 :: r) t = if f.isText then (match takeL r with
    | some (b, r') => parseF fs r' (t.setTxt f b)
    | none => none) else (match numL (word r) with
    | some n => parseF fs (r.drop (word r).length) (t.setNum f n)
    | none => none) := by
  rw [parseF, if_pos rfl]
  cases takeL r <;> cases numL (word r) <;> rfl
theorem parseF_bad {f : Fld} {fs : List Fld} {r : Bs} {t : OpV} (h : ¬ r.head? = some 32) : parseF (f :: fs) r t = none := by
  cases r with
  | nil => rfl
  | cons c r => rw [parseF, if_neg (fun e => h (by rw [e]; rfl))]
theorem word_len (l : Bs) : (word l).length ≤ l.length := (List.takeWhile_sublist _).length_le
set_option maxRecDepth 100000 in
set_option maxHeartbeats 4000000 in
theorem pparse_some (s : ByteArray) (w : World) (hE : Env w) (hs : s.size ≤ 34359738368) {k : Nat} {fs : List Fld} (hW : wordOf (word s.data.toList) = some (k, fs)) : Calls Tryz.prog 11 #[.string s] w fun e w' => e = .returned (parseV (parseL s.data.toList)) ∧ Below w.heap.size w w' := by
  have HE := Aside0.mk hE
  have HS := Aside0.mk hs
  clear hE
  have hCt := fun W => cut_any s W hs
  unfold CutP at hCt
  obtain ⟨l, hl⟩ : ∃ l, s.data.toList = l := ⟨_, rfl⟩
  rw [hl] at hCt hW ⊢
  obtain ⟨T, hT⟩ : ∃ T, sB (word l) = T := ⟨_, rfl⟩
  rw [hT] at hCt
  have hTs : T.size ≤ s.size := by
    rw [← hT, sB_size, ← data_length, hl]
    exact (List.takeWhile_sublist _).length_le
  have HL := Aside0.mk (And.intro hl hT)
  clear hl
  have hz0 : OpAt (w.alloc (.cells (opC {}) 38)) w.heap.size {} := OpAt.new w {}
  have hlk : ∀ W r, MapIs W r 19 → (Instr.lookup 79 (.map (some r)) (.string T) true).run Tryz.prog W = .ok (.tuple #[.agg #[.int .i64 k, .string (sB (fs.map fldB))], .bool true]) W := fun W r h => by
    have := look_any h (word l)
    unfold lookV at this
    rw [hW, hT] at this
    exact this
  obtain ⟨F, hF⟩ : ∃ F, sB (fs.map fldB) = F := ⟨_, rfl⟩
  rw [hF] at hlk
  have HW := Aside0.mk (And.intro hW hF)
  clear hW hT hF
  have hZ := Aside0.mk hz0
  clear hz0
  go_enter Tryz.func11, Tryz.ntmps11
  go_wp2_with (first
    | (go_at_call 25; refine (hCt _).mono ?_; rintro e w1 ⟨⟨x, ok, rfl⟩, hB⟩; have HB1 := Aside0.mk hB; clear hB)
    | (go_at_call 33; refine (forms_any _).mono ?_; rintro e w2 ⟨rfl, hM, hB⟩; have HB2 := Aside0.mk hB; have hlk2 := hlk _ _ hM; have hZ2 := Aside0.mk (((hZ.out.below HB1.out).below hB).alloc (.cells #[.int .i64 k, .string F] 77)); have cf1 := (blk_cell (blk_new w2 (.cells #[.int .i64 k, .string F] 77)) 0); have cf2 := (blk_cell (blk_new w2 (.cells #[.int .i64 k, .string F] 77)) 1); clear hB hM))
  obtain ⟨hl, hT⟩ := HL.out
  have hx0 : s.extract T.size s.size = sB (l.drop (word l).length) := by rw [ext_drop, hl, ← hT, sB_size]
  have hrl : (l.drop (word l).length).length ≤ s.size := by rw [List.length_drop, ← data_length, hl]; omega
  rw [hx0]
  obtain ⟨t0, ht0⟩ : ∃ t0 : OpV, ({ kind := (k : Int) } : OpV) = t0 := ⟨_, rfl⟩
  have hR : parseF fs (l.drop (word l).length) t0 = parseL l := by
    unfold parseL
    rw [HW.out.1, ← ht0]
  have ha2 : OpAt ((w2.alloc (.cells #[.int .i64 k, .string F] 77)).alloc (.cells #[.int .i64 k, .string ⟨#[]⟩, .string ⟨#[]⟩, .int .i64 0, .int .i64 0, .int .i64 0, .int .i64 0, .string ⟨#[]⟩] 38)) (w2.heap.size + 1) t0 := by
    rw [← ht0, show w2.heap.size + 1 = (w2.alloc (.cells #[.int .i64 k, .string F] 77)).heap.size from by simp]
    exact OpAt.new (w2.alloc (.cells #[.int .i64 k, .string F] 77)) { kind := k }
  have ha1 := hZ2.out.alloc (.cells #[.int .i64 k, .string ⟨#[]⟩, .string ⟨#[]⟩, .int .i64 0, .int .i64 0, .int .i64 0, .int .i64 0, .string ⟨#[]⟩] 38)
  have hb1 := below_alloc (below_alloc (((below_alloc (Below.refl w.heap.size w) _).trans (HB1.out.mono (by simp))).trans (HB2.out.mono (by have := HB1.out.size; simp at this; omega))) (.cells #[.int .i64 k, .string F] 77)) (.cells #[.int .i64 k, .string ⟨#[]⟩, .string ⟨#[]⟩, .int .i64 0, .int .i64 0, .int .i64 0, .int .i64 0, .string ⟨#[]⟩] 38)
  have hz : ((w2.alloc (.cells #[.int .i64 k, .string F] 77)).alloc (.cells #[.int .i64 k, .string ⟨#[]⟩, .string ⟨#[]⟩, .int .i64 0, .int .i64 0, .int .i64 0, .int .i64 0, .string ⟨#[]⟩] 38)).heap.size = w2.heap.size + 1 + 1 := by simp
  have hz1 := hZ2.out.lt
  have hz2 : (w2.alloc (.cells #[.int .i64 k, .string F] 77)).heap.size = w2.heap.size + 1 := by simp
  have hz3 : w.heap.size < w2.heap.size := by
    have h1 := HB1.out.size
    have h2 := HB2.out.size
    simp at h1
    omega
  rw [hz2] at hz1
  obtain ⟨W0, hW0⟩ : ∃ W0, (w2.alloc (.cells #[.int .i64 k, .string F] 77)).alloc (.cells #[.int .i64 k, .string ⟨#[]⟩, .string ⟨#[]⟩, .int .i64 0, .int .i64 0, .int .i64 0, .int .i64 0, .string ⟨#[]⟩] 38) = W0 := ⟨_, rfl⟩
  rw [hW0] at ha2 ha1 hb1 hz ⊢
  obtain ⟨tb, htb⟩ : ∃ tb, w2.heap.size + 1 = tb := ⟨_, rfl⟩
  have hz4 : w.heap.size < tb := by omega
  rw [htb] at ha2 hz hz1 ⊢
  have hit : (W0.alloc (.stringIter F 0)).heap[tb + 1]? = some (.stringIter F 0) := by rw [← hz]; exact blk_new W0 _
  have hob : w.heap.size ≠ tb := by omega
  have HA2 := Aside0.mk (And.intro ha2 (And.intro ha1 hb1))
  have HIt := Aside0.mk hit
  have HZ := Aside0.mk (And.intro hz4 hob)
  have HFF := Aside0.mk HW.out.2
  have HR := Aside0.mk hR
  have HRl := Aside0.mk hrl
  clear ha2 ha1 hb1 hit hz hz1 hz2 hz3 hz4 hob hW0 cf1 cf2 htb hlk hlk2 ht0 HB1 HB2 hZ2 hZ hx0 hT hrl hR hCt hTs HL hl HW
  go_loopw [5] (fun v wr => ∃ i rest t, v = .string (sB rest) ∧ i ≤ fs.length ∧ Aside0 (rest.length ≤ s.size) ∧ Aside0 (parseF (fs.drop i) rest t = parseL l) ∧ Aside0 (wr.heap[tb + 1]? = some (.stringIter F i)) ∧ Aside0 (OpAt wr tb t) ∧ Aside0 (Below w.heap.size w wr ∧ OpAt wr w.heap.size {})) (fun _ wr => fs.length - strPos wr (tb + 1))
  case atStart =>
    exact ⟨0, _, t0, rfl, Nat.zero_le _, HRl, HR, ⟨HIt.out⟩, ⟨HA2.out.1.alloc _⟩, ⟨below_alloc HA2.out.2.2 _, HA2.out.2.1.alloc _⟩⟩
  case round =>
    obtain ⟨i, rest, t, rfl, hi, HLen, HP, HI, HT, HB⟩ := hrel
    have hsp := strPos_of HI.out
    by_cases hlt : i < fs.length
    · obtain ⟨f, hf, hfm, hs1, hsf⟩ := fields_get hlt
      have hs' : i < F.size := by rw [← HFF.out]; exact hs1
      have hsf' : (F[i]'hs') = fldB f := by rw [← hsf]; congr 1; exact HFF.out.symm
      have hnext : ∀ ty, (Instr.next (.pointer (some ⟨tb + 1, 0, none⟩)) true ty).run Tryz.prog wr = .ok (.tuple #[.bool true, .int .i64 i, .int .i32 (fldB f).toNat]) (wr.iterAt (tb + 1) F (i + 1)) := fun ty => by
        have := Lib.run_next_ascii_at (P := Tryz.prog) wr (tb + 1) F i ty HI.out hs' (by rw [hsf']; exact fld_ascii f)
        rw [hsf'] at this
        exact this
      have hdr : fs.drop i = f :: fs.drop (i + 1) := by
        obtain ⟨h1, h2⟩ := List.getElem?_eq_some_iff.1 hf
        rw [List.drop_eq_getElem_cons h1, h2]
      have hP := HP.out
      rw [hdr] at hP
      have HI2 := Aside0.mk (Lib.iterAt_heap wr (tb + 1) F i (i + 1) HI.out)
      have HT2 := Aside0.mk (HT.out.iter (show tb ≠ tb + 1 by omega) F (i + 1))
      have HO2 := Aside0.mk (HB.out.2.iter (show w.heap.size ≠ tb + 1 by have := HZ.out.1; omega) F (i + 1))
      have HB2 := Aside0.mk (Lib.below_iterAt HB.out.1 (show w.heap.size ≤ tb + 1 by have := HZ.out.1; omega) F (i + 1))
      obtain ⟨W, hW⟩ : ∃ W, wr.iterAt (tb + 1) F (i + 1) = W := ⟨_, rfl⟩
      rw [hW] at hnext HI2 HT2 HO2 HB2
      have HFI := Aside0.mk (And.intro hlt hsp)
      have hpre := fun V => Tryz.strings_HasPrefix (sB rest) ⟨#[32]⟩ V
      rw [sB_data, show (ByteArray.data ⟨#[32]⟩).toList = [32] from rfl, prefix_32] at hpre
      have hll := HLen.out
      clear hW hs' hsf' hs1 hsf hi hf hfm hlt hsp hdr HLen HP
      by_cases h32 : rest.head? = some 32
      · obtain ⟨r, rfl⟩ : ∃ r, rest = 32 :: r := by
          cases rest with
          | nil => cases h32
          | cons c r => exact ⟨r, by rw [Option.some.inj h32]⟩
        rw [decide_eq_true h32] at hpre
        rw [parseF_32] at hP
        have hx : (sB (32 :: r)).extract 1 (sB (32 :: r)).size = sB r := by rw [ext_drop, sB_data]; rfl
        have hpos : 1 ≤ (sB (32 :: r)).size := by rw [sB_size]; simp
        rw [List.length_cons] at hll
        have hrs : (sB r).size ≤ 34359738368 := by rw [sB_size]; omega
        obtain ⟨Y, hY⟩ : ∃ Y, sB (32 :: r) = Y := ⟨_, rfl⟩
        rw [hY] at hpre hx hpos ⊢
        have HLen := Aside0.mk hll
        clear h32 hY hll
        by_cases ht : f.isText = true
        · rw [if_pos ht] at hP
          have hTx : ∀ V, Calls Tryz.prog 35 #[.pointer (some ⟨tb, 0, none⟩), .int .i32 (fldB f).toNat] V fun e w' => e = .returned (.pointer (some ⟨tb, fldO f, none⟩)) ∧ w' = V := fun V => by
            have := text_any tb f V
            rw [if_pos ht] at this
            exact this
          have HTt := Aside0.mk ht
          clear ht
          cases hTk : takeL r with
          | some p =>
            obtain ⟨b, r'⟩ := p
            have hTake : ∀ V, Calls Tryz.prog 36 #[.string (sB r)] V fun e w' => e = .returned (.tuple #[.string (sB b), .string (sB r'), .bool true]) ∧ Below V.heap.size V w' := fun V => by
              have := ptake_any (sB r) V hrs
              unfold takeV at this
              rw [sB_data, hTk] at this
              exact this
            rw [hTk] at hP
            have HP := Aside0.mk (show parseF (fs.drop (i + 1)) r' (t.setTxt f b) = parseL l from hP)
            have HTk := Aside0.mk hTk
            clear hP hTk
            go_wp2_with (first
              | (go_at_call 34; refine (hpre _).mono ?_; rintro e w9 ⟨rfl, rfl⟩)
              | (go_at_call 35; refine (hTx _).mono ?_; rintro e w9 ⟨rfl, rfl⟩)
              | (go_at_call 36; refine (hTake _).mono ?_; rintro e w3 ⟨rfl, hB3⟩; have HB3 := Aside0.mk hB3; have HT3 := Aside0.mk (HT2.out.below hB3); have cT := HT3.out.txt HTt.out; have fT := HT3.out.frozen (fldO f); clear hB3))
            obtain ⟨hlt, hsp⟩ := HFI.out
            have hI4 := (Below.heap_setCell w3 ⟨tb, fldO f, none⟩ (.string (sB b)) (tb + 1) (show tb + 1 ≠ tb by omega)).trans ((HB3.out.block _ (blk_lt HI2.out)).trans HI2.out)
            have hlen : r'.length ≤ s.size := by
              have h1 := congrArg List.length (takeL_some HTk.out)
              rw [List.length_append] at h1
              have := HLen.out
              omega
            refine ⟨⟨i + 1, r', t.setTxt f b, rfl, hlt, ⟨hlen⟩, HP, ⟨hI4⟩, ⟨HT3.out.setTxt HTt.out b⟩, ⟨(HB2.out.trans (HB3.out.mono HB2.out.size)).setCell (p := ⟨tb, fldO f, none⟩) (Nat.le_of_lt HZ.out.1) _, (HO2.out.below HB3.out).far (p := ⟨tb, fldO f, none⟩) HZ.out.2 _⟩⟩, ?_⟩
            rw [strPos_of hI4, hsp]; omega
          | none =>
            have hTake : ∀ V, Calls Tryz.prog 36 #[.string (sB r)] V fun e w' => e = .returned (.tuple #[.string ⟨#[]⟩, .string (sB r), .bool false]) ∧ Below V.heap.size V w' := fun V => by
              have := ptake_any (sB r) V hrs
              unfold takeV at this
              rw [sB_data, hTk] at this
              exact this
            rw [hTk] at hP
            have HPn := Aside0.mk (show none = parseL l from hP)
            clear hP hTk
            go_wp2_with (first
              | (go_at_call 34; refine (hpre _).mono ?_; rintro e w9 ⟨rfl, rfl⟩)
              | (go_at_call 35; refine (hTx _).mono ?_; rintro e w9 ⟨rfl, rfl⟩)
              | (go_at_call 36; refine (hTake _).mono ?_; rintro e w3 ⟨rfl, hB3⟩; have HB3 := Aside0.mk hB3; have HT3 := Aside0.mk (HT2.out.below hB3); have cT := HT3.out.txt HTt.out; have fT := HT3.out.frozen (fldO f); have HO3 := Aside0.mk ((HO2.out.below hB3).far (p := ⟨tb, fldO f, none⟩) HZ.out.2 (.string ⟨#[]⟩)); obtain ⟨c0, c1, c2, c3, c4, c5, c6, c7⟩ := HO3.out.cells; obtain ⟨f0, f1, f2, f3, f4, f5, f6, f7⟩ := HO3.out.frozens; clear hB3))
            have hBc := below_stW ((HB2.out.trans (HB3.out.mono HB2.out.size)).setCell (p := ⟨tb, fldO f, none⟩) (Nat.le_of_lt HZ.out.1) (.string ⟨#[]⟩)) (Nat.le_refl _) {}
            have hst := (HO3.out).store {}
            clear c0 c1 c2 c3 c4 c5 c6 c7 f0 f1 f2 f3 f4 f5 f6 f7
            change bodyPost _ _ _ _ _ (stW _ w.heap.size {})
            obtain ⟨c0, c1, c2, c3, c4, c5, c6, c7⟩ := hst.cells
            refine bodyPost_ret (v := .tuple #[opV {}, .int .i64 260]) (by simp [results, Tryz.f11, go_sem, c0, c1, c2, c3, c4, c5, c6, c7]; rfl) rfl ⟨?_, hBc⟩
            rw [← HPn.out]
            rfl
        · rw [if_neg ht] at hP
          have hTx : ∀ V, Calls Tryz.prog 35 #[.pointer (some ⟨tb, 0, none⟩), .int .i32 (fldB f).toNat] V fun e w' => e = .returned (.pointer none) ∧ w' = V := fun V => by
            have := text_any tb f V
            rw [if_neg ht] at this
            exact this
          have hNm := fun V => num_any tb f ht V
          have HTt := Aside0.mk ht
          clear ht
          have hCt := fun V => cut_any (sB r) V hrs
          unfold CutP at hCt
          rw [sB_data] at hCt
          have hy : (sB r).extract (sB (word r)).size (sB r).size = sB (r.drop (word r).length) := by rw [ext_drop, sB_data, sB_size]
          have hyl : (sB (word r)).size ≤ (sB r).size := by rw [sB_size, sB_size]; exact word_len r
          have hNb := fun V hV => number_any (sB (word r)) V hV (Nat.le_trans hyl hrs)
          rw [sB_data] at hNb
          obtain ⟨X, hX⟩ : ∃ X, sB (word r) = X := ⟨_, rfl⟩
          rw [hX] at hCt hy hyl hNb
          clear hX
          cases hN : numL (word r) with
          | some n =>
            have hNum : ∀ V, Env V → Calls Tryz.prog 37 #[.string X] V fun e w' => e = .returned (.tuple #[.int .i64 n, .bool true]) ∧ Below V.heap.size V w' := fun V hV => by
              refine (hNb V hV).mono ?_
              rintro e w' ⟨⟨m, ok, rfl, h1, h2⟩, hB⟩
              refine ⟨?_, hB⟩
              cases ok with
              | true => rw [hN] at h1; rw [Option.some.inj (h1 rfl)]
              | false => rw [hN] at h2; cases (h2 rfl).1
            rw [hN] at hP
            have HP := Aside0.mk (show parseF (fs.drop (i + 1)) (r.drop (word r).length) (t.setNum f n) = parseL l from hP)
            clear hP hN hNb
            go_wp2_with (first
              | (go_at_call 34; refine (hpre _).mono ?_; rintro e w9 ⟨rfl, rfl⟩)
              | (go_at_call 35; refine (hTx _).mono ?_; rintro e w9 ⟨rfl, rfl⟩)
              | (go_at_call 25; refine (hCt _).mono ?_; rintro e w3 ⟨⟨x3, ok3, rfl⟩, hB3⟩; have HB3 := Aside0.mk (HB2.out.trans (hB3.mono HB2.out.size)); have HT3 := Aside0.mk (HT2.out.below hB3); have HO3 := Aside0.mk (HO2.out.below hB3); have HI3 := Aside0.mk ((hB3.block _ (blk_lt HI2.out)).trans HI2.out); have HE3 := Aside0.mk (HE.out.below HB3.out); clear hB3)
              | (go_at_call 38; refine (hNm _).mono ?_; rintro e w9 ⟨rfl, rfl⟩)
              | (go_at_call 37; refine (hNum _ HE3.out).mono ?_; rintro e w4 ⟨rfl, hB4⟩; have HB4 := Aside0.mk (HB3.out.trans (hB4.mono HB3.out.size)); have HT4 := Aside0.mk (HT3.out.below hB4); have HO4 := Aside0.mk (HO3.out.below hB4); have HI4 := Aside0.mk ((hB4.block _ (blk_lt HI3.out)).trans HI3.out); have cT := HT4.out.num HTt.out; have fT := HT4.out.frozen (fldO f); clear hB4))
            obtain ⟨hlt, hsp⟩ := HFI.out
            have hI5 := (Below.heap_setCell _ ⟨tb, fldO f, none⟩ (.int .i64 n) (tb + 1) (show tb + 1 ≠ tb by omega)).trans HI4.out
            have hlen : (r.drop (word r).length).length ≤ s.size := by
              rw [List.length_drop]
              have := HLen.out
              omega
            refine ⟨⟨i + 1, r.drop (word r).length, t.setNum f n, rfl, hlt, ⟨hlen⟩, HP, ⟨hI5⟩, ⟨HT4.out.setNum HTt.out n⟩, ⟨HB4.out.setCell (p := ⟨tb, fldO f, none⟩) (Nat.le_of_lt HZ.out.1) _, HO4.out.far (p := ⟨tb, fldO f, none⟩) HZ.out.2 _⟩⟩, ?_⟩
            rw [strPos_of hI5, hsp]; omega
          | none =>
            have hNum : ∀ V, Env V → Calls Tryz.prog 37 #[.string X] V fun e w' => e = .returned (.tuple #[.int .i64 0, .bool false]) ∧ Below V.heap.size V w' := fun V hV => by
              refine (hNb V hV).mono ?_
              rintro e w' ⟨⟨m, ok, rfl, h1, h2⟩, hB⟩
              refine ⟨?_, hB⟩
              cases ok with
              | true => rw [hN] at h1; cases h1 rfl
              | false => rw [(h2 rfl).2]
            rw [hN] at hP
            have HPn := Aside0.mk (show none = parseL l from hP)
            clear hP hN hNb
            go_wp2_with (first
              | (go_at_call 34; refine (hpre _).mono ?_; rintro e w9 ⟨rfl, rfl⟩)
              | (go_at_call 35; refine (hTx _).mono ?_; rintro e w9 ⟨rfl, rfl⟩)
              | (go_at_call 25; refine (hCt _).mono ?_; rintro e w3 ⟨⟨x3, ok3, rfl⟩, hB3⟩; have HB3 := Aside0.mk (HB2.out.trans (hB3.mono HB2.out.size)); have HT3 := Aside0.mk (HT2.out.below hB3); have HO3 := Aside0.mk (HO2.out.below hB3); have HE3 := Aside0.mk (HE.out.below HB3.out); clear hB3)
              | (go_at_call 38; refine (hNm _).mono ?_; rintro e w9 ⟨rfl, rfl⟩)
              | (go_at_call 37; refine (hNum _ HE3.out).mono ?_; rintro e w4 ⟨rfl, hB4⟩; have HB4 := Aside0.mk (HB3.out.trans (hB4.mono HB3.out.size)); have HT4 := Aside0.mk (HT3.out.below hB4); have HO4 := Aside0.mk ((HO3.out.below hB4).far (p := ⟨tb, fldO f, none⟩) HZ.out.2 (.int .i64 0)); have cT := HT4.out.num HTt.out; have fT := HT4.out.frozen (fldO f); obtain ⟨c0, c1, c2, c3, c4, c5, c6, c7⟩ := HO4.out.cells; obtain ⟨f0, f1, f2, f3, f4, f5, f6, f7⟩ := HO4.out.frozens; clear hB4))
            have hBc := below_stW (HB4.out.setCell (p := ⟨tb, fldO f, none⟩) (Nat.le_of_lt HZ.out.1) (.int .i64 0)) (Nat.le_refl _) {}
            have hst := (HO4.out).store {}
            clear c0 c1 c2 c3 c4 c5 c6 c7 f0 f1 f2 f3 f4 f5 f6 f7
            change bodyPost _ _ _ _ _ (stW _ w.heap.size {})
            obtain ⟨c0, c1, c2, c3, c4, c5, c6, c7⟩ := hst.cells
            refine bodyPost_ret (v := .tuple #[opV {}, .int .i64 260]) (by simp [results, Tryz.f11, go_sem, c0, c1, c2, c3, c4, c5, c6, c7]; rfl) rfl ⟨?_, hBc⟩
            rw [← HPn.out]
            rfl
      · rw [decide_eq_false h32] at hpre
        rw [parseF_bad h32] at hP
        have HPn := Aside0.mk hP
        obtain ⟨c0, c1, c2, c3, c4, c5, c6, c7⟩ := HO2.out.cells
        obtain ⟨f0, f1, f2, f3, f4, f5, f6, f7⟩ := HO2.out.frozens
        obtain ⟨Y, hY⟩ : ∃ Y, sB rest = Y := ⟨_, rfl⟩
        rw [hY] at hpre ⊢
        clear h32 hP hY hll
        go_wp2_with (go_at_call 34; refine (hpre _).mono ?_; rintro e w9 ⟨rfl, rfl⟩)
        have hBc := below_stW (HB2.out) (Nat.le_refl _) {}
        have hst := (HO2.out).store {}
        clear c0 c1 c2 c3 c4 c5 c6 c7 f0 f1 f2 f3 f4 f5 f6 f7
        change bodyPost _ _ _ _ _ (stW _ w.heap.size {})
        obtain ⟨c0, c1, c2, c3, c4, c5, c6, c7⟩ := hst.cells
        refine bodyPost_ret (v := .tuple #[opV {}, .int .i64 260]) (by simp [results, Tryz.f11, go_sem, c0, c1, c2, c3, c4, c5, c6, c7]; rfl) rfl ⟨?_, hBc⟩
        rw [← HPn.out]
        rfl
    · have hnext : ∀ ty, (Instr.next (.pointer (some ⟨tb + 1, 0, none⟩)) true ty).run Tryz.prog wr = .ok (.tuple #[.bool false]) wr := fun ty =>
        Lib.run_next_end_at (P := Tryz.prog) wr (tb + 1) F i ty HI.out (by rw [← HFF.out, sB_size, List.length_map]; exact hlt)
      have hie : i = fs.length := by omega
      subst hie
      have hP := HP.out
      rw [List.drop_length] at hP
      obtain ⟨c0, c1, c2, c3, c4, c5, c6, c7⟩ := HB.out.2.cells
      obtain ⟨f0, f1, f2, f3, f4, f5, f6, f7⟩ := HB.out.2.frozens
      clear hlt hi hsp HP
      by_cases hr0 : rest = []
      · subst hr0
        have hP2 := Aside0.mk (show some t = parseL l from hP)
        clear hP
        obtain ⟨d0, d1, d2, d3, d4, d5, d6, d7⟩ := HT.out.cells
        have hemp : (sB []).toList.isEmpty = true := by rw [Lib.toList_data, sB_data]; rfl
        have hBc := Aside0.mk (below_stW HB.out.1 (Nat.le_refl _) t)
        have hst := Aside0.mk (HB.out.2.store t)
        go_wp2
        clear c0 c1 c2 c3 c4 c5 c6 c7 f0 f1 f2 f3 f4 f5 f6 f7 d0 d1 d2 d3 d4 d5 d6 d7
        change bodyPost _ _ _ _ _ (stW wr w.heap.size t)
        obtain ⟨c0, c1, c2, c3, c4, c5, c6, c7⟩ := hst.out.cells
        refine bodyPost_ret (v := .tuple #[opV t, .int .i64 0]) (by simp [results, Tryz.f11, go_sem, c0, c1, c2, c3, c4, c5, c6, c7]; rfl) rfl ⟨?_, hBc.out⟩
        rw [← hP2.out]
        rfl
      · have hP2 : (none : Option OpV) = parseL l := by rw [← hP, parseF, if_neg hr0]
        have HPn := Aside0.mk hP2
        have hemp : (sB rest).toList.isEmpty = false := by rw [Lib.toList_data, sB_data]; simpa using hr0
        clear hP hr0 hP2
        go_wp2
        have hBc := below_stW (HB.out.1) (Nat.le_refl _) {}
        have hst := (HB.out.2).store {}
        clear c0 c1 c2 c3 c4 c5 c6 c7 f0 f1 f2 f3 f4 f5 f6 f7
        change bodyPost _ _ _ _ _ (stW _ w.heap.size {})
        obtain ⟨c0, c1, c2, c3, c4, c5, c6, c7⟩ := hst.cells
        refine bodyPost_ret (v := .tuple #[opV {}, .int .i64 260]) (by simp [results, Tryz.f11, go_sem, c0, c1, c2, c3, c4, c5, c6, c7]; rfl) rfl ⟨?_, hBc⟩
        rw [← HPn.out]
        rfl
theorem pparse_any (s : ByteArray) (w : World) (hE : Env w) (hs : s.size ≤ 34359738368) : Calls Tryz.prog 11 #[.string s] w fun e w' => e = .returned (parseV (parseL s.data.toList)) ∧ Below w.heap.size w w' := by
  cases hW : wordOf (word s.data.toList) with
  | none => exact pparse_none s w hE hs hW
  | some p => exact pparse_some s w hE hs (k := p.1) (fs := p.2) hW
end Go.Proofs.YteglbmindbfkeaaGreatDoor.H
