/- The reference's PrintOp. Condition: the operation's texts are no longer than 2^35 bytes, its numbers are ints. -/
import Derived.Test.YteglbmindbfkeaaGreatDoorSp
import Derived.Test.YteglbmindbfkeaaGreatDoorRw
namespace Go.Proofs.YteglbmindbfkeaaGreatDoor.H
open Go.RowKit Go.Proofs.YteglbmindbfkeaaGreatDoorW.PrintWords
set_option linter.unusedVariables false
set_option linter.unusedSimpArgs false
def OpV.clear (t : OpV) (f : Fld) : OpV := if f.isText then t.setTxt f [] else t.setNum f 0
def clearAll (fs : List Fld) (t : OpV) : OpV := fs.foldl (fun t f => t.clear f) t
theorem clearAll_take {fs : List Fld} {i : Nat} {f : Fld} {t : OpV} (h : fs[i]? = some f) : clearAll (fs.take (i + 1)) t = (clearAll (fs.take i) t).clear f := by
  unfold clearAll
  rw [List.take_add_one, h, Option.toList, List.foldl_append]
  rfl
theorem kinds_fs : ∀ e ∈ kinds, e.2.2 = [] ∨ e.2.2 = [.P] ∨ e.2.2 = [.P, .Q] ∨ e.2.2 = [.P, .F] ∨ e.2.2 = [.H] ∨ e.2.2 = [.H, .N] ∨ e.2.2 = [.H, .O, .N] ∨ e.2.2 = [.H, .O, .D] := by decide
theorem clear_iff {o : OpV} {wd : Bs} {fs : List Fld} (h : kindOf o.kind = some (wd, fs)) : clearAll fs { o with kind := 0 } = {} ↔ copyAll o fs { kind := o.kind } = o := by
  obtain ⟨j, _, hm⟩ := kindOf_mem h
  have h8 := kinds_fs _ hm
  simp only at h8
  clear h hm
  obtain ⟨a1, a2, a3, a4, a5, a6, a7, a8⟩ := o
  rcases h8 with rfl | rfl | rfl | rfl | rfl | rfl | rfl | rfl
  all_goals
    simp only [clearAll, copyAll, List.foldl_cons, List.foldl_nil, OpV.clear, OpV.copy, Fld.isText, OpV.setTxt, OpV.setNum, OpV.txt, OpV.num, if_true, if_false, OpV.mk.injEq, Bool.false_eq_true, true_and, and_true]
    constructor
    · rintro h
      simp_all
    · rintro h
      first | (simp_all; done) | (simp_all; omega)
theorem nameL_some {k : Int} {wd : Bs} {fs : List Fld} (h : kindOf k = some (wd, fs)) : nameL k = wd := by unfold nameL; rw [h]
theorem nameL_none {k : Int} (h : kindOf k = none) : nameL k = [] := by unfold nameL; rw [h]
theorem fsL_some {k : Int} {wd : Bs} {fs : List Fld} (h : kindOf k = some (wd, fs)) : fsL k = fs := by unfold fsL; rw [h]
theorem FldRow.slice {w : World} {v : Value} {fs : List Fld} (h : FldRow w v fs) : ∃ A, v = .slice A fs.length fs.length := by
  rcases h with ⟨rfl, rfl⟩ | ⟨b, rfl, _⟩
  · exact ⟨none, rfl⟩
  · exact ⟨_, rfl⟩
theorem FldRow.cell {w : World} {A : Option Addr} {n c : Nat} {fs : List Fld} {i : Nat} {f : Fld} (h : FldRow w (.slice A n c) fs) (hf : fs[i]? = some f) : ∃ b, A = some ⟨b, 0, none⟩ ∧ w.cell? ⟨b, i, none⟩ = some (.int .i64 (fldN f)) := by
  rcases h with ⟨rfl, _⟩ | ⟨b, h1, h2⟩
  · simp at hf
  · injection h1 with hA
    exact ⟨b, hA, (blk_cell h2 i).trans (by simp [fldC, hf])⟩
theorem FldRow.set {w : World} {v : Value} {fs : List Fld} {tb k : Nat} {t : OpV} {u : Value} (h : FldRow w v fs) (ht : OpAt w tb t) : FldRow (w.setCell ⟨tb, k, none⟩ u) v fs := by
  rcases h with h | ⟨b, h1, h2⟩
  · exact .inl h
  · refine .inr ⟨b, h1, (Below.heap_setCell _ _ _ _ (fun e => ?_)).trans h2⟩
    subst e
    have := h2.symm.trans ht
    simp [opC] at this
theorem few_all {o : OpV} {fs : List Fld} {i : Nat} {f : Fld} (h : fewF o (fs.take i) = true) (hf : fs[i]? = some f) (h2 : f.isText = true ∨ fewD (o.num f)) : fewF o (fs.take (i + 1)) = true := by
  rw [few_take hf, h]
  rcases h2 with h2 | h2 <;> simp [h2]
theorem prv_few {o : OpV} {wd : Bs} {fs : List Fld} {f : Fld} (hk : kindOf o.kind = some (wd, fs)) (hf : f ∈ fs) (ht : ¬ f.isText = true) (hn : ¬ fewD (o.num f)) : printV o = .tuple #[.string ⟨#[]⟩, .int .i64 260] := by
  unfold printV printL
  rw [hk]
  simp only
  rw [if_neg (fun h => few_bad hf ht hn h.1)]
/-- How far PrintOp has come: what it has written, the rest of the operation in a block, the operation, the fields' row. -/
structure RpI (w : World) (tb : Nat) (o t0 : OpV) (fs : List Fld) (v : Value) (i : Int) (wr : World) : Prop where
  few : fewF o (fs.take i.toNat) = true
  left : OpAt wr tb (clearAll (fs.take i.toNat) t0)
  op : OpAt wr w.heap.size o
  row : FldRow wr v fs
  bel : Below w.heap.size w wr
theorem RpI.below {w : World} {tb : Nat} {o t0 : OpV} {fs : List Fld} {v : Value} {i : Int} {wr w' : World} (h : RpI w tb o t0 fs v i wr) (hb : Below wr.heap.size wr w') : RpI w tb o t0 fs v i w' :=
  ⟨h.few, h.left.below hb, h.op.below hb, h.row.below hb, h.bel.trans (hb.mono h.bel.size)⟩
theorem RpI.txt {w : World} {tb : Nat} {o t0 : OpV} {fs : List Fld} {v : Value} {i : Int} {wr : World} (h : RpI w tb o t0 fs v i wr) (hi : 0 ≤ i) {f : Fld} (hf : fs[i.toNat]? = some f) (ht : f.isText = true) (h1 : w.heap.size < tb) : RpI w tb o t0 fs v (i + 1) (wr.setCell ⟨tb, fldO f, none⟩ (.string (sB []))) := by
  have e : (i + 1).toNat = i.toNat + 1 := by omega
  refine ⟨by rw [e]; exact few_all h.few hf (.inl ht), ?_, h.op.far (p := ⟨tb, fldO f, none⟩) (Nat.ne_of_lt h1) _, h.row.set h.left, h.bel.setCell (p := ⟨tb, fldO f, none⟩) (Nat.le_of_lt h1) _⟩
  rw [e, clearAll_take hf]
  unfold OpV.clear
  rw [if_pos ht]
  exact h.left.setTxt ht []
theorem RpI.num {w : World} {tb : Nat} {o t0 : OpV} {fs : List Fld} {v : Value} {i : Int} {wr : World} (h : RpI w tb o t0 fs v i wr) (hi : 0 ≤ i) {f : Fld} (hf : fs[i.toNat]? = some f) (ht : ¬ f.isText = true) (hn : fewD (o.num f)) (h1 : w.heap.size < tb) : RpI w tb o t0 fs v (i + 1) (wr.setCell ⟨tb, fldO f, none⟩ (.int .i64 0)) := by
  have e : (i + 1).toNat = i.toNat + 1 := by omega
  refine ⟨by rw [e]; exact few_all h.few hf (.inr hn), ?_, h.op.far (p := ⟨tb, fldO f, none⟩) (Nat.ne_of_lt h1) _, h.row.set h.left, h.bel.setCell (p := ⟨tb, fldO f, none⟩) (Nat.le_of_lt h1) _⟩
  rw [e, clearAll_take hf]
  unfold OpV.clear
  rw [if_neg ht]
  exact h.left.setNum ht 0
theorem body_next {o : OpV} {wd : Bs} {fs : List Fld} {i : Int} {f : Fld} (hi : 0 ≤ i) (hf : fs[i.toNat]? = some f) : sB (wd ++ body o (fs.take i.toNat)) ++ (⟨#[32]⟩ : ByteArray) ++ sB (render o f) = sB (wd ++ body o (fs.take (i + 1).toNat)) := by
  rw [show (i + 1).toNat = i.toNat + 1 by omega, body_take hf, show (⟨#[32]⟩ : ByteArray) = sB [32] from rfl, sB_app, sB_app, List.append_assoc, List.append_assoc]
  rfl
theorem body_next2 {o : OpV} {wd : Bs} {fs : List Fld} {i : Int} {f : Fld} (hi : 0 ≤ i) (hf : fs[i.toNat]? = some f) : sB (wd ++ body o (fs.take i.toNat)) ++ ((⟨#[32]⟩ : ByteArray) ++ sB (render o f)) = sB (wd ++ body o (fs.take (i + 1).toNat)) := by
  rw [show (i + 1).toNat = i.toNat + 1 by omega, body_take hf, show (⟨#[32]⟩ : ByteArray) = sB [32] from rfl, sB_app, sB_app, List.append_assoc]
  rfl
set_option maxRecDepth 100000 in
set_option maxHeartbeats 4000000 in
theorem rprint_any (o : OpV) (w : World) (ho : OpOk 34359738368 o) : Calls Tryz.prog 24 #[opV o] w fun e w' => e = .returned (printV o) ∧ Below w.heap.size w w' := by
  have HO := Aside0.mk ho
  have hk := ho.kind
  clear ho
  obtain ⟨V, hV⟩ : ∃ V, opC o = V := ⟨_, rfl⟩
  unfold opV
  rw [hV]
  have h0 : V[0]? = some (.int .i64 o.kind) := by rw [← hV]; rfl
  have c0 : (w.alloc (.cells V 38)).cell? ⟨w.heap.size, 0, none⟩ = some (.int .i64 o.kind) := (blk_cell (blk_new w _) 0).trans h0
  have HA0 := Aside0.mk (show OpAt (w.alloc (.cells V 38)) w.heap.size o by rw [← hV]; exact OpAt.new w o)
  clear hV h0
  have hNm := fun W => rname_any o.kind W hk.1 hk.2
  have hWs := fun W => rwords_any o.kind W hk.1 hk.2
  cases hK : kindOf o.kind with
  | none =>
    rw [nameL_none hK, show sB [] = (⟨#[]⟩ : ByteArray) from rfl] at hNm
    have HK := Aside0.mk hK
    clear hK
    go_enter Tryz.func24, Tryz.ntmps24
    go_wp2_with (go_at_call 50; refine (hNm _).mono ?_; rintro e w1 ⟨rfl, hB⟩; have HB1 := Aside0.mk hB; clear hB)
    refine bodyPost_ret (v := .tuple #[.string ⟨#[]⟩, .int .i64 260]) (by simp [results, Tryz.f24, go_sem]) rfl ⟨by unfold printV printL; rw [HK.out], ?_⟩
    exact (below_alloc (Below.refl _ _) _).trans (HB1.out.mono (by simp))
  | some p =>
    obtain ⟨wd, fs⟩ := p
    have hws : (sB wd).toList.isEmpty = false := by
      obtain ⟨j, _, hm⟩ := kindOf_mem hK
      have := (kinds_fields _ hm).2.1
      rw [Lib.toList_data, sB_data]
      simpa using this
    rw [nameL_some hK] at hNm
    rw [fsL_some hK] at hWs
    obtain ⟨T, hT⟩ : ∃ T, sB wd = T := ⟨_, rfl⟩
    rw [hT] at hNm hws
    have HK := Aside0.mk hK
    have HT := Aside0.mk hT
    have HNm := Aside0.mk hNm
    have HWs := Aside0.mk hWs
    clear hK hT hNm hWs
    go_enter Tryz.func24, Tryz.ntmps24
    go_wp2_with (first
      | (go_at_call 50; refine (HNm.out _).mono ?_; rintro e w1 ⟨rfl, hB⟩; have HA1 := Aside0.mk (HA0.out.below hB); have HB1 := Aside0.mk ((below_alloc (Below.refl w.heap.size w) (.cells V 38)).trans (hB.mono (by simp))); have c1 := HA1.out.kind; clear hB HA0)
      | (go_at_call 50; refine (HNm.out _).mono ?_; rintro e w2 ⟨rfl, hB⟩; have HA2 := Aside0.mk (HA1.out.below hB); have HB2 := Aside0.mk (HB1.out.trans (hB.mono HB1.out.size)); obtain ⟨c0, c1, c2, c3, c4, c5, c6, c7⟩ := HA2.out.cells; have c9 := (HA2.out.alloc (.cells #[.int .i64 0, .string (sB o.path), .string (sB o.other), .int .i64 o.handle, .int .i64 o.offset, .int .i64 o.n, .int .i64 o.flags, .string (sB o.data)] 38)).kind; clear hB HA1)
      | (go_at_call 51; refine (HWs.out _).mono ?_; rintro e w3 ⟨v3, rfl, hR, hB⟩; have HR3 := Aside0.mk hR; have HB3 := Aside0.mk hB; obtain ⟨A3, rfl⟩ := hR.slice; clear hR hB))
    obtain ⟨X, hX⟩ : ∃ X : Obj, .cells #[.int .i64 0, .string (sB o.path), .string (sB o.other), .int .i64 o.handle, .int .i64 o.offset, .int .i64 o.n, .int .i64 o.flags, .string (sB o.data)] 38 = X := ⟨_, rfl⟩
    rw [hX] at HB3
    have hlt := HA2.out.lt
    have hL2 : OpAt (w2.alloc X) w2.heap.size { o with kind := 0 } := by rw [← hX]; exact OpAt.new w2 { o with kind := 0 }
    have HI0 := Aside0.mk (show RpI w w2.heap.size o { o with kind := 0 } fs (.slice A3 fs.length fs.length) 0 w3 from
      ⟨by simp [fewF], by rw [show (0 : Int).toNat = 0 from rfl, List.take_zero]; exact hL2.below HB3.out, (HA2.out.alloc X).below HB3.out, HR3.out, (below_alloc HB2.out X).trans (HB3.out.mono (by have := HB2.out.size; simp; omega))⟩)
    obtain ⟨tb, htb⟩ : ∃ tb, w2.heap.size = tb := ⟨_, rfl⟩
    rw [htb] at HI0 hlt ⊢
    have hN3 : fs.length ≤ 3 := by
      obtain ⟨j, _, hm⟩ := kindOf_mem HK.out
      exact (kinds_len _ hm).1
    have HT0 : T = sB (wd ++ body o (fs.take (0 : Int).toNat)) := by rw [← HT.out]; simp [body]
    have HT9 := Aside0.mk HT0
    clear HT0
    obtain ⟨N, hN⟩ : ∃ N, fs.length = N := ⟨_, rfl⟩
    rw [hN] at HI0 hN3 ⊢
    have HN := Aside0.mk hN
    have HLt := Aside0.mk hlt
    have HO' := HO.out
    clear hX hL2 htb hN c0 c1 c2 c3 c4 c5 c6 c7 c9 hws HB3 HR3 HA2 HB2 HB1 hk hlt HT HNm HWs
    go_loopw [4, 23] (fun sv iv wr => ∃ i : Int, iv = .int .i64 i ∧ sv = .string (sB (wd ++ body o (fs.take i.toNat))) ∧ 0 ≤ i ∧ i ≤ N ∧ Aside0 (RpI w tb o { o with kind := 0 } fs (.slice A3 N N) i wr)) (fun _ iv _ => (N - intOf iv).toNat)
    case atStart => exact ⟨0, rfl, by rw [← HT9.out], Int.le_refl _, by omega, HI0⟩
    case round =>
      obtain ⟨i, rfl, rfl, i0, i1, HI⟩ := hrel
      have w4 : wrap64 (i + 1) = i + 1 := by unfold wrap64; omega
      by_cases hlt : i < (N : Int)
      · have hlt1 : decide (i < (N : Int)) = true := decide_eq_true hlt
        obtain ⟨f, hf, hfm⟩ : ∃ f, fs[i.toNat]? = some f ∧ f ∈ fs := ⟨_, List.getElem?_eq_getElem (by rw [HN.out]; omega), List.getElem_mem _⟩
        obtain ⟨rb, rfl, hcell⟩ := HI.out.row.cell hf
        have HF := Aside0.mk (And.intro hf hfm)
        have hb2 := body_next2 (o := o) (wd := wd) i0 hf
        have hb1 := body_next (o := o) (wd := wd) i0 hf
        have hz2 := out_size HK.out HO.out i.toNat
        have hz1 := render_size HO.out f
        obtain ⟨Y, hY⟩ : ∃ Y, sB (wd ++ body o (fs.take i.toNat)) = Y := ⟨_, rfl⟩
        rw [hY] at hb1 hb2 hz2 ⊢
        obtain ⟨c0, c1, c2, c3, c4, c5, c6, c7⟩ := HI.out.op.cells
        obtain ⟨d0, d1, d2, d3, d4, d5, d6, d7⟩ := HI.out.left.cells
        obtain ⟨f0, f1, f2, f3, f4, f5, f6, f7⟩ := HI.out.left.frozens
        clear hY hf hfm
        cases f with
        | H =>
          replace hcell : wr.cell? ⟨rb, i.toNat, none⟩ = some (.int .i64 1) := hcell
          replace hz1 : (sB (Lib.itoa o.handle)).size ≤ 137438953495 := hz1
          by_cases hfw : fewD o.handle
          · have hn1 : -999999999999999999 ≤ o.handle := hfw.1
            have hn2 : o.handle ≤ 999999999999999999 := hfw.2
            have hNb := fun W => rnumber_any o.handle W (by omega) (by omega)
            have HI2 := Aside0.mk (HI.out.num i0 HF.out.1 (f := .H) (by decide) hfw HLt.out)
            replace hb2 : Y ++ ((⟨#[32]⟩ : ByteArray) ++ sB (Lib.itoa o.handle)) = sB (wd ++ body o (fs.take (i + 1).toNat)) := hb2
            clear hfw hb1 HO'
            obtain ⟨Z, hZ⟩ : ∃ Z, sB (Lib.itoa o.handle) = Z := ⟨_, rfl⟩
            rw [hZ] at hb2 hz1 hNb
            clear hZ
            obtain ⟨R, hR⟩ : ∃ R, sB (wd ++ body o (fs.take (i + 1).toNat)) = R := ⟨_, rfl⟩
            rw [hR] at hb2
            have HR := Aside0.mk hR
            clear hR
            go_wp2_with (go_at_call 23; refine (hNb _).mono ?_; rintro e w5 ⟨rfl, hB5⟩; have HB5 := Aside0.mk hB5; clear hB5)
            exact ⟨⟨i + 1, rfl, by rw [HR.out], by omega, by omega, ⟨HI2.out.below HB5.out⟩⟩, by simp [intOf]; omega⟩
          · have HP := Aside0.mk (prv_few HK.out HF.out.2 (f := .H) (by decide) hfw)
            have HI2 := Aside0.mk (HI.out.bel.setCell (p := ⟨tb, fldO .H, none⟩) (Nat.le_of_lt HLt.out) (.int .i64 0))
            have hor : o.handle < -999999999999999999 ∨ (999999999999999999 < o.handle ∧ ¬ o.handle < -999999999999999999) := by
              unfold fewD at hfw
              omega
            clear hfw hb1 hb2 HO'
            rcases hor with hor | ⟨hor, hor2⟩
            · go_wp2_with fail
              refine bodyPost_ret (v := .tuple #[.string ⟨#[]⟩, .int .i64 260]) (by simp [results, Tryz.f24, go_sem]) rfl ⟨HP.out.symm ▸ rfl, HI2.out⟩
            · go_wp2_with fail
              refine bodyPost_ret (v := .tuple #[.string ⟨#[]⟩, .int .i64 260]) (by simp [results, Tryz.f24, go_sem]) rfl ⟨HP.out.symm ▸ rfl, HI2.out⟩
        | O =>
          replace hcell : wr.cell? ⟨rb, i.toNat, none⟩ = some (.int .i64 2) := hcell
          replace hz1 : (sB (Lib.itoa o.offset)).size ≤ 137438953495 := hz1
          by_cases hfw : fewD o.offset
          · have hn1 : -999999999999999999 ≤ o.offset := hfw.1
            have hn2 : o.offset ≤ 999999999999999999 := hfw.2
            have hNb := fun W => rnumber_any o.offset W (by omega) (by omega)
            have HI2 := Aside0.mk (HI.out.num i0 HF.out.1 (f := .O) (by decide) hfw HLt.out)
            replace hb2 : Y ++ ((⟨#[32]⟩ : ByteArray) ++ sB (Lib.itoa o.offset)) = sB (wd ++ body o (fs.take (i + 1).toNat)) := hb2
            clear hfw hb1 HO'
            obtain ⟨Z, hZ⟩ : ∃ Z, sB (Lib.itoa o.offset) = Z := ⟨_, rfl⟩
            rw [hZ] at hb2 hz1 hNb
            clear hZ
            obtain ⟨R, hR⟩ : ∃ R, sB (wd ++ body o (fs.take (i + 1).toNat)) = R := ⟨_, rfl⟩
            rw [hR] at hb2
            have HR := Aside0.mk hR
            clear hR
            go_wp2_with (go_at_call 23; refine (hNb _).mono ?_; rintro e w5 ⟨rfl, hB5⟩; have HB5 := Aside0.mk hB5; clear hB5)
            exact ⟨⟨i + 1, rfl, by rw [HR.out], by omega, by omega, ⟨HI2.out.below HB5.out⟩⟩, by simp [intOf]; omega⟩
          · have HP := Aside0.mk (prv_few HK.out HF.out.2 (f := .O) (by decide) hfw)
            have HI2 := Aside0.mk (HI.out.bel.setCell (p := ⟨tb, fldO .O, none⟩) (Nat.le_of_lt HLt.out) (.int .i64 0))
            have hor : o.offset < -999999999999999999 ∨ (999999999999999999 < o.offset ∧ ¬ o.offset < -999999999999999999) := by
              unfold fewD at hfw
              omega
            clear hfw hb1 hb2 HO'
            rcases hor with hor | ⟨hor, hor2⟩
            · go_wp2_with fail
              refine bodyPost_ret (v := .tuple #[.string ⟨#[]⟩, .int .i64 260]) (by simp [results, Tryz.f24, go_sem]) rfl ⟨HP.out.symm ▸ rfl, HI2.out⟩
            · go_wp2_with fail
              refine bodyPost_ret (v := .tuple #[.string ⟨#[]⟩, .int .i64 260]) (by simp [results, Tryz.f24, go_sem]) rfl ⟨HP.out.symm ▸ rfl, HI2.out⟩
        | N =>
          replace hcell : wr.cell? ⟨rb, i.toNat, none⟩ = some (.int .i64 3) := hcell
          replace hz1 : (sB (Lib.itoa o.n)).size ≤ 137438953495 := hz1
          by_cases hfw : fewD o.n
          · have hn1 : -999999999999999999 ≤ o.n := hfw.1
            have hn2 : o.n ≤ 999999999999999999 := hfw.2
            have hNb := fun W => rnumber_any o.n W (by omega) (by omega)
            have HI2 := Aside0.mk (HI.out.num i0 HF.out.1 (f := .N) (by decide) hfw HLt.out)
            replace hb2 : Y ++ ((⟨#[32]⟩ : ByteArray) ++ sB (Lib.itoa o.n)) = sB (wd ++ body o (fs.take (i + 1).toNat)) := hb2
            clear hfw hb1 HO'
            obtain ⟨Z, hZ⟩ : ∃ Z, sB (Lib.itoa o.n) = Z := ⟨_, rfl⟩
            rw [hZ] at hb2 hz1 hNb
            clear hZ
            obtain ⟨R, hR⟩ : ∃ R, sB (wd ++ body o (fs.take (i + 1).toNat)) = R := ⟨_, rfl⟩
            rw [hR] at hb2
            have HR := Aside0.mk hR
            clear hR
            go_wp2_with (go_at_call 23; refine (hNb _).mono ?_; rintro e w5 ⟨rfl, hB5⟩; have HB5 := Aside0.mk hB5; clear hB5)
            exact ⟨⟨i + 1, rfl, by rw [HR.out], by omega, by omega, ⟨HI2.out.below HB5.out⟩⟩, by simp [intOf]; omega⟩
          · have HP := Aside0.mk (prv_few HK.out HF.out.2 (f := .N) (by decide) hfw)
            have HI2 := Aside0.mk (HI.out.bel.setCell (p := ⟨tb, fldO .N, none⟩) (Nat.le_of_lt HLt.out) (.int .i64 0))
            have hor : o.n < -999999999999999999 ∨ (999999999999999999 < o.n ∧ ¬ o.n < -999999999999999999) := by
              unfold fewD at hfw
              omega
            clear hfw hb1 hb2 HO'
            rcases hor with hor | ⟨hor, hor2⟩
            · go_wp2_with fail
              refine bodyPost_ret (v := .tuple #[.string ⟨#[]⟩, .int .i64 260]) (by simp [results, Tryz.f24, go_sem]) rfl ⟨HP.out.symm ▸ rfl, HI2.out⟩
            · go_wp2_with fail
              refine bodyPost_ret (v := .tuple #[.string ⟨#[]⟩, .int .i64 260]) (by simp [results, Tryz.f24, go_sem]) rfl ⟨HP.out.symm ▸ rfl, HI2.out⟩
        | F =>
          replace hcell : wr.cell? ⟨rb, i.toNat, none⟩ = some (.int .i64 4) := hcell
          replace hz1 : (sB (Lib.itoa o.flags)).size ≤ 137438953495 := hz1
          by_cases hfw : fewD o.flags
          · have hn1 : -999999999999999999 ≤ o.flags := hfw.1
            have hn2 : o.flags ≤ 999999999999999999 := hfw.2
            have hNb := fun W => rnumber_any o.flags W (by omega) (by omega)
            have HI2 := Aside0.mk (HI.out.num i0 HF.out.1 (f := .F) (by decide) hfw HLt.out)
            replace hb2 : Y ++ ((⟨#[32]⟩ : ByteArray) ++ sB (Lib.itoa o.flags)) = sB (wd ++ body o (fs.take (i + 1).toNat)) := hb2
            clear hfw hb1 HO'
            obtain ⟨Z, hZ⟩ : ∃ Z, sB (Lib.itoa o.flags) = Z := ⟨_, rfl⟩
            rw [hZ] at hb2 hz1 hNb
            clear hZ
            obtain ⟨R, hR⟩ : ∃ R, sB (wd ++ body o (fs.take (i + 1).toNat)) = R := ⟨_, rfl⟩
            rw [hR] at hb2
            have HR := Aside0.mk hR
            clear hR
            go_wp2_with (go_at_call 23; refine (hNb _).mono ?_; rintro e w5 ⟨rfl, hB5⟩; have HB5 := Aside0.mk hB5; clear hB5)
            exact ⟨⟨i + 1, rfl, by rw [HR.out], by omega, by omega, ⟨HI2.out.below HB5.out⟩⟩, by simp [intOf]; omega⟩
          · have HP := Aside0.mk (prv_few HK.out HF.out.2 (f := .F) (by decide) hfw)
            have HI2 := Aside0.mk (HI.out.bel.setCell (p := ⟨tb, fldO .F, none⟩) (Nat.le_of_lt HLt.out) (.int .i64 0))
            have hor : o.flags < -999999999999999999 ∨ (999999999999999999 < o.flags ∧ ¬ o.flags < -999999999999999999) := by
              unfold fewD at hfw
              omega
            clear hfw hb1 hb2 HO'
            rcases hor with hor | ⟨hor, hor2⟩
            · go_wp2_with fail
              refine bodyPost_ret (v := .tuple #[.string ⟨#[]⟩, .int .i64 260]) (by simp [results, Tryz.f24, go_sem]) rfl ⟨HP.out.symm ▸ rfl, HI2.out⟩
            · go_wp2_with fail
              refine bodyPost_ret (v := .tuple #[.string ⟨#[]⟩, .int .i64 260]) (by simp [results, Tryz.f24, go_sem]) rfl ⟨HP.out.symm ▸ rfl, HI2.out⟩
        | P =>
          replace hcell : wr.cell? ⟨rb, i.toNat, none⟩ = some (.int .i64 5) := hcell
          replace hz1 : (sB (quoteL o.path)).size ≤ 137438953495 := hz1
          have hQ := fun W => rquote_any (sB o.path) W (by rw [sB_size]; exact HO.out.txt .P)
          rw [sB_data] at hQ
          replace hb1 : Y ++ (⟨#[32]⟩ : ByteArray) ++ sB (quoteL o.path) = sB (wd ++ body o (fs.take (i + 1).toNat)) := hb1
          clear hb2 HO'
          obtain ⟨Z, hZ⟩ : ∃ Z, sB (quoteL o.path) = Z := ⟨_, rfl⟩
          rw [hZ] at hb1 hz1 hQ
          clear hZ
          obtain ⟨R, hR⟩ : ∃ R, sB (wd ++ body o (fs.take (i + 1).toNat)) = R := ⟨_, rfl⟩
          rw [hR] at hb1
          have HR := Aside0.mk hR
          clear hR
          go_wp2_with (go_at_call 52; refine (hQ _).mono ?_; rintro e w5 ⟨rfl, hB5⟩; have HI5 := Aside0.mk (HI.out.below hB5); clear c0 c1 c2 c3 c4 c5 c6 c7 d0 d1 d2 d3 d4 d5 d6 d7 f0 f1 f2 f3 f4 f5 f6 f7; obtain ⟨d0, d1, d2, d3, d4, d5, d6, d7⟩ := HI5.out.left.cells; obtain ⟨f0, f1, f2, f3, f4, f5, f6, f7⟩ := HI5.out.left.frozens; clear hB5)
          exact ⟨⟨i + 1, rfl, by rw [HR.out], by omega, by omega, ⟨HI5.out.txt i0 HF.out.1 (f := .P) rfl HLt.out⟩⟩, by simp [intOf]; omega⟩
        | Q =>
          replace hcell : wr.cell? ⟨rb, i.toNat, none⟩ = some (.int .i64 6) := hcell
          replace hz1 : (sB (quoteL o.other)).size ≤ 137438953495 := hz1
          have hQ := fun W => rquote_any (sB o.other) W (by rw [sB_size]; exact HO.out.txt .Q)
          rw [sB_data] at hQ
          replace hb1 : Y ++ (⟨#[32]⟩ : ByteArray) ++ sB (quoteL o.other) = sB (wd ++ body o (fs.take (i + 1).toNat)) := hb1
          clear hb2 HO'
          obtain ⟨Z, hZ⟩ : ∃ Z, sB (quoteL o.other) = Z := ⟨_, rfl⟩
          rw [hZ] at hb1 hz1 hQ
          clear hZ
          obtain ⟨R, hR⟩ : ∃ R, sB (wd ++ body o (fs.take (i + 1).toNat)) = R := ⟨_, rfl⟩
          rw [hR] at hb1
          have HR := Aside0.mk hR
          clear hR
          go_wp2_with (go_at_call 52; refine (hQ _).mono ?_; rintro e w5 ⟨rfl, hB5⟩; have HI5 := Aside0.mk (HI.out.below hB5); clear c0 c1 c2 c3 c4 c5 c6 c7 d0 d1 d2 d3 d4 d5 d6 d7 f0 f1 f2 f3 f4 f5 f6 f7; obtain ⟨d0, d1, d2, d3, d4, d5, d6, d7⟩ := HI5.out.left.cells; obtain ⟨f0, f1, f2, f3, f4, f5, f6, f7⟩ := HI5.out.left.frozens; clear hB5)
          exact ⟨⟨i + 1, rfl, by rw [HR.out], by omega, by omega, ⟨HI5.out.txt i0 HF.out.1 (f := .Q) rfl HLt.out⟩⟩, by simp [intOf]; omega⟩
        | D =>
          replace hcell : wr.cell? ⟨rb, i.toNat, none⟩ = some (.int .i64 7) := hcell
          replace hz1 : (sB (quoteL o.data)).size ≤ 137438953495 := hz1
          have hQ := fun W => rquote_any (sB o.data) W (by rw [sB_size]; exact HO.out.txt .D)
          rw [sB_data] at hQ
          replace hb1 : Y ++ (⟨#[32]⟩ : ByteArray) ++ sB (quoteL o.data) = sB (wd ++ body o (fs.take (i + 1).toNat)) := hb1
          clear hb2 HO'
          obtain ⟨Z, hZ⟩ : ∃ Z, sB (quoteL o.data) = Z := ⟨_, rfl⟩
          rw [hZ] at hb1 hz1 hQ
          clear hZ
          obtain ⟨R, hR⟩ : ∃ R, sB (wd ++ body o (fs.take (i + 1).toNat)) = R := ⟨_, rfl⟩
          rw [hR] at hb1
          have HR := Aside0.mk hR
          clear hR
          go_wp2_with (go_at_call 52; refine (hQ _).mono ?_; rintro e w5 ⟨rfl, hB5⟩; have HI5 := Aside0.mk (HI.out.below hB5); clear c0 c1 c2 c3 c4 c5 c6 c7 d0 d1 d2 d3 d4 d5 d6 d7 f0 f1 f2 f3 f4 f5 f6 f7; obtain ⟨d0, d1, d2, d3, d4, d5, d6, d7⟩ := HI5.out.left.cells; obtain ⟨f0, f1, f2, f3, f4, f5, f6, f7⟩ := HI5.out.left.frozens; clear hB5)
          exact ⟨⟨i + 1, rfl, by rw [HR.out], by omega, by omega, ⟨HI5.out.txt i0 HF.out.1 (f := .D) rfl HLt.out⟩⟩, by simp [intOf]; omega⟩
      · have hlt1 : decide (i < (N : Int)) = false := decide_eq_false hlt
        obtain rfl : i = (N : Int) := by omega
        have hfin : fs.take ((N : Int)).toNat = fs := by rw [Int.toNat_natCast]; exact List.take_of_length_le (by rw [HN.out]; exact Nat.le_refl _)
        have hleft := HI.out.left
        have hfew := HI.out.few
        rw [hfin] at hleft hfew ⊢
        have hiff := clear_iff HK.out
        obtain ⟨t, ht⟩ : ∃ t, clearAll fs { o with kind := 0 } = t := ⟨_, rfl⟩
        rw [ht] at hleft hiff
        have HP := Aside0.mk (show printV o = if t = {} then .tuple #[.string (sB (wd ++ body o fs)), .int .i64 0] else .tuple #[.string ⟨#[]⟩, .int .i64 260] by
          unfold printV printL
          rw [HK.out]
          simp only
          by_cases h : t = {}
          · rw [if_pos h, if_pos ⟨hfew, hiff.1 h⟩]
          · rw [if_neg h, if_neg fun h2 => h (hiff.2 h2.2)])
        obtain ⟨Y, hY⟩ : ∃ Y, sB (wd ++ body o fs) = Y := ⟨_, rfl⟩
        rw [hY] at HP ⊢
        have hbel := Aside0.mk HI.out.bel
        obtain ⟨d0, d1, d2, d3, d4, d5, d6, d7⟩ := hleft.cells
        have HLft := Aside0.mk hleft
        clear hY hlt hfin hleft hfew hiff ht HI
        have hem : (sB []).toList = [] := by rw [Lib.toList_data, sB_data]
        by_cases he : t = {}
        · subst he
          go_wp2
          refine bodyPost_ret (v := .tuple #[.string Y, .int .i64 0]) (by simp [results, Tryz.f24, go_sem]) rfl ⟨?_, hbel.out⟩
          rw [HP.out]
          simp
        · have HEq := Aside0.mk he
          have HEm := Aside0.mk hem
          clear he hem
          go_wp2
          all_goals first
            | (exfalso
               refine HEq.out (op_ext ?_ ?_ ?_ ?_ ?_ ?_ ?_ ?_) <;> first | assumption | exact Eq.trans (by assumption) HEm.out.symm)
            | (refine bodyPost_ret (v := .tuple #[.string ⟨#[]⟩, .int .i64 260]) (by simp [results, Tryz.f24, go_sem]) rfl ⟨?_, hbel.out⟩
               rw [HP.out, if_neg HEq.out])
end Go.Proofs.YteglbmindbfkeaaGreatDoor.H
