/- Printing whole scripts, by the program and by the reference; words and numbers as they are read. -/
import Derived.Test.YteglbmindbfkeaaGreatDoorCe
import Derived.Deep.AppendSrc
import Derived.Lib.SplitLaws
import Derived.Test.YteglbmindbfkeaaGreatDoorPu
import Derived.OneCell
namespace Go.Proofs.YteglbmindbfkeaaGreatDoor.H
open Go.RowKit Go.Proofs.YteglbmindbfkeaaGreatDoorW.PrintWords
set_option linter.unusedVariables false
set_option linter.unusedSimpArgs false
/-- What Print answers. -/
def prV (R : Except Int Bs) : Value := match R with
  | .ok t => .tuple #[.string (sB t), .int .i64 0]
  | .error k => .tuple #[.string ⟨#[]⟩, .int .i64 k]
theorem BldAt.less {B C b : Nat} {p : Value} {bs : List Value} {w : World} (h : Lib.BuilderAt 47 5 B b p bs w) (hc : C ≤ B) : Lib.BuilderAt 47 5 C b p bs w := by
  obtain ⟨h1, v, h2, h3, h4⟩ := h
  exact ⟨Nat.le_trans hc h1, v, h2, own_less h3 hc, h4⟩
theorem Bld.less {B C b : Nat} {l : Bs} {w : World} (h : Bld B b l w) (hc : C ≤ B) : Bld C b l w := by
  rcases h with h | h
  · exact .inl (BldAt.less h hc)
  · exact .inr (BldAt.less h hc)
theorem livesL_none {l : LifeV} : ∀ {ls : List LifeV}, l ∈ ls → lifeL l = none → livesL ls = none := by
  intro ls
  induction ls with
  | nil => intro h; simp at h
  | cons x r ih =>
    intro h hp
    rcases List.mem_cons.1 h with rfl | h
    · simp only [livesL, hp]
    · simp only [livesL]
      rw [ih h hp]
      cases lifeL x <;> rfl
theorem livesL_snoc {ls : List LifeV} {l : LifeV} {i : Nat} {T t : Bs} (h : ls[i]? = some l) (hT : livesL (ls.take i) = some T) (ht : lifeL l = some t) : livesL (ls.take (i + 1)) = some (T ++ t) := by
  rw [take_snoc h]
  exact livesL_app.2 ⟨T, t, hT, livesL_one.2 ht, rfl⟩
theorem lifeL_len {l : LifeV} {t : Bs} (hok : LfOk l) (hn : l.ops.length ≤ 1024) (h : lifeL l = some t) : t.length ≤ 12950000000 := by
  unfold lifeL at h
  split at h
  · split at h
    · next x hx =>
      split at h
      · cases h
        have h1 := opsL_len hok.ops hx
        have h2 := nsF_len hok.keep
        have h3 := hok.kpn
        have h4 := nsF_len (ns := [l.stop]) (by intro n hn; rw [List.mem_singleton.1 hn]; exact hok.stop)
        have h5 : (keepL l.keep).length ≤ 23068700 := by
          unfold keepL
          split
          · simp
          · rw [List.length_append, lineL_nsF, List.length_append]
            have : wKeep.length = 4 := rfl
            simp only [List.length_cons, List.length_nil]
            omega
        rw [List.length_append, List.length_cons, List.length_append, lineL_nsF, List.length_append]
        have : wLife.length = 4 := rfl
        simp only [List.length_cons, List.length_nil] at h4
        omega
      · cases h
    · cases h
  · cases h
theorem livesL_len : ∀ {ls : List LifeV} {t : Bs}, (∀ l ∈ ls, LfOk l ∧ l.ops.length ≤ 1024) → livesL ls = some t → t.length ≤ 12950000000 * ls.length := by
  intro ls
  induction ls with
  | nil => intro t _ h; cases h; simp
  | cons l r ih =>
    intro t hok h
    simp only [livesL] at h
    split at h
    · next s hs =>
      split at h
      · next t' ht =>
        cases h
        have h1 := ih (fun x hx => hok x (List.mem_cons_of_mem _ hx)) ht
        have h0 := hok l (List.mem_cons_self ..)
        have h2 := lifeL_len h0.1 h0.2 hs
        rw [List.length_append, List.length_cons]
        omega
      · cases h
    · cases h
theorem few_ops {ls : List LifeV} (h : fewL ls = true) {l : LifeV} (hl : l ∈ ls) : l.ops.length ≤ 1024 ∧ ls.length ≤ 16 := by
  unfold fewL at h
  rw [Bool.and_eq_true, decide_eq_true_eq, decide_eq_true_eq] at h
  refine ⟨?_, h.1⟩
  have : ∀ {ls : List LifeV}, l ∈ ls → l.ops.length ≤ opsN ls := by
    intro ls
    induction ls with
    | nil => intro h; simp at h
    | cons x r ih =>
      intro hm
      unfold opsN
      rw [List.map_cons, List.sum_cons]
      rcases List.mem_cons.1 hm with rfl | hm
      · omega
      · have := ih hm
        unfold opsN at this
        omega
  exact Nat.le_trans (this hl) h.2
theorem shapeL_len {s : ShapeV} (hs : ShOk s) : (shapeL s).length ≤ 400 := by
  rw [shapeL_cut]
  have zc := line_len (wd := wCut) (ns := [s.min, s.normal, s.max]) (k := 3) (by decide) (by
    simp only [List.mem_cons, List.not_mem_nil, or_false]
    rintro n (rfl | rfl | rfl)
    · exact hs.min
    · exact hs.normal
    · exact hs.max) (by simp)
  have zv := line_len (wd := wVolume) (ns := [s.sector, s.sectors, s.journal, s.pack]) (k := 4) (by decide) (by
    simp only [List.mem_cons, List.not_mem_nil, or_false]
    rintro n (rfl | rfl | rfl | rfl)
    · exact hs.sector
    · exact hs.sectors
    · exact hs.journal
    · exact hs.pack) (by simp)
  have zi := line_len (wd := wIndex) (ns := [s.bits]) (k := 1) (by decide) (by
    simp only [List.mem_cons, List.not_mem_nil, or_false]
    rintro n rfl
    exact hs.bits) (by simp)
  have zd := dec_len20 hs.seed
  rw [sB_size] at zc zv zi
  have z5 : (ddL s.dedup).length ≤ 5 := by unfold ddL; split <;> decide
  unfold cutL
  simp only [List.length_append, List.length_cons, List.length_nil]
  omega
theorem prT_chk {s : ShapeV} {ls : List LifeV} (h : checkL s = false) : printT s ls = .error 41 := if_pos h
theorem prT_few {s : ShapeV} {ls : List LifeV} (h : checkL s = true) (h2 : fewL ls = false) : printT s ls = .error 3 := by unfold printT; rw [if_neg (by simp [h]), if_pos h2]
theorem prT_none {s : ShapeV} {ls : List LifeV} (h : checkL s = true) (h2 : fewL ls = true) (h3 : livesL ls = none) : printT s ls = .error 260 := by unfold printT; rw [if_neg (by simp [h]), if_neg (by simp [h2]), h3]
theorem prT_some {s : ShapeV} {ls : List LifeV} {t : Bs} (h : checkL s = true) (h2 : fewL ls = true) (h3 : livesL ls = some t) : printT s ls = if 1048576 < (shapeL s ++ t).length then .error 3 else .ok (shapeL s ++ t) := by unfold printT; rw [if_neg (by simp [h]), if_neg (by simp [h2]), h3]
set_option maxRecDepth 100000 in
set_option maxHeartbeats 8000000 in
theorem pPrint_any (s : ShapeV) (A : Option Addr) (c : Nat) (ls : List LifeV) (w : World) (hE : Env w) (hs : ShOk s) (hL : LivesR w A ls) (hok : LvOk ls) :
    Calls Tryz.prog 6 #[shV s, .slice A ls.length c] w fun e w' => e = .returned (prV (printT s ls)) ∧ Below w.heap.size w w' := by
  have HE := Aside0.mk hE
  have HS := Aside0.mk hs
  have HL := Aside0.mk hL
  have HOk := Aside0.mk hok
  have hC := fun W => check_any s W
  have HB0 := Aside0.mk (below_alloc (Below.refl w.heap.size w) (.cells (shC s) 26))
  have HX := Aside0.mk (ShBox.new w s)
  unfold shV at hC ⊢
  unfold shC at hC
  obtain ⟨V, hV⟩ : ∃ V, shC s = V := ⟨_, rfl⟩
  clear hE hs hL hok
  cases hk : checkL s with
  | false =>
    rw [hk] at hC
    have HC := Aside0.mk hC
    have HR := Aside0.mk (prT_chk (ls := ls) hk)
    clear hk hC
    rw [hV] at HX HB0 ⊢
    obtain ⟨x0, x1, x2, x3, x4, x5, x6, x7, x8, x9⟩ := HX.out
    clear hV
    go_enter Tryz.func6, Tryz.ntmps6
    go_wp2_with (go_at_call 13; refine (HC.out _).mono ?_; rintro e w1 ⟨rfl, hB⟩; have HB1 := Aside0.mk (below_step HB0.out hB); clear hB)
    refine bodyPost_ret (v := .tuple #[.string ⟨#[]⟩, .int .i64 41]) (by simp [results, Tryz.f6, go_sem]) rfl ⟨by rw [HR.out]; rfl, HB1.out⟩
  | true =>
    rw [hk] at hC
    have HC := Aside0.mk hC
    have HK := Aside0.mk hk
    clear hk hC
    have hFw := fun W (hb : Below w.heap.size w W) => few_any A c ls W (HL.out.below hb) HOk.out
    have hSh := fun W (hb : Below w.heap.size w W) => shapeText_any s W (HE.out.below hb) HS.out
    unfold shV shC at hSh
    rw [hV] at HX HB0 ⊢
    have HSh := Aside0.mk hSh
    obtain ⟨x0, x1, x2, x3, x4, x5, x6, x7, x8, x9⟩ := HX.out
    clear hSh hV
    cases hf : fewL ls with
    | false =>
      rw [hf] at hFw
      have HFw := Aside0.mk hFw
      have HR := Aside0.mk (prT_few HK.out hf)
      clear hf hFw
      go_enter Tryz.func6, Tryz.ntmps6
      go_wp2_with (first
        | (go_at_call 13; refine (HC.out _).mono ?_; rintro e w1 ⟨rfl, hB⟩; have HB1 := Aside0.mk (below_step HB0.out hB); clear hB)
        | (go_at_call 14; refine (HFw.out _ HB1.out).mono ?_; rintro e w2 ⟨rfl, hB⟩; have HB2 := Aside0.mk (below_step HB1.out hB); clear hB))
      refine bodyPost_ret (v := .tuple #[.string ⟨#[]⟩, .int .i64 3]) (by simp [results, Tryz.f6, go_sem]) rfl ⟨by rw [HR.out]; rfl, HB2.out⟩
    | true =>
      rw [hf] at hFw
      have HFw := Aside0.mk hFw
      have HF := Aside0.mk hf
      clear hf hFw
      go_enter Tryz.func6, Tryz.ntmps6
      go_wp2_with (first
        | (go_at_call 13; refine (HC.out _).mono ?_; rintro e w1 ⟨rfl, hB⟩; have HB1 := Aside0.mk (below_step HB0.out hB); have HX1 := Aside0.mk (HX.out.below hB); clear hB)
        | (go_at_call 14; refine (HFw.out _ HB1.out).mono ?_; rintro e w2 ⟨rfl, hB⟩; have HB2 := Aside0.mk (below_step HB1.out hB); have HX2 := Aside0.mk ((HX1.out.below hB).below (below_alloc (Below.refl _ _) (.cells #[.pointer none, .slice none 0 0] 47))); have HBd2 := Aside0.mk (fresh_bld w2); clear x0 x1 x2 x3 x4 x5 x6 x7 x8 x9; obtain ⟨x0, x1, x2, x3, x4, x5, x6, x7, x8, x9⟩ := HX2.out; clear hB)
        | (go_at_call 16; refine (HSh.out _ (below_alloc HB2.out _)).mono ?_; rintro e w3 ⟨rfl, hB⟩; have HB3 := Aside0.mk (below_step (below_alloc HB2.out _) hB); have HBd3 := Aside0.mk ((HBd2.out.less HB2.out.size).below hB); clear hB)
        | (go_at_call 15; refine (writeString_k w.heap.size _ [] _ _ HBd3.out (by rw [sB_size]; have := shapeL_len HS.out; simp only [List.length_nil]; omega) HB3.out.size).mono ?_; rintro e w4 ⟨rfl, h1, h2, h3⟩; have HB4 := Aside0.mk (HB3.out.trans h2); rw [sB_data, List.nil_append] at h1; have HBd4 := Aside0.mk h1; clear h1 h2 h3))
      obtain ⟨bb, hbb⟩ : ∃ bb, w2.heap.size = bb := ⟨_, rfl⟩
      rw [hbb] at HBd4 ⊢
      obtain ⟨N, hN⟩ : ∃ N, ls.length = N := ⟨_, rfl⟩
      have hn := HOk.out.num
      rw [hN] at hn ⊢
      have HN := Aside0.mk hN
      have HSl := Aside0.mk (shapeL_len HS.out)
      clear hbb hN x0 x1 x2 x3 x4 x5 x6 x7 x8 x9 HX2 HX1 HBd2 HBd3 HB1 HB2 HB3
      go_loopw [24] (fun iv wr => ∃ (i : Int) (T : Bs), iv = .int .i64 i ∧ 0 ≤ i ∧ i ≤ N ∧ Aside0 (livesL (ls.take i.toNat) = some T) ∧ Aside0 (Bld w.heap.size bb (shapeL s ++ T) wr) ∧ Aside0 (Below w.heap.size w wr)) (fun iv _ => (N - intOf iv).toNat)
      case atStart => exact ⟨0, [], rfl, Int.le_refl _, by omega, ⟨rfl⟩, by rw [List.append_nil]; exact HBd4, HB4⟩
      case round =>
        obtain ⟨i, T, rfl, i0, i1, HT, HBd, HB⟩ := hrel
        have w4 : wrap64 (i + 1) = i + 1 := by unfold wrap64; omega
        have HTl := Aside0.mk (show T.length ≤ 207200000000 by
          have h1 := livesL_len (fun x hx => ⟨HOk.out.each x (List.mem_of_mem_take hx), (few_ops HF.out (List.mem_of_mem_take hx)).1⟩) HT.out
          have h2 : (ls.take i.toNat).length ≤ 16 := by
            by_cases h0 : ls = []
            · rw [h0]; simp
            · obtain ⟨x, hx⟩ := List.exists_mem_of_ne_nil _ h0
              have := (few_ops HF.out hx).2
              rw [List.length_take]
              omega
          omega)
        by_cases hlt : i < (N : Int)
        · have hlt1 : decide (i < (N : Int)) = true := decide_eq_true hlt
          obtain ⟨l, b1, k1, A1, n1, A2, n2, hl, hlm, rfl, hc⟩ := lives_get HL.out (i := i.toNat) (by rw [HN.out]; omega)
          have hc2 := hc.below HB.out
          have c0 := hc2.c0
          have c1 := hc2.c1
          have c2 := hc2.c2
          have HC1 := Aside0.mk (And.intro hc.ops hc.keep)
          have HLm := Aside0.mk (And.intro hl hlm)
          have hLt := fun W (h1 : Bld w.heap.size bb (shapeL s ++ T) W) (h2 : Below w.heap.size w W) => lifeText_any bb (shapeL s ++ T) l A1 n1 A2 n2 w W HE.out h1 h2 HC1.out.1 HC1.out.2 (HOk.out.each l HLm.out.2) (few_ops HF.out HLm.out.2).1 (by rw [List.length_append]; have := HSl.out; have := HTl.out; omega)
          clear hc hc2 hl hlm
          cases hq : lifeL l with
          | none =>
            rw [hq] at hLt
            have HR := Aside0.mk (prT_none HK.out HF.out (livesL_none HLm.out.2 hq))
            have HLt := Aside0.mk hLt
            clear hq hLt
            go_wp2_with (go_at_call 17; refine (HLt.out _ (HBd.out.below (below_alloc (Below.refl _ _) _)) (below_alloc HB.out _)).mono ?_; rintro e w5 ⟨rfl, hB, -⟩; have HB5 := Aside0.mk hB; clear hB)
            refine bodyPost_ret (v := .tuple #[.string ⟨#[]⟩, .int .i64 260]) (by simp [results, Tryz.f6, go_sem]) rfl ⟨by rw [HR.out]; rfl, HB5.out⟩
          | some t =>
            rw [hq] at hLt
            have HQ := Aside0.mk hq
            have HLt := Aside0.mk hLt
            clear hq hLt
            go_wp2_with (go_at_call 17; refine (HLt.out _ (HBd.out.below (below_alloc (Below.refl _ _) _)) (below_alloc HB.out _)).mono ?_; rintro e w5 ⟨⟨rfl, hbd⟩, hB, -⟩; have HB5 := Aside0.mk hB; have HBd5 := Aside0.mk hbd; clear hB hbd)
            refine ⟨⟨i + 1, T ++ t, rfl, by omega, by omega, ⟨?_⟩, ⟨?_⟩, HB5⟩, by simp [intOf]; omega⟩
            · rw [show (i + 1).toNat = i.toNat + 1 by omega]
              exact livesL_snoc HLm.out.1 HT.out HQ.out
            · rw [← List.append_assoc]
              exact HBd5.out
        · have hlt1 : decide (i < (N : Int)) = false := decide_eq_false hlt
          have hfin : ls.take i.toNat = ls := List.take_of_length_le (by rw [HN.out]; omega)
          rw [hfin] at HT
          have HR := Aside0.mk (prT_some HK.out HF.out HT.out)
          obtain ⟨X, hX⟩ : ∃ X, shapeL s ++ T = X := ⟨_, rfl⟩
          rw [hX] at HBd HR
          have hXl : X.length ≤ 207200000400 := by rw [← hX, List.length_append]; have := HSl.out; have := HTl.out; omega
          have hLn := Tryz.Builder_Len w.heap.size bb (Lib.byteCells X) wr HBd.out
          rw [Lib.byteCells_length] at hLn
          have HLn := Aside0.mk hLn
          have hSt := Tryz.Builder_String_any w.heap.size bb X wr HBd.out HB.out.size
          have HSt := Aside0.mk hSt
          obtain ⟨M, hM⟩ : ∃ M, X.length = M := ⟨_, rfl⟩
          rw [hM] at HLn HR hXl
          clear hlt hfin hX hLn hSt hM
          by_cases hbig : 1048576 < M
          · rw [if_pos hbig] at HR
            have hbi : (1048576 : Int) < (M : Int) := by omega
            go_wp2_with (go_at_call 18; refine HLn.out.mono ?_; rintro e w6 ⟨rfl, rfl⟩)
            refine bodyPost_ret (v := .tuple #[.string ⟨#[]⟩, .int .i64 3]) (by simp [results, Tryz.f6, go_sem]) rfl ⟨by rw [HR.out]; rfl, HB.out⟩
          · rw [if_neg hbig] at HR
            have hbi : ¬ (1048576 : Int) < (M : Int) := by omega
            go_wp2_with (first
              | (go_at_call 18; refine HLn.out.mono ?_; rintro e w6 ⟨rfl, rfl⟩)
              | (go_at_call 19; refine HSt.out.mono ?_; rintro e w7 ⟨rfl, hB⟩; have HB7 := Aside0.mk (HB.out.trans hB); clear hB))
            refine bodyPost_ret (v := .tuple #[.string (sB X), .int .i64 0]) (by simp [results, Tryz.f6, go_sem, sB]) rfl ⟨by rw [HR.out]; rfl, HB7.out⟩
end Go.Proofs.YteglbmindbfkeaaGreatDoor.H
namespace Go.Proofs.YteglbmindbfkeaaGreatDoor.H
open Go.RowKit Go.Proofs.YteglbmindbfkeaaGreatDoorW.PrintWords
set_option linter.unusedVariables false
set_option linter.unusedSimpArgs false
set_option maxRecDepth 100000 in
set_option maxHeartbeats 1000000 in
theorem rseed_any (u : Nat) (w : World) (hu : u < 18446744073709551616) : Calls Tryz.prog 49 #[.int .u64 (u : Int)] w fun e w' => e = .returned (.string (sB (Lib.decDigits u))) ∧ Below w.heap.size w w' := by
  by_cases hs : u ≤ 999999999999999999
  · have h := fun W => rnumber_any (u : Int) W (by omega) (by omega)
    rw [← dec_itoa] at h
    have hw : IntKind.i64.wrap (u : Int) = u := i64_wrap _ (by omega) (by omega)
    go_enter Tryz.func49, Tryz.ntmps49
    go_wp2_with (go_at_call 23; refine (h _).mono ?_; rintro e w1 ⟨rfl, hB⟩; have HB := Aside0.mk hB; clear hB)
    go_ret
    exact ⟨rfl, HB.out⟩
  · have hs1 : ¬ ((u : Int) ≤ 999999999999999999) := by omega
    have HU := Aside0.mk hu
    have hdl20 : ∀ (m : Nat) (d : Bs), Lib.decDigits m ++ d = Lib.decDigits u → d.length ≤ 20 := fun m d h => by
      have h1 := congrArg List.length h
      rw [List.length_append] at h1
      have h2 := dec_len20 hu
      omega
    have HD20 := Aside0.mk hdl20
    clear hdl20
    go_enter Tryz.func49, Tryz.ntmps49
    go_wp2_with fail
    go_loopw [0, 3] (fun mv dv wr => ∃ (m : Nat) (d : Bs), dv = .string (sB d) ∧ mv = .int .u64 (m : Int) ∧ m < 18446744073709551616 ∧ Aside0 ((0 < m → Lib.decDigits m ++ d = Lib.decDigits u) ∧ (m = 0 → d = Lib.decDigits u)) ∧ Aside0 (Below w.heap.size w wr)) (fun mv _ _ => (intOf mv).toNat)
    case atStart => exact ⟨u, [], rfl, rfl, hu, ⟨fun _ => List.append_nil _, fun h => by omega⟩, ⟨Below.refl _ _⟩⟩
    case round =>
      obtain ⟨m, d, rfl, rfl, hm, HD, HB⟩ := hrel
      by_cases hlt : (0 : Int) < m
      · have hDd := HD.out.1 (by omega)
        have hdl : (sB d).size ≤ 20 := by rw [sB_size]; exact HD20.out m d hDd
        have HDd := Aside0.mk hDd
        have hcv := one_text wr (48 + (m : Int) % 10) (m % 10) (by omega) (by omega)
        obtain ⟨c, hc⟩ : ∃ c, UInt8.ofNat (48 + m % 10) = c := ⟨_, rfl⟩
        have hsz1 : (sB [c]).size = 1 := by rw [sB_size]; rfl
        rw [hc] at hcv
        have HC := Aside0.mk hc
        clear hc hDd
        go_wp2
        refine ⟨⟨m / 10, c :: d, by rw [sB_app]; rfl, by simp, by omega, ⟨fun h => ?_, fun h => ?_⟩, ⟨below_alloc HB.out _⟩⟩, ?_⟩
        · rw [← HDd.out, dec_step (m := m) (by omega), HC.out, List.append_assoc]
          rfl
        · rw [← HDd.out, Lib.decDigits_one (by omega), ← HC.out, show m % 10 = m by omega]
          rfl
        · show ((m : Int) / 10).toNat < (m : Int).toNat
          omega
      · have hm0 : m = 0 := by omega
        have HDe := Aside0.mk (HD.out.2 hm0)
        subst hm0
        go_wp2
        refine bodyPost_ret (v := .string (sB d)) (by simp [results, Tryz.f49, go_sem]) rfl ⟨by rw [HDe.out], HB.out⟩
section
variable {P : Program} {C : World → Prop} {a : Act} {o : Oper} {K : Act → Prop}
theorem q_pure {v : Value} (h : ∀ w, (execOp a.eval o).run P w = .ok (.value v) w) (hk : K (a.put o.dst v)) : o.quiet P a C K := ⟨v, fun w _ => by unfold Oper.quietAt; rw [h w]; exact ⟨rfl, rfl⟩, hk⟩
theorem q_in {v : Value} (h : ∀ w, C w → (execOp a.eval o).run P w = .ok (.value v) w) (hk : K (a.put o.dst v)) : o.quiet P a C K := ⟨v, fun w hw => by unfold Oper.quietAt; rw [h w hw]; exact ⟨rfl, rfl⟩, hk⟩
theorem q_call {f : FuncId} {args : Array Value} {v : Value} (h : ∀ w, (execOp a.eval o).run P w = .ok (.enter f args) w) (hc : ∀ w, C w → Calls P f args w (fun e w' => e = .returned v ∧ C w')) (hk : K (a.put o.dst v)) : o.quiet P a C K := ⟨v, fun w hw => by unfold Oper.quietAt; rw [h w]; exact ⟨rfl, hc w hw⟩, hk⟩
end
end Go.Proofs.YteglbmindbfkeaaGreatDoor.H
namespace Go.Proofs.YteglbmindbfkeaaGreatDoor.H
open Go.RowKit Go.Proofs.YteglbmindbfkeaaGreatDoorW.PrintWords
set_option linter.unusedVariables false
set_option linter.unusedSimpArgs false
section
variable {P : Program} {C : World → Prop} {a : Act} {o : Oper} {K : Act → Prop}
theorem q_add {x y : Operand} {t t2 : TypeId} {p q : ByteArray} (ho : o.op = .binOp .add t x y t2) (hx : a.eval x = .string p) (hy : a.eval y = .string q) (hs : p.size + q.size ≤ 9223372036854775807) (hk : K (a.put o.dst (.string (p ++ q)))) : o.quiet P a C K := by
  refine q_pure (fun w => ?_) hk
  have h := run_string_add_sum (P := P) (w := w) p q hs
  unfold execOp
  rw [ho]
  simp only [hx, hy, binOp_string_add, Sem.run_bind, Sem.run_map]
  have hg : (eqGuard BinOp.add t x y (.string p) (.string q)).run P w = .ok () w := by first | rfl | simp [eqGuard] | (simp [eqGuard]; rfl)
  rw [hg]
  simp only [Result.andThen, h]
  rfl
end
theorem head_join (s : ShapeV) : shapeL s = [118, 111, 108, 117, 109, 101, 32] ++ Lib.itoa s.sector ++ [32] ++ Lib.itoa s.sectors ++ [32] ++ Lib.itoa s.journal ++ [32] ++ Lib.itoa s.pack ++ [10, 99, 117, 116, 32] ++ Lib.itoa s.min ++ [32] ++ Lib.itoa s.normal ++ [32] ++ Lib.itoa s.max ++ [32] ++ Lib.decDigits s.seed ++ [10, 105, 110, 100, 101, 120, 32] ++ Lib.itoa s.bits ++ [32] ++ ddL s.dedup ++ [10] := by
  unfold shapeL lineL
  simp [wVolume, wCut, wIndex]
theorem itoa_sz {n : Int} (h : I64 n) : (sB (Lib.itoa n)).size ≤ 21 := by
  rw [sB_size]
  have := Lib.itoa_length_le n h.1 h.2
  omega
set_option maxRecDepth 100000 in
set_option maxHeartbeats 16000000 in
theorem rhead_any (s : ShapeV) (w : World) (hs : ShOk s) : Calls Tryz.prog 22 #[shV s] w fun e w' => e = .returned (.string (sB (shapeL s))) ∧ Below w.heap.size w w' := by
  have HB0 := Aside0.mk (below_alloc (Below.refl w.heap.size w) (.cells (shC s) 26))
  have HX := Aside0.mk (ShBox.new w s)
  have HJ := Aside0.mk (head_join s)
  have zsector := itoa_sz hs.sector
  have Csector := Aside0.mk (fun W => rnumber_any s.sector W hs.sector.1 hs.sector.2)
  have zsectors := itoa_sz hs.sectors
  have Csectors := Aside0.mk (fun W => rnumber_any s.sectors W hs.sectors.1 hs.sectors.2)
  have zjournal := itoa_sz hs.journal
  have Cjournal := Aside0.mk (fun W => rnumber_any s.journal W hs.journal.1 hs.journal.2)
  have zpack := itoa_sz hs.pack
  have Cpack := Aside0.mk (fun W => rnumber_any s.pack W hs.pack.1 hs.pack.2)
  have zmin := itoa_sz hs.min
  have Cmin := Aside0.mk (fun W => rnumber_any s.min W hs.min.1 hs.min.2)
  have znormal := itoa_sz hs.normal
  have Cnormal := Aside0.mk (fun W => rnumber_any s.normal W hs.normal.1 hs.normal.2)
  have zmax := itoa_sz hs.max
  have Cmax := Aside0.mk (fun W => rnumber_any s.max W hs.max.1 hs.max.2)
  have zbits := itoa_sz hs.bits
  have Cbits := Aside0.mk (fun W => rnumber_any s.bits W hs.bits.1 hs.bits.2)
  have zseed : (sB (Lib.decDigits s.seed)).size ≤ 20 := by rw [sB_size]; exact dec_len20 hs.seed
  have Cseed := Aside0.mk (fun W => rseed_any s.seed W hs.seed)
  obtain ⟨Nsector, hsector⟩ : ∃ N, sB (Lib.itoa s.sector) = N := ⟨_, rfl⟩
  rw [hsector] at zsector Csector
  obtain ⟨Nsectors, hsectors⟩ : ∃ N, sB (Lib.itoa s.sectors) = N := ⟨_, rfl⟩
  rw [hsectors] at zsectors Csectors
  obtain ⟨Njournal, hjournal⟩ : ∃ N, sB (Lib.itoa s.journal) = N := ⟨_, rfl⟩
  rw [hjournal] at zjournal Cjournal
  obtain ⟨Npack, hpack⟩ : ∃ N, sB (Lib.itoa s.pack) = N := ⟨_, rfl⟩
  rw [hpack] at zpack Cpack
  obtain ⟨Nmin, hmin⟩ : ∃ N, sB (Lib.itoa s.min) = N := ⟨_, rfl⟩
  rw [hmin] at zmin Cmin
  obtain ⟨Nnormal, hnormal⟩ : ∃ N, sB (Lib.itoa s.normal) = N := ⟨_, rfl⟩
  rw [hnormal] at znormal Cnormal
  obtain ⟨Nmax, hmax⟩ : ∃ N, sB (Lib.itoa s.max) = N := ⟨_, rfl⟩
  rw [hmax] at zmax Cmax
  obtain ⟨Nbits, hbits⟩ : ∃ N, sB (Lib.itoa s.bits) = N := ⟨_, rfl⟩
  rw [hbits] at zbits Cbits
  obtain ⟨Nseed, hseed⟩ : ∃ N, sB (Lib.decDigits s.seed) = N := ⟨_, rfl⟩
  rw [hseed] at zseed Cseed
  unfold shV
  obtain ⟨V, hV⟩ : ∃ V, shC s = V := ⟨_, rfl⟩
  rw [hV] at HB0 HX ⊢
  have r9 := HX.out.c9
  have HH := Aside0.mk (And.intro hsector (And.intro hsectors (And.intro hjournal (And.intro hpack (And.intro hmin (And.intro hnormal (And.intro hmax (And.intro hbits hseed))))))))
  clear hs hV hsector hsectors hjournal hpack hmin hnormal hmax hbits hseed
  cases hd : s.dedup with
  | true =>
    rw [hd] at r9
    have HD := Aside0.mk hd
    clear hd
    go_enter Tryz.func22, Tryz.ntmps22
    go_wp2_with fail
    obtain ⟨w2, hw2⟩ : ∃ w2, w.alloc (.cells V 26) = w2 := ⟨_, rfl⟩
    rw [hw2] at HB0 HX ⊢
    clear hw2 r9
    have e1 : (⟨#[118, 111, 108, 117, 109, 101, 32]⟩ : ByteArray).size = 7 := rfl
    have e2 : (⟨#[32]⟩ : ByteArray).size = 1 := rfl
    have e3 : (⟨#[10, 99, 117, 116, 32]⟩ : ByteArray).size = 5 := rfl
    have e4 : (⟨#[10, 105, 110, 100, 101, 120, 32]⟩ : ByteArray).size = 7 := rfl
    have e5 : (⟨#[100, 101, 100, 117, 112]⟩ : ByteArray).size = 5 := rfl
    have e6 : (⟨#[10]⟩ : ByteArray).size = 1 := rfl
    refine wp_region_quiet (C := fun W => Below w2.heap.size w2 W) (by kernel_rfl) (by kernel_rfl) (below_drew (Below.refl _ _)) ?_
    rw [List.toList_toArray]
    refine wpQuiet_step (fun K hK => ?_)
    rw [if_pos (by rfl)]
    refine q_pure (v := .pointer (some ⟨w.heap.size, 0, none⟩)) (fun W => by go_simp) (hK _ ?_)
    clear hK K
    simp only [Act.put, List.setIfInBounds_toArray, List.set_cons_zero, List.set_cons_succ]
    refine wpQuiet_step (fun K hK => ?_)
    rw [if_pos (by rfl)]
    refine q_in (v := .int .i64 s.sector) (fun W hW => by have hc := (HX.out.below hW).c0; go_simp) (hK _ ?_)
    clear hK K
    simp only [Act.put, List.setIfInBounds_toArray, List.set_cons_zero, List.set_cons_succ]
    refine wpQuiet_step (fun K hK => ?_)
    rw [if_pos (by rfl)]
    refine q_call (f := 23) (args := #[.int .i64 s.sector]) (v := .string Nsector) (fun W => by go_simp) (fun W hW => (Csector.out W).mono fun e w' ⟨he, hB⟩ => ⟨he, below_step hW hB⟩) (hK _ ?_)
    clear hK K
    simp only [Act.put, List.setIfInBounds_toArray, List.set_cons_zero, List.set_cons_succ]
    refine wpQuiet_step (fun K hK => ?_)
    rw [if_pos (by rfl)]
    refine q_add (p := ⟨#[118, 111, 108, 117, 109, 101, 32]⟩) (q := Nsector) rfl (by rfl) (by rfl) (by (repeat rw [ByteArray.size_append]); omega) (hK _ ?_)
    clear hK K
    simp only [Act.put, List.setIfInBounds_toArray, List.set_cons_zero, List.set_cons_succ]
    refine wpQuiet_step (fun K hK => ?_)
    rw [if_pos (by rfl)]
    refine q_add (p := (⟨#[118, 111, 108, 117, 109, 101, 32]⟩ ++ Nsector)) (q := ⟨#[32]⟩) rfl (by rfl) (by rfl) (by (repeat rw [ByteArray.size_append]); omega) (hK _ ?_)
    clear hK K
    simp only [Act.put, List.setIfInBounds_toArray, List.set_cons_zero, List.set_cons_succ]
    refine wpQuiet_step (fun K hK => ?_)
    rw [if_pos (by rfl)]
    refine q_pure (v := .pointer (some ⟨w.heap.size, 1, none⟩)) (fun W => by go_simp) (hK _ ?_)
    clear hK K
    simp only [Act.put, List.setIfInBounds_toArray, List.set_cons_zero, List.set_cons_succ]
    refine wpQuiet_step (fun K hK => ?_)
    rw [if_pos (by rfl)]
    refine q_in (v := .int .i64 s.sectors) (fun W hW => by have hc := (HX.out.below hW).c1; go_simp) (hK _ ?_)
    clear hK K
    simp only [Act.put, List.setIfInBounds_toArray, List.set_cons_zero, List.set_cons_succ]
    refine wpQuiet_step (fun K hK => ?_)
    rw [if_pos (by rfl)]
    refine q_call (f := 23) (args := #[.int .i64 s.sectors]) (v := .string Nsectors) (fun W => by go_simp) (fun W hW => (Csectors.out W).mono fun e w' ⟨he, hB⟩ => ⟨he, below_step hW hB⟩) (hK _ ?_)
    clear hK K
    simp only [Act.put, List.setIfInBounds_toArray, List.set_cons_zero, List.set_cons_succ]
    refine wpQuiet_step (fun K hK => ?_)
    rw [if_pos (by rfl)]
    refine q_add (p := ((⟨#[118, 111, 108, 117, 109, 101, 32]⟩ ++ Nsector) ++ ⟨#[32]⟩)) (q := Nsectors) rfl (by rfl) (by rfl) (by (repeat rw [ByteArray.size_append]); omega) (hK _ ?_)
    clear hK K
    simp only [Act.put, List.setIfInBounds_toArray, List.set_cons_zero, List.set_cons_succ]
    refine wpQuiet_step (fun K hK => ?_)
    rw [if_pos (by rfl)]
    refine q_add (p := (((⟨#[118, 111, 108, 117, 109, 101, 32]⟩ ++ Nsector) ++ ⟨#[32]⟩) ++ Nsectors)) (q := ⟨#[32]⟩) rfl (by rfl) (by rfl) (by (repeat rw [ByteArray.size_append]); omega) (hK _ ?_)
    clear hK K
    simp only [Act.put, List.setIfInBounds_toArray, List.set_cons_zero, List.set_cons_succ]
    refine wpQuiet_step (fun K hK => ?_)
    rw [if_pos (by rfl)]
    refine q_pure (v := .pointer (some ⟨w.heap.size, 2, none⟩)) (fun W => by go_simp) (hK _ ?_)
    clear hK K
    simp only [Act.put, List.setIfInBounds_toArray, List.set_cons_zero, List.set_cons_succ]
    refine wpQuiet_step (fun K hK => ?_)
    rw [if_pos (by rfl)]
    refine q_in (v := .int .i64 s.journal) (fun W hW => by have hc := (HX.out.below hW).c2; go_simp) (hK _ ?_)
    clear hK K
    simp only [Act.put, List.setIfInBounds_toArray, List.set_cons_zero, List.set_cons_succ]
    refine wpQuiet_step (fun K hK => ?_)
    rw [if_pos (by rfl)]
    refine q_call (f := 23) (args := #[.int .i64 s.journal]) (v := .string Njournal) (fun W => by go_simp) (fun W hW => (Cjournal.out W).mono fun e w' ⟨he, hB⟩ => ⟨he, below_step hW hB⟩) (hK _ ?_)
    clear hK K
    simp only [Act.put, List.setIfInBounds_toArray, List.set_cons_zero, List.set_cons_succ]
    refine wpQuiet_step (fun K hK => ?_)
    rw [if_pos (by rfl)]
    refine q_add (p := ((((⟨#[118, 111, 108, 117, 109, 101, 32]⟩ ++ Nsector) ++ ⟨#[32]⟩) ++ Nsectors) ++ ⟨#[32]⟩)) (q := Njournal) rfl (by rfl) (by rfl) (by (repeat rw [ByteArray.size_append]); omega) (hK _ ?_)
    clear hK K
    simp only [Act.put, List.setIfInBounds_toArray, List.set_cons_zero, List.set_cons_succ]
    refine wpQuiet_step (fun K hK => ?_)
    rw [if_pos (by rfl)]
    refine q_add (p := (((((⟨#[118, 111, 108, 117, 109, 101, 32]⟩ ++ Nsector) ++ ⟨#[32]⟩) ++ Nsectors) ++ ⟨#[32]⟩) ++ Njournal)) (q := ⟨#[32]⟩) rfl (by rfl) (by rfl) (by (repeat rw [ByteArray.size_append]); omega) (hK _ ?_)
    clear hK K
    simp only [Act.put, List.setIfInBounds_toArray, List.set_cons_zero, List.set_cons_succ]
    refine wpQuiet_step (fun K hK => ?_)
    rw [if_pos (by rfl)]
    refine q_pure (v := .pointer (some ⟨w.heap.size, 3, none⟩)) (fun W => by go_simp) (hK _ ?_)
    clear hK K
    simp only [Act.put, List.setIfInBounds_toArray, List.set_cons_zero, List.set_cons_succ]
    refine wpQuiet_step (fun K hK => ?_)
    rw [if_pos (by rfl)]
    refine q_in (v := .int .i64 s.pack) (fun W hW => by have hc := (HX.out.below hW).c3; go_simp) (hK _ ?_)
    clear hK K
    simp only [Act.put, List.setIfInBounds_toArray, List.set_cons_zero, List.set_cons_succ]
    refine wpQuiet_step (fun K hK => ?_)
    rw [if_pos (by rfl)]
    refine q_call (f := 23) (args := #[.int .i64 s.pack]) (v := .string Npack) (fun W => by go_simp) (fun W hW => (Cpack.out W).mono fun e w' ⟨he, hB⟩ => ⟨he, below_step hW hB⟩) (hK _ ?_)
    clear hK K
    simp only [Act.put, List.setIfInBounds_toArray, List.set_cons_zero, List.set_cons_succ]
    refine wpQuiet_step (fun K hK => ?_)
    rw [if_pos (by rfl)]
    refine q_add (p := ((((((⟨#[118, 111, 108, 117, 109, 101, 32]⟩ ++ Nsector) ++ ⟨#[32]⟩) ++ Nsectors) ++ ⟨#[32]⟩) ++ Njournal) ++ ⟨#[32]⟩)) (q := Npack) rfl (by rfl) (by rfl) (by (repeat rw [ByteArray.size_append]); omega) (hK _ ?_)
    clear hK K
    simp only [Act.put, List.setIfInBounds_toArray, List.set_cons_zero, List.set_cons_succ]
    refine wpQuiet_step (fun K hK => ?_)
    rw [if_pos (by rfl)]
    refine q_add (p := (((((((⟨#[118, 111, 108, 117, 109, 101, 32]⟩ ++ Nsector) ++ ⟨#[32]⟩) ++ Nsectors) ++ ⟨#[32]⟩) ++ Njournal) ++ ⟨#[32]⟩) ++ Npack)) (q := ⟨#[10, 99, 117, 116, 32]⟩) rfl (by rfl) (by rfl) (by (repeat rw [ByteArray.size_append]); omega) (hK _ ?_)
    clear hK K
    simp only [Act.put, List.setIfInBounds_toArray, List.set_cons_zero, List.set_cons_succ]
    refine wpQuiet_step (fun K hK => ?_)
    rw [if_pos (by rfl)]
    refine q_pure (v := .pointer (some ⟨w.heap.size, 4, none⟩)) (fun W => by go_simp) (hK _ ?_)
    clear hK K
    simp only [Act.put, List.setIfInBounds_toArray, List.set_cons_zero, List.set_cons_succ]
    refine wpQuiet_step (fun K hK => ?_)
    rw [if_pos (by rfl)]
    refine q_pure (v := .pointer (some ⟨w.heap.size, 4, none⟩)) (fun W => by go_simp) (hK _ ?_)
    clear hK K
    simp only [Act.put, List.setIfInBounds_toArray, List.set_cons_zero, List.set_cons_succ]
    refine wpQuiet_step (fun K hK => ?_)
    rw [if_pos (by rfl)]
    refine q_in (v := .int .i64 s.min) (fun W hW => by have hc := (HX.out.below hW).c4; go_simp) (hK _ ?_)
    clear hK K
    simp only [Act.put, List.setIfInBounds_toArray, List.set_cons_zero, List.set_cons_succ]
    refine wpQuiet_step (fun K hK => ?_)
    rw [if_pos (by rfl)]
    refine q_call (f := 23) (args := #[.int .i64 s.min]) (v := .string Nmin) (fun W => by go_simp) (fun W hW => (Cmin.out W).mono fun e w' ⟨he, hB⟩ => ⟨he, below_step hW hB⟩) (hK _ ?_)
    clear hK K
    simp only [Act.put, List.setIfInBounds_toArray, List.set_cons_zero, List.set_cons_succ]
    refine wpQuiet_step (fun K hK => ?_)
    rw [if_pos (by rfl)]
    refine q_add (p := ((((((((⟨#[118, 111, 108, 117, 109, 101, 32]⟩ ++ Nsector) ++ ⟨#[32]⟩) ++ Nsectors) ++ ⟨#[32]⟩) ++ Njournal) ++ ⟨#[32]⟩) ++ Npack) ++ ⟨#[10, 99, 117, 116, 32]⟩)) (q := Nmin) rfl (by rfl) (by rfl) (by (repeat rw [ByteArray.size_append]); omega) (hK _ ?_)
    clear hK K
    simp only [Act.put, List.setIfInBounds_toArray, List.set_cons_zero, List.set_cons_succ]
    refine wpQuiet_step (fun K hK => ?_)
    rw [if_pos (by rfl)]
    refine q_add (p := (((((((((⟨#[118, 111, 108, 117, 109, 101, 32]⟩ ++ Nsector) ++ ⟨#[32]⟩) ++ Nsectors) ++ ⟨#[32]⟩) ++ Njournal) ++ ⟨#[32]⟩) ++ Npack) ++ ⟨#[10, 99, 117, 116, 32]⟩) ++ Nmin)) (q := ⟨#[32]⟩) rfl (by rfl) (by rfl) (by (repeat rw [ByteArray.size_append]); omega) (hK _ ?_)
    clear hK K
    simp only [Act.put, List.setIfInBounds_toArray, List.set_cons_zero, List.set_cons_succ]
    refine wpQuiet_step (fun K hK => ?_)
    rw [if_pos (by rfl)]
    refine q_pure (v := .pointer (some ⟨w.heap.size, 4, none⟩)) (fun W => by go_simp) (hK _ ?_)
    clear hK K
    simp only [Act.put, List.setIfInBounds_toArray, List.set_cons_zero, List.set_cons_succ]
    refine wpQuiet_step (fun K hK => ?_)
    rw [if_pos (by rfl)]
    refine q_pure (v := .pointer (some ⟨w.heap.size, 5, none⟩)) (fun W => by go_simp) (hK _ ?_)
    clear hK K
    simp only [Act.put, List.setIfInBounds_toArray, List.set_cons_zero, List.set_cons_succ]
    refine wpQuiet_step (fun K hK => ?_)
    rw [if_pos (by rfl)]
    refine q_in (v := .int .i64 s.normal) (fun W hW => by have hc := (HX.out.below hW).c5; go_simp) (hK _ ?_)
    clear hK K
    simp only [Act.put, List.setIfInBounds_toArray, List.set_cons_zero, List.set_cons_succ]
    refine wpQuiet_step (fun K hK => ?_)
    rw [if_pos (by rfl)]
    refine q_call (f := 23) (args := #[.int .i64 s.normal]) (v := .string Nnormal) (fun W => by go_simp) (fun W hW => (Cnormal.out W).mono fun e w' ⟨he, hB⟩ => ⟨he, below_step hW hB⟩) (hK _ ?_)
    clear hK K
    simp only [Act.put, List.setIfInBounds_toArray, List.set_cons_zero, List.set_cons_succ]
    refine wpQuiet_step (fun K hK => ?_)
    rw [if_pos (by rfl)]
    refine q_add (p := ((((((((((⟨#[118, 111, 108, 117, 109, 101, 32]⟩ ++ Nsector) ++ ⟨#[32]⟩) ++ Nsectors) ++ ⟨#[32]⟩) ++ Njournal) ++ ⟨#[32]⟩) ++ Npack) ++ ⟨#[10, 99, 117, 116, 32]⟩) ++ Nmin) ++ ⟨#[32]⟩)) (q := Nnormal) rfl (by rfl) (by rfl) (by (repeat rw [ByteArray.size_append]); omega) (hK _ ?_)
    clear hK K
    simp only [Act.put, List.setIfInBounds_toArray, List.set_cons_zero, List.set_cons_succ]
    refine wpQuiet_step (fun K hK => ?_)
    rw [if_pos (by rfl)]
    refine q_add (p := (((((((((((⟨#[118, 111, 108, 117, 109, 101, 32]⟩ ++ Nsector) ++ ⟨#[32]⟩) ++ Nsectors) ++ ⟨#[32]⟩) ++ Njournal) ++ ⟨#[32]⟩) ++ Npack) ++ ⟨#[10, 99, 117, 116, 32]⟩) ++ Nmin) ++ ⟨#[32]⟩) ++ Nnormal)) (q := ⟨#[32]⟩) rfl (by rfl) (by rfl) (by (repeat rw [ByteArray.size_append]); omega) (hK _ ?_)
    clear hK K
    simp only [Act.put, List.setIfInBounds_toArray, List.set_cons_zero, List.set_cons_succ]
    refine wpQuiet_step (fun K hK => ?_)
    rw [if_pos (by rfl)]
    refine q_pure (v := .pointer (some ⟨w.heap.size, 4, none⟩)) (fun W => by go_simp) (hK _ ?_)
    clear hK K
    simp only [Act.put, List.setIfInBounds_toArray, List.set_cons_zero, List.set_cons_succ]
    refine wpQuiet_step (fun K hK => ?_)
    rw [if_pos (by rfl)]
    refine q_pure (v := .pointer (some ⟨w.heap.size, 6, none⟩)) (fun W => by go_simp) (hK _ ?_)
    clear hK K
    simp only [Act.put, List.setIfInBounds_toArray, List.set_cons_zero, List.set_cons_succ]
    refine wpQuiet_step (fun K hK => ?_)
    rw [if_pos (by rfl)]
    refine q_in (v := .int .i64 s.max) (fun W hW => by have hc := (HX.out.below hW).c6; go_simp) (hK _ ?_)
    clear hK K
    simp only [Act.put, List.setIfInBounds_toArray, List.set_cons_zero, List.set_cons_succ]
    refine wpQuiet_step (fun K hK => ?_)
    rw [if_pos (by rfl)]
    refine q_call (f := 23) (args := #[.int .i64 s.max]) (v := .string Nmax) (fun W => by go_simp) (fun W hW => (Cmax.out W).mono fun e w' ⟨he, hB⟩ => ⟨he, below_step hW hB⟩) (hK _ ?_)
    clear hK K
    simp only [Act.put, List.setIfInBounds_toArray, List.set_cons_zero, List.set_cons_succ]
    refine wpQuiet_step (fun K hK => ?_)
    rw [if_pos (by rfl)]
    refine q_add (p := ((((((((((((⟨#[118, 111, 108, 117, 109, 101, 32]⟩ ++ Nsector) ++ ⟨#[32]⟩) ++ Nsectors) ++ ⟨#[32]⟩) ++ Njournal) ++ ⟨#[32]⟩) ++ Npack) ++ ⟨#[10, 99, 117, 116, 32]⟩) ++ Nmin) ++ ⟨#[32]⟩) ++ Nnormal) ++ ⟨#[32]⟩)) (q := Nmax) rfl (by rfl) (by rfl) (by (repeat rw [ByteArray.size_append]); omega) (hK _ ?_)
    clear hK K
    simp only [Act.put, List.setIfInBounds_toArray, List.set_cons_zero, List.set_cons_succ]
    refine wpQuiet_step (fun K hK => ?_)
    rw [if_pos (by rfl)]
    refine q_add (p := (((((((((((((⟨#[118, 111, 108, 117, 109, 101, 32]⟩ ++ Nsector) ++ ⟨#[32]⟩) ++ Nsectors) ++ ⟨#[32]⟩) ++ Njournal) ++ ⟨#[32]⟩) ++ Npack) ++ ⟨#[10, 99, 117, 116, 32]⟩) ++ Nmin) ++ ⟨#[32]⟩) ++ Nnormal) ++ ⟨#[32]⟩) ++ Nmax)) (q := ⟨#[32]⟩) rfl (by rfl) (by rfl) (by (repeat rw [ByteArray.size_append]); omega) (hK _ ?_)
    clear hK K
    simp only [Act.put, List.setIfInBounds_toArray, List.set_cons_zero, List.set_cons_succ]
    refine wpQuiet_step (fun K hK => ?_)
    rw [if_pos (by rfl)]
    refine q_pure (v := .pointer (some ⟨w.heap.size, 4, none⟩)) (fun W => by go_simp) (hK _ ?_)
    clear hK K
    simp only [Act.put, List.setIfInBounds_toArray, List.set_cons_zero, List.set_cons_succ]
    refine wpQuiet_step (fun K hK => ?_)
    rw [if_pos (by rfl)]
    refine q_pure (v := .pointer (some ⟨w.heap.size, 7, none⟩)) (fun W => by go_simp) (hK _ ?_)
    clear hK K
    simp only [Act.put, List.setIfInBounds_toArray, List.set_cons_zero, List.set_cons_succ]
    refine wpQuiet_step (fun K hK => ?_)
    rw [if_pos (by rfl)]
    refine q_in (v := .int .u64 (s.seed : Int)) (fun W hW => by have hc := (HX.out.below hW).c7; go_simp) (hK _ ?_)
    clear hK K
    simp only [Act.put, List.setIfInBounds_toArray, List.set_cons_zero, List.set_cons_succ]
    refine wpQuiet_step (fun K hK => ?_)
    rw [if_pos (by rfl)]
    refine q_call (f := 49) (args := #[.int .u64 (s.seed : Int)]) (v := .string Nseed) (fun W => by go_simp) (fun W hW => (Cseed.out W).mono fun e w' ⟨he, hB⟩ => ⟨he, below_step hW hB⟩) (hK _ ?_)
    clear hK K
    simp only [Act.put, List.setIfInBounds_toArray, List.set_cons_zero, List.set_cons_succ]
    refine wpQuiet_step (fun K hK => ?_)
    rw [if_pos (by rfl)]
    refine q_add (p := ((((((((((((((⟨#[118, 111, 108, 117, 109, 101, 32]⟩ ++ Nsector) ++ ⟨#[32]⟩) ++ Nsectors) ++ ⟨#[32]⟩) ++ Njournal) ++ ⟨#[32]⟩) ++ Npack) ++ ⟨#[10, 99, 117, 116, 32]⟩) ++ Nmin) ++ ⟨#[32]⟩) ++ Nnormal) ++ ⟨#[32]⟩) ++ Nmax) ++ ⟨#[32]⟩)) (q := Nseed) rfl (by rfl) (by rfl) (by (repeat rw [ByteArray.size_append]); omega) (hK _ ?_)
    clear hK K
    simp only [Act.put, List.setIfInBounds_toArray, List.set_cons_zero, List.set_cons_succ]
    refine wpQuiet_step (fun K hK => ?_)
    rw [if_pos (by rfl)]
    refine q_add (p := (((((((((((((((⟨#[118, 111, 108, 117, 109, 101, 32]⟩ ++ Nsector) ++ ⟨#[32]⟩) ++ Nsectors) ++ ⟨#[32]⟩) ++ Njournal) ++ ⟨#[32]⟩) ++ Npack) ++ ⟨#[10, 99, 117, 116, 32]⟩) ++ Nmin) ++ ⟨#[32]⟩) ++ Nnormal) ++ ⟨#[32]⟩) ++ Nmax) ++ ⟨#[32]⟩) ++ Nseed)) (q := ⟨#[10, 105, 110, 100, 101, 120, 32]⟩) rfl (by rfl) (by rfl) (by (repeat rw [ByteArray.size_append]); omega) (hK _ ?_)
    clear hK K
    simp only [Act.put, List.setIfInBounds_toArray, List.set_cons_zero, List.set_cons_succ]
    refine wpQuiet_step (fun K hK => ?_)
    rw [if_pos (by rfl)]
    refine q_pure (v := .pointer (some ⟨w.heap.size, 8, none⟩)) (fun W => by go_simp) (hK _ ?_)
    clear hK K
    simp only [Act.put, List.setIfInBounds_toArray, List.set_cons_zero, List.set_cons_succ]
    refine wpQuiet_step (fun K hK => ?_)
    rw [if_pos (by rfl)]
    refine q_in (v := .int .i64 s.bits) (fun W hW => by have hc := (HX.out.below hW).c8; go_simp) (hK _ ?_)
    clear hK K
    simp only [Act.put, List.setIfInBounds_toArray, List.set_cons_zero, List.set_cons_succ]
    refine wpQuiet_step (fun K hK => ?_)
    rw [if_pos (by rfl)]
    refine q_call (f := 23) (args := #[.int .i64 s.bits]) (v := .string Nbits) (fun W => by go_simp) (fun W hW => (Cbits.out W).mono fun e w' ⟨he, hB⟩ => ⟨he, below_step hW hB⟩) (hK _ ?_)
    clear hK K
    simp only [Act.put, List.setIfInBounds_toArray, List.set_cons_zero, List.set_cons_succ]
    refine wpQuiet_step (fun K hK => ?_)
    rw [if_pos (by rfl)]
    refine q_add (p := ((((((((((((((((⟨#[118, 111, 108, 117, 109, 101, 32]⟩ ++ Nsector) ++ ⟨#[32]⟩) ++ Nsectors) ++ ⟨#[32]⟩) ++ Njournal) ++ ⟨#[32]⟩) ++ Npack) ++ ⟨#[10, 99, 117, 116, 32]⟩) ++ Nmin) ++ ⟨#[32]⟩) ++ Nnormal) ++ ⟨#[32]⟩) ++ Nmax) ++ ⟨#[32]⟩) ++ Nseed) ++ ⟨#[10, 105, 110, 100, 101, 120, 32]⟩)) (q := Nbits) rfl (by rfl) (by rfl) (by (repeat rw [ByteArray.size_append]); omega) (hK _ ?_)
    clear hK K
    simp only [Act.put, List.setIfInBounds_toArray, List.set_cons_zero, List.set_cons_succ]
    refine wpQuiet_step (fun K hK => ?_)
    rw [if_pos (by rfl)]
    refine q_add (p := (((((((((((((((((⟨#[118, 111, 108, 117, 109, 101, 32]⟩ ++ Nsector) ++ ⟨#[32]⟩) ++ Nsectors) ++ ⟨#[32]⟩) ++ Njournal) ++ ⟨#[32]⟩) ++ Npack) ++ ⟨#[10, 99, 117, 116, 32]⟩) ++ Nmin) ++ ⟨#[32]⟩) ++ Nnormal) ++ ⟨#[32]⟩) ++ Nmax) ++ ⟨#[32]⟩) ++ Nseed) ++ ⟨#[10, 105, 110, 100, 101, 120, 32]⟩) ++ Nbits)) (q := ⟨#[32]⟩) rfl (by rfl) (by rfl) (by (repeat rw [ByteArray.size_append]); omega) (hK _ ?_)
    clear hK K
    simp only [Act.put, List.setIfInBounds_toArray, List.set_cons_zero, List.set_cons_succ]
    refine wpQuiet_step (fun K hK => ?_)
    rw [if_pos (by rfl)]
    refine q_pure (v := .string ⟨#[100, 101, 100, 117, 112]⟩) (fun W => by go_simp) (hK _ ?_)
    clear hK K
    simp only [Act.put, List.setIfInBounds_toArray, List.set_cons_zero, List.set_cons_succ]
    refine wpQuiet_step (fun K hK => ?_)
    rw [if_pos (by rfl)]
    refine q_add (p := ((((((((((((((((((⟨#[118, 111, 108, 117, 109, 101, 32]⟩ ++ Nsector) ++ ⟨#[32]⟩) ++ Nsectors) ++ ⟨#[32]⟩) ++ Njournal) ++ ⟨#[32]⟩) ++ Npack) ++ ⟨#[10, 99, 117, 116, 32]⟩) ++ Nmin) ++ ⟨#[32]⟩) ++ Nnormal) ++ ⟨#[32]⟩) ++ Nmax) ++ ⟨#[32]⟩) ++ Nseed) ++ ⟨#[10, 105, 110, 100, 101, 120, 32]⟩) ++ Nbits) ++ ⟨#[32]⟩)) (q := ⟨#[100, 101, 100, 117, 112]⟩) rfl (by rfl) (by rfl) (by (repeat rw [ByteArray.size_append]); omega) (hK _ ?_)
    clear hK K
    simp only [Act.put, List.setIfInBounds_toArray, List.set_cons_zero, List.set_cons_succ]
    refine wpQuiet_step (fun K hK => ?_)
    rw [if_pos (by rfl)]
    refine q_add (p := (((((((((((((((((((⟨#[118, 111, 108, 117, 109, 101, 32]⟩ ++ Nsector) ++ ⟨#[32]⟩) ++ Nsectors) ++ ⟨#[32]⟩) ++ Njournal) ++ ⟨#[32]⟩) ++ Npack) ++ ⟨#[10, 99, 117, 116, 32]⟩) ++ Nmin) ++ ⟨#[32]⟩) ++ Nnormal) ++ ⟨#[32]⟩) ++ Nmax) ++ ⟨#[32]⟩) ++ Nseed) ++ ⟨#[10, 105, 110, 100, 101, 120, 32]⟩) ++ Nbits) ++ ⟨#[32]⟩) ++ ⟨#[100, 101, 100, 117, 112]⟩)) (q := ⟨#[10]⟩) rfl (by rfl) (by rfl) (by (repeat rw [ByteArray.size_append]); omega) (hK _ ?_)
    clear hK K
    simp only [Act.put, List.setIfInBounds_toArray, List.set_cons_zero, List.set_cons_succ]
    refine wpQuiet_step (fun K hK => ?_)
    rw [if_pos (by rfl)]
    refine q_pure (v := .string ((((((((((((((((((((⟨#[118, 111, 108, 117, 109, 101, 32]⟩ ++ Nsector) ++ ⟨#[32]⟩) ++ Nsectors) ++ ⟨#[32]⟩) ++ Njournal) ++ ⟨#[32]⟩) ++ Npack) ++ ⟨#[10, 99, 117, 116, 32]⟩) ++ Nmin) ++ ⟨#[32]⟩) ++ Nnormal) ++ ⟨#[32]⟩) ++ Nmax) ++ ⟨#[32]⟩) ++ Nseed) ++ ⟨#[10, 105, 110, 100, 101, 120, 32]⟩) ++ Nbits) ++ ⟨#[32]⟩) ++ ⟨#[100, 101, 100, 117, 112]⟩) ++ ⟨#[10]⟩)) (fun W => by go_simp) (hK _ ?_)
    clear hK K
    simp only [Act.put, List.setIfInBounds_toArray, List.set_cons_zero, List.set_cons_succ]
    refine wpQuiet_nil ?_
    intro W hW
    have HW := Aside0.mk hW
    clear hW
    go_wp2
    refine bodyPost_ret (v := .string ((((((((((((((((((((⟨#[118, 111, 108, 117, 109, 101, 32]⟩ ++ Nsector) ++ ⟨#[32]⟩) ++ Nsectors) ++ ⟨#[32]⟩) ++ Njournal) ++ ⟨#[32]⟩) ++ Npack) ++ ⟨#[10, 99, 117, 116, 32]⟩) ++ Nmin) ++ ⟨#[32]⟩) ++ Nnormal) ++ ⟨#[32]⟩) ++ Nmax) ++ ⟨#[32]⟩) ++ Nseed) ++ ⟨#[10, 105, 110, 100, 101, 120, 32]⟩) ++ Nbits) ++ ⟨#[32]⟩) ++ ⟨#[100, 101, 100, 117, 112]⟩) ++ ⟨#[10]⟩)) (by simp [results, Tryz.f22, go_sem]) rfl ⟨?_, HB0.out.trans (HW.out.mono HB0.out.size)⟩
    obtain ⟨h1, h2, h3, h4, h5, h6, h7, h8, h9⟩ := HH.out
    rw [HJ.out, HD.out, ← h1, ← h2, ← h3, ← h4, ← h5, ← h6, ← h7, ← h8, ← h9]
    simp only [← sB_app]
    rfl
  | false =>
    rw [hd] at r9
    have HD := Aside0.mk hd
    clear hd
    go_enter Tryz.func22, Tryz.ntmps22
    go_wp2_with fail
    obtain ⟨w2, hw2⟩ : ∃ w2, w.alloc (.cells V 26) = w2 := ⟨_, rfl⟩
    rw [hw2] at HB0 HX ⊢
    clear hw2 r9
    have e1 : (⟨#[118, 111, 108, 117, 109, 101, 32]⟩ : ByteArray).size = 7 := rfl
    have e2 : (⟨#[32]⟩ : ByteArray).size = 1 := rfl
    have e3 : (⟨#[10, 99, 117, 116, 32]⟩ : ByteArray).size = 5 := rfl
    have e4 : (⟨#[10, 105, 110, 100, 101, 120, 32]⟩ : ByteArray).size = 7 := rfl
    have e5 : (⟨#[112, 108, 97, 105, 110]⟩ : ByteArray).size = 5 := rfl
    have e6 : (⟨#[10]⟩ : ByteArray).size = 1 := rfl
    refine wp_region_quiet (C := fun W => Below w2.heap.size w2 W) (by kernel_rfl) (by kernel_rfl) (below_drew (Below.refl _ _)) ?_
    rw [List.toList_toArray]
    refine wpQuiet_step (fun K hK => ?_)
    rw [if_pos (by rfl)]
    refine q_pure (v := .pointer (some ⟨w.heap.size, 0, none⟩)) (fun W => by go_simp) (hK _ ?_)
    clear hK K
    simp only [Act.put, List.setIfInBounds_toArray, List.set_cons_zero, List.set_cons_succ]
    refine wpQuiet_step (fun K hK => ?_)
    rw [if_pos (by rfl)]
    refine q_in (v := .int .i64 s.sector) (fun W hW => by have hc := (HX.out.below hW).c0; go_simp) (hK _ ?_)
    clear hK K
    simp only [Act.put, List.setIfInBounds_toArray, List.set_cons_zero, List.set_cons_succ]
    refine wpQuiet_step (fun K hK => ?_)
    rw [if_pos (by rfl)]
    refine q_call (f := 23) (args := #[.int .i64 s.sector]) (v := .string Nsector) (fun W => by go_simp) (fun W hW => (Csector.out W).mono fun e w' ⟨he, hB⟩ => ⟨he, below_step hW hB⟩) (hK _ ?_)
    clear hK K
    simp only [Act.put, List.setIfInBounds_toArray, List.set_cons_zero, List.set_cons_succ]
    refine wpQuiet_step (fun K hK => ?_)
    rw [if_pos (by rfl)]
    refine q_add (p := ⟨#[118, 111, 108, 117, 109, 101, 32]⟩) (q := Nsector) rfl (by rfl) (by rfl) (by (repeat rw [ByteArray.size_append]); omega) (hK _ ?_)
    clear hK K
    simp only [Act.put, List.setIfInBounds_toArray, List.set_cons_zero, List.set_cons_succ]
    refine wpQuiet_step (fun K hK => ?_)
    rw [if_pos (by rfl)]
    refine q_add (p := (⟨#[118, 111, 108, 117, 109, 101, 32]⟩ ++ Nsector)) (q := ⟨#[32]⟩) rfl (by rfl) (by rfl) (by (repeat rw [ByteArray.size_append]); omega) (hK _ ?_)
    clear hK K
    simp only [Act.put, List.setIfInBounds_toArray, List.set_cons_zero, List.set_cons_succ]
    refine wpQuiet_step (fun K hK => ?_)
    rw [if_pos (by rfl)]
    refine q_pure (v := .pointer (some ⟨w.heap.size, 1, none⟩)) (fun W => by go_simp) (hK _ ?_)
    clear hK K
    simp only [Act.put, List.setIfInBounds_toArray, List.set_cons_zero, List.set_cons_succ]
    refine wpQuiet_step (fun K hK => ?_)
    rw [if_pos (by rfl)]
    refine q_in (v := .int .i64 s.sectors) (fun W hW => by have hc := (HX.out.below hW).c1; go_simp) (hK _ ?_)
    clear hK K
    simp only [Act.put, List.setIfInBounds_toArray, List.set_cons_zero, List.set_cons_succ]
    refine wpQuiet_step (fun K hK => ?_)
    rw [if_pos (by rfl)]
    refine q_call (f := 23) (args := #[.int .i64 s.sectors]) (v := .string Nsectors) (fun W => by go_simp) (fun W hW => (Csectors.out W).mono fun e w' ⟨he, hB⟩ => ⟨he, below_step hW hB⟩) (hK _ ?_)
    clear hK K
    simp only [Act.put, List.setIfInBounds_toArray, List.set_cons_zero, List.set_cons_succ]
    refine wpQuiet_step (fun K hK => ?_)
    rw [if_pos (by rfl)]
    refine q_add (p := ((⟨#[118, 111, 108, 117, 109, 101, 32]⟩ ++ Nsector) ++ ⟨#[32]⟩)) (q := Nsectors) rfl (by rfl) (by rfl) (by (repeat rw [ByteArray.size_append]); omega) (hK _ ?_)
    clear hK K
    simp only [Act.put, List.setIfInBounds_toArray, List.set_cons_zero, List.set_cons_succ]
    refine wpQuiet_step (fun K hK => ?_)
    rw [if_pos (by rfl)]
    refine q_add (p := (((⟨#[118, 111, 108, 117, 109, 101, 32]⟩ ++ Nsector) ++ ⟨#[32]⟩) ++ Nsectors)) (q := ⟨#[32]⟩) rfl (by rfl) (by rfl) (by (repeat rw [ByteArray.size_append]); omega) (hK _ ?_)
    clear hK K
    simp only [Act.put, List.setIfInBounds_toArray, List.set_cons_zero, List.set_cons_succ]
    refine wpQuiet_step (fun K hK => ?_)
    rw [if_pos (by rfl)]
    refine q_pure (v := .pointer (some ⟨w.heap.size, 2, none⟩)) (fun W => by go_simp) (hK _ ?_)
    clear hK K
    simp only [Act.put, List.setIfInBounds_toArray, List.set_cons_zero, List.set_cons_succ]
    refine wpQuiet_step (fun K hK => ?_)
    rw [if_pos (by rfl)]
    refine q_in (v := .int .i64 s.journal) (fun W hW => by have hc := (HX.out.below hW).c2; go_simp) (hK _ ?_)
    clear hK K
    simp only [Act.put, List.setIfInBounds_toArray, List.set_cons_zero, List.set_cons_succ]
    refine wpQuiet_step (fun K hK => ?_)
    rw [if_pos (by rfl)]
    refine q_call (f := 23) (args := #[.int .i64 s.journal]) (v := .string Njournal) (fun W => by go_simp) (fun W hW => (Cjournal.out W).mono fun e w' ⟨he, hB⟩ => ⟨he, below_step hW hB⟩) (hK _ ?_)
    clear hK K
    simp only [Act.put, List.setIfInBounds_toArray, List.set_cons_zero, List.set_cons_succ]
    refine wpQuiet_step (fun K hK => ?_)
    rw [if_pos (by rfl)]
    refine q_add (p := ((((⟨#[118, 111, 108, 117, 109, 101, 32]⟩ ++ Nsector) ++ ⟨#[32]⟩) ++ Nsectors) ++ ⟨#[32]⟩)) (q := Njournal) rfl (by rfl) (by rfl) (by (repeat rw [ByteArray.size_append]); omega) (hK _ ?_)
    clear hK K
    simp only [Act.put, List.setIfInBounds_toArray, List.set_cons_zero, List.set_cons_succ]
    refine wpQuiet_step (fun K hK => ?_)
    rw [if_pos (by rfl)]
    refine q_add (p := (((((⟨#[118, 111, 108, 117, 109, 101, 32]⟩ ++ Nsector) ++ ⟨#[32]⟩) ++ Nsectors) ++ ⟨#[32]⟩) ++ Njournal)) (q := ⟨#[32]⟩) rfl (by rfl) (by rfl) (by (repeat rw [ByteArray.size_append]); omega) (hK _ ?_)
    clear hK K
    simp only [Act.put, List.setIfInBounds_toArray, List.set_cons_zero, List.set_cons_succ]
    refine wpQuiet_step (fun K hK => ?_)
    rw [if_pos (by rfl)]
    refine q_pure (v := .pointer (some ⟨w.heap.size, 3, none⟩)) (fun W => by go_simp) (hK _ ?_)
    clear hK K
    simp only [Act.put, List.setIfInBounds_toArray, List.set_cons_zero, List.set_cons_succ]
    refine wpQuiet_step (fun K hK => ?_)
    rw [if_pos (by rfl)]
    refine q_in (v := .int .i64 s.pack) (fun W hW => by have hc := (HX.out.below hW).c3; go_simp) (hK _ ?_)
    clear hK K
    simp only [Act.put, List.setIfInBounds_toArray, List.set_cons_zero, List.set_cons_succ]
    refine wpQuiet_step (fun K hK => ?_)
    rw [if_pos (by rfl)]
    refine q_call (f := 23) (args := #[.int .i64 s.pack]) (v := .string Npack) (fun W => by go_simp) (fun W hW => (Cpack.out W).mono fun e w' ⟨he, hB⟩ => ⟨he, below_step hW hB⟩) (hK _ ?_)
    clear hK K
    simp only [Act.put, List.setIfInBounds_toArray, List.set_cons_zero, List.set_cons_succ]
    refine wpQuiet_step (fun K hK => ?_)
    rw [if_pos (by rfl)]
    refine q_add (p := ((((((⟨#[118, 111, 108, 117, 109, 101, 32]⟩ ++ Nsector) ++ ⟨#[32]⟩) ++ Nsectors) ++ ⟨#[32]⟩) ++ Njournal) ++ ⟨#[32]⟩)) (q := Npack) rfl (by rfl) (by rfl) (by (repeat rw [ByteArray.size_append]); omega) (hK _ ?_)
    clear hK K
    simp only [Act.put, List.setIfInBounds_toArray, List.set_cons_zero, List.set_cons_succ]
    refine wpQuiet_step (fun K hK => ?_)
    rw [if_pos (by rfl)]
    refine q_add (p := (((((((⟨#[118, 111, 108, 117, 109, 101, 32]⟩ ++ Nsector) ++ ⟨#[32]⟩) ++ Nsectors) ++ ⟨#[32]⟩) ++ Njournal) ++ ⟨#[32]⟩) ++ Npack)) (q := ⟨#[10, 99, 117, 116, 32]⟩) rfl (by rfl) (by rfl) (by (repeat rw [ByteArray.size_append]); omega) (hK _ ?_)
    clear hK K
    simp only [Act.put, List.setIfInBounds_toArray, List.set_cons_zero, List.set_cons_succ]
    refine wpQuiet_step (fun K hK => ?_)
    rw [if_pos (by rfl)]
    refine q_pure (v := .pointer (some ⟨w.heap.size, 4, none⟩)) (fun W => by go_simp) (hK _ ?_)
    clear hK K
    simp only [Act.put, List.setIfInBounds_toArray, List.set_cons_zero, List.set_cons_succ]
    refine wpQuiet_step (fun K hK => ?_)
    rw [if_pos (by rfl)]
    refine q_pure (v := .pointer (some ⟨w.heap.size, 4, none⟩)) (fun W => by go_simp) (hK _ ?_)
    clear hK K
    simp only [Act.put, List.setIfInBounds_toArray, List.set_cons_zero, List.set_cons_succ]
    refine wpQuiet_step (fun K hK => ?_)
    rw [if_pos (by rfl)]
    refine q_in (v := .int .i64 s.min) (fun W hW => by have hc := (HX.out.below hW).c4; go_simp) (hK _ ?_)
    clear hK K
    simp only [Act.put, List.setIfInBounds_toArray, List.set_cons_zero, List.set_cons_succ]
    refine wpQuiet_step (fun K hK => ?_)
    rw [if_pos (by rfl)]
    refine q_call (f := 23) (args := #[.int .i64 s.min]) (v := .string Nmin) (fun W => by go_simp) (fun W hW => (Cmin.out W).mono fun e w' ⟨he, hB⟩ => ⟨he, below_step hW hB⟩) (hK _ ?_)
    clear hK K
    simp only [Act.put, List.setIfInBounds_toArray, List.set_cons_zero, List.set_cons_succ]
    refine wpQuiet_step (fun K hK => ?_)
    rw [if_pos (by rfl)]
    refine q_add (p := ((((((((⟨#[118, 111, 108, 117, 109, 101, 32]⟩ ++ Nsector) ++ ⟨#[32]⟩) ++ Nsectors) ++ ⟨#[32]⟩) ++ Njournal) ++ ⟨#[32]⟩) ++ Npack) ++ ⟨#[10, 99, 117, 116, 32]⟩)) (q := Nmin) rfl (by rfl) (by rfl) (by (repeat rw [ByteArray.size_append]); omega) (hK _ ?_)
    clear hK K
    simp only [Act.put, List.setIfInBounds_toArray, List.set_cons_zero, List.set_cons_succ]
    refine wpQuiet_step (fun K hK => ?_)
    rw [if_pos (by rfl)]
    refine q_add (p := (((((((((⟨#[118, 111, 108, 117, 109, 101, 32]⟩ ++ Nsector) ++ ⟨#[32]⟩) ++ Nsectors) ++ ⟨#[32]⟩) ++ Njournal) ++ ⟨#[32]⟩) ++ Npack) ++ ⟨#[10, 99, 117, 116, 32]⟩) ++ Nmin)) (q := ⟨#[32]⟩) rfl (by rfl) (by rfl) (by (repeat rw [ByteArray.size_append]); omega) (hK _ ?_)
    clear hK K
    simp only [Act.put, List.setIfInBounds_toArray, List.set_cons_zero, List.set_cons_succ]
    refine wpQuiet_step (fun K hK => ?_)
    rw [if_pos (by rfl)]
    refine q_pure (v := .pointer (some ⟨w.heap.size, 4, none⟩)) (fun W => by go_simp) (hK _ ?_)
    clear hK K
    simp only [Act.put, List.setIfInBounds_toArray, List.set_cons_zero, List.set_cons_succ]
    refine wpQuiet_step (fun K hK => ?_)
    rw [if_pos (by rfl)]
    refine q_pure (v := .pointer (some ⟨w.heap.size, 5, none⟩)) (fun W => by go_simp) (hK _ ?_)
    clear hK K
    simp only [Act.put, List.setIfInBounds_toArray, List.set_cons_zero, List.set_cons_succ]
    refine wpQuiet_step (fun K hK => ?_)
    rw [if_pos (by rfl)]
    refine q_in (v := .int .i64 s.normal) (fun W hW => by have hc := (HX.out.below hW).c5; go_simp) (hK _ ?_)
    clear hK K
    simp only [Act.put, List.setIfInBounds_toArray, List.set_cons_zero, List.set_cons_succ]
    refine wpQuiet_step (fun K hK => ?_)
    rw [if_pos (by rfl)]
    refine q_call (f := 23) (args := #[.int .i64 s.normal]) (v := .string Nnormal) (fun W => by go_simp) (fun W hW => (Cnormal.out W).mono fun e w' ⟨he, hB⟩ => ⟨he, below_step hW hB⟩) (hK _ ?_)
    clear hK K
    simp only [Act.put, List.setIfInBounds_toArray, List.set_cons_zero, List.set_cons_succ]
    refine wpQuiet_step (fun K hK => ?_)
    rw [if_pos (by rfl)]
    refine q_add (p := ((((((((((⟨#[118, 111, 108, 117, 109, 101, 32]⟩ ++ Nsector) ++ ⟨#[32]⟩) ++ Nsectors) ++ ⟨#[32]⟩) ++ Njournal) ++ ⟨#[32]⟩) ++ Npack) ++ ⟨#[10, 99, 117, 116, 32]⟩) ++ Nmin) ++ ⟨#[32]⟩)) (q := Nnormal) rfl (by rfl) (by rfl) (by (repeat rw [ByteArray.size_append]); omega) (hK _ ?_)
    clear hK K
    simp only [Act.put, List.setIfInBounds_toArray, List.set_cons_zero, List.set_cons_succ]
    refine wpQuiet_step (fun K hK => ?_)
    rw [if_pos (by rfl)]
    refine q_add (p := (((((((((((⟨#[118, 111, 108, 117, 109, 101, 32]⟩ ++ Nsector) ++ ⟨#[32]⟩) ++ Nsectors) ++ ⟨#[32]⟩) ++ Njournal) ++ ⟨#[32]⟩) ++ Npack) ++ ⟨#[10, 99, 117, 116, 32]⟩) ++ Nmin) ++ ⟨#[32]⟩) ++ Nnormal)) (q := ⟨#[32]⟩) rfl (by rfl) (by rfl) (by (repeat rw [ByteArray.size_append]); omega) (hK _ ?_)
    clear hK K
    simp only [Act.put, List.setIfInBounds_toArray, List.set_cons_zero, List.set_cons_succ]
    refine wpQuiet_step (fun K hK => ?_)
    rw [if_pos (by rfl)]
    refine q_pure (v := .pointer (some ⟨w.heap.size, 4, none⟩)) (fun W => by go_simp) (hK _ ?_)
    clear hK K
    simp only [Act.put, List.setIfInBounds_toArray, List.set_cons_zero, List.set_cons_succ]
    refine wpQuiet_step (fun K hK => ?_)
    rw [if_pos (by rfl)]
    refine q_pure (v := .pointer (some ⟨w.heap.size, 6, none⟩)) (fun W => by go_simp) (hK _ ?_)
    clear hK K
    simp only [Act.put, List.setIfInBounds_toArray, List.set_cons_zero, List.set_cons_succ]
    refine wpQuiet_step (fun K hK => ?_)
    rw [if_pos (by rfl)]
    refine q_in (v := .int .i64 s.max) (fun W hW => by have hc := (HX.out.below hW).c6; go_simp) (hK _ ?_)
    clear hK K
    simp only [Act.put, List.setIfInBounds_toArray, List.set_cons_zero, List.set_cons_succ]
    refine wpQuiet_step (fun K hK => ?_)
    rw [if_pos (by rfl)]
    refine q_call (f := 23) (args := #[.int .i64 s.max]) (v := .string Nmax) (fun W => by go_simp) (fun W hW => (Cmax.out W).mono fun e w' ⟨he, hB⟩ => ⟨he, below_step hW hB⟩) (hK _ ?_)
    clear hK K
    simp only [Act.put, List.setIfInBounds_toArray, List.set_cons_zero, List.set_cons_succ]
    refine wpQuiet_step (fun K hK => ?_)
    rw [if_pos (by rfl)]
    refine q_add (p := ((((((((((((⟨#[118, 111, 108, 117, 109, 101, 32]⟩ ++ Nsector) ++ ⟨#[32]⟩) ++ Nsectors) ++ ⟨#[32]⟩) ++ Njournal) ++ ⟨#[32]⟩) ++ Npack) ++ ⟨#[10, 99, 117, 116, 32]⟩) ++ Nmin) ++ ⟨#[32]⟩) ++ Nnormal) ++ ⟨#[32]⟩)) (q := Nmax) rfl (by rfl) (by rfl) (by (repeat rw [ByteArray.size_append]); omega) (hK _ ?_)
    clear hK K
    simp only [Act.put, List.setIfInBounds_toArray, List.set_cons_zero, List.set_cons_succ]
    refine wpQuiet_step (fun K hK => ?_)
    rw [if_pos (by rfl)]
    refine q_add (p := (((((((((((((⟨#[118, 111, 108, 117, 109, 101, 32]⟩ ++ Nsector) ++ ⟨#[32]⟩) ++ Nsectors) ++ ⟨#[32]⟩) ++ Njournal) ++ ⟨#[32]⟩) ++ Npack) ++ ⟨#[10, 99, 117, 116, 32]⟩) ++ Nmin) ++ ⟨#[32]⟩) ++ Nnormal) ++ ⟨#[32]⟩) ++ Nmax)) (q := ⟨#[32]⟩) rfl (by rfl) (by rfl) (by (repeat rw [ByteArray.size_append]); omega) (hK _ ?_)
    clear hK K
    simp only [Act.put, List.setIfInBounds_toArray, List.set_cons_zero, List.set_cons_succ]
    refine wpQuiet_step (fun K hK => ?_)
    rw [if_pos (by rfl)]
    refine q_pure (v := .pointer (some ⟨w.heap.size, 4, none⟩)) (fun W => by go_simp) (hK _ ?_)
    clear hK K
    simp only [Act.put, List.setIfInBounds_toArray, List.set_cons_zero, List.set_cons_succ]
    refine wpQuiet_step (fun K hK => ?_)
    rw [if_pos (by rfl)]
    refine q_pure (v := .pointer (some ⟨w.heap.size, 7, none⟩)) (fun W => by go_simp) (hK _ ?_)
    clear hK K
    simp only [Act.put, List.setIfInBounds_toArray, List.set_cons_zero, List.set_cons_succ]
    refine wpQuiet_step (fun K hK => ?_)
    rw [if_pos (by rfl)]
    refine q_in (v := .int .u64 (s.seed : Int)) (fun W hW => by have hc := (HX.out.below hW).c7; go_simp) (hK _ ?_)
    clear hK K
    simp only [Act.put, List.setIfInBounds_toArray, List.set_cons_zero, List.set_cons_succ]
    refine wpQuiet_step (fun K hK => ?_)
    rw [if_pos (by rfl)]
    refine q_call (f := 49) (args := #[.int .u64 (s.seed : Int)]) (v := .string Nseed) (fun W => by go_simp) (fun W hW => (Cseed.out W).mono fun e w' ⟨he, hB⟩ => ⟨he, below_step hW hB⟩) (hK _ ?_)
    clear hK K
    simp only [Act.put, List.setIfInBounds_toArray, List.set_cons_zero, List.set_cons_succ]
    refine wpQuiet_step (fun K hK => ?_)
    rw [if_pos (by rfl)]
    refine q_add (p := ((((((((((((((⟨#[118, 111, 108, 117, 109, 101, 32]⟩ ++ Nsector) ++ ⟨#[32]⟩) ++ Nsectors) ++ ⟨#[32]⟩) ++ Njournal) ++ ⟨#[32]⟩) ++ Npack) ++ ⟨#[10, 99, 117, 116, 32]⟩) ++ Nmin) ++ ⟨#[32]⟩) ++ Nnormal) ++ ⟨#[32]⟩) ++ Nmax) ++ ⟨#[32]⟩)) (q := Nseed) rfl (by rfl) (by rfl) (by (repeat rw [ByteArray.size_append]); omega) (hK _ ?_)
    clear hK K
    simp only [Act.put, List.setIfInBounds_toArray, List.set_cons_zero, List.set_cons_succ]
    refine wpQuiet_step (fun K hK => ?_)
    rw [if_pos (by rfl)]
    refine q_add (p := (((((((((((((((⟨#[118, 111, 108, 117, 109, 101, 32]⟩ ++ Nsector) ++ ⟨#[32]⟩) ++ Nsectors) ++ ⟨#[32]⟩) ++ Njournal) ++ ⟨#[32]⟩) ++ Npack) ++ ⟨#[10, 99, 117, 116, 32]⟩) ++ Nmin) ++ ⟨#[32]⟩) ++ Nnormal) ++ ⟨#[32]⟩) ++ Nmax) ++ ⟨#[32]⟩) ++ Nseed)) (q := ⟨#[10, 105, 110, 100, 101, 120, 32]⟩) rfl (by rfl) (by rfl) (by (repeat rw [ByteArray.size_append]); omega) (hK _ ?_)
    clear hK K
    simp only [Act.put, List.setIfInBounds_toArray, List.set_cons_zero, List.set_cons_succ]
    refine wpQuiet_step (fun K hK => ?_)
    rw [if_pos (by rfl)]
    refine q_pure (v := .pointer (some ⟨w.heap.size, 8, none⟩)) (fun W => by go_simp) (hK _ ?_)
    clear hK K
    simp only [Act.put, List.setIfInBounds_toArray, List.set_cons_zero, List.set_cons_succ]
    refine wpQuiet_step (fun K hK => ?_)
    rw [if_pos (by rfl)]
    refine q_in (v := .int .i64 s.bits) (fun W hW => by have hc := (HX.out.below hW).c8; go_simp) (hK _ ?_)
    clear hK K
    simp only [Act.put, List.setIfInBounds_toArray, List.set_cons_zero, List.set_cons_succ]
    refine wpQuiet_step (fun K hK => ?_)
    rw [if_pos (by rfl)]
    refine q_call (f := 23) (args := #[.int .i64 s.bits]) (v := .string Nbits) (fun W => by go_simp) (fun W hW => (Cbits.out W).mono fun e w' ⟨he, hB⟩ => ⟨he, below_step hW hB⟩) (hK _ ?_)
    clear hK K
    simp only [Act.put, List.setIfInBounds_toArray, List.set_cons_zero, List.set_cons_succ]
    refine wpQuiet_step (fun K hK => ?_)
    rw [if_pos (by rfl)]
    refine q_add (p := ((((((((((((((((⟨#[118, 111, 108, 117, 109, 101, 32]⟩ ++ Nsector) ++ ⟨#[32]⟩) ++ Nsectors) ++ ⟨#[32]⟩) ++ Njournal) ++ ⟨#[32]⟩) ++ Npack) ++ ⟨#[10, 99, 117, 116, 32]⟩) ++ Nmin) ++ ⟨#[32]⟩) ++ Nnormal) ++ ⟨#[32]⟩) ++ Nmax) ++ ⟨#[32]⟩) ++ Nseed) ++ ⟨#[10, 105, 110, 100, 101, 120, 32]⟩)) (q := Nbits) rfl (by rfl) (by rfl) (by (repeat rw [ByteArray.size_append]); omega) (hK _ ?_)
    clear hK K
    simp only [Act.put, List.setIfInBounds_toArray, List.set_cons_zero, List.set_cons_succ]
    refine wpQuiet_step (fun K hK => ?_)
    rw [if_pos (by rfl)]
    refine q_add (p := (((((((((((((((((⟨#[118, 111, 108, 117, 109, 101, 32]⟩ ++ Nsector) ++ ⟨#[32]⟩) ++ Nsectors) ++ ⟨#[32]⟩) ++ Njournal) ++ ⟨#[32]⟩) ++ Npack) ++ ⟨#[10, 99, 117, 116, 32]⟩) ++ Nmin) ++ ⟨#[32]⟩) ++ Nnormal) ++ ⟨#[32]⟩) ++ Nmax) ++ ⟨#[32]⟩) ++ Nseed) ++ ⟨#[10, 105, 110, 100, 101, 120, 32]⟩) ++ Nbits)) (q := ⟨#[32]⟩) rfl (by rfl) (by rfl) (by (repeat rw [ByteArray.size_append]); omega) (hK _ ?_)
    clear hK K
    simp only [Act.put, List.setIfInBounds_toArray, List.set_cons_zero, List.set_cons_succ]
    refine wpQuiet_step (fun K hK => ?_)
    rw [if_pos (by rfl)]
    refine q_pure (v := .string ⟨#[112, 108, 97, 105, 110]⟩) (fun W => by go_simp) (hK _ ?_)
    clear hK K
    simp only [Act.put, List.setIfInBounds_toArray, List.set_cons_zero, List.set_cons_succ]
    refine wpQuiet_step (fun K hK => ?_)
    rw [if_pos (by rfl)]
    refine q_add (p := ((((((((((((((((((⟨#[118, 111, 108, 117, 109, 101, 32]⟩ ++ Nsector) ++ ⟨#[32]⟩) ++ Nsectors) ++ ⟨#[32]⟩) ++ Njournal) ++ ⟨#[32]⟩) ++ Npack) ++ ⟨#[10, 99, 117, 116, 32]⟩) ++ Nmin) ++ ⟨#[32]⟩) ++ Nnormal) ++ ⟨#[32]⟩) ++ Nmax) ++ ⟨#[32]⟩) ++ Nseed) ++ ⟨#[10, 105, 110, 100, 101, 120, 32]⟩) ++ Nbits) ++ ⟨#[32]⟩)) (q := ⟨#[112, 108, 97, 105, 110]⟩) rfl (by rfl) (by rfl) (by (repeat rw [ByteArray.size_append]); omega) (hK _ ?_)
    clear hK K
    simp only [Act.put, List.setIfInBounds_toArray, List.set_cons_zero, List.set_cons_succ]
    refine wpQuiet_step (fun K hK => ?_)
    rw [if_pos (by rfl)]
    refine q_add (p := (((((((((((((((((((⟨#[118, 111, 108, 117, 109, 101, 32]⟩ ++ Nsector) ++ ⟨#[32]⟩) ++ Nsectors) ++ ⟨#[32]⟩) ++ Njournal) ++ ⟨#[32]⟩) ++ Npack) ++ ⟨#[10, 99, 117, 116, 32]⟩) ++ Nmin) ++ ⟨#[32]⟩) ++ Nnormal) ++ ⟨#[32]⟩) ++ Nmax) ++ ⟨#[32]⟩) ++ Nseed) ++ ⟨#[10, 105, 110, 100, 101, 120, 32]⟩) ++ Nbits) ++ ⟨#[32]⟩) ++ ⟨#[112, 108, 97, 105, 110]⟩)) (q := ⟨#[10]⟩) rfl (by rfl) (by rfl) (by (repeat rw [ByteArray.size_append]); omega) (hK _ ?_)
    clear hK K
    simp only [Act.put, List.setIfInBounds_toArray, List.set_cons_zero, List.set_cons_succ]
    refine wpQuiet_step (fun K hK => ?_)
    rw [if_pos (by rfl)]
    refine q_pure (v := .string ((((((((((((((((((((⟨#[118, 111, 108, 117, 109, 101, 32]⟩ ++ Nsector) ++ ⟨#[32]⟩) ++ Nsectors) ++ ⟨#[32]⟩) ++ Njournal) ++ ⟨#[32]⟩) ++ Npack) ++ ⟨#[10, 99, 117, 116, 32]⟩) ++ Nmin) ++ ⟨#[32]⟩) ++ Nnormal) ++ ⟨#[32]⟩) ++ Nmax) ++ ⟨#[32]⟩) ++ Nseed) ++ ⟨#[10, 105, 110, 100, 101, 120, 32]⟩) ++ Nbits) ++ ⟨#[32]⟩) ++ ⟨#[112, 108, 97, 105, 110]⟩) ++ ⟨#[10]⟩)) (fun W => by go_simp) (hK _ ?_)
    clear hK K
    simp only [Act.put, List.setIfInBounds_toArray, List.set_cons_zero, List.set_cons_succ]
    refine wpQuiet_nil ?_
    intro W hW
    have HW := Aside0.mk hW
    clear hW
    go_wp2
    refine bodyPost_ret (v := .string ((((((((((((((((((((⟨#[118, 111, 108, 117, 109, 101, 32]⟩ ++ Nsector) ++ ⟨#[32]⟩) ++ Nsectors) ++ ⟨#[32]⟩) ++ Njournal) ++ ⟨#[32]⟩) ++ Npack) ++ ⟨#[10, 99, 117, 116, 32]⟩) ++ Nmin) ++ ⟨#[32]⟩) ++ Nnormal) ++ ⟨#[32]⟩) ++ Nmax) ++ ⟨#[32]⟩) ++ Nseed) ++ ⟨#[10, 105, 110, 100, 101, 120, 32]⟩) ++ Nbits) ++ ⟨#[32]⟩) ++ ⟨#[112, 108, 97, 105, 110]⟩) ++ ⟨#[10]⟩)) (by simp [results, Tryz.f22, go_sem]) rfl ⟨?_, HB0.out.trans (HW.out.mono HB0.out.size)⟩
    obtain ⟨h1, h2, h3, h4, h5, h6, h7, h8, h9⟩ := HH.out
    rw [HJ.out, HD.out, ← h1, ← h2, ← h3, ← h4, ← h5, ← h6, ← h7, ← h8, ← h9]
    simp only [← sB_app]
    rfl
end Go.Proofs.YteglbmindbfkeaaGreatDoor.H
namespace Go.Proofs.YteglbmindbfkeaaGreatDoor.H
open Go.RowKit Go.Proofs.YteglbmindbfkeaaGreatDoorW.PrintWords
set_option linter.unusedVariables false
set_option linter.unusedSimpArgs false
/-- A row of bytes with spare cells; whatever is frozen lies outside it. -/
structure OwnB (W : World) (base : Nat) (v : Value) (l : Bs) : Prop where
  out : ∃ g cap, v = .slice (some ⟨g, 0, none⟩) l.length cap ∧ base ≤ g ∧ g < W.heap.size ∧ (∃ c fz, W.heap[g]? = some (.cells c 5 fz)) ∧ l.length ≤ cap ∧ cap ≤ maxLen ∧
    (∀ j, j < cap → (W.cell? ⟨g, j, none⟩).isSome = true) ∧ (∀ j, j < cap → W.frozen? ⟨g, j, none⟩ = false) ∧ (∀ j u, (Lib.byteCells l)[j]? = some u → W.cell? ⟨g, j, none⟩ = some u)
theorem OwnB.of_block {W W' : World} {base : Nat} {v : Value} {l : Bs} (h : OwnB W base v l) (hs : W.heap.size ≤ W'.heap.size) (hb : ∀ g, v.ownBlock = some g → W'.heap[g]? = W.heap[g]?) : OwnB W' base v l := by
  obtain ⟨g, cap, rfl, h1, h2, h3, h4, h5, h6, h7, h8⟩ := h.out
  have e := hb g rfl
  refine ⟨g, cap, rfl, h1, by omega, by rw [e]; exact h3, h4, h5, fun j hj => ?_, fun j hj => ?_, fun j u hu => ?_⟩
  · rw [World.cell?_of_block (w := W) (a := ⟨g, j, none⟩) e]; exact h6 j hj
  · rw [World.frozen?_of_block (w := W) (a := ⟨g, j, none⟩) e]; exact h7 j hj
  · rw [World.cell?_of_block (w := W) (a := ⟨g, j, none⟩) e]; exact h8 j u hu
theorem OwnB.lt {W : World} {base : Nat} {v : Value} {l : Bs} (h : OwnB W base v l) : ∀ g, v.ownBlock = some g → base ≤ g ∧ g < W.heap.size := by
  obtain ⟨g, cap, rfl, h1, h2, _⟩ := h.out
  intro k hk
  have : g = k := by simpa [Value.ownBlock] using hk
  subst this
  exact ⟨h1, h2⟩
theorem OwnB.kind {W : World} {base : Nat} {v : Value} {l : Bs} (h : OwnB W base v l) : ∀ g, v.ownBlock = some g → ∃ c fz, W.heap[g]? = some (.cells c 5 fz) := by
  obtain ⟨g, cap, rfl, h1, h2, h3, _⟩ := h.out
  intro k hk
  have : g = k := by simpa [Value.ownBlock] using hk
  subst this
  exact h3
theorem OwnB.below {W W' : World} {base : Nat} {v : Value} {l : Bs} (h : OwnB W base v l) (hb : Below W.heap.size W W') : OwnB W' base v l := h.of_block hb.size fun g hg => hb.block g (h.lt g hg).2
theorem setCells_size (b : Nat) : ∀ (vs : List Value) (o : Nat) (w : World), (w.setCells b o vs).heap.size = w.heap.size
  | [], _, _ => rfl
  | v :: r, o, w => by rw [World.setCells, setCells_size b r]; simp [World.setCell]
theorem setCells_other (b : Nat) {k : Nat} (hk : k ≠ b) : ∀ (vs : List Value) (o : Nat) (w : World), (w.setCells b o vs).heap[k]? = w.heap[k]?
  | [], _, _ => rfl
  | v :: r, o, w => by rw [World.setCells, setCells_other b hk r]; exact Below.heap_setCell w _ v k hk
theorem setCells_kind (b : Nat) {t : TypeId} : ∀ (vs : List Value) (o : Nat) (w : World), (∃ c fz, w.heap[b]? = some (.cells c t fz)) → ∃ c fz, (w.setCells b o vs).heap[b]? = some (.cells c t fz)
  | [], _, _, h => h
  | v :: r, o, w, h => by
    rw [World.setCells]
    refine setCells_kind b r (o + 1) _ ?_
    obtain ⟨c, fz, hc⟩ := h
    exact ⟨c.setIfInBounds o v, fz, by simp [World.setCell, Array.getElem?_modify, hc]⟩
theorem setCells_rest (b : Nat) : ∀ (vs : List Value) (o : Nat) (w : World), (w.setCells b o vs).os = w.os ∧ (w.setCells b o vs).tape = w.tape ∧ (w.setCells b o vs).output = w.output
  | [], _, _ => ⟨rfl, rfl, rfl⟩
  | v :: r, o, w => by
    rw [World.setCells]
    obtain ⟨h1, h2, h3⟩ := setCells_rest b r (o + 1) (w.setCell ⟨b, o, none⟩ v)
    exact ⟨h1, h2, h3⟩
theorem setCells_some (b : Nat) : ∀ (vs : List Value) (o : Nat) (w : World) (x : Addr), (w.cell? x).isSome = true → ((w.setCells b o vs).cell? x).isSome = true
  | [], _, _, _, h => h
  | v :: r, o, w, x, h => by
    rw [World.setCells]
    refine setCells_some b r (o + 1) _ x ?_
    by_cases hx : (⟨b, o, none⟩ : Addr) = x
    · subst hx
      obtain ⟨u, hu⟩ := Option.isSome_iff_exists.1 h
      rw [World.cell?_setCell_same _ _ _ hu]
      rfl
    · rw [World.cell?_setCell_other _ _ _ _ hx]; exact h
theorem byteCells_app (a b : Bs) : Lib.byteCells (a ++ b) = Lib.byteCells a ++ Lib.byteCells b := by simp [Lib.byteCells]
theorem byteCells_one (l : Bs) : ∀ u ∈ Lib.byteCells l, u.oneCell' = true := by
  intro u hu
  unfold Lib.byteCells at hu
  obtain ⟨c, _, rfl⟩ := List.mem_map.1 hu
  rfl
theorem OwnB.append {W : World} {base : Nat} {v : Value} {l ys : Bs} (HO : OwnB W base v l) {tx : TypeId} {x : Value} (ty : TypeId) (hs : Src Tryz.prog 1 tx x ys.length (Lib.byteCells ys) W) (hl : l.length + ys.length ≤ 140737488355328) (hbase : base ≤ W.heap.size) :
    ∃ v1 w1, (Builtin.append_ #[45, tx] ty #[v, x]).run Tryz.prog W = .ok v1 w1 ∧ OwnB w1 base v1 (l ++ ys) ∧ W.grownBy w1 v.ownBlock := by
  obtain ⟨i0, hi, hz0, hz1, hz2⟩ := info_parts infoByte
  obtain ⟨g, cap, rfl, h1, h2, h3, h4, h5, h6, h7, h8⟩ := HO.out
  have hs' : Src Tryz.prog i0.size tx x ys.length (Lib.byteCells ys) W := by rw [hz1]; exact hs
  by_cases hroom : l.length + ys.length ≤ cap
  · have hr := run_append_room_src (P := Tryz.prog) W 45 tx ty 5 i0 Tryz.underlying45 hi g 0 l.length cap x ys.length (Lib.byteCells ys) hs' hroom
      (fun j hj => by rw [Lib.byteCells_length] at hj; rw [hz1, Nat.zero_add, Nat.mul_one]; exact h6 _ (by omega))
      (fun j hj => by rw [Lib.byteCells_length] at hj; rw [hz1, Nat.zero_add, Nat.mul_one]; exact h7 _ (by omega))
    rw [hz1, Nat.zero_add, Nat.mul_one] at hr
    refine ⟨_, _, hr, ⟨g, cap, by rw [List.length_append], h1, by rw [setCells_size]; exact h2, setCells_kind g _ _ _ h3, by rw [List.length_append]; exact hroom, h5, fun j hj => setCells_some _ _ _ _ _ (h6 j hj), fun j hj => by rw [World.frozen?_setCells]; exact h7 j hj, fun j u hu => ?_⟩,
      ⟨(setCells_rest _ _ _ _).1, (setCells_rest _ _ _ _).2.1, (setCells_rest _ _ _ _).2.2, by rw [setCells_size]; exact Nat.le_refl _, fun k _ hk => setCells_other g (fun e => hk (by simp [Value.ownBlock, e])) _ _ _⟩⟩
    rw [byteCells_app] at hu
    by_cases hj : j < l.length
    · rw [List.getElem?_append_left (by rw [Lib.byteCells_length]; exact hj)] at hu
      rw [World.cell?_setCells_out g _ _ _ _ (fun _ _ => Or.inl hj)]
      exact h8 j u hu
    · rw [List.getElem?_append_right (by rw [Lib.byteCells_length]; omega), Lib.byteCells_length] at hu
      obtain ⟨hk, rfl⟩ := List.getElem?_eq_some_iff.1 hu
      have := World.cell?_setCells_in g (Lib.byteCells ys) l.length W (fun k hk => by rw [Lib.byteCells_length] at hk; exact h6 _ (by omega)) (j - l.length) hk
      rw [show l.length + (j - l.length) = j by omega] at this
      exact this
  · have ha : ∀ j, (⟨g, 0, none⟩ : Addr).add j = ⟨g, j, none⟩ := fun j => by unfold Addr.add; split <;> simp_all
    have hold := run_firstCells_some (P := Tryz.prog) W.drew i0.size l.length ⟨g, 0, none⟩ l.length cap (Lib.byteCells l) (by rw [hz1, Lib.byteCells_length, Nat.mul_one]) (fun j u hu => by rw [ha]; exact h8 j u hu)
    have hr := run_append_grow_src (P := Tryz.prog) W 45 tx ty 5 i0 (.int .u8 0) Tryz.underlying45 hi hz0 (some ⟨g, 0, none⟩) l.length cap (Lib.byteCells l) hold x ys.length (Lib.byteCells ys) hs' (by omega) (by omega) (by rw [hz2]; exact growslice_fits (by omega) (by omega))
    have hge := grownCap_ge W (l.length + ys.length) cap 5
    have hcm := grownCap_le_maxLen W (l.length + ys.length) cap 5 (by unfold maxLen; omega)
    obtain ⟨N, hN⟩ : ∃ N, grownCap W (l.length + ys.length) cap 5 = N := ⟨_, rfl⟩
    rw [hN] at hr hge hcm
    obtain ⟨Z, hZ⟩ : ∃ Z, Builtin.zeroCells (Value.int IntKind.u8 0).cells (N - (l.length + ys.length)) = Z := ⟨_, rfl⟩
    have hZs : Z.size = N - (l.length + ys.length) := by rw [← hZ, size_zeroCells]; exact Nat.mul_one _
    rw [hZ, ← byteCells_app] at hr
    have hblk := heap_alloc_new W.drew (.cells ((Lib.byteCells (l ++ ys)).toArray ++ Z) 5)
    have hcell : ∀ j, (W.drew.alloc (.cells ((Lib.byteCells (l ++ ys)).toArray ++ Z) 5)).cell? ⟨W.heap.size, j, none⟩ = ((Lib.byteCells (l ++ ys)).toArray ++ Z)[j]? := fun j => Lib.cell_of_heap hblk j
    have hsz : ((Lib.byteCells (l ++ ys)).toArray ++ Z).size = N := by rw [Array.size_append, List.size_toArray, Lib.byteCells_length, List.length_append, hZs]; omega
    refine ⟨_, _, hr, ⟨W.heap.size, N, by rw [List.length_append], hbase, by simp, ⟨_, _, hblk⟩, by rw [List.length_append]; exact hge, hcm, fun j hj => ?_, fun j hj => Lib.frozen_of_heap hblk j, fun j u hu => ?_⟩, ⟨rfl, rfl, rfl, by simp, fun k hk _ => heap_alloc_old W.drew _ hk⟩⟩
    · rw [hcell, Array.getElem?_eq_getElem (by rw [hsz]; exact hj)]
      rfl
    · rw [hcell, Array.getElem?_append_left (by rw [List.size_toArray]; exact (List.getElem?_eq_some_iff.1 hu).1)]
      simpa using hu
theorem OwnB.text {W : World} {base : Nat} {v : Value} {l : Bs} (h : OwnB W base v l) : (convert 45 9 v).run Tryz.prog W = .ok (.string (sB l)) W := by
  obtain ⟨g, cap, rfl, h1, h2, h3, h4, h5, h6, h7, h8⟩ := h.out
  have e2 : strOfNums (l.map fun c => (c.toNat : Int)) = sB l := by
    unfold strOfNums sB
    have e3 : (l.map fun c => (c.toNat : Int)).map (fun x => UInt8.ofNat x.toNat) = l := by
      rw [List.map_map]
      conv => rhs; rw [← List.map_id l]
      apply List.map_congr_left
      intro c _
      simp
    first | rw [e3] | simp [e3]
  rw [← e2]
  refine run_convert_bytes_arg W 45 5 Tryz.underlying45 Tryz.underlying5 g 0 l.length cap (l.map fun c => (c.toNat : Int)) (by simp) (fun i hi => ?_) 9 Tryz.underlying9
  rw [Nat.zero_add]
  refine h8 i _ ?_
  simp [Lib.byteCells, List.getElem?_eq_getElem (show i < l.length from hi), List.getD_eq_getElem?_getD]
theorem OwnB.of_text (w : World) (s : ByteArray) (base : Nat) (hb : base ≤ w.heap.size) (hs : s.size ≤ 1073741824) :
    OwnB (Lib.bytesWorld w 5 s) base (.slice (some ⟨w.heap.size, 0, none⟩) s.size (grownCap w s.size 0 5)) s.data.toList := by
  have hblk := Lib.bytesWorld_at_new w 5 s
  have hge := grownCap_ge w s.size 0 5
  have hcm := grownCap_le_maxLen w s.size 0 5 (by unfold maxLen; omega)
  have hd : s.data.size = s.size := rfl
  have hsz : (Lib.bytesCells w 5 s).size = grownCap w s.size 0 5 := by
    unfold Lib.bytesCells
    rw [Array.size_append, Array.size_map, Array.size_replicate, hd]
    omega
  refine ⟨w.heap.size, _, by rw [Array.length_toList, hd], hb, by rw [Lib.bytesWorld_size]; omega, ⟨_, _, hblk⟩, by rw [Array.length_toList, hd]; exact hge, hcm, fun j hj => ?_, fun j hj => ?_, fun j u hu => ?_⟩
  · rw [Lib.cell_of_heap hblk, Array.getElem?_eq_getElem (by rw [hsz]; exact hj)]
    rfl
  · simp only [World.frozen?, hblk, Bool.and_eq_false_iff, decide_eq_false_iff_not]
    left
    omega
  · have hj : j < s.size := by
      have := (List.getElem?_eq_some_iff.1 hu).1
      rw [Lib.byteCells_length, Array.length_toList, hd] at this
      exact this
    rw [Lib.bytesWorld_cell w 5 s j hj, ← hu]
    simp [Lib.byteCells, List.getD, hj]
end Go.Proofs.YteglbmindbfkeaaGreatDoor.H
namespace Go.Proofs.YteglbmindbfkeaaGreatDoor.H
open Go.RowKit Go.Proofs.YteglbmindbfkeaaGreatDoorW.PrintWords
set_option linter.unusedVariables false
set_option linter.unusedSimpArgs false
section
variable {ops : Array Oper} {rest : List Oper} {o : Oper} {a : Act} {Q : Exit → Act → World → Prop}
theorem wpList_ownB {W : World} {base : Nat} (hgd : o.guard = none) (s x : Operand) (tx : TypeId) (ho : o.op = .call { callee := .builtin .append, args := #[s, x], argTypes := #[45, tx] })
    (v xv : Value) (l ys : Bs) (hs : a.eval s = v) (hx : a.eval x = xv) (HO : OwnB W base v l) (hsrc : Src Tryz.prog 1 tx xv ys.length (Lib.byteCells ys) W) (hl : l.length + ys.length ≤ 140737488355328) (hbase : base ≤ W.heap.size)
    (h : ∀ A n c w1, OwnB w1 base (.slice A n c) (l ++ ys) → n = (l ++ ys).length → W.grownBy w1 v.ownBlock → wpList Tryz.prog ops Q rest (a.put o.dst (.slice A n c)) w1) : wpList Tryz.prog ops Q (o :: rest) a W := by
  obtain ⟨v1, w1, hr, h1, h2⟩ := HO.append o.type hsrc hl hbase
  refine wpList_plain hgd fun K hK => ?_
  unfold Oper.wp execOp
  simp only [ho, resolve, invoke, builtin, Sem.run_bind, Sem.run_pure, Result.andThen_ok, List.map_toArray, List.map_cons, List.map_nil, hs, hx, hr]
  obtain ⟨g, cap, rfl, _⟩ := h1.out
  exact hK _ _ (h _ _ _ w1 h1 rfl h2)
end
theorem src_text (W : World) (t : Bs) : Src Tryz.prog 1 9 (.string (sB t)) t.length (Lib.byteCells t) W := by
  have h := Src.ofString W Tryz.underlying9 (sB t)
  have e : byteCells (sB t) = Lib.byteCells t := by unfold byteCells Lib.byteCells; rw [sB_data]
  rw [e, sB_size] at h
  exact h
theorem src_cells {W : World} {g : Nat} (ys : Bs) (c : Nat) (hc : ∀ j u, (Lib.byteCells ys)[j]? = some u → W.cell? ⟨g, j, none⟩ = some u) : Src Tryz.prog 1 45 (.slice (some ⟨g, 0, none⟩) ys.length c) ys.length (Lib.byteCells ys) W :=
  Src.ofSlice W Tryz.underlying45 ⟨g, 0, none⟩ ys.length c (Lib.byteCells ys) (by rw [Lib.byteCells_length, Nat.mul_one]) (fun j u hu => by
    have ha : (⟨g, 0, none⟩ : Addr).add j = ⟨g, j, none⟩ := by unfold Addr.add; split <;> simp_all
    rw [ha]; exact hc j u hu) (byteCells_one ys)
/-- What Print of the reference keeps: its bytes, what lay before, its own copy of the life. -/
structure RgI (w0 : World) (lb : Nat) (V : Array Value) (v : Value) (acc : Bs) (wr : World) : Prop where
  own : OwnB wr w0.heap.size v acc
  bel : Below w0.heap.size w0 wr
  box : wr.heap[lb]? = some (.cells V 56 (0, 0))
theorem RgI.below {w0 : World} {lb : Nat} {V : Array Value} {v : Value} {acc : Bs} {wr w' : World} (h : RgI w0 lb V v acc wr) (hb : Below wr.heap.size wr w') : RgI w0 lb V v acc w' :=
  ⟨h.own.below hb, below_step h.bel hb, blk_below h.box hb⟩
theorem RgI.write {w0 : World} {lb : Nat} {V : Array Value} {v v1 : Value} {acc acc' : Bs} {wr w1 : World} (h : RgI w0 lb V v acc wr) (h1 : OwnB w1 w0.heap.size v1 acc') (hg : wr.grownBy w1 v.ownBlock) : RgI w0 lb V v1 acc' w1 := by
  refine ⟨h1, h.bel.grown hg h.bel.size (fun k hk => (h.own.lt k hk).1), ?_⟩
  have hlt : lb < wr.heap.size := by
    rcases Nat.lt_or_ge lb wr.heap.size with h' | h'
    · exact h'
    · have := h.box
      simp [Array.getElem?_eq_none h'] at this
  rw [hg.block lb hlt (fun e => ?_)]
  · exact h.box
  · obtain ⟨c, fz, hc⟩ := h.own.kind lb e.symm
    rw [h.box] at hc
    simp only [Option.some.injEq, Obj.cells.injEq] at hc
    exact absurd hc.2.1 (by decide)
theorem life_line (k : Int) : (⟨#[108, 105, 102, 101, 32]⟩ : ByteArray) ++ sB (Lib.itoa k) ++ (⟨#[10]⟩ : ByteArray) = sB (lineL wLife [k] ++ [10]) := by
  have h : lineL wLife [k] ++ [10] = [108, 105, 102, 101, 32] ++ Lib.itoa k ++ [10] := by simp [lineL, wLife]
  rw [h, ← sB_app, ← sB_app]
  rfl
theorem life_line_len {k : Int} (h : I64 k) : (lineL wLife [k] ++ [10]).length ≤ 30 := by
  rw [List.length_append, lineL_nsF, List.length_append]
  have h2 := nsF_len (ns := [k]) (by intro n hn; rw [List.mem_singleton.1 hn]; exact h)
  have : wLife.length = 4 := rfl
  simp only [List.length_cons, List.length_nil] at h2 ⊢
  omega
theorem keep_start : (⟨#[107, 101, 101, 112]⟩ : ByteArray) = sB wKeep := rfl
theorem keep_step (a : Bs) (k : Int) : sB a ++ ((⟨#[32]⟩ : ByteArray) ++ sB (Lib.itoa k)) = sB (a ++ 32 :: Lib.itoa k) := by
  rw [show (⟨#[32]⟩ : ByteArray) = sB [32] from rfl, sB_app, sB_app]
  simp
/-- The bytes of the head are a row of the call's own. -/
theorem head_bytes (W : World) (s : ByteArray) (base : Nat) (hb : base ≤ W.heap.size) (hs : s.size ≤ 1073741824) : ∃ A n c W2, (convert 9 45 (.string s)).run Tryz.prog W = .ok (.slice A n c) W2 ∧ OwnB W2 base (.slice A n c) s.data.toList ∧ Below W.heap.size W W2 :=
  ⟨_, _, _, _, Lib.run_convert_string_bytes (P := Tryz.prog) W 9 45 5 s Tryz.underlying9 Tryz.underlying45 Tryz.underlying5, OwnB.of_text W s base hb hs,
    ⟨rfl, rfl, rfl, by rw [Lib.bytesWorld_size]; omega, fun j hj => Lib.bytesWorld_at_old W 5 s j hj⟩⟩
set_option maxRecDepth 100000 in
set_option maxHeartbeats 8000000 in
theorem rPrint_any (s : ShapeV) (A : Option Addr) (c : Nat) (ls : List LifeV) (w : World) (hE : Env w) (hs : ShOk s) (hL : LivesR w A ls) (hok : LvOk ls) :
    Calls Tryz.prog 7 #[shV s, .slice A ls.length c] w fun e w' => e = .returned (prV (printT s ls)) ∧ Below w.heap.size w w' := by
  have HE := Aside0.mk hE
  have HS := Aside0.mk hs
  have HL := Aside0.mk hL
  have HOk := Aside0.mk hok
  have hC := fun W => rcheck_any s W
  have HB0 := Aside0.mk (below_alloc (Below.refl w.heap.size w) (.cells (shC s) 26))
  have HX := Aside0.mk (ShBox.new w s)
  unfold shV at hC ⊢
  unfold shC at hC
  obtain ⟨V, hV⟩ : ∃ V, shC s = V := ⟨_, rfl⟩
  clear hE hs hL hok
  cases hk : checkL s with
  | false =>
    rw [hk] at hC
    have HC := Aside0.mk hC
    have HR := Aside0.mk (prT_chk (ls := ls) hk)
    clear hk hC
    rw [hV] at HX HB0 ⊢
    obtain ⟨x0, x1, x2, x3, x4, x5, x6, x7, x8, x9⟩ := HX.out
    clear hV
    go_enter Tryz.func7, Tryz.ntmps7
    go_wp2_with (go_at_call 20; refine (HC.out _).mono ?_; rintro e w1 ⟨rfl, hB⟩; have HB1 := Aside0.mk (below_step HB0.out hB); clear hB)
    refine bodyPost_ret (v := .tuple #[.string ⟨#[]⟩, .int .i64 41]) (by simp [results, Tryz.f7, go_sem]) rfl ⟨by rw [HR.out]; rfl, HB1.out⟩
  | true =>
    rw [hk] at hC
    have HC := Aside0.mk hC
    have HK := Aside0.mk hk
    clear hk hC
    have hFw := fun W (hb : Below w.heap.size w W) => toomany_any A c ls W (HL.out.below hb) HOk.out
    have hSh := fun W => rhead_any s W HS.out
    unfold shV shC at hSh
    rw [hV] at HX HB0 ⊢
    have HSh := Aside0.mk hSh
    obtain ⟨x0, x1, x2, x3, x4, x5, x6, x7, x8, x9⟩ := HX.out
    clear hSh hV
    cases hf : fewL ls with
    | false =>
      rw [hf] at hFw
      have HFw := Aside0.mk hFw
      have HR := Aside0.mk (prT_few HK.out hf)
      clear hf hFw
      go_enter Tryz.func7, Tryz.ntmps7
      go_wp2_with (first
        | (go_at_call 20; refine (HC.out _).mono ?_; rintro e w1 ⟨rfl, hB⟩; have HB1 := Aside0.mk (below_step HB0.out hB); clear hB)
        | (go_at_call 21; refine (HFw.out _ HB1.out).mono ?_; rintro e w2 ⟨rfl, hB⟩; have HB2 := Aside0.mk (below_step HB1.out hB); clear hB))
      refine bodyPost_ret (v := .tuple #[.string ⟨#[]⟩, .int .i64 3]) (by simp [results, Tryz.f7, go_sem]) rfl ⟨by rw [HR.out]; rfl, HB2.out⟩
    | true =>
      rw [hf] at hFw
      have HFw := Aside0.mk hFw
      have HF := Aside0.mk hf
      have HSl := Aside0.mk (shapeL_len HS.out)
      clear hf hFw
      go_enter Tryz.func7, Tryz.ntmps7
      go_wp2_with (first
        | (go_at_call 20; refine (HC.out _).mono ?_; rintro e w1 ⟨rfl, hB⟩; have HB1 := Aside0.mk (below_step HB0.out hB); have HX1 := Aside0.mk (HX.out.below hB); clear hB)
        | (go_at_call 21; refine (HFw.out _ HB1.out).mono ?_; rintro e w2 ⟨rfl, hB⟩; have HB2 := Aside0.mk (below_step HB1.out hB); have HX2 := Aside0.mk (HX1.out.below hB); clear x0 x1 x2 x3 x4 x5 x6 x7 x8 x9; obtain ⟨x0, x1, x2, x3, x4, x5, x6, x7, x8, x9⟩ := HX2.out; clear hB)
        | (go_at_call 22; refine (HSh.out _).mono ?_; rintro e w3 ⟨rfl, hB⟩; have HB3 := Aside0.mk (below_step HB2.out hB); clear hB; obtain ⟨A4, n4, c4, w4, hcv, hown, hb4⟩ := head_bytes w3 (sB (shapeL s)) w.heap.size HB3.out.size (by rw [sB_size]; have := HSl.out; omega); have HO4 := Aside0.mk hown; have HB4 := Aside0.mk (below_step HB3.out hb4); clear hown hb4))
      rw [sB_data] at HO4
      have hn4 : n4 = (shapeL s).length := by
        obtain ⟨g, cap, h, _⟩ := HO4.out.out
        cases h
        rfl
      have HSl2 := HSl.out
      rw [← hn4] at HSl2
      have HN4 := Aside0.mk hn4
      obtain ⟨N, hN⟩ : ∃ N, ls.length = N := ⟨_, rfl⟩
      have hn := HOk.out.num
      rw [hN] at hn ⊢
      have HN := Aside0.mk hN
      clear hN x0 x1 x2 x3 x4 x5 x6 x7 x8 x9 HX2 HX1 HB1 HB2 HB3 hn4 hcv
      go_loopw [7, 29] (fun vv iv wr => ∃ (i : Int) (T : Bs) (A1 : Option Addr) (n1 c1 : Nat), iv = .int .i64 i ∧ vv = .slice A1 n1 c1 ∧ n1 = (shapeL s ++ T).length ∧ 0 ≤ i ∧ i ≤ N ∧ Aside0 (livesL (ls.take i.toNat) = some T) ∧ Aside0 (OwnB wr w.heap.size (.slice A1 n1 c1) (shapeL s ++ T)) ∧ Aside0 (Below w.heap.size w wr)) (fun _ iv _ => (N - intOf iv).toNat)
      case atStart => exact ⟨0, [], A4, n4, c4, rfl, rfl, by rw [List.append_nil]; exact HN4.out, Int.le_refl _, by omega, ⟨rfl⟩, by rw [List.append_nil]; exact HO4, HB4⟩
      case round =>
        obtain ⟨i, T, A1, n1, d1, rfl, rfl, hn1, i0, i1, HT, HO, HB⟩ := hrel
        have w4 : wrap64 (i + 1) = i + 1 := by unfold wrap64; omega
        have HN1 := Aside0.mk hn1
        have HTl := Aside0.mk (show T.length ≤ 207200000000 by
          have h1 := livesL_len (fun x hx => ⟨HOk.out.each x (List.mem_of_mem_take hx), (few_ops HF.out (List.mem_of_mem_take hx)).1⟩) HT.out
          have h2 : (ls.take i.toNat).length ≤ 16 := by
            by_cases h0 : ls = []
            · rw [h0]; simp
            · obtain ⟨x, hx⟩ := List.exists_mem_of_ne_nil _ h0
              have := (few_ops HF.out hx).2
              rw [List.length_take]
              omega
          omega)
        have hn1b : n1 ≤ 207200000400 := by rw [hn1, List.length_append]; have := HSl.out; have := HTl.out; omega
        clear hn1
        by_cases hlt : i < (N : Int)
        · have hlt1 : decide (i < (N : Int)) = true := decide_eq_true hlt
          obtain ⟨l, b1, k1, B1, m1, B2, m2, hl, hlm, rfl, hc⟩ := lives_get HL.out (i := i.toNat) (by rw [HN.out]; omega)
          have hc2 := hc.below HB.out
          have c0 := hc2.c0
          have c1 := hc2.c1
          have c2 := hc2.c2
          have HC1 := Aside0.mk (And.intro hc.ops hc.keep)
          have HLm := Aside0.mk (And.intro hl hlm)
          have HLk := Aside0.mk (HOk.out.each l hlm)
          have HFo := Aside0.mk (few_ops HF.out hlm).1
          have hst := HLk.out.stop
          unfold I64 at hst
          have HNu := Aside0.mk (fun W => rnumber_any l.stop W hst.1 hst.2)
          have hnz := itoa_sz HLk.out.stop
          obtain ⟨M, hM⟩ : ∃ M, l.ops.length = M := ⟨_, rfl⟩
          rw [hM] at c0
          have HM := Aside0.mk hM
          have hMn : M ≤ 1024 := by rw [← hM]; exact HFo.out
          clear hM
          have HLl := Aside0.mk (life_line l.stop)
          have HLz := Aside0.mk (life_line_len HLk.out.stop)
          obtain ⟨Nb, hNb⟩ : ∃ Nb, sB (Lib.itoa l.stop) = Nb := ⟨_, rfl⟩
          rw [hNb] at hnz HNu HLl
          have HI0 := Aside0.mk (show RgI w wr.heap.size #[.slice B1 M m1, .int .i64 l.stop, .slice B2 l.keep.length m2] (.slice A1 n1 d1) (shapeL s ++ T) (wr.alloc (.cells #[.slice B1 M m1, .int .i64 l.stop, .slice B2 l.keep.length m2] 56)) from
            ⟨HO.out.below (below_alloc (Below.refl _ _) _), below_alloc HB.out _, blk_new wr _⟩)
          clear hc hc2 hl hlm hNb
          by_cases hs1 : l.stop < -999999999999999999
          · have HR := Aside0.mk (prT_none HK.out HF.out (livesL_none HLm.out.2 (lifeL_stop (fun h => by have := h.1; omega))))
            go_wp2_with fail
            refine bodyPost_ret (v := .tuple #[.string ⟨#[]⟩, .int .i64 260]) (by simp [results, Tryz.f7, go_sem]) rfl ⟨by rw [HR.out]; rfl, HI0.out.bel⟩
          · by_cases hs2 : l.stop > 999999999999999999
            · have HR := Aside0.mk (prT_none HK.out HF.out (livesL_none HLm.out.2 (lifeL_stop (fun h => by have := h.2; omega))))
              go_wp2_with fail
              refine bodyPost_ret (v := .tuple #[.string ⟨#[]⟩, .int .i64 260]) (by simp [results, Tryz.f7, go_sem]) rfl ⟨by rw [HR.out]; rfl, HI0.out.bel⟩
            · have HFd := Aside0.mk (show fewD l.stop from ⟨by omega, by omega⟩)
              have hz1 : (⟨#[108, 105, 102, 101, 32]⟩ : ByteArray).size = 5 := rfl
              have hz2 : (⟨#[10]⟩ : ByteArray).size = 1 := rfl
              go_wp2_with (first
                | (go_at_call 23; refine (HNu.out _).mono ?_; rintro e w5 ⟨rfl, hB⟩; have HI5 := Aside0.mk (HI0.out.below hB); clear hB)
                | (at_builtin; refine wpList_ownB rfl _ _ 9 rfl (.slice A1 n1 d1) (.string (sB (lineL wLife [l.stop] ++ [10]))) (shapeL s ++ T) (lineL wLife [l.stop] ++ [10]) rfl (by rw [← HLl.out]; rfl) HI5.out.own (src_text _ _) (by have := HN1.out; have := HLz.out; omega) HI5.out.bel.size ?_; intro A6 n6 d6 w6 h1 h2 h3; have HI6 := Aside0.mk (HI5.out.write h1 h3); have HN6 := Aside0.mk h2; clear h1 h2 h3; have e0 : w6.cell? ⟨wr.heap.size, 0, none⟩ = some (.slice B1 M m1) := blk_cell HI6.out.box 0))
              obtain ⟨X1, hX1⟩ : ∃ X1, shapeL s ++ T ++ (lineL wLife [l.stop] ++ [10]) = X1 := ⟨_, rfl⟩
              obtain ⟨lb, hlb⟩ : ∃ lb, wr.heap.size = lb := ⟨_, rfl⟩
              have HX1 := Aside0.mk hX1
              have HXl := Aside0.mk (show X1.length ≤ 207200000430 by rw [← hX1, List.length_append]; have := HN1.out; have := HLz.out; omega)
              rw [hX1, hlb] at HI6
              rw [hX1] at HN6
              rw [hlb] at e0 ⊢
              clear hX1 hlb HI0 HI5 HNu hnz c0 c1 c2 e0 HO
              have hMn' := hMn
              go_loopw [7, 51] (fun vv iv wq => ∃ (j : Int) (U : Bs) (A7 : Option Addr) (n7 d7 : Nat), iv = .int .i64 j ∧ vv = .slice A7 n7 d7 ∧ n7 = (X1 ++ U).length ∧ 0 ≤ j ∧ j ≤ M ∧ Aside0 (opsL (l.ops.take j.toNat) = some U) ∧ Aside0 (RgI w lb #[.slice B1 M m1, .int .i64 l.stop, .slice B2 l.keep.length m2] (.slice A7 n7 d7) (X1 ++ U) wq)) (fun _ iv _ => (M - intOf iv).toNat)
              case atStart => exact ⟨0, [], A6, n6, d6, rfl, rfl, by rw [List.append_nil]; exact HN6.out, Int.le_refl _, by omega, ⟨rfl⟩, by rw [List.append_nil]; exact HI6⟩
              case round =>
                obtain ⟨j, U, A7, n7, d7, rfl, rfl, hn7, j0, j1, HU, HI⟩ := hrel
                have w5 : wrap64 (j + 1) = j + 1 := by unfold wrap64; omega
                have HUl := Aside0.mk (show U.length ≤ 12884986880 by
                  have h1 := opsL_len (fun o ho => HLk.out.ops o (List.mem_of_mem_take ho)) HU.out
                  have h2 : (l.ops.take j.toNat).length ≤ 1024 := by rw [List.length_take, HM.out]; omega
                  omega)
                have hn7b : n7 ≤ 230000000000 := by rw [hn7, List.length_append]; have := HXl.out; have := HUl.out; omega
                have HN7 := Aside0.mk hn7
                clear hn7
                by_cases hjt : j < (M : Int)
                · have hjt1 : decide (j < (M : Int)) = true := decide_eq_true hjt
                  obtain ⟨o, b3, k3, ho, hom, rfl, hc⟩ := (HC1.out.1.below HI.out.bel).get (i := j.toNat) (by rw [HM.out]; omega)
                  obtain ⟨c0, c1, c2, c3, c4, c5, c6, c7⟩ := hc
                  have hook := HLk.out.ops o hom
                  have hP := fun W => rprint_any o W (hook.mono (by omega))
                  unfold opV opC at hP
                  have HOm := Aside0.mk (And.intro ho hom)
                  clear ho hom
                  cases hq : printL o with
                  | none =>
                    rw [printV_none hq] at hP
                    have HR := Aside0.mk (prT_none HK.out HF.out (livesL_none HLm.out.2 (lifeL_ops (opsL_none HOm.out.2 hq))))
                    have HP := Aside0.mk hP
                    clear hq hP hook
                    go_wp2_with (go_at_call 24; refine (HP.out _).mono ?_; rintro e w7 ⟨rfl, hB⟩; have HI7 := Aside0.mk ((HI.out.below (below_alloc (Below.refl _ _) _)).below hB); clear hB)
                    refine bodyPost_ret (v := .tuple #[.string ⟨#[]⟩, .int .i64 260]) (by simp [results, Tryz.f7, go_sem]) rfl ⟨by rw [HR.out]; rfl, HI7.out.bel⟩
                  | some q =>
                    rw [printV_some hq] at hP
                    have HQl := Aside0.mk (line10_len hook hq)
                    have HQ := Aside0.mk hq
                    have HP := Aside0.mk hP
                    clear hq hP hook
                    go_wp2_with (first
                      | (go_at_call 24; refine (HP.out _).mono ?_; rintro e w7 ⟨rfl, hB⟩; have HI7 := Aside0.mk ((HI.out.below (below_alloc (Below.refl _ _) _)).below hB); clear hB)
                      | (at_builtin; refine wpList_ownB rfl _ _ 9 rfl (.slice A7 n7 d7) (.string (sB q)) (X1 ++ U) q rfl rfl HI7.out.own (src_text _ _) (by have := HN7.out; have := HQl.out; omega) HI7.out.bel.size ?_; intro A8 n8 d8 w8 h1 h2 h3; have HI8 := Aside0.mk ((HI7.out.write h1 h3).below (below_alloc (Below.refl _ _) (.cells #[.int .u8 10] 5))); have HN8 := Aside0.mk h2; clear h1 h2 h3)
                      | (at_builtin; refine wpList_ownB rfl _ _ 45 rfl (.slice A8 n8 d8) (.slice (some ⟨w8.heap.size, 0, none⟩) 1 1) (X1 ++ U ++ q) [10] rfl rfl HI8.out.own (src_cells (W := w8.alloc (.cells #[.int .u8 10] 5)) [10] 1 (by intro jj u hu; rw [Lib.cell_of_heap (blk_new w8 _)]; simpa [Lib.byteCells] using hu)) (by rw [List.length_append, ← HN7.out]; have := HQl.out; simp only [List.length_cons, List.length_nil]; omega) HI8.out.bel.size ?_; intro A9 n9 d9 w9 h1 h2 h3; have HI9 := Aside0.mk (HI8.out.write h1 h3); have HN9 := Aside0.mk h2; clear h1 h2 h3))
                    refine ⟨⟨j + 1, U ++ (q ++ [10]), A9, n9, d9, rfl, rfl, by rw [HN9.out]; simp, by omega, by omega, ⟨?_⟩, ⟨?_⟩⟩, by simp [intOf]; omega⟩
                    · rw [show (j + 1).toNat = j.toNat + 1 by omega, take_snoc HOm.out.1]
                      exact opsL_app HU.out HQ.out
                    · have := HI9.out
                      rw [show X1 ++ (U ++ (q ++ [10])) = X1 ++ U ++ q ++ [10] by simp]
                      exact this
                · have hjt1 : decide (j < (M : Int)) = false := decide_eq_false hjt
                  have hfin : l.ops.take j.toNat = l.ops := List.take_of_length_le (by rw [HM.out]; omega)
                  rw [hfin] at HU
                  have e2 := blk_cell HI.out.box 2
                  obtain ⟨X2, hX2⟩ : ∃ X2, X1 ++ U = X2 := ⟨_, rfl⟩
                  have HX2 := Aside0.mk hX2
                  rw [hX2] at HI HN7
                  obtain ⟨M2, hM2⟩ : ∃ M2, l.keep.length = M2 := ⟨_, rfl⟩
                  have HM2 := Aside0.mk hM2
                  have hM2n : M2 ≤ 1048576 := by rw [← hM2]; exact HLk.out.kpn
                  rw [hM2] at HI e2
                  replace e2 : wr.cell? ⟨lb, 2, none⟩ = some (.slice B2 M2 m2) := e2
                  clear hjt hfin hX2 hM2
                  go_wp2_with fail
                  go_loopw [14, 72] (fun kv iv wk => ∃ (j : Int), iv = .int .i64 j ∧ kv = .string (sB (wKeep ++ nsF (l.keep.take j.toNat))) ∧ 0 ≤ j ∧ j ≤ M2 ∧ Aside0 (∀ k ∈ l.keep.take j.toNat, fewD k) ∧ Aside0 (RgI w lb #[.slice B1 M m1, .int .i64 l.stop, .slice B2 M2 m2] (.slice A7 n7 d7) X2 wk)) (fun _ iv _ => (M2 - intOf iv).toNat)
                  case atStart => exact ⟨0, rfl, rfl, Int.le_refl _, by omega, ⟨fun k hk => by simp at hk⟩, HI⟩
                  case round =>
                    clear e2
                    obtain ⟨y, rfl, rfl, y0, y1, HF2, HI2⟩ := hrel
                    have w6 : wrap64 (y + 1) = y + 1 := by unfold wrap64; omega
                    have HKl := Aside0.mk (show (wKeep ++ nsF (l.keep.take y.toNat)).length ≤ 23068700 by
                      have h1 := nsF_len (ns := l.keep.take y.toNat) (fun k hk => HLk.out.keep k (List.mem_of_mem_take hk))
                      have h2 : (l.keep.take y.toNat).length ≤ 1048576 := by rw [List.length_take, HM2.out]; omega
                      rw [List.length_append]
                      have : wKeep.length = 4 := rfl
                      omega)
                    by_cases hyt : y < (M2 : Int)
                    · have hyt1 : decide (y < (M2 : Int)) = true := decide_eq_true hyt
                      obtain ⟨k, b4, k4, hk, hkm, rfl, hc⟩ := (HC1.out.2.below HI2.out.bel).get (i := y.toNat) (by rw [HM2.out]; omega)
                      have hki := HLk.out.keep k hkm
                      have HKm := Aside0.mk hk
                      by_cases hf1 : k < -999999999999999999
                      · have HR := Aside0.mk (prT_none HK.out HF.out (livesL_none HLm.out.2 (lifeL_keep hkm (fun h => by have := h.1; omega))))
                        clear hk hkm hki
                        go_wp2_with fail
                        refine bodyPost_ret (v := .tuple #[.string ⟨#[]⟩, .int .i64 260]) (by simp [results, Tryz.f7, go_sem]) rfl ⟨by rw [HR.out]; rfl, HI2.out.bel⟩
                      · by_cases hf2 : k > 999999999999999999
                        · have HR := Aside0.mk (prT_none HK.out HF.out (livesL_none HLm.out.2 (lifeL_keep hkm (fun h => by have := h.2; omega))))
                          clear hk hkm hki
                          go_wp2_with fail
                          refine bodyPost_ret (v := .tuple #[.string ⟨#[]⟩, .int .i64 260]) (by simp [results, Tryz.f7, go_sem]) rfl ⟨by rw [HR.out]; rfl, HI2.out.bel⟩
                        · have HFk := Aside0.mk (show fewD k from ⟨by omega, by omega⟩)
                          have HNu := Aside0.mk (fun W => rnumber_any k W hki.1 hki.2)
                          have hnz := itoa_sz hki
                          have HSt := Aside0.mk (keep_step (wKeep ++ nsF (l.keep.take y.toNat)) k)
                          have hkz : (sB (wKeep ++ nsF (l.keep.take y.toNat))).size ≤ 23068700 := by rw [sB_size]; exact HKl.out
                          have hz3 : (⟨#[32]⟩ : ByteArray).size = 1 := rfl
                          obtain ⟨Nb2, hNb2⟩ : ∃ Nb2, sB (Lib.itoa k) = Nb2 := ⟨_, rfl⟩
                          rw [hNb2] at hnz HNu HSt
                          clear hk hkm hki hNb2
                          go_wp2_with (go_at_call 23; refine (HNu.out _).mono ?_; rintro e w7 ⟨rfl, hB⟩; have HI7 := Aside0.mk (HI2.out.below hB); clear hB)
                          refine ⟨⟨y + 1, rfl, ?_, by omega, by omega, ⟨?_⟩, HI7⟩, by simp [intOf]; omega⟩
                          · rw [HSt.out, show (y + 1).toNat = y.toNat + 1 by omega, nsF_take HKm.out, List.append_assoc]
                          · rw [show (y + 1).toNat = y.toNat + 1 by omega, take_snoc HKm.out]
                            intro x hx
                            rcases List.mem_append.1 hx with h | h
                            · exact HF2.out x h
                            · rw [List.mem_singleton.1 h]; exact HFk.out
                    · have hyt1 : decide (y < (M2 : Int)) = false := decide_eq_false hyt
                      have hfin : l.keep.take y.toNat = l.keep := List.take_of_length_le (by rw [HM2.out]; omega)
                      rw [hfin] at HF2 HKl ⊢
                      have HLs := Aside0.mk (lifeL_some HFd.out HU.out HF2.out)
                      have e2 : wr.cell? ⟨lb, 2, none⟩ = some (.slice B2 M2 m2) := blk_cell HI2.out.box 2
                      clear hyt hfin
                      by_cases hM0 : M2 = 0
                      · have hke : l.keep = [] := List.eq_nil_of_length_eq_zero (by rw [HM2.out]; exact hM0)
                        have HKe := Aside0.mk hke
                        subst hM0
                        clear hke
                        go_wp2_with fail
                        have hE : X2 = shapeL s ++ (T ++ (lineL wLife [l.stop] ++ 10 :: (U ++ keepL l.keep))) := by
                          rw [← HX2.out, ← HX1.out, HKe.out, show keepL [] = [] from rfl]
                          simp
                        refine ⟨⟨i + 1, T ++ (lineL wLife [l.stop] ++ 10 :: (U ++ keepL l.keep)), A7, n7, d7, rfl, rfl, by rw [HN7.out, hE], by omega, by omega, ⟨?_⟩, ⟨by rw [← hE]; exact HI2.out.own⟩, ⟨HI2.out.bel⟩⟩, by simp [intOf]; omega⟩
                        rw [show (i + 1).toNat = i.toNat + 1 by omega]
                        exact livesL_snoc HLm.out.1 HT.out HLs.out
                      · have hkn : l.keep ≠ [] := fun e => hM0 (by rw [← HM2.out, e]; rfl)
                        have HKn := Aside0.mk hkn
                        have hMp : (0 : Int) < (M2 : Int) := by omega
                        clear hkn
                        go_wp2_with (first
                          | (at_builtin; refine wpList_ownB rfl _ _ 9 rfl (.slice A7 n7 d7) (.string (sB (wKeep ++ nsF l.keep))) X2 (wKeep ++ nsF l.keep) rfl rfl HI2.out.own (src_text _ _) (by have := HN7.out; have := HKl.out; omega) HI2.out.bel.size ?_; intro A8 n8 d8 w8 h1 h2 h3; have HI8 := Aside0.mk ((HI2.out.write h1 h3).below (below_alloc (Below.refl _ _) (.cells #[.int .u8 10] 5))); have HN8 := Aside0.mk h2; clear h1 h2 h3)
                          | (at_builtin; refine wpList_ownB rfl _ _ 45 rfl (.slice A8 n8 d8) (.slice (some ⟨w8.heap.size, 0, none⟩) 1 1) (X2 ++ (wKeep ++ nsF l.keep)) [10] rfl rfl HI8.out.own (src_cells (W := w8.alloc (.cells #[.int .u8 10] 5)) [10] 1 (by intro jj u hu; rw [Lib.cell_of_heap (blk_new w8 _)]; simpa [Lib.byteCells] using hu)) (by rw [List.length_append, ← HN7.out]; have := HKl.out; simp only [List.length_cons, List.length_nil]; omega) HI8.out.bel.size ?_; intro A9 n9 d9 w9 h1 h2 h3; have HI9 := Aside0.mk (HI8.out.write h1 h3); have HN9 := Aside0.mk h2; clear h1 h2 h3))
                        have hE : X2 ++ (wKeep ++ nsF l.keep) ++ [10] = shapeL s ++ (T ++ (lineL wLife [l.stop] ++ 10 :: (U ++ keepL l.keep))) := by
                          rw [← HX2.out, ← HX1.out, show keepL l.keep = lineL wKeep l.keep ++ [10] from if_neg HKn.out, lineL_nsF wKeep]
                          simp
                        rw [hE] at HI9 HN9
                        refine ⟨⟨i + 1, T ++ (lineL wLife [l.stop] ++ 10 :: (U ++ keepL l.keep)), A9, n9, d9, rfl, rfl, HN9.out, by omega, by omega, ⟨?_⟩, ⟨HI9.out.own⟩, ⟨HI9.out.bel⟩⟩, by simp [intOf]; omega⟩
                        rw [show (i + 1).toNat = i.toNat + 1 by omega]
                        exact livesL_snoc HLm.out.1 HT.out HLs.out
        · have hlt1 : decide (i < (N : Int)) = false := decide_eq_false hlt
          have hfin : ls.take i.toNat = ls := List.take_of_length_le (by rw [HN.out]; omega)
          rw [hfin] at HT
          have HR := Aside0.mk (prT_some HK.out HF.out HT.out)
          obtain ⟨X, hX⟩ : ∃ X, shapeL s ++ T = X := ⟨_, rfl⟩
          rw [hX] at HO HR HN1
          rw [← HN1.out] at HR
          have hcv := HO.out.text
          clear hlt hfin hX
          by_cases hbig : 1048576 < n1
          · rw [if_pos hbig] at HR
            have hbi : (1048576 : Int) < (n1 : Int) := by omega
            go_wp2_with fail
            refine bodyPost_ret (v := .tuple #[.string ⟨#[]⟩, .int .i64 3]) (by simp [results, Tryz.f7, go_sem]) rfl ⟨by rw [HR.out]; rfl, HB.out⟩
          · rw [if_neg hbig] at HR
            have hbi : ¬ (1048576 : Int) < (n1 : Int) := by omega
            go_wp2_with fail
            refine bodyPost_ret (v := .tuple #[.string (sB X), .int .i64 0]) (by simp [results, Tryz.f7, go_sem]) rfl ⟨by rw [HR.out]; rfl, HB.out⟩
end Go.Proofs.YteglbmindbfkeaaGreatDoor.H
namespace Go.Proofs.YteglbmindbfkeaaGreatDoor.H
open Go.RowKit Go.Proofs.YteglbmindbfkeaaGreatDoorW.PrintWords
set_option linter.unusedVariables false
set_option linter.unusedSimpArgs false
theorem index_at (k : UInt8) (s : Bs) : (Lib.index s [k] = -1 ∧ ∀ x ∈ s, x ≠ k) ∨ (∃ a b, s = a ++ k :: b ∧ (∀ x ∈ a, x ≠ k) ∧ Lib.index s [k] = (a.length : Nat)) := by
  induction s with
  | nil => left; simp [Lib.index]
  | cons c r ih =>
    by_cases hc : c = k
    · right
      subst hc
      exact ⟨[], r, rfl, by simp, by rw [Lib.index]; simp [List.isPrefixOf]⟩
    · have hp : List.isPrefixOf [k] (c :: r) = false := by simp [List.isPrefixOf]; exact fun e => hc e.symm
      rcases ih with ⟨h1, h2⟩ | ⟨a, b, h1, h2, h3⟩
      · left
        refine ⟨by rw [Lib.index, hp, h1]; simp, fun x hx => ?_⟩
        rcases List.mem_cons.1 hx with rfl | hx
        · exact hc
        · exact h2 x hx
      · right
        refine ⟨c :: a, b, by rw [h1]; rfl, fun x hx => ?_, ?_⟩
        · rcases List.mem_cons.1 hx with rfl | hx
          · exact hc
          · exact h2 x hx
        · have hm : ¬ (Lib.index r [k] == -1) = true := by rw [h3]; simp <;> omega
          rw [Lib.index, hp, if_neg (by simp), if_neg hm, h3]
          simp
theorem splB_none {s : Bs} (h : ∀ x ∈ s, x ≠ (32 : UInt8)) (cur : Bs) : splB cur s = [cur ++ s] := by
  have := splB_word s cur [] h
  rw [List.append_nil] at this
  rw [this, splB]
theorem splB_hit {a b : Bs} (h : ∀ x ∈ a, x ≠ (32 : UInt8)) (cur : Bs) : splB cur (a ++ 32 :: b) = (cur ++ a) :: splB [] b := by
  rw [splB_word a cur _ h, splB, if_pos rfl]
theorem splitK_all : ∀ (k : Nat) (s : Bs), s.count 32 ≤ k → Lib.splitK [32] 0 k s = splB [] s := by
  intro k
  induction k with
  | zero =>
    intro s h
    have hn : ∀ x ∈ s, x ≠ (32 : UInt8) := fun x hx e => by
      subst e
      have := List.count_pos_iff.2 hx
      omega
    rw [splB_none hn]
    simp [Lib.splitK]
  | succ k ih =>
    intro s h
    rcases index_at 32 s with ⟨h1, h2⟩ | ⟨a, b, rfl, h2, h3⟩
    · rw [splB_none h2]
      unfold Lib.splitK
      rw [h1]
      simp
    · rw [splB_hit h2]
      have hm : ¬ (Lib.index (a ++ 32 :: b) [32] == -1) = true := by rw [h3]; simp <;> omega
      unfold Lib.splitK
      rw [if_neg hm, h3, Int.toNat_natCast, Nat.add_zero, List.take_append_of_le_length (Nat.le_refl _), List.take_length, List.nil_append]
      congr 1
      have e1 : (a ++ 32 :: b).drop (a.length + [(32 : UInt8)].length) = b := by
        rw [show a ++ 32 :: b = (a ++ [32]) ++ b by simp]
        exact List.drop_left' (by simp)
      rw [e1]
      refine ih b ?_
      rw [List.count_append, List.count_cons_self] at h
      omega
theorem splitB_all (p : ByteArray) : (Lib.splitB ⟨#[32]⟩ 0 (Lib.countB p ⟨#[32]⟩) p) = (splB [] p.data.toList).map sB := by
  have h := Lib.splitB_data ⟨#[32]⟩ 0 (Lib.countB p ⟨#[32]⟩) p
  have hc : Lib.countB p ⟨#[32]⟩ = p.data.toList.count 32 := Lib.count_one 32 p.data.toList
  rw [show (⟨#[32]⟩ : ByteArray).data.toList = [32] from rfl, splitK_all _ _ (by rw [hc]; exact Nat.le_refl _)] at h
  rw [← h, List.map_map]
  refine (List.map_id _).symm.trans ?_
  refine List.map_congr_left (fun x _ => ?_)
  exact (data_sB x).symm
theorem splB_length (l : Bs) : ∀ cur, (splB cur l).length = l.count 32 + 1 := by
  induction l with
  | nil => intro cur; simp [splB]
  | cons c r ih =>
    intro cur
    simp only [splB]
    by_cases hc : c = 32
    · subst hc; rw [if_pos rfl]; simp [ih]
    · rw [if_neg hc, ih, List.count_cons_of_ne (fun e => hc e)]
theorem splB_count (p : ByteArray) : Lib.countB p ⟨#[32]⟩ + 1 = (splB [] p.data.toList).length := by
  rw [splB_length]
  exact congrArg (· + 1) (Lib.count_one 32 p.data.toList)
theorem splB_lens {l : Bs} : ∀ {cur w : Bs}, w ∈ splB cur l → w.length ≤ cur.length + l.length := by
  induction l with
  | nil => intro cur w h; simp [splB] at h; subst h; simp
  | cons c r ih =>
    intro cur w h
    simp only [splB] at h
    split at h
    · rcases List.mem_cons.1 h with rfl | h
      · simp
      · have := ih h
        simp at this ⊢
        omega
    · have := ih h
      simp at this ⊢
      omega
theorem cutN_none : ∀ {l : Bs}, cutN l = none ↔ ∀ x ∈ l, x ≠ (10 : UInt8) := by
  intro l
  induction l with
  | nil => simp [cutN]
  | cons c r ih =>
    simp only [cutN]
    by_cases hc : c = 10
    · rw [if_pos hc]; simp [hc]
    · rw [if_neg hc]
      cases h : cutN r with
      | none =>
        have := ih.1 h
        simp only [true_iff]
        intro x hx
        rcases List.mem_cons.1 hx with rfl | hx
        · exact hc
        · exact this x hx
      | some ab =>
        obtain ⟨a, b⟩ := ab
        simp only [false_iff, reduceCtorEq]
        intro hh
        have := ih.2 (fun x hx => hh x (List.mem_cons_of_mem _ hx))
        rw [h] at this
        cases this
theorem cut_n (l : Bs) : Lib.cut l [10] = match cutN l with | some (a, b) => (a, b, true) | none => (l, [], false) := by
  unfold Lib.cut
  rcases index_at 10 l with ⟨h1, h2⟩ | ⟨a, b, rfl, h2, h3⟩
  · rw [h1, cutN_none.2 h2]
    rfl
  · rw [h3, cutN_line b h2, if_pos (by omega)]
    simp only [Int.toNat_natCast, Prod.mk.injEq, and_true]
    constructor
    · simp
    · rw [show a ++ 10 :: b = (a ++ [10]) ++ b by simp]
      exact List.drop_left' (by simp)
/-- Texts as they are read. -/
def SR (W : World) (A : Option Addr) (ws : List Bs) : Prop := ∀ (i : Nat) (x : Bs), ws[i]? = some x → ∃ b o, A = some ⟨b, o, none⟩ ∧ W.cell? ⟨b, o + i, none⟩ = some (.string (sB x))
theorem SR.below {w w' : World} {A : Option Addr} {ws : List Bs} (h : SR w A ws) (hb : Below w.heap.size w w') : SR w' A ws := fun i k hk => by
  obtain ⟨b, o, h1, h2⟩ := h i k hk
  exact ⟨b, o, h1, cell_later hb h2⟩
theorem SR.get {w : World} {A : Option Addr} {ws : List Bs} (h : SR w A ws) {i : Nat} (hi : i < ws.length) : ∃ x b o, ws[i]? = some x ∧ x ∈ ws ∧ A = some ⟨b, o, none⟩ ∧ w.cell? ⟨b, o + i, none⟩ = some (.string (sB x)) := by
  obtain ⟨b, o, h1, h2⟩ := h i _ (List.getElem?_eq_getElem hi)
  exact ⟨_, b, o, List.getElem?_eq_getElem hi, List.getElem_mem hi, h1, h2⟩
theorem SR.take {w : World} {A : Option Addr} {ws : List Bs} (h : SR w A ws) (k : Nat) : SR w A (ws.take k) := fun i x hx => h i x (by
  rw [List.getElem?_take] at hx
  split at hx
  · exact hx
  · cases hx)
theorem SR.drop {w : World} {b o : Nat} {ws : List Bs} (h : SR w (some ⟨b, o, none⟩) ws) (k : Nat) : SR w (some ⟨b, o + k, none⟩) (ws.drop k) := fun i x hx => by
  rw [List.getElem?_drop] at hx
  obtain ⟨b2, o2, h1, h2⟩ := h (k + i) x hx
  cases h1
  exact ⟨b, o + k, rfl, by rw [Nat.add_assoc]; exact h2⟩
def SplQ (ws : List Bs) (w : World) (e : Ending) (w' : World) : Prop := ∃ g c, e = .returned (.slice (some ⟨g, 0, none⟩) ws.length c) ∧ ws.length ≤ c ∧ SR w' (some ⟨g, 0, none⟩) ws ∧ w.heap.size ≤ g ∧ Below w.heap.size w w'
theorem split_any (s : ByteArray) (w : World) (hE : Env w) (hs : s.size ≤ 2147483648) : Calls Tryz.prog 26 #[.string s, .string ⟨#[32]⟩] w fun e w' => SplQ (splB [] s.data.toList) w e w' := by
  obtain ⟨m, hm⟩ := hE.m
  refine (Tryz.strings_Split s ⟨#[32]⟩ m w (by omega) hm (by decide)).mono ?_
  rintro e w' ⟨rfl, rfl⟩
  rw [splB_count, splitB_all]
  refine ⟨w.heap.size, _, rfl, Nat.le_refl _, fun i x hx => ⟨_, _, rfl, ?_⟩, Nat.le_refl _, below_alloc (Below.refl _ _) _⟩
  rw [Lib.cell_of_heap (blk_new w _), Nat.zero_add]
  simp [hx]
/-- What a cut at the newline answers. -/
def cutV (l : Bs) : Value := match cutN l with
  | some (a, b) => .tuple #[.string (sB a), .string (sB b), .bool true]
  | none => .tuple #[.string (sB l), .string ⟨#[]⟩, .bool false]
theorem cutn_any (s : ByteArray) (w : World) (hE : Env w) (hs : s.size ≤ 2147483648) : Calls Tryz.prog 25 #[.string s, .string ⟨#[10]⟩] w fun e w' => e = .returned (cutV s.data.toList) ∧ Below w.heap.size w w' := by
  obtain ⟨m, hm⟩ := hE.m
  refine (Tryz.strings_Cut s ⟨#[10]⟩ m w (by omega) hm).mono ?_
  rintro e w' ⟨rfl, n, rfl⟩
  rw [show (⟨#[10]⟩ : ByteArray).data.toList = [10] from rfl, cut_n]
  refine ⟨?_, ⟨rfl, rfl, rfl, Nat.le_refl _, fun _ _ => rfl⟩⟩
  unfold cutV
  cases cutN s.data.toList with
  | none => rfl
  | some ab => rfl
end Go.Proofs.YteglbmindbfkeaaGreatDoor.H
namespace Go.Proofs.YteglbmindbfkeaaGreatDoor.H
open Go.RowKit Go.Proofs.YteglbmindbfkeaaGreatDoorW.PrintWords
set_option linter.unusedVariables false
set_option linter.unusedSimpArgs false
theorem numsL_snoc {ws : List Bs} {i : Nat} {x : Bs} {ns : List Int} {n : Int} (hx : ws[i]? = some x) (h : numsL (ws.take i) = some ns) (hn : numL x = some n) : numsL (ws.take (i + 1)) = some (ns ++ [n]) := by
  obtain ⟨e, hf⟩ := numsL_iff.1 h
  obtain ⟨e2, hf2⟩ := numL_iff.1 hn
  refine numsL_iff.2 ⟨?_, fun k hk => ?_⟩
  · rw [take_snoc hx, e, e2, List.map_append]; rfl
  · rcases List.mem_append.1 hk with h | h
    · exact hf k h
    · rw [List.mem_singleton.1 h]; exact hf2
theorem numsL_bad {ws : List Bs} {x : Bs} (hx : x ∈ ws) (hn : numL x = none) : numsL ws = none := by
  cases h : numsL ws with
  | none => rfl
  | some ns =>
    obtain ⟨e, hf⟩ := numsL_iff.1 h
    rw [e] at hx
    obtain ⟨n, hm, rfl⟩ := List.mem_map.1 hx
    rw [numL_iff.2 ⟨rfl, hf n hm⟩] at hn
    cases hn
theorem nums_snoc (ns : List Int) (n : Int) : nums .i64 (ns ++ [n]) = nums .i64 ns ++ [.int .i64 n] := by simp [nums]
theorem infoInt : (Tryz.prog.info? 3).map (fun i => (i.zero, i.size, i.bytes)) = some (some (.int .i64 0), 1, 8) := by kernel_rfl
/-- What numbers answers. -/
def NmP (R : Option (List Int)) (w : World) (e : Ending) (w' : World) : Prop :=
  (match R with
    | some ns => ∃ v, e = .returned (.tuple #[v, .bool true]) ∧ w'.ownsRow w.heap.size 3 1 v ns.length (nums .i64 ns)
    | none => e = .returned (.tuple #[.slice none 0 0, .bool false])) ∧ Below w.heap.size w w'
theorem NmP.bad {R : Option (List Int)} {w w' : World} (hR : R = none) (hB : Below w.heap.size w w') : NmP R w (.returned (.tuple #[.slice none 0 0, .bool false])) w' := by
  subst hR
  exact ⟨rfl, hB⟩
theorem NmP.good {R : Option (List Int)} {ns : List Int} {v : Value} {w w' : World} (hR : R = some ns) (hO : w'.ownsRow w.heap.size 3 1 v ns.length (nums .i64 ns)) (hB : Below w.heap.size w w') : NmP R w (.returned (.tuple #[v, .bool true])) w' := by
  subst hR
  exact ⟨⟨v, rfl, hO⟩, hB⟩
set_option maxRecDepth 100000 in
set_option maxHeartbeats 4000000 in
theorem nums_any (A : Option Addr) (c : Nat) (ws : List Bs) (w : World) (hE : Env w) (hS : SR w A ws) (hn : ws.length ≤ 1048577) (hw : ∀ x ∈ ws, x.length ≤ 1048576) :
    Calls Tryz.prog 55 #[.slice A ws.length c] w fun e w' => NmP (numsL ws) w e w' := by
  have HE := Aside0.mk hE
  have HS := Aside0.mk hS
  have HW := Aside0.mk hw
  obtain ⟨N, hN⟩ : ∃ N, ws.length = N := ⟨_, rfl⟩
  rw [hN] at hn ⊢
  have HN := Aside0.mk hN
  clear hE hS hw hN
  go_enter Tryz.func55, Tryz.ntmps55
  go_wp2_with fail
  go_loopw [4, 11] (fun vv iv wr => ∃ (i : Int) (ns : List Int), iv = .int .i64 i ∧ 0 ≤ i ∧ i ≤ N ∧ Aside0 (numsL (ws.take i.toNat) = some ns) ∧ Aside0 (wr.ownsRow w.heap.size 3 1 vv ns.length (nums .i64 ns)) ∧ Aside0 (Below w.heap.size w wr)) (fun _ iv _ => (N - intOf iv).toNat)
  case atStart => exact ⟨0, [], rfl, Int.le_refl _, by omega, ⟨rfl⟩, ⟨World.ownsRow_nil _ _ _ _⟩, ⟨Below.refl _ _⟩⟩
  case round =>
    obtain ⟨i, ns, rfl, i0, i1, HR, HO, HB⟩ := hrel
    have w4 : wrap64 (i + 1) = i + 1 := by unfold wrap64; omega
    have HNl := Aside0.mk (show ns.length = i.toNat by have h := numsL_len HR.out; rw [List.length_take, HN.out] at h; omega)
    by_cases hlt : i < (N : Int)
    · have hlt1 : decide (i < (N : Int)) = true := decide_eq_true hlt
      obtain ⟨x, b, o, hx, hxm, rfl, hc⟩ := (HS.out.below HB.out).get (i := i.toNat) (by rw [HN.out]; omega)
      have hC := fun W h => number_any (sB x) W h (by rw [sB_size]; have := HW.out x hxm; omega)
      rw [sB_data] at hC
      have HC := Aside0.mk hC
      have HX := Aside0.mk (And.intro hx hxm)
      clear hx hxm hC
      go_wp2_with (first
        | (go_at_call 37; refine (HC.out _ (HE.out.below HB.out)).mono ?_; rintro e w2 ⟨⟨n, ok, rfl, h1, h2⟩, hB⟩; have HP := Aside0.mk (And.intro h1 h2); have HO2 := Aside0.mk (pw_own_below HO.out hB); have HB2 := Aside0.mk (below_step HB.out hB); clear h1 h2 hB; cases ok)
        | (at_builtin; refine print_append_cells (w0 := w) w.heap.size rfl _ _ 54 3 (.int .i64 0) 1 8 rfl Tryz.underlying54 infoInt rfl (by omega) (by omega) _ ns.length (nums .i64 ns) [.int .i64 n] rfl rfl rfl ?a1 ?aO ?aB ?aS ?aL ?_; (case a1 => intro u hu; simp at hu; subst hu; rfl); (case aO => exact HO2.out); (case aB => exact HB2.out); (case aS => exact HB2.out.size); (case aL => have := HNl.out; omega); intro v1 w1 ho1 hb1 _ _; have HO1 := Aside0.mk ho1; have HB1 := Aside0.mk hb1; clear ho1 hb1))
      · exact bodyPost_ret (v := .tuple #[.slice none 0 0, .bool false]) (by simp [results, Tryz.f55, go_sem]) rfl (NmP.bad (numsL_bad HX.out.2 (HP.out.2 trivial).1) HB2.out)
      · refine ⟨⟨i + 1, ns ++ [n], rfl, by omega, by omega, ⟨?_⟩, ⟨?_⟩, HB1⟩, by simp [intOf]; omega⟩
        · rw [show (i + 1).toNat = i.toNat + 1 by omega]
          exact numsL_snoc HX.out.1 HR.out (HP.out.1 trivial)
        · rw [List.length_append, nums_snoc]
          exact HO1.out
    · have hlt1 : decide (i < (N : Int)) = false := decide_eq_false hlt
      have hfin : ws.take i.toNat = ws := List.take_of_length_le (by rw [HN.out]; omega)
      rw [hfin] at HR
      clear hlt hfin
      go_wp2_with fail
      refine bodyPost_ret (v := .tuple #[u4, .bool true]) (by simp [results, Tryz.f55, go_sem]) rfl (NmP.good HR.out HO.out HB.out)
/-- The numbers behind a first word, so many. -/
def numsR (ws : List Bs) (first : Bs) (n : Int) : Option (List Int) := if (ws.length : Int) = n + 1 ∧ ws.head? = some first then numsL ws.tail else none
theorem SR.tail {w : World} {b o c : Nat} {ws : List Bs} (h : SR w (some ⟨b, o, none⟩) ws) (hc : ws.length ≤ c) : SR w (some (if c = 1 then ⟨b, o, none⟩ else ⟨b, o + 1, none⟩)) ws.tail := by
  by_cases h1 : c = 1
  · rw [if_pos h1]
    intro i x hx
    exfalso
    have : ws.tail.length = 0 := by rw [List.length_tail]; omega
    rw [List.eq_nil_of_length_eq_zero this] at hx
    simp at hx
  · rw [if_neg h1]
    have := h.drop 1
    rwa [List.drop_one] at this
set_option maxRecDepth 100000 in
set_option maxHeartbeats 4000000 in
theorem rnums_any (A : Option Addr) (c : Nat) (ws : List Bs) (first : Bs) (n : Int) (w : World) (hS : SR w A ws) (hc : ws.length ≤ c) (hn : ws.length ≤ 1048577) (h0 : 0 ≤ n ∧ n ≤ 1048577) (hw : ∀ x ∈ ws, x.length ≤ 1048576) :
    Calls Tryz.prog 57 #[.slice A ws.length c, .string (sB first), .int .i64 n] w fun e w' => NmP (numsR ws first n) w e w' := by
  have HS := Aside0.mk hS
  have HW := Aside0.mk hw
  have HC := Aside0.mk hc
  have wn : wrap64 (n + 1) = n + 1 := by unfold wrap64; omega
  obtain ⟨N, hN⟩ : ∃ N, ws.length = N := ⟨_, rfl⟩
  rw [hN] at hn hc ⊢
  have HN := Aside0.mk hN
  clear hS hw hN
  by_cases hl : (N : Int) = n + 1
  · obtain ⟨x, b, o, hx, hxm, rfl, hcl⟩ := HS.out.get (i := 0) (by rw [HN.out]; omega)
    have hcl0 : w.cell? ⟨b, o, none⟩ = some (.string (sB x)) := hcl
    have hN1 : 0 < N := by omega
    have hN2 : (0 : Int) < (N : Int) := by omega
    by_cases hf : x = first
    · have HR := Aside0.mk (show numsR ws first n = numsL ws.tail from if_pos ⟨by rw [HN.out]; exact hl, by rw [List.head?_eq_getElem?, hx, hf]⟩)
      have hne := eq_data x first hf
      have HT := Aside0.mk (HS.out.tail HC.out)
      have HTW := Aside0.mk (fun y (hy : y ∈ ws.tail) => HW.out y (List.mem_of_mem_tail hy))
      have HTN := Aside0.mk (show ws.tail.length = N - 1 by rw [List.length_tail, HN.out])
      obtain ⟨ts, hts⟩ : ∃ ts, ws.tail = ts := ⟨_, rfl⟩
      rw [hts] at HT HTW HTN HR
      have HT1 := Aside0.mk (fun (h : c = 1) => show SR w (some ⟨b, o, none⟩) ts by have := HT.out; rwa [if_pos h] at this)
      have HT2 := Aside0.mk (fun (h : ¬ c = 1) => show SR w (some ⟨b, o + 1, none⟩) ts by have := HT.out; rwa [if_neg h] at this)
      obtain ⟨M, hM⟩ : ∃ M, N - 1 = M := ⟨_, rfl⟩
      rw [hM] at HTN
      have hMn : M ≤ 1048577 := by omega
      have HN1 := Aside0.mk hM
      clear hx hxm hf hts HT
      go_enter Tryz.func57, Tryz.ntmps57
      go_wp2_with fail
      all_goals first
        | have HT := Aside0.mk (HT1.out (by assumption))
        | have HT := Aside0.mk (HT2.out (by assumption))
      all_goals clear HT1 HT2
      all_goals go_loopw [8, 28] (fun vv iv wr => ∃ (i : Int) (ns : List Int), iv = .int .i64 i ∧ 0 ≤ i ∧ i ≤ M ∧ Aside0 (numsL (ts.take i.toNat) = some ns) ∧ Aside0 (wr.ownsRow w.heap.size 3 1 vv ns.length (nums .i64 ns)) ∧ Aside0 (Below w.heap.size w wr)) (fun _ iv _ => (M - intOf iv).toNat)
      all_goals first
        | exact ⟨0, [], rfl, Int.le_refl _, by omega, ⟨rfl⟩, ⟨World.ownsRow_nil _ _ _ _⟩, ⟨Below.refl _ _⟩⟩
        | skip
      all_goals
        obtain ⟨i, ns, rfl, i0, i1, HRr, HO, HB⟩ := hrel
        have w4 : wrap64 (i + 1) = i + 1 := by unfold wrap64; omega
        have HNl := Aside0.mk (show ns.length = i.toNat by have h := numsL_len HRr.out; rw [List.length_take, HTN.out] at h; omega)
        by_cases hlt : i < (M : Int)
        · have hlt1 : decide (i < (M : Int)) = true := decide_eq_true hlt
          try (exfalso; omega)
          all_goals
            obtain ⟨x, b, o, hx, hxm, hAA, hcx⟩ := (HT.out.below HB.out).get (i := i.toNat) (by rw [HTN.out]; omega)
            cases hAA
            have hC := fun W => rread_any x W (by have := HTW.out x hxm; omega)
            rw [num_same] at hC
            have HC := Aside0.mk hC
            have HX := Aside0.mk (And.intro hx hxm)
            clear hx hxm hC
            go_wp2_with (first
              | (go_at_call 77; refine (HC.out _).mono ?_; rintro e w2 ⟨⟨nn, ok, rfl, h1, h2, h3, h4⟩, rfl⟩; have HP := Aside0.mk (And.intro h3 h4); clear h1 h2 h3 h4; cases ok)
              | (at_builtin; refine print_append_cells (w0 := w) w.heap.size rfl _ _ 54 3 (.int .i64 0) 1 8 rfl Tryz.underlying54 infoInt rfl (by omega) (by omega) _ ns.length (nums .i64 ns) [.int .i64 nn] rfl rfl rfl ?a1 ?aO ?aB ?aS ?aL ?_; (case a1 => intro u hu; simp at hu; subst hu; rfl); (case aO => exact HO.out); (case aB => exact HB.out); (case aS => exact HB.out.size); (case aL => have := HNl.out; omega); intro v1 w1 ho1 hb1 _ _; have HO1 := Aside0.mk ho1; have HB1 := Aside0.mk hb1; clear ho1 hb1))
            · exact bodyPost_ret (v := .tuple #[.slice none 0 0, .bool false]) (by simp [results, Tryz.f57, go_sem]) rfl (NmP.bad (HR.out.trans (numsL_bad HX.out.2 (HP.out.2 trivial))) HB.out)
            · refine ⟨⟨i + 1, ns ++ [nn], rfl, by omega, by omega, ⟨?_⟩, ⟨?_⟩, HB1⟩, by simp [intOf]; omega⟩
              · rw [show (i + 1).toNat = i.toNat + 1 by omega]
                exact numsL_snoc HX.out.1 HRr.out (HP.out.1 trivial)
              · rw [List.length_append, nums_snoc]
                exact HO1.out
        · have hlt1 : decide (i < (M : Int)) = false := decide_eq_false hlt
          have hfin : ts.take i.toNat = ts := List.take_of_length_le (by rw [HTN.out]; omega)
          rw [hfin] at HRr
          clear hlt hfin
          go_wp2_with fail
          refine bodyPost_ret (v := .tuple #[u8, .bool true]) (by simp [results, Tryz.f57, go_sem]) rfl (NmP.good (HR.out.trans HRr.out) HO.out HB.out)
    · have HR := Aside0.mk (show numsR ws first n = none from if_neg (fun h => hf (by
        have h2 := h.2
        rw [List.head?_eq_getElem?, hx] at h2
        exact Option.some.inj h2)))
      have hne := ne_data x first hf
      clear hx hxm
      go_enter Tryz.func57, Tryz.ntmps57
      go_wp2_with fail
      exact bodyPost_ret (v := .tuple #[.slice none 0 0, .bool false]) (by simp [results, Tryz.f57, go_sem]) rfl (NmP.bad HR.out (Below.refl _ _))
  · have HR := Aside0.mk (show numsR ws first n = none from if_neg (fun h => hl (by rw [← HN.out]; exact h.1)))
    have hl2 : ((N : Int) == n + 1) = false := by simpa using hl
    go_enter Tryz.func57, Tryz.ntmps57
    go_wp2_with fail
    exact bodyPost_ret (v := .tuple #[.slice none 0 0, .bool false]) (by simp [results, Tryz.f57, go_sem]) rfl (NmP.bad HR.out (Below.refl _ _))
end Go.Proofs.YteglbmindbfkeaaGreatDoor.H
namespace Go.Proofs.YteglbmindbfkeaaGreatDoor.H
open Go.RowKit Go.Proofs.YteglbmindbfkeaaGreatDoorW.PrintWords
set_option linter.unusedVariables false
set_option linter.unusedSimpArgs false
/-- What readSeed answers. -/
def SdP (R : Option Nat) (e : Ending) : Prop := ∃ (n : Nat) (ok : Bool), e = .returned (.tuple #[.int .u64 (n : Int), .bool ok]) ∧ n < 18446744073709551616 ∧ (ok = true → R = some n) ∧ (ok = false → R = none)
theorem seed_long {l : Bs} (h : 20 < l.length) : seedL l = none := by
  cases hs : seedL l with
  | none => rfl
  | some n =>
    obtain ⟨rfl, hn⟩ := seedL_iff.1 hs
    have := dec_len20 hn
    omega
theorem seed_nil {l : Bs} (h : l.length < 1) : seedL l = none := by
  cases hs : seedL l with
  | none => rfl
  | some n =>
    obtain ⟨rfl, hn⟩ := seedL_iff.1 hs
    have := dec_pos n
    omega
theorem seed_val {l : Bs} (h : valD 0 l = none) : seedL l = none := by unfold seedL; rw [h]
/-- What is read, wrapped, and printed again is the text only if it is the number. -/
theorem seed_wrap {l : Bs} {m : Nat} (h : valD 0 l = some m) : (Lib.decDigits (m % 18446744073709551616) = l → seedL l = some (m % 18446744073709551616)) ∧ (Lib.decDigits (m % 18446744073709551616) ≠ l → seedL l = none) := by
  have hm : m % 18446744073709551616 < 18446744073709551616 := Nat.mod_lt _ (by decide)
  constructor
  · intro e
    exact seedL_iff.2 ⟨e.symm, hm⟩
  · intro e
    cases hs : seedL l with
    | none => rfl
    | some n =>
      obtain ⟨rfl, hn⟩ := seedL_iff.1 hs
      rw [valD_dec] at h
      cases h
      rw [Nat.mod_eq_of_lt hn] at e
      exact absurd rfl e
set_option maxRecDepth 100000 in
set_option maxHeartbeats 4000000 in
theorem rreadseed_any (l : Bs) (w : World) (hl : l.length ≤ 1048576) : Calls Tryz.prog 58 #[.string (sB l)] w fun e w' => SdP (seedL l) e ∧ Below w.heap.size w w' := by
  have hz := sB_size l
  by_cases h1 : l.length < 1
  · have HR := Aside0.mk (seed_nil h1)
    go_enter Tryz.func58, Tryz.ntmps58
    go_wp2_with fail
    exact bodyPost_ret (v := .tuple #[.int .u64 0, .bool false]) (by simp [results, Tryz.f58, go_sem]) rfl ⟨⟨0, false, rfl, by decide, (fun h => by cases h), fun _ => HR.out⟩, Below.refl _ _⟩
  · by_cases h2 : l.length > 20
    · have HR := Aside0.mk (seed_long h2)
      go_enter Tryz.func58, Tryz.ntmps58
      go_wp2_with fail
      exact bodyPost_ret (v := .tuple #[.int .u64 0, .bool false]) (by simp [results, Tryz.f58, go_sem]) rfl ⟨⟨0, false, rfl, by decide, (fun h => by cases h), fun _ => HR.out⟩, Below.refl _ _⟩
    · go_enter Tryz.func58, Tryz.ntmps58
      go_wp2_with fail
      go_loopw [4, 5] (fun nv iv wr => ∃ (i acc m : Nat), nv = .int .u64 (acc : Int) ∧ iv = .int .i64 (i : Int) ∧ i ≤ l.length ∧ acc < 18446744073709551616 ∧ acc = m % 18446744073709551616 ∧ Aside0 (valD m (l.drop i) = valD 0 l) ∧ wr = w) (fun _ iv _ => (l.length - intOf iv).toNat)
      case atStart => exact ⟨0, 0, 0, rfl, rfl, Nat.zero_le _, by decide, by decide, ⟨rfl⟩, rfl⟩
      case round =>
        obtain ⟨i, acc, m, rfl, rfl, hi, hacc, hm, HV, rfl⟩ := hrel
        have HM := Aside0.mk hm
        clear hm
        by_cases hlt : i < l.length
        · obtain ⟨d, hd⟩ : ∃ d, l[i]? = some d := ⟨_, List.getElem?_eq_getElem hlt⟩
          have hdr : l.drop i = d :: l.drop (i + 1) := drop_at hd
          have hV := HV.out
          rw [hdr, valD] at hV
          have hx := fun W => sidx hd i rfl W
          have hil : i < (sB l).size := by omega
          by_cases hlo : (d.toNat : Int) < 48
          · rw [if_neg (by omega)] at hV
            have HR := Aside0.mk (seed_val hV.symm)
            clear hV hdr hd
            go_wp2_with fail
            exact bodyPost_ret (v := .tuple #[.int .u64 0, .bool false]) (by simp [results, Tryz.f58, go_sem]) rfl ⟨⟨0, false, rfl, by decide, (fun h => by cases h), fun _ => HR.out⟩, Below.refl _ _⟩
          · by_cases hhi : (57 : Int) < d.toNat
            · rw [if_neg (by omega)] at hV
              have HR := Aside0.mk (seed_val hV.symm)
              clear hV hdr hd
              go_wp2_with fail
              exact bodyPost_ret (v := .tuple #[.int .u64 0, .bool false]) (by simp [results, Tryz.f58, go_sem]) rfl ⟨⟨0, false, rfl, by decide, (fun h => by cases h), fun _ => HR.out⟩, Below.refl _ _⟩
            · rw [if_pos (by omega)] at hV
              have HV2 := Aside0.mk hV
              clear hV hdr hd
              go_wp2_with fail
              refine ⟨⟨i + 1, (10 * m + (d.toNat - 48)) % 18446744073709551616, 10 * m + (d.toNat - 48), ?_, rfl, hlt, Nat.mod_lt _ (by decide), rfl, HV2, trivial⟩, by simp [intOf]; omega⟩
              have e := HM.out
              rw [IntKind.wrap_u64, IntKind.wrap_u64]
              congr 1
              omega
        · obtain rfl : i = l.length := by omega
          have hV := HV.out
          rw [List.drop_length, valD] at hV
          have hR := seed_wrap hV.symm
          rw [← HM.out] at hR
          have HR := Aside0.mk hR
          have HC := Aside0.mk (fun W => rseed_any acc W hacc)
          clear hV hR
          by_cases he : Lib.decDigits acc = l
          · have hee := eq_data (Lib.decDigits acc) l he
            have HE := Aside0.mk he
            clear he
            go_wp2_with (go_at_call 49; refine (HC.out _).mono ?_; rintro e w2 ⟨rfl, hB⟩; have HB := Aside0.mk hB; clear hB)
            exact bodyPost_ret (v := .tuple #[.int .u64 acc, .bool true]) (by simp [results, Tryz.f58, go_sem]) rfl ⟨⟨acc, true, rfl, hacc, fun _ => HR.out.1 HE.out, (fun h => by cases h)⟩, HB.out⟩
          · have hee := ne_data (Lib.decDigits acc) l he
            have HE := Aside0.mk he
            clear he
            go_wp2_with (go_at_call 49; refine (HC.out _).mono ?_; rintro e w2 ⟨rfl, hB⟩; have HB := Aside0.mk hB; clear hB)
            exact bodyPost_ret (v := .tuple #[.int .u64 acc, .bool false]) (by simp [results, Tryz.f58, go_sem]) rfl ⟨⟨acc, false, rfl, hacc, (fun h => by cases h), fun _ => HR.out.2 HE.out⟩, HB.out⟩
end Go.Proofs.YteglbmindbfkeaaGreatDoor.H
namespace Go.Proofs.YteglbmindbfkeaaGreatDoor.H
open Go.RowKit Go.Proofs.YteglbmindbfkeaaGreatDoorW.PrintWords
set_option linter.unusedVariables false
set_option linter.unusedSimpArgs false
theorem valD_ge : ∀ (l : Bs) (a n : Nat), valD a l = some n → a ≤ n := by
  intro l
  induction l with
  | nil => intro a n h; cases h; exact Nat.le_refl _
  | cons c r ih =>
    intro a n h
    simp only [valD] at h
    split at h
    · have := ih _ _ h; omega
    · cases h
theorem val_parseM : ∀ (l : Bs) (acc u : Nat), u < 18446744073709551616 → valD acc l = some u → Lib.parseUintM (2 ^ 64 - 1) acc l = .ok u := by
  intro l
  induction l with
  | nil => intro acc u _ h; cases h; rfl
  | cons c r ih =>
    intro acc u hu h
    simp only [valD] at h
    split at h
    · next hc =>
      have hge := valD_ge _ _ _ h
      unfold Lib.parseUintM
      rw [if_pos hc, if_neg (by omega), if_neg (by omega), show acc * 10 + (c.toNat - 48) = 10 * acc + (c.toNat - 48) by omega]
      exact ih _ _ hu h
    · cases h
theorem parseM_lt : ∀ (l : Bs) (acc u : Nat), acc < 18446744073709551616 → Lib.parseUintM (2 ^ 64 - 1) acc l = .ok u → u < 18446744073709551616 := by
  intro l
  induction l with
  | nil => intro acc u ha h; cases h; exact ha
  | cons c r ih =>
    intro acc u ha h
    unfold Lib.parseUintM at h
    split at h
    · split at h
      · cases h
      · split at h
        · cases h
        · exact ih _ _ (by omega) h
    · cases h
theorem pu_dec {n : Nat} (h : n < 18446744073709551616) : Lib.parseUintB 64 (Lib.decDigits n) = .ok n := by
  unfold Lib.parseUintB
  rw [if_neg (fun e => by have := dec_pos n; rw [e] at this; simp at this)]
  exact val_parseM _ _ _ h (valD_dec n)
theorem pu_lt {l : Bs} {u : Nat} (h : Lib.parseUintB 64 l = .ok u) : u < 18446744073709551616 := by
  unfold Lib.parseUintB at h
  split at h
  · cases h
  · exact parseM_lt _ _ _ (by decide) h
/-- What ParseUint answers: the number; or some fault. -/
def PuP (l : Bs) (e : Ending) : Prop :=
  (∃ u : Nat, e = .returned (.tuple #[.int .u64 (u : Int), .nilIface]) ∧ u < 18446744073709551616 ∧ (Lib.decDigits u = l → seedL l = some u) ∧ (Lib.decDigits u ≠ l → seedL l = none)) ∨
  (∃ (u : Nat) (t : TypeId) (p : Value), e = .returned (.tuple #[.int .u64 (u : Int), .iface t p]) ∧ u < 18446744073709551616 ∧ seedL l = none)
theorem pu_bad {l : Bs} (h : ∀ u, Lib.parseUintB 64 l ≠ .ok u) : seedL l = none := by
  cases hs : seedL l with
  | none => rfl
  | some n =>
    obtain ⟨rfl, hn⟩ := seedL_iff.1 hs
    exact absurd (pu_dec hn) (h n)
theorem pu_good {l : Bs} {u : Nat} (h : Lib.parseUintB 64 l = .ok u) : (Lib.decDigits u = l → seedL l = some u) ∧ (Lib.decDigits u ≠ l → seedL l = none) := by
  constructor
  · intro e
    exact seedL_iff.2 ⟨e.symm, pu_lt h⟩
  · intro e
    cases hs : seedL l with
    | none => rfl
    | some n =>
      obtain ⟨rfl, hn⟩ := seedL_iff.1 hs
      rw [pu_dec hn] at h
      cases h
      exact absurd rfl e
theorem parseuint_any (l : Bs) (w : World) (hE : Env w) (hl : l.length ≤ 1048576) : Calls Tryz.prog 56 #[.string (sB l), .int .i64 10, .int .i64 64] w fun e w' => PuP l e ∧ Below w.heap.size w w' := by
  have hz := sB_size l
  have hd := sB_data l
  cases h : Lib.parseUintB 64 l with
  | ok u =>
    refine (Any.strconv_ParseUint_10_at64_ok Tryz.laysPu14 (sB l) (by omega) u (by rw [hd]; exact h) w).mono ?_
    rintro e w' ⟨rfl, hw⟩
    refine ⟨.inl ⟨u, rfl, pu_lt h, pu_good h⟩, ?_⟩
    rcases hw with rfl | rfl
    · exact Below.refl _ _
    · exact below_bytes _
  | range =>
    obtain ⟨tp, p, hv⟩ := hE.rng
    refine (Any.strconv_ParseUint_10_at64_range_var Tryz.laysPu14 (sB l) (by omega) (by rw [hd]; exact h) tp p w hv).mono ?_
    rintro e w' ⟨N, rfl, _, _, hB⟩
    exact ⟨.inr ⟨_, _, _, rfl, by decide, pu_bad (fun u e => by rw [h] at e; cases e)⟩, hB⟩
  | _ =>
    obtain ⟨tp, p, hv⟩ := hE.syn
    refine (Any.strconv_ParseUint_10_at64_syntax_var Tryz.laysPu14 (sB l) (by omega) (by rw [hd]; exact h) tp p w hv).mono ?_
    rintro e w' ⟨N, rfl, _, _, hB⟩
    exact ⟨.inr ⟨_, _, _, rfl, by decide, pu_bad (fun u e => by rw [h] at e; cases e)⟩, hB⟩
end Go.Proofs.YteglbmindbfkeaaGreatDoor.H
namespace Go.Proofs.YteglbmindbfkeaaGreatDoor.H
open Go.RowKit Go.Proofs.YteglbmindbfkeaaGreatDoorW.PrintWords
set_option linter.unusedVariables false
set_option linter.unusedSimpArgs false
/-- A cell of an own row is written. -/
theorem own_set {w : World} {base g n c : Nat} {A : Option Addr} {e : TypeId} {size N : Nat} {xs : List Value} (h : w.ownsRow base e size (.slice (some ⟨g, 0, none⟩) n c) N xs) (i : Nat) (u : Value) : (w.setCell ⟨g, i, none⟩ u).ownsRow base e size (.slice (some ⟨g, 0, none⟩) n c) N (xs.set i u) := by
  refine ⟨by rw [List.length_set]; exact h.1, ?_⟩
  rcases h.2 with ⟨hv, _⟩ | ⟨g', cap, cur, hv, hb, hg, hn, hm, hs, ht⟩
  · cases hv
  · cases hv
    refine .inr ⟨g, c, cur.setIfInBounds i u, rfl, hb, blk_set hg i u, hn, hm, by simpa using hs, ?_⟩
    rw [Array.toList_setIfInBounds, List.take_set, ht]
theorem own_kind {w : World} {B n size : Nat} {e : TypeId} {v : Value} {xs : List Value} (h : w.ownsRow B e size v n xs) : ∀ g, v.ownBlock = some g → ∃ c fz, w.heap[g]? = some (.cells c e fz) := by
  intro g hg
  rcases h.2 with ⟨rfl, _⟩ | ⟨g', cap, cur, rfl, _, hh, _⟩
  · simp [Value.ownBlock] at hg
  · have : g' = g := by simpa [Value.ownBlock] using hg
    subst this
    exact ⟨cur, _, hh⟩
/-- Rows of two kinds lie apart. -/
theorem own_apart {w : World} {B B' n n' size size' : Nat} {e e' : TypeId} {v v' : Value} {xs xs' : List Value} (h : w.ownsRow B e size v n xs) (h' : w.ownsRow B' e' size' v' n' xs') (hne : e ≠ e') : v.ownBlock = none ∨ v.ownBlock ≠ v'.ownBlock := by
  cases hv : v.ownBlock with
  | none => exact .inl rfl
  | some g =>
    right
    intro he
    obtain ⟨c, fz, h1⟩ := own_kind h g hv
    obtain ⟨c', fz', h2⟩ := own_kind h' g he.symm
    rw [h1] at h2
    simp only [Option.some.injEq, Obj.cells.injEq] at h2
    exact hne h2.2.1
def opsC (ops : List OpV) : List Value := ops.flatMap fun o => (opC o).toList
theorem opsC_length (ops : List OpV) : (opsC ops).length = ops.length * 8 := by
  induction ops with
  | nil => rfl
  | cons o r ih =>
    unfold opsC at ih ⊢
    rw [List.flatMap_cons, List.length_append, ih, List.length_cons]
    simp [opC]
    omega
theorem opsC_snoc (ops : List OpV) (o : OpV) : opsC (ops ++ [o]) = opsC ops ++ (opC o).toList := by simp [opsC]
/-- A life's operations and numbers are rows of the call's own. -/
structure LvAt (W : World) (base : Nat) (o k : Value) (l : LifeV) : Prop where
  ops : W.ownsRow base 38 8 o l.ops.length (opsC l.ops)
  keep : W.ownsRow base 3 1 k l.keep.length (nums .i64 l.keep)
abbrev Lv3 := LifeV × Value × Value
def lfC (x : Lv3) : List Value := [x.2.1, .int .i64 x.1.stop, x.2.2]
def lvC (xs : List Lv3) : List Value := xs.flatMap lfC
theorem lvC_length (xs : List Lv3) : (lvC xs).length = xs.length * 3 := by
  induction xs with
  | nil => rfl
  | cons x r ih =>
    unfold lvC at ih ⊢
    rw [List.flatMap_cons, List.length_append, ih, List.length_cons]
    simp [lfC]
    omega
theorem lvC_snoc (xs : List Lv3) (x : Lv3) : lvC (xs ++ [x]) = lvC xs ++ lfC x := by simp [lvC]
/-- Two lives' operations lie apart. -/
def Ap (x y : Lv3) : Prop := ∀ g, x.2.1.ownBlock = some g → y.2.1.ownBlock ≠ some g
structure LvRow (W : World) (base : Nat) (v : Value) (xs : List Lv3) : Prop where
  row : W.ownsRow base 56 3 v xs.length (lvC xs)
  each : ∀ x ∈ xs, LvAt W base x.2.1 x.2.2 x.1
  apart : xs.Pairwise Ap
theorem LvRow.nil (W : World) (base : Nat) : LvRow W base (.slice none 0 0) [] := ⟨World.ownsRow_nil _ _ _ _, (fun x h => by simp at h), List.Pairwise.nil⟩
theorem LvAt.below {W W' : World} {base : Nat} {o k : Value} {l : LifeV} (h : LvAt W base o k l) (hb : Below W.heap.size W W') : LvAt W' base o k l := ⟨pw_own_below h.ops hb, pw_own_below h.keep hb⟩
theorem LvRow.below {W W' : World} {base : Nat} {v : Value} {xs : List Lv3} (h : LvRow W base v xs) (hb : Below W.heap.size W W') : LvRow W' base v xs :=
  ⟨pw_own_below h.row hb, fun x hx => (h.each x hx).below hb, h.apart⟩
/-- One life more. -/
theorem LvRow.push {W w1 : World} {base : Nat} {v v1 : Value} {xs : List Lv3} (h : LvRow W base v xs) {n : Int} (ho : w1.ownsRow base 56 3 v1 (xs.length + 1) (lvC xs ++ [.slice none 0 0, .int .i64 n, .slice none 0 0])) (hg : W.grownBy w1 v.ownBlock) :
    LvRow w1 base v1 (xs ++ [(({ stop := n } : LifeV), .slice none 0 0, .slice none 0 0)]) := by
  refine ⟨by rw [List.length_append, lvC_snoc]; exact ho, fun x hx => ?_, List.pairwise_append.2 ⟨h.apart, by simp, fun x _ y hy g _ => by rw [List.mem_singleton.1 hy]; simp [Value.ownBlock]⟩⟩
  rcases List.mem_append.1 hx with hx | hx
  · have h1 := h.each x hx
    exact ⟨h1.ops.kept hg (own_apart h1.ops h.row (by decide)), h1.keep.kept hg (own_apart h1.keep h.row (by decide))⟩
  · rw [List.mem_singleton.1 hx]
    exact ⟨World.ownsRow_nil _ _ _ _, World.ownsRow_nil _ _ _ _⟩
theorem LvAt.set {W : World} {base g n c N i : Nat} {ys : List Value} (hr : W.ownsRow base 56 3 (.slice (some ⟨g, 0, none⟩) n c) N ys) {o k : Value} {l : LifeV} (h : LvAt W base o k l) (u : Value) : LvAt (W.setCell ⟨g, i, none⟩ u) base o k l := by
  refine ⟨own_setCell h.ops (fun e => ?_) u, own_setCell h.keep (fun e => ?_) u⟩
  · rcases own_apart h.ops hr (by decide) with h1 | h1
    · rw [h1] at e; cases e
    · exact h1 (by rw [← e]; rfl)
  · rcases own_apart h.keep hr (by decide) with h1 | h1
    · rw [h1] at e; cases e
    · exact h1 (by rw [← e]; rfl)
theorem lvC_set (xs : List Lv3) (x : Lv3) (j : Nat) (hj : j < 3) (u : Value) : (lvC (xs ++ [x])).set (xs.length * 3 + j) u = lvC xs ++ (lfC x).set j u := by
  rw [lvC_snoc, List.set_append_right _ _ (by rw [lvC_length]; omega), lvC_length]
  congr 2
  omega
/-- The last life's numbers are set. -/
theorem LvRow.setKeep {W : World} {base g n c : Nat} {xs : List Lv3} {l : LifeV} {o k k2 : Value} {ks : List Int} (h : LvRow W base (.slice (some ⟨g, 0, none⟩) n c) (xs ++ [(l, o, k)])) (hk : W.ownsRow base 3 1 k2 ks.length (nums .i64 ks)) :
    LvRow (W.setCell ⟨g, xs.length * 3 + 2, none⟩ k2) base (.slice (some ⟨g, 0, none⟩) n c) (xs ++ [({ l with keep := ks }, o, k2)]) := by
  have hs := own_set (A := none) h.row (xs.length * 3 + 2) k2
  rw [lvC_set _ _ _ (by omega)] at hs
  refine ⟨by rw [lvC_snoc]; rw [List.length_append] at hs ⊢; exact hs, fun x hx => ?_, ?_⟩
  · rcases List.mem_append.1 hx with hx | hx
    · exact (h.each x (List.mem_append_left _ hx)).set h.row k2
    · rw [List.mem_singleton.1 hx]
      have h1 := (h.each (l, o, k) (by simp))
      exact ⟨(h1.set h.row k2).ops, (LvAt.set (l := { l with keep := ks }) h.row ⟨h1.ops, hk⟩ k2).keep⟩
  · obtain ⟨p1, p2, p3⟩ := List.pairwise_append.1 h.apart
    exact List.pairwise_append.2 ⟨p1, by simp, fun x hx y hy gg hgg => by
      rw [List.mem_singleton.1 hy]
      exact p3 x hx (l, o, k) (by simp) gg hgg⟩
/-- The last life has one operation more. -/
theorem LvRow.pushOp {W w1 : World} {base g n c : Nat} {xs : List Lv3} {l : LifeV} {o k o1 : Value} {x : OpV} (h : LvRow W base (.slice (some ⟨g, 0, none⟩) n c) (xs ++ [(l, o, k)]))
    (ho : w1.ownsRow base 38 8 o1 (l.ops.length + 1) (opsC l.ops ++ (opC x).toList)) (hg : W.grownBy w1 o.ownBlock) (hat : o1.ownBlock = o.ownBlock ∨ ∃ b, o1.ownBlock = some b ∧ W.heap.size ≤ b) :
    LvRow (w1.setCell ⟨g, xs.length * 3, none⟩ o1) base (.slice (some ⟨g, 0, none⟩) n c) (xs ++ [({ l with ops := l.ops ++ [x] }, o1, k)]) := by
  obtain ⟨p1, p2, p3⟩ := List.pairwise_append.1 h.apart
  have hl := h.each (l, o, k) (by simp)
  have hrow : w1.ownsRow base 56 3 (.slice (some ⟨g, 0, none⟩) n c) (xs ++ [(l, o, k)]).length (lvC (xs ++ [(l, o, k)])) := h.row.kept hg (own_apart h.row hl.ops (by decide))
  have hs := own_set (A := none) hrow (xs.length * 3 + 0) o1
  rw [lvC_set _ _ _ (by omega)] at hs
  refine ⟨by rw [lvC_snoc]; rw [List.length_append] at hs ⊢; exact hs, fun y hy => ?_, ?_⟩
  · rcases List.mem_append.1 hy with hy | hy
    · have h1 := h.each y (List.mem_append_left _ hy)
      have hop : y.2.1.ownBlock = none ∨ y.2.1.ownBlock ≠ o.ownBlock := by
        cases hv : y.2.1.ownBlock with
        | none => exact .inl rfl
        | some gg => exact .inr (fun e => p3 y hy (l, o, k) (by simp) gg hv e.symm)
      have h2 : LvAt w1 base y.2.1 y.2.2 y.1 := ⟨h1.ops.kept hg hop, h1.keep.kept hg (own_apart h1.keep hl.ops (by decide))⟩
      exact h2.set hrow o1
    · rw [List.mem_singleton.1 hy]
      have h2 : LvAt w1 base o1 k { l with ops := l.ops ++ [x] } := ⟨by rw [opsC_snoc, List.length_append]; exact ho, hl.keep.kept hg (own_apart hl.keep hl.ops (by decide))⟩
      exact h2.set hrow o1
  · refine List.pairwise_append.2 ⟨p1, by simp, fun y hy z hz gg hgg => ?_⟩
    rw [List.mem_singleton.1 hz]
    rcases hat with e | ⟨b, e, hb⟩
    · show o1.ownBlock ≠ some gg
      rw [e]
      exact p3 y hy (l, o, k) (by simp) gg hgg
    · show o1.ownBlock ≠ some gg
      rw [e]
      have := ((h.each y (List.mem_append_left _ hy)).ops.lt gg hgg).2
      intro e2
      cases e2
      omega
end Go.Proofs.YteglbmindbfkeaaGreatDoor.H
namespace Go.Proofs.YteglbmindbfkeaaGreatDoor.H
open Go.RowKit Go.Proofs.YteglbmindbfkeaaGreatDoorW.PrintWords
set_option linter.unusedVariables false
set_option linter.unusedSimpArgs false
theorem flat_get {α : Type} (f : α → List Value) (m : Nat) (hf : ∀ x, (f x).length = m) : ∀ (xs : List α) (i : Nat) (x : α), xs[i]? = some x → ∀ j, j < m → (xs.flatMap f)[i * m + j]? = (f x)[j]? := by
  intro xs
  induction xs with
  | nil => intro i x h; simp at h
  | cons y r ih =>
    intro i x h j hj
    rw [List.flatMap_cons]
    cases i with
    | zero =>
      simp only [List.getElem?_cons_zero, Option.some.injEq] at h
      subst h
      rw [Nat.zero_mul, Nat.zero_add, List.getElem?_append_left (by rw [hf]; exact hj)]
    | succ i =>
      rw [List.getElem?_cons_succ] at h
      rw [Nat.succ_mul, List.getElem?_append_right (by rw [hf]; omega), hf, show i * m + m + j - m = i * m + j by omega]
      exact ih i x h j hj
theorem own_cell {W : World} {b N c size n : Nat} {e : TypeId} {A : Option Addr} {xs : List Value} (h : W.ownsRow b e size (.slice A n c) N xs) {j : Nat} {u : Value} (hu : xs[j]? = some u) : ∃ g, A = some ⟨g, 0, none⟩ ∧ n = N ∧ N ≤ c ∧ W.cell? ⟨g, j, none⟩ = some u := by
  obtain ⟨hlt, _⟩ := List.getElem?_eq_some_iff.1 hu
  rcases h.2 with ⟨hv, h0⟩ | ⟨g, cap, cur, hv, hb, hg, hn, _⟩
  · have := h.1
    rw [h0, Nat.zero_mul] at this
    omega
  · injection hv with hA hNn hcc
    subst hA
    subst hNn
    subst hcc
    have h1 := h.cells (g := g) rfl _ _ hu
    rw [add_plain] at h1
    exact ⟨g, rfl, rfl, hn, h1⟩
theorem own_ops {W : World} {b c n : Nat} {A : Option Addr} {ops : List OpV} (h : W.ownsRow b 38 8 (.slice A n c) ops.length (opsC ops)) : OpsR W A ops := by
  intro i x hx
  have hg := fun j hj => flat_get (fun o => (opC o).toList) 8 (fun _ => rfl) ops i x hx j hj
  obtain ⟨g, rfl, _, _, h0⟩ := own_cell h (hg 0 (by omega))
  refine ⟨g, 0, rfl, ?_⟩
  have hc : ∀ j u, j < 8 → (opC x).toList[j]? = some u → W.cell? ⟨g, 0 + i * 8 + j, none⟩ = some u := fun j u hj hu => by
    obtain ⟨g2, e2, _, _, h2⟩ := own_cell h ((hg j hj).trans hu)
    cases e2
    rw [Nat.zero_add]
    exact h2
  exact ⟨hc 0 _ (by omega) rfl, hc 1 _ (by omega) rfl, hc 2 _ (by omega) rfl, hc 3 _ (by omega) rfl, hc 4 _ (by omega) rfl, hc 5 _ (by omega) rfl, hc 6 _ (by omega) rfl, hc 7 _ (by omega) rfl⟩
theorem own_ints {W : World} {b c n : Nat} {A : Option Addr} {ks : List Int} (h : W.ownsRow b 3 1 (.slice A n c) ks.length (nums .i64 ks)) : IntsR W A ks := by
  intro i k hk
  obtain ⟨g, rfl, _, _, h0⟩ := own_cell h (j := i) (u := .int .i64 k) (by simp [nums, hk])
  exact ⟨g, 0, rfl, by rw [Nat.zero_add]; exact h0⟩
theorem LvRow.lives {W : World} {base n c : Nat} {A : Option Addr} {xs : List Lv3} (h : LvRow W base (.slice A n c) xs) : LivesR W A (xs.map (·.1)) := by
  intro i l hl
  rw [List.getElem?_map, Option.map_eq_some_iff] at hl
  obtain ⟨x, hx, rfl⟩ := hl
  have hg := fun j hj => flat_get lfC 3 (fun _ => rfl) xs i x hx j hj
  have he := h.each x (List.mem_of_getElem? hx)
  obtain ⟨A1, n1, h1⟩ := own_slice he.ops
  obtain ⟨A2, n2, h2⟩ := own_slice he.keep
  obtain ⟨g, rfl, _, _, h0⟩ := own_cell h.row (hg 0 (by omega))
  have hc : ∀ j u, j < 3 → (lfC x)[j]? = some u → W.cell? ⟨g, 0 + i * 3 + j, none⟩ = some u := fun j u hj hu => by
    obtain ⟨g2, e2, _, _, h2⟩ := own_cell h.row ((hg j hj).trans hu)
    cases e2
    rw [Nat.zero_add]
    exact h2
  refine ⟨g, 0, A1, n1, A2, n2, rfl, ⟨hc 0 _ (by omega) (by rw [← h1]; rfl), hc 1 _ (by omega) rfl, hc 2 _ (by omega) (by rw [← h2]; rfl), own_ops (by rw [← h1]; exact he.ops), own_ints (by rw [← h2]; exact he.keep)⟩⟩
/-- The last life's cells. -/
theorem LvRow.last {W : World} {base n c : Nat} {A : Option Addr} {xs : List Lv3} {l : LifeV} {o k : Value} (h : LvRow W base (.slice A n c) (xs ++ [(l, o, k)])) :
    ∃ g, A = some ⟨g, 0, none⟩ ∧ n = xs.length + 1 ∧ n ≤ c ∧ base ≤ g ∧ W.cell? ⟨g, xs.length * 3, none⟩ = some o ∧ W.cell? ⟨g, xs.length * 3 + 1, none⟩ = some (.int .i64 l.stop) ∧ W.cell? ⟨g, xs.length * 3 + 2, none⟩ = some k ∧
      (∀ i, W.frozen? ⟨g, i, none⟩ = false) := by
  have hx : (xs ++ [(l, o, k)])[xs.length]? = some (l, o, k) := by simp
  have hg := fun j hj => flat_get lfC 3 (fun _ => rfl) (xs ++ [(l, o, k)]) xs.length (l, o, k) hx j hj
  obtain ⟨g, rfl, hn, hc, h0⟩ := own_cell h.row (hg 0 (by omega))
  have hc3 : ∀ j u, j < 3 → (lfC (l, o, k))[j]? = some u → W.cell? ⟨g, xs.length * 3 + j, none⟩ = some u := fun j u hj hu => by
    obtain ⟨g2, e2, _, _, h2⟩ := own_cell h.row ((hg j hj).trans hu)
    cases e2
    exact h2
  refine ⟨g, rfl, by rw [hn]; simp, by rw [hn]; exact hc, (h.row.lt g rfl).1, hc3 0 _ (by omega) rfl, hc3 1 _ (by omega) rfl, hc3 2 _ (by omega) rfl, fun i => ?_⟩
  rcases h.row.2 with ⟨hv, _⟩ | ⟨g2, cap, cur, hv, hb, hgg, _⟩
  · cases hv
  · cases hv
    exact Lib.frozen_of_heap hgg i
end Go.Proofs.YteglbmindbfkeaaGreatDoor.H
