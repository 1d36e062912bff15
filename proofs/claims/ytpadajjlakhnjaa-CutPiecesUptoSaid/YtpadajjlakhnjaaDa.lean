/- deduplaw05.CutPieces as a contract: it answers true. -/
import Derived.Test.YtpadajjlakhnjaaCz
namespace Go.Proofs.Ytpadajjlakhnjaa.H
open Go.RowKit Go.Shelf Go.Proofs.YtpadajjlakhnjaaW.PrintWords Go.Proofs.YtpadajjlakhnjaaW.PrintLast Go.Proofs.YtpadajjlakhnjaaW.PrintMore
set_option linter.unusedVariables false
set_option linter.unusedSimpArgs false

/-- The rows of a slice of rows of bytes. -/
def RowsAt (w : World) (A : Option Addr) (ls : List (List Int)) : Prop := ∀ (i : Nat) (l : List Int), ls[i]? = some l → ∃ ad Ai ci, A = some ad ∧ w.cell? (ad.add i) = some (.slice Ai l.length ci) ∧ l.length ≤ ci ∧ Kd.C (Kd.int .u8) w Ai l.length l
theorem RowsAt.below {w w' : World} {A : Option Addr} {ls : List (List Int)} (h : RowsAt w A ls) (hb : Below w.heap.size w w') : RowsAt w' A ls := fun i l hl => by
  obtain ⟨ad, Ai, ci, h1, h2, h3, h4⟩ := h i l hl
  exact ⟨ad, Ai, ci, h1, cell_later hb h2, h3, Kd.C_below h4 hb⟩

set_option maxRecDepth 100000 in
set_option maxHeartbeats 4000000 in
theorem pieces_bad (e0 a0 a1 a2 a3 : Int) (v : Value) (w : World) (he : e0 ≠ 0) (hc : check a0 a1 a2 = e0) :
    Calls Try.prog 7 #[.agg #[.int .i64 a0, .int .i64 a1, .int .i64 a2, .int .u64 a3], v] w fun e w' => e = .returned (.bool true) ∧ Below w.heap.size w w' := by
  have hu24 := Try.underlying24
  have he0 : (e0 != 0) = true := bne_iff_ne.mpr he
  have HC := Aside0.mk hc
  have HE := Aside0.mk he
  clear hc he
  go_enter Try.func7, Try.ntmps7
  go_wp2_with (first
    | (go_at_call 10; refine (lives_any _).mono ?_; rintro e w1 ⟨rfl, hB⟩; have hq := (hB.block w.heap.size (by simp)).trans (blk_new w _); have hq1 := (blk_cell hq 0).trans rfl; have hq2 := (blk_cell hq 1).trans rfl; have hq3 := (blk_cell hq 2).trans rfl; have hq4 := (blk_cell hq 3).trans rfl; have HQ := Aside0.mk hq; have HB1 := Aside0.mk (below_step (below_alloc (Below.refl _ _) _) hB); clear hB hq)
    | (go_at_call 21; refine (new_bad e0 a0 a1 a2 a3 _ HE.out HC.out).mono ?_; rintro e w2 ⟨rfl, hB⟩; clear hq1 hq2 hq3 hq4; have hq := (hB.block w.heap.size (blk_lt HQ.out)).trans HQ.out; have hq1 := (blk_cell hq 0).trans rfl; have hq2 := (blk_cell hq 1).trans rfl; have hq3 := (blk_cell hq 2).trans rfl; have hq4 := (blk_cell hq 3).trans rfl; have HQ2 := Aside0.mk hq; have HB2 := Aside0.mk (below_step HB1.out hB); clear hB hq)
    | (go_at_call 12; refine (ref_check_any a0 a1 a2 a3 _).mono ?_; rintro e w3 ⟨rfl, hB⟩; rw [HC.out]; have HB3 := Aside0.mk (below_step HB2.out hB); clear hB))
  go_ret
  exact ⟨rfl, HB3.out⟩

theorem wrt_left {F : List Int → Int} {a2 : Int} (n : Nat) : ∀ (l : List Int), (wrt F a2 n l).2.length ≤ l.length := by
  induction n with
  | zero => intro l; simp [wrt]
  | succ n ih =>
    intro l
    simp only [wrt]
    split
    · simp
    · split
      · simp
      · have := ih (l.drop (F l).toNat)
        simp at this ⊢
        omega
/-- A row of scalars, whose own block stays as it is. -/
theorem R_stay {α : Type} {d : Kd α} {e base : Nat} {ok : Nat → Prop} {w w1 : World} {v : Value} {xs : List α} (hE : d.E = []) (h : d.R e w base ok v xs) (hk : ∀ k, v.ownBlock = some k → w1.heap[k]? = w.heap[k]?) : d.R e w1 base ok v xs :=
  Kd.R_mono (Kd.R_move (Kd.R_tight2 hE h) (fun k hk' => hk k hk'.1.symm)) (fun _ hk' => hk'.2)
theorem R_apart {α β : Type} {d : Kd α} {d' : Kd β} {e e' b b' : Nat} {ok ok' : Nat → Prop} {w : World} {u v : Value} {xs : List α} {ys : List β} (h : d.R e w b ok u xs) (h' : d'.R e' w b' ok' v ys) (hne : e ≠ e') : ∀ k, v.ownBlock = some k → some k ≠ u.ownBlock := fun k hk => by
  obtain ⟨cs, hc⟩ := Kd.R_typed h' k hk
  exact Kd.R_ne h hc hne

set_option maxRecDepth 100000 in
set_option maxHeartbeats 4000000 in
theorem pieces_good (a0 a1 a2 a3 : Int) (A : Option Addr) (c : Nat) (ls : List (List Int)) (w : World) (hc : check a0 a1 a2 = 0) (hr : RowsAt w A ls) (hl : (ls.flatten).length ≤ 1048576) (hn : ls.length ≤ 1048576) :
    Calls Try.prog 7 #[.agg #[.int .i64 a0, .int .i64 a1, .int .i64 a2, .int .u64 a3], .slice A ls.length c] w fun e w' => e = .returned (.bool true) ∧ Below w.heap.size w w' := by
  have hu24 := Try.underlying24
  have hu52 := Try.underlying52
  have HC := Aside0.mk hc
  have HR := Aside0.mk hr
  have HL := Aside0.mk (And.intro hl hn)
  clear hc hr hl hn
  go_enter Try.func7, Try.ntmps7
  go_wp2_with (first
    | (go_at_call 10; refine (lives_any _).mono ?_; rintro e w1 ⟨rfl, hB⟩; have hq := (hB.block w.heap.size (by simp)).trans (blk_new w _); have hq1 := (blk_cell hq 0).trans rfl; have hq2 := (blk_cell hq 1).trans rfl; have hq3 := (blk_cell hq 2).trans rfl; have hq4 := (blk_cell hq 3).trans rfl; have HQ := Aside0.mk hq; have HB1 := Aside0.mk (below_step (below_alloc (Below.refl w.heap.size w) _) hB); clear hB hq)
    | (go_at_call 21; refine (new_good a0 a1 a2 a3 _ HC.out).mono ?_; rintro e w2 ⟨X, rfl, hXl, hX, hB⟩; clear hq1 hq2 hq3 hq4; have hq := (hB.block w.heap.size (blk_lt HQ.out)).trans HQ.out; have hq1 := (blk_cell hq 0).trans rfl; have hq2 := (blk_cell hq 1).trans rfl; have hq3 := (blk_cell hq 2).trans rfl; have hq4 := (blk_cell hq 3).trans rfl; have HQ2 := Aside0.mk hq; have HX2 := Aside0.mk hX; have HXl := Aside0.mk (show w.heap.size < X by have := blk_lt HQ.out; omega); have HB2 := Aside0.mk (below_step HB1.out hB); clear hB hq hX hXl)
    | (go_at_call 12; refine (ref_check_any a0 a1 a2 a3 _).mono ?_; rintro e w3 ⟨rfl, hB⟩; rw [HC.out]; clear hq1 hq2 hq3 hq4; have hq := (hB.block w.heap.size (blk_lt HQ2.out)).trans HQ2.out; have hq1 := (blk_cell hq 0).trans rfl; have hq2 := (blk_cell hq 1).trans rfl; have hq3 := (blk_cell hq 2).trans rfl; have hq4 := (blk_cell hq 3).trans rfl; have HQ3 := Aside0.mk hq; have hX3 : CutAt w3 X 60 a0 a1 a2 a3 _ := (hB.block X (blk_lt HX2.out)).trans HX2.out; have HX3 := Aside0.mk hX3; have HB3 := Aside0.mk (below_step HB2.out hB); clear hB hq hX3))
  clear hq1 hq2 hq3 hq4
  obtain ⟨w4, hw4⟩ : ∃ w4, w3.alloc (.cells #[.int .i64 a0, .int .i64 a1, .int .i64 a2, .int .u64 a3, .slice none 0 0] 52) = w4 := ⟨_, rfl⟩
  rw [hw4]
  have hY4 : CutAt w4 w3.heap.size 52 a0 a1 a2 a3 (.slice none 0 0) := by rw [← hw4]; exact World.alloc_heap_new w3 _
  have hX4 : CutAt w4 X 60 a0 a1 a2 a3 (.slice none 0 0) := by rw [← hw4]; exact (Below.heap_alloc _ _ _ (blk_lt HX3.out)).trans HX3.out
  have hB4 : Below w.heap.size w w4 := by rw [← hw4]; exact below_alloc HB3.out _
  have hXY : X < w3.heap.size := blk_lt HX3.out
  have hFb : ∀ m : List Int, 0 < m.length → 1 ≤ firstV a0 a1 a2 a3 m ∧ firstV a0 a1 a2 a3 m ≤ m.length := fun m hm => by have := firstV_bound a3 HC.out m; exact ⟨this.2.2.2.1 hm, this.2.1⟩
  have hQ4 : w4.heap[w.heap.size]? = some (.cells #[.int .i64 a0, .int .i64 a1, .int .i64 a2, .int .u64 a3] 24 (0, 0)) := by rw [← hw4]; exact (Below.heap_alloc _ _ _ (blk_lt HQ3.out)).trans HQ3.out
  have HQ4 := Aside0.mk hQ4
  have HX4 := Aside0.mk hX4
  have HY4 := Aside0.mk hY4
  have HB4 := Aside0.mk hB4
  have HFb := Aside0.mk hFb
  obtain ⟨Y, hY⟩ : ∃ Y, w3.heap.size = Y := ⟨_, rfl⟩
  rw [hY] at HY4 hXY ⊢
  clear hQ4 hX4 hY4 hB4 hFb hw4
  go_loopw [8, 9, 10] (fun av tv iv wr => ∃ (i : Int) (al tl lf : List Int) (vl : Value) (Ab : Option Addr) (cb : Nat), iv = .int .i64 i ∧ 0 ≤ i ∧ i ≤ ls.length ∧ lf.length ≤ cb ∧
    Aside0 (CutAt wr X 60 a0 a1 a2 a3 vl ∧ CutAt wr Y 52 a0 a1 a2 a3 (.slice Ab lf.length cb) ∧ wr.heap[w.heap.size]? = some (.cells #[.int .i64 a0, .int .i64 a1, .int .i64 a2, .int .u64 a3] 24 (0, 0))) ∧
    Aside0 (Kd.R (Kd.int .u8) 5 wr w.heap.size (fun k => w.heap.size < k ∧ av.ownBlock ≠ some k) vl lf) ∧
    Aside0 (LeftAt wr Ab lf (fun k => w.heap.size < k ∧ k < wr.heap.size ∧ av.ownBlock ≠ some k ∧ tv.ownBlock ≠ some k ∧ vl.ownBlock ≠ some k ∧ k ≠ X ∧ k ≠ Y)) ∧
    Aside0 (Kd.R (Kd.int .i64) 3 wr w.heap.size (fun k => w.heap.size < k) tv tl) ∧
    Aside0 (Kd.R (Kd.int .u8) 5 wr w.heap.size (fun k => w.heap.size < k) av al) ∧
    Aside0 ((∀ rest, tl ++ lens (firstV a0 a1 a2 a3) (lf ++ rest).length (lf ++ rest) = lens (firstV a0 a1 a2 a3) (al ++ rest).length (al ++ rest)) ∧ al ++ (ls.drop i.toNat).flatten = ls.flatten ∧ lf.length ≤ al.length ∧ tl.length ≤ al.length) ∧
    Aside0 (Below w.heap.size w wr)) (fun _ _ iv _ => (ls.length - intOf iv).toNat)
  case atStart =>
    exact ⟨0, [], [], [], .slice none 0 0, none, 0, rfl, Int.le_refl _, by omega, Nat.le_refl _, ⟨HX4.out, HY4.out, HQ4.out⟩, ⟨Kd.R_nil _ _ _ _ _⟩, ⟨⟨none, [], Kd.C_nil _ _, (fun ad e => by cases e), fun W h => h⟩⟩, ⟨Kd.R_nil _ _ _ _ _⟩, ⟨Kd.R_nil _ _ _ _ _⟩, ⟨fun rest => rfl, by simp, Nat.le_refl _, Nat.le_refl _⟩, HB4⟩
  case round =>
    obtain ⟨i, al, tl, lf, vl, Ab, cb, rfl, i0, i1, hlc, HCt, HLf, HBt, HTl, HAl, HI, HW⟩ := hrel
    by_cases hlt : i < (ls.length : Int)
    · have hlt1 : decide (i < (ls.length : Int)) = true := decide_eq_true hlt
      have hil : i.toNat < ls.length := by omega
      obtain ⟨l0, hl0⟩ : ∃ l0, ls[i.toNat]? = some l0 := ⟨_, List.getElem?_eq_getElem hil⟩
      have hdrop : (ls.drop i.toNat).flatten = l0 ++ (ls.drop (i + 1).toNat).flatten := by
        have e : (i + 1).toNat = i.toNat + 1 := by omega
        rw [e, List.drop_eq_getElem_cons hil, List.flatten_cons]
        rw [List.getElem?_eq_getElem hil] at hl0
        rw [Option.some.inj hl0]
      have hlen : al.length + l0.length ≤ 1048576 := by
        have h1 := congrArg List.length HI.out.2.1
        rw [hdrop] at h1
        simp only [List.length_append] at h1
        have := HL.out.1
        omega
      have hlfa := HI.out.2.2.1
      have hrow := (HR.out.below HW.out) i.toNat l0 hl0
      obtain ⟨ad, Ai, ci, rfl, hcell, hci, hCi⟩ := hrow
      have HCi := Aside0.mk hCi
      have HDr := Aside0.mk hdrop
      have HCell := Aside0.mk hcell
      have HLen := Aside0.mk hlen
      have hcella := cell_later (below_alloc (Below.refl wr.heap.size wr) (.cells #[] 5)) hcell
      have HL0 := Aside0.mk hl0
      clear hl0 hdrop hCi hlen
      go_wp2_with (first
        | (at_builtin; refine Kd.R_append_rows (Kd.int .u8) (w0 := wr) wr.heap.size rfl (.tmp 48) (.tmp 52) 25 5 (.int .u8 0) 1 rfl Try.underlying25 info5 rfl (by decide) (by omega) (.slice (some ⟨wr.heap.size, 0, none⟩) 0 0) [] l0 _ _ _ (fun k => wr.heap.size ≤ k) (fun _ => False) rfl rfl ?aO ?aC (fun _ _ h => h) (fun _ h => h.elim) ?aF ?aB ?aS ?aL ?_; (case aO => exact R_empty _ _ _); (case aC => exact Kd.C_alloc HCi.out _); (case aF => intro k hk; simp at hk; omega); (case aB => exact below_alloc (Below.refl _ _) _); (case aS => simp); (case aL => have := HLen.out; simp; omega); intro v5 w5 hR5 hb5 _ _; simp only [List.nil_append] at hR5; obtain ⟨A5, c5, rfl⟩ := Kd.R_slice hR5; have HR5 := Aside0.mk hR5; have HB5 := Aside0.mk hb5; have hcell5 := cell_later hb5 hcell; clear hR5 hb5 hcell hcella))
      have HW5 : Below w.heap.size w w5 := HW.out.trans (HB5.out.mono HW.out.size)
      obtain ⟨_, Ai', ci', e0, hcell0, _, hCi0⟩ := HR.out i.toNat l0 HL0.out
      cases e0
      have hinj := (cell_later HW.out hcell0).symm.trans HCell.out
      obtain ⟨e1, e2⟩ : Ai' = Ai ∧ ci' = ci := by simpa using hinj
      rw [e1, e2] at hcell0
      rw [e1] at hCi0
      clear e1 e2
      have HCi0 := Aside0.mk hCi0
      clear hCi0 hinj
      have hcellW : ∀ w', Below w.heap.size w w' → w'.cell? (ad.add i.toNat) = w5.cell? (ad.add i.toNat) := fun w' h => (cell_later h hcell0).trans (cell_later HW5 hcell0).symm
      have hX5 : CutAt w5 X 60 a0 a1 a2 a3 vl := (HB5.out.block X (blk_lt HCt.out.1)).trans HCt.out.1
      have hY5 : CutAt w5 Y 52 a0 a1 a2 a3 (.slice Ab lf.length cb) := (HB5.out.block Y (blk_lt HCt.out.2.1)).trans HCt.out.2.1
      have hL5 := Kd.R_below HLf.out HB5.out
      have hC5 := (R_C HR5.out).2.2
      have hXw : w.heap.size ≤ X := Nat.le_of_lt HXl.out
      have hvX : vl.ownBlock ≠ some X := fun e => by
        obtain ⟨cs, h⟩ := own_typed hL5.2.choose_spec.1 X e
        have := h.symm.trans hX5
        simp at this
      have HX5 := Aside0.mk hX5
      have HY5 := Aside0.mk hY5
      have HL5 := Aside0.mk hL5
      have HC5 := Aside0.mk hC5
      have hvY : vl.ownBlock ≠ some Y := fun e => by
        obtain ⟨cs, h⟩ := own_typed HL5.out.2.choose_spec.1 Y e
        have := h.symm.trans HY5.out
        simp at this
      have HvX := Aside0.mk hvX
      have HvY := Aside0.mk hvY
      have hYlt := blk_lt HY5.out
      have HW5' := Aside0.mk HW5
      have hbd : lf.length + l0.length ≤ 17592186044415 := by have := HLen.out; omega
      have hcd : (w5.drew).cell? (ad.add i.toNat) = some (.slice Ai l0.length ci) := hcell5
      clear hX5 hY5 hL5 hC5 hvX hvY hcellW
      go_region_held3 (fun w' => w'.cell? (ad.add i.toNat) = some (.slice Ai l0.length ci) ∧ Below w.heap.size w w') (first | exact ⟨hcell5, below_drew HW5⟩ | exact ⟨cell_later hBt2 hcell0, hBt2⟩ | exact ⟨cell_later hBt hcell0, hBt⟩) (first
        | (go_at_call 19; refine (write_any w.heap.size X a0 a1 a2 a3 _ vl lf A5 c5 l0 _ HC.out (show CutAt w5.drew X 60 a0 a1 a2 a3 vl from HX5.out) hXw (Kd.R_below HL5.out (below_drew (Below.refl _ _))) HvX.out (Kd.C_drew HC5.out) hbd).mono ?_; intro e w' hP; obtain ⟨vo, v', rfl, hRo, hXn, hRl, hKn, hBn⟩ := hP.out; have hBt : Below w.heap.size w w' := (below_drew HW5).trans hBn; clear hP)
        | (go_at_call 22; refine (rwrite_any w.heap.size Y a0 a1 a2 a3 Ab cb lf Ai ci l0 _ HC.out ?cY ?cn ?cB (Kd.C_below HCi0.out hBt) hbd).mono ?_; (case cY => exact (hKn Y ⟨hYlt, by omega, fun e => HvY.out e.symm⟩).trans HY5.out); (case cn => omega); (case cB => exact (HBt.out.kept (w' := w') (fun k hk => (hKn k ⟨by have := HB5.out.size; show k < w5.heap.size; omega, hk.2.2.2.2.2.1, fun e => hk.2.2.2.2.1 e.symm⟩).trans (HB5.out.block k hk.2.1))).c); intro e w'' hP2; obtain ⟨vo2, Ab2, cb2, rfl, hRo2, hYn, hle2, hB2, hKn2, hBn2⟩ := hP2.out; have hBt2 : Below w.heap.size w w'' := hBt.trans hBn2; clear hP2))
      obtain ⟨T1, hT1⟩ : ∃ T, (wrt (firstV a0 a1 a2 a3) a2 (lf ++ l0).length (lf ++ l0)).1 = T := ⟨_, rfl⟩
      obtain ⟨T2, hT2⟩ : ∃ T, (wrt (firstV a0 a1 a2 a3) a2 (lf ++ l0).length (lf ++ l0)).2 = T := ⟨_, rfl⟩
      rw [hT1] at hRo hRo2
      rw [hT2] at hRl hYn hle2 hB2
      have hlaw : ∀ rest, (tl ++ T1) ++ lens (firstV a0 a1 a2 a3) (T2 ++ rest).length (T2 ++ rest) = lens (firstV a0 a1 a2 a3) ((al ++ l0) ++ rest).length ((al ++ l0) ++ rest) := fun rest => by
        have h1 := wrt_lens HFb.out (firstV_app a3 HC.out) (lf ++ l0).length (lf ++ l0) rest (Nat.le_refl _)
        rw [hT1, hT2, List.append_assoc lf] at h1
        rw [List.append_assoc, h1, HI.out.1, List.append_assoc]
      have hT2l : T2.length ≤ al.length + l0.length := by
        have := wrt_left (F := firstV a0 a1 a2 a3) (a2 := a2) (lf ++ l0).length (lf ++ l0)
        rw [hT2, List.length_append] at this
        omega
      have hT1l : tl.length + T1.length ≤ al.length + l0.length := by
        have h1 := congrArg List.length (hlaw [])
        have h2 := lens_le (firstV a0 a1 a2 a3) (fun m hm => (HFb.out m hm).1) ((al ++ l0) ++ []).length ((al ++ l0) ++ [])
        rw [← h1] at h2
        simp only [List.length_append, List.append_nil] at h2
        omega
      have HLaw := Aside0.mk hlaw
      clear hlaw hT1 hT2
      have z1 := HB5.out.size
      have z2 : w5.heap.size ≤ w'.heap.size := hBn.size
      have z3 := hBn2.size
      have hXr := blk_lt HCt.out.1
      have hYr := blk_lt HCt.out.2.1
      have hkeep : ∀ k, k < wr.heap.size → k ≠ X → k ≠ Y → some k ≠ vl.ownBlock → w''.heap[k]? = wr.heap[k]? := fun k h1 h2 h3 h4 =>
        (hKn2 k ⟨by omega, h3⟩).trans ((hKn k ⟨by show k < w5.heap.size; omega, h2, h4⟩).trans (HB5.out.block k h1))
      have hTl2 : Kd.R (Kd.int .i64) 3 w'' w.heap.size (fun k => w.heap.size < k) u9 tl := R_stay rfl HTl.out (fun k e => hkeep k (Kd.R_lt HTl.out k e) (fun e' => Kd.R_ne HTl.out HCt.out.1 (by decide) (e' ▸ e.symm)) (fun e' => Kd.R_ne HTl.out HCt.out.2.1 (by decide) (e' ▸ e.symm)) (R_apart HLf.out HTl.out (by decide) k e))
      have hAl2 : Kd.R (Kd.int .u8) 5 w'' w.heap.size (fun k => w.heap.size < k) u8 al := R_stay rfl HAl.out (fun k e => hkeep k (Kd.R_lt HAl.out k e) (fun e' => Kd.R_ne HAl.out HCt.out.1 (by decide) (e' ▸ e.symm)) (fun e' => Kd.R_ne HAl.out HCt.out.2.1 (by decide) (e' ▸ e.symm)) (fun e' => (HLf.out.1 k e'.symm).2 e))
      have hOw2 : Kd.R (Kd.int .u8) 5 w'' wr.heap.size (fun k => wr.heap.size ≤ k) (.slice A5 l0.length c5) l0 := R_stay rfl HR5.out (fun k e => by
        have h1 := HR5.out.1 k e
        have h2 := Kd.R_lt HR5.out k e
        have h3 := fun e' => Kd.R_lt HLf.out k e'
        exact (hKn2 k ⟨by omega, by omega⟩).trans (hKn k ⟨h2, by omega, fun e' => by have := h3 e'.symm; omega⟩))
      have hvo2 : Kd.R (Kd.int .i64) 3 w'' w5.heap.size (fun k => w5.heap.size ≤ k) vo T1 := R_stay rfl hRo (fun k e => hKn2 k ⟨Kd.R_lt hRo k e, by have : w5.heap.size ≤ k := hRo.1 k e; omega⟩)
      have hv2 : Kd.R (Kd.int .u8) 5 w'' w5.heap.size (fun k => w5.heap.size ≤ k ∧ k < w'.heap.size) v' T2 := R_stay rfl (Kd.R_mono (Kd.R_bound hRl) (fun k hk => ⟨hk.1, hk.2.2.1⟩)) (fun k e => hKn2 k ⟨Kd.R_lt hRl k e, by have : w5.heap.size ≤ k := hRl.1 k e; omega⟩)
      have hX2 : CutAt w'' X 60 a0 a1 a2 a3 v' := (hKn2 X ⟨blk_lt hXn, by omega⟩).trans hXn
      have hS2 : w''.heap[w.heap.size]? = some (.cells #[.int .i64 a0, .int .i64 a1, .int .i64 a2, .int .u64 a3] 24 (0, 0)) := (hkeep _ (by omega) (by have := HXl.out; omega) (by have := HXl.out; omega) (fun e => by have := (HLf.out.1 _ e.symm).1; omega)).trans HCt.out.2.2
      have hown : ∀ k, (Value.slice A5 l0.length c5).ownBlock = some k → wr.heap.size ≤ k ∧ k < w5.heap.size := fun k e => ⟨HR5.out.1 k e, Kd.R_lt HR5.out k e⟩
      have hu9 : ∀ k, u9.ownBlock = some k → k < wr.heap.size := Kd.R_lt HTl.out
      have hu8 : ∀ k, u8.ownBlock = some k → k < wr.heap.size := Kd.R_lt HAl.out
      have hz2 : wr.heap.size ≤ w5.heap.size ∧ w5.heap.size ≤ w'.heap.size ∧ w'.heap.size ≤ w''.heap.size ∧ X < wr.heap.size ∧ Y < wr.heap.size := ⟨z1, z2, z3, hXr, hYr⟩
      have HTl2 := Aside0.mk hTl2
      have HAl2 := Aside0.mk hAl2
      have HOw2 := Aside0.mk hOw2
      obtain ⟨Ao, co, rfl⟩ := Kd.R_slice hvo2
      obtain ⟨Ao2, co2, rfl⟩ := Kd.R_slice hRo2
      have HVo2 := Aside0.mk hvo2
      have HVo2' := Aside0.mk hRo2
      have HV2 := Aside0.mk hv2
      have HXb := Aside0.mk hX2
      have HYb := Aside0.mk hYn
      have HSb := Aside0.mk hS2
      have HBb := Aside0.mk hB2
      have HOwn := Aside0.mk hown
      have HU9 := Aside0.mk hu9
      have HU8 := Aside0.mk hu8
      have HZ2 := Aside0.mk hz2
      have HBt2 := Aside0.mk hBt2
      have HTL := Aside0.mk (And.intro hT1l hT2l)
      rename_i hHeldx
      clear hHeldx hTl2 hAl2 hOw2 hvo2 hv2 hX2 hS2 hown hu9 hu8 hkeep hRo hRo2 hXn hRl hKn hBn hBt hYn hB2 hKn2 hBn2 hBt2 z1 z2 z3 hXr hYr hz2 hT1l hT2l hcd hcell5
      go_wp2_with (first
        | (go_at_call 15; refine (same_any Ao Ao2 co co2 T1 _ (R_C HVo2.out).2.2 (R_C HVo2.out).2.1 (R_C HVo2'.out).2.2 (R_C HVo2'.out).2.1).mono ?_; rintro e w6 ⟨rfl, hB⟩; have HB6 := Aside0.mk hB; clear hB)
        | (at_builtin; refine Kd.R_append_rows (Kd.int .i64) (w0 := w) w.heap.size rfl (.tmp 67) (.tmp 68) 32 3 (.int .i64 0) 8 rfl Try.underlying32 info3 rfl (by decide) (by omega) u9 tl T1 _ _ _ (fun k => w.heap.size < k) (fun _ => False) rfl rfl ?aO ?aC (fun _ _ h => h) (fun _ h => h.elim) ?aF ?aB ?aS ?aL ?_; (case aO => exact Kd.R_below HTl2.out HB6.out); (case aC => exact Kd.C_below (R_C HVo2'.out).2.2 HB6.out); (case aF => intro k hk; have := HB6.out.size; have := HZ2.out; have := HXl.out; omega); (case aB => exact HBt2.out.trans (HB6.out.mono HBt2.out.size)); (case aS => exact Nat.le_trans HBt2.out.size HB6.out.size); (case aL => have := HTL.out.1; have := HLen.out; omega); intro v9 w7 hR7 hB7 hg7 ho7; have HR7 := Aside0.mk hR7; have HB7 := Aside0.mk hB7; have HG7 := Aside0.mk hg7; have HO7 := Aside0.mk ho7; have hcell7 := cell_later hB7 hcell0; clear hR7 hB7 hg7 ho7)
        | (at_builtin; refine Kd.R_append_rows (Kd.int .u8) (w0 := w) w.heap.size rfl (.tmp 70) (.tmp 74) 25 5 (.int .u8 0) 1 rfl Try.underlying25 info5 rfl (by decide) (by omega) u8 al l0 _ _ _ (fun k => w.heap.size < k) (fun _ => False) rfl rfl ?aO ?aC (fun _ _ h => h) (fun _ h => h.elim) ?aF ?aB ?aS ?aL ?_; (case aO => exact Kd.R_over' (Kd.R_below HAl2.out HB6.out) (fun k e => Kd.R_typed (Kd.R_below HTl2.out HB6.out) k e) (by decide) HG7.out); (case aC => exact Kd.C_below HCi0.out HB7.out); (case aF => intro k hk; have := HB6.out.size; have := HG7.out.size; have := HZ2.out; have := HXl.out; omega); (case aB => exact HB7.out); (case aS => exact HB7.out.size); (case aL => have := HLen.out; omega); intro v8 w8 hR8 hB8 hg8 ho8; have HR8 := Aside0.mk hR8; have HB8 := Aside0.mk hB8; have HG8 := Aside0.mk hg8; have HO8 := Aside0.mk ho8; clear hR8 hB8 hg8 ho8))
      have hkeep8 : ∀ k, k < w''.heap.size → some k ≠ u9.ownBlock → some k ≠ u8.ownBlock → w8.heap[k]? = w''.heap[k]? := fun k h1 h2 h3 => by
        have := HB6.out.size
        have := HG7.out.size
        exact (HG8.out.block k (by omega) h3).trans ((HG7.out.block k (by omega) h2).trans (HB6.out.block k h1))
      have s6 := HB6.out.size
      have s7 := HG7.out.size
      have s8 := HG8.out.size
      have hz := HZ2.out
      have h9 : ∀ k, v9.ownBlock = some k → k < wr.heap.size ∨ w''.heap.size ≤ k := fun k e => by
        rcases HO7.out with h | ⟨b, h, hb⟩
        · exact .inl (HU9.out k (h ▸ e))
        · obtain rfl : b = k := by rw [h] at e; exact Option.some.inj e
          exact .inr (by omega)
      have h8 : ∀ k, v8.ownBlock = some k → k < wr.heap.size ∨ w''.heap.size ≤ k := fun k e => by
        rcases HO8.out with h | ⟨b, h, hb⟩
        · exact .inl (HU8.out k (h ▸ e))
        · obtain rfl : b = k := by rw [h] at e; exact Option.some.inj e
          exact .inr (by omega)
      have n9 : ∀ k, wr.heap.size ≤ k → some k ≠ u9.ownBlock := fun k h e => by have := HU9.out k e.symm; omega
      have n8 : ∀ k, wr.heap.size ≤ k → some k ≠ u8.ownBlock := fun k h e => by have := HU8.out k e.symm; omega
      have hX8 : CutAt w8 X 60 a0 a1 a2 a3 v' := (hkeep8 X (by omega) (Kd.R_ne HTl2.out HXb.out (by decide)) (Kd.R_ne HAl2.out HXb.out (by decide))).trans HXb.out
      have hY8 : CutAt w8 Y 52 a0 a1 a2 a3 (.slice Ab2 T2.length cb2) := (hkeep8 Y (by omega) (Kd.R_ne HTl2.out HYb.out (by decide)) (Kd.R_ne HAl2.out HYb.out (by decide))).trans HYb.out
      have hS8 : w8.heap[w.heap.size]? = some (.cells #[.int .i64 a0, .int .i64 a1, .int .i64 a2, .int .u64 a3] 24 (0, 0)) := (hkeep8 _ (by have := HXl.out; omega) (Kd.R_ne HTl2.out HSb.out (by decide)) (Kd.R_ne HAl2.out HSb.out (by decide))).trans HSb.out
      have hV8 : Kd.R (Kd.int .u8) 5 w8 w5.heap.size (fun k => w5.heap.size ≤ k ∧ k < w'.heap.size) v' T2 := R_stay rfl HV2.out (fun k e => by have := HV2.out.1 k e; exact hkeep8 k (by omega) (n9 k (by omega)) (n8 k (by omega)))
      have hO8 : Kd.R (Kd.int .u8) 5 w8 wr.heap.size (fun k => wr.heap.size ≤ k) (.slice A5 l0.length c5) l0 := R_stay rfl HOw2.out (fun k e => by have := HOwn.out k e; exact hkeep8 k (by omega) (n9 k (by omega)) (n8 k (by omega)))
      have hBb8 := HBb.out.kept (w' := w8) (fun k hk => hkeep8 k (by omega) (n9 k (by omega)) (n8 k (by omega)))
      have hTl8 : Kd.R (Kd.int .i64) 3 w8 w.heap.size (fun k => w.heap.size < k) v9 (tl ++ T1) := Kd.R_over' HR7.out (fun k e => Kd.R_typed (Kd.R_over' (Kd.R_below HAl2.out HB6.out) (fun k e => Kd.R_typed (Kd.R_below HTl2.out HB6.out) k e) (by decide) HG7.out) k e) (by decide) HG8.out
      have hz8 : w''.heap.size ≤ w8.heap.size := by omega
      have HX8 := Aside0.mk hX8
      have HY8 := Aside0.mk hY8
      have HS8 := Aside0.mk hS8
      have HV8 := Aside0.mk hV8
      have HO8' := Aside0.mk hO8
      have HBb8 := Aside0.mk hBb8
      have HTl8 := Aside0.mk hTl8
      have HZ8 := Aside0.mk hz8
      have H9 := Aside0.mk h9
      have H8 := Aside0.mk h8
      clear hX8 hY8 hS8 hV8 hO8 hBb8 hTl8 hz8 h9 h8 n9 n8 s6 s7 s8 hz hkeep8 hcell7
      obtain ⟨n0, hn0⟩ : ∃ n, wr.heap.size = n := ⟨_, rfl⟩
      go_loopw [14] (fun kv wk => ∃ (k : Int) (xs : List Int), kv = .int .i64 k ∧ 0 ≤ k ∧ k ≤ l0.length ∧ xs.length = l0.length ∧
        Aside0 (Kd.R (Kd.int .u8) 5 wk wr.heap.size (fun k => wr.heap.size ≤ k) (.slice A5 l0.length c5) xs) ∧
        Aside0 ((∀ k, some k ≠ (Value.slice A5 l0.length c5).ownBlock → wk.heap[k]? = w8.heap[k]?) ∧ wk.heap.size = w8.heap.size ∧ Below w.heap.size w wk)) (fun kv _ => (l0.length - intOf kv).toNat)
      case atStart => exact ⟨0, l0, rfl, Int.le_refl _, by omega, rfl, HO8', ⟨fun _ _ => rfl, rfl, HB8.out⟩⟩
      case round =>
        obtain ⟨k, xs, rfl, k0, k1, hxl, HXs, HWk⟩ := hrel
        by_cases hkl : k < (l0.length : Int)
        · have hkl1 : decide (k < (l0.length : Int)) = true := decide_eq_true hkl
          have hR' := HXs.out
          obtain ⟨g, cap, hsh, hg0, hg1, cs, hgc⟩ := Kd.R_form hR' (by omega)
          obtain ⟨hsh1, -, hsh3⟩ : A5 = some ⟨g, 0, none⟩ ∧ l0.length = xs.length ∧ c5 = cap := by simpa using hsh
          subst hsh1
          subst hsh3
          rw [← hxl] at hR'
          obtain ⟨hc, hf⟩ := Kd.R_cell (0 : Int) hR' k k0 (by omega)
          obtain ⟨q, hq⟩ : ∃ q, rdOf 0 xs k = q := ⟨_, rfl⟩
          rw [hq] at hc
          have hk9 : wrap64 (k + 1) = k + 1 := by have := HLen.out; unfold wrap64; omega
          clear hR' hsh hgc hq
          go_wp2
          obtain ⟨hP, hGr⟩ := Kd.R_putg HXs.out k ((q + 1) % 256)
          refine ⟨⟨k + 1, xs.set k.toNat ((q + 1) % 256), rfl, by omega, by omega, by rw [List.length_set]; exact hxl, ⟨hP⟩, ⟨?_, ?_, ?_⟩⟩, by simp [intOf]; omega⟩
          · intro j hj
            rw [Below.heap_setCell _ _ _ _ (fun e => hj (by simp [Value.ownBlock, e]))]
            exact HWk.out.1 j hj
          · rw [World.size_setCell]; exact HWk.out.2.1
          · exact HWk.out.2.2.setCell (p := ⟨g, k.toNat, none⟩) (by have := HXl.out; have := HZ2.out; show w.heap.size ≤ g; omega) _
        · have hkl1 : decide (k < (l0.length : Int)) = false := decide_eq_false hkl
          have hi9 : wrap64 (i + 1) = i + 1 := by have := HL.out.2; unfold wrap64; omega
          go_wp2
          have hz := HZ2.out
          have hz8 := HZ8.out
          have hxl' := HXl.out
          have hsz := HWk.out.2.1
          have hk := HWk.out.1
          have hno : ∀ k, (k < w5.heap.size → k < n0) → some k ≠ (Value.slice A5 l0.length c5).ownBlock := fun k h e => by have := HOwn.out k e.symm; have := h this.2; omega
          have hv1 : ∀ k, v'.ownBlock = some k → w5.heap.size ≤ k ∧ k < w'.heap.size := fun k e => HV8.out.1 k e
          refine ⟨⟨i + 1, al ++ l0, tl ++ T1, T2, v', Ab2, cb2, by rw [hi9], by omega, by omega, hle2, ⟨?c1, ?c2, ?c3⟩, ⟨?c4⟩, ⟨?c5⟩, ⟨?c6⟩, ⟨?c7⟩, ⟨HLaw.out, ?c8, by rw [List.length_append]; exact HTL.out.2, by rw [List.length_append, List.length_append]; exact HTL.out.1⟩, ⟨HWk.out.2.2⟩⟩, by rw [hi9]; simp [intOf]; omega⟩
          case c1 => exact (hk X (hno X (fun _ => by omega))).trans HX8.out
          case c2 => exact (hk Y (hno Y (fun _ => by omega))).trans HY8.out
          case c3 => exact (hk w.heap.size (hno _ (fun _ => by omega))).trans HS8.out
          case c4 => exact Kd.R_mono (Kd.R_lower (R_stay rfl HV8.out (fun k e => hk k (hno k (fun h => by have := hv1 k e; omega)))) (by omega)) (fun k hk' => ⟨by omega, fun e => by have := H8.out k e; omega⟩)
          case c5 => exact (HBb8.out.kept (fun k hk' => hk k (hno k (fun h => by omega)))).mono (fun k hk' => ⟨by omega, by omega, fun e => by have := H8.out k e; omega, fun e => by have := H9.out k e; omega, fun e => by have := hv1 k e; omega, by omega, by omega⟩)
          case c6 => exact R_stay rfl HTl8.out (fun k e => hk k (hno k (fun h => by have := H9.out k e; omega)))
          case c7 => exact R_stay rfl HR8.out (fun k e => hk k (hno k (fun h => by have := H8.out k e; omega)))
          case c8 => rw [List.append_assoc, ← HDr.out]; exact HI.out.2.1
    · have hlt1 : decide (i < (ls.length : Int)) = false := decide_eq_false hlt
      have h0 : i.toNat = ls.length := by omega
      have hal : al = ls.flatten := by
        have := HI.out.2.1
        rw [h0, List.drop_length] at this
        simpa using this
      have hall : al.length ≤ 1048576 := by rw [hal]; exact HL.out.1
      have hlfl := HI.out.2.2.1
      have htll := HI.out.2.2.2
      clear hal
      have hlv : ∀ m, lensV a0 a1 a2 a3 m = lens (firstV a0 a1 a2 a3) m.length m := fun m => if_pos HC.out
      have hlawE : tl ++ lensV a0 a1 a2 a3 lf = lensV a0 a1 a2 a3 al := by
        have := HI.out.1 []
        rw [hlv, hlv]
        simpa using this
      have HLawE := Aside0.mk hlawE
      have hLl : (lensV a0 a1 a2 a3 lf).length ≤ lf.length  := by rw [hlv]; exact lens_le _ (fun m hm => (HFb.out m hm).1) _ _
      obtain ⟨Tr, hTr⟩ : ∃ T, lensV a0 a1 a2 a3 lf = T := ⟨_, rfl⟩
      rw [hTr] at hlawE hLl
      have HTr := Aside0.mk hTr
      have hlf' := HLf.out
      obtain ⟨Av, cv, rfl⟩ := Kd.R_slice hlf'
      have hal' := HAl.out
      obtain ⟨Aa, ca, rfl⟩ := Kd.R_slice hal'
      have htl' := HTl.out
      obtain ⟨At, ct, rfl⟩ := Kd.R_slice htl'
      have hXr := blk_lt HCt.out.1
      have hYr := blk_lt HCt.out.2.1
      have hXl := HXl.out
      have hXvv : ∀ k, (Value.slice Aa al.length ca).ownBlock = some k → k ≠ X ∧ k ≠ Y := fun k e => ⟨fun e' => Kd.R_ne HAl.out HCt.out.1 (by decide) (e' ▸ e.symm), fun e' => Kd.R_ne HAl.out HCt.out.2.1 (by decide) (e' ▸ e.symm)⟩
      have hXtt : ∀ k, (Value.slice At tl.length ct).ownBlock = some k → k ≠ X ∧ k ≠ Y := fun k e => ⟨fun e' => Kd.R_ne HTl.out HCt.out.1 (by decide) (e' ▸ e.symm), fun e' => Kd.R_ne HTl.out HCt.out.2.1 (by decide) (e' ▸ e.symm)⟩
      have HXX := Aside0.mk (And.intro hXvv hXtt)
      have HZ := Aside0.mk (And.intro hXr hYr)
      have hl0 : lensV a0 a1 a2 a3 [] = [] := by rw [hlv]; exact lens_nil _ _
      have HL0 := Aside0.mk hl0
      clear hl0
      have hlan : (lensV a0 a1 a2 a3 al).length ≤ al.length := by rw [hlv]; exact lens_le _ (fun m hm => (HFb.out m hm).1) _ _
      have HLan := Aside0.mk hlan
      clear hlan hlv hlf' hal' htl' hXvv hXtt hXr hYr
      go_wp2_with (first
        | (go_at_call 15; refine (same_any A9 Aw c9 cw (lensV a0 a1 a2 a3 al) _ (R_C HR10.out).2.2 (R_C HR10.out).2.1 ?s2 (R_C HRw.out).2.1).mono ?_; (case s2 => exact (R_C (R_stay rfl HRw.out (fun k e => HG10.out.block k (Kd.R_lt HRw.out k e) (fun e' => by have := Kd.R_lt HTl8.out k e'.symm; have : w8.heap.size ≤ k := HRw.out.1 k e; omega)))).2.2); rintro e w11 ⟨rfl, hB⟩; have HB11 := Aside0.mk hB; clear hB)
        | (go_at_call 20; refine (end_any w.heap.size X a0 a1 a2 a3 none 0 [] _ HC.out ?x1 (Nat.le_of_lt HXl.out) (Kd.C_nil _ _) (by simp)).mono ?_; (case x1 => exact (HB7.out.block X (by have := blk_lt HXn.out; have := HBn2.out.size; omega)).trans ((HKn2.out X ⟨blk_lt HXn.out, by omega⟩).trans HXn.out)); intro e w8 hP; obtain ⟨vo3, rfl, hRo, hXn, hKn, hBn⟩ := hP.out; clear hP; rw [HL0.out] at hRo; obtain ⟨Av3, cv3, rfl⟩ := Kd.R_slice hRo; have z1 := HBn.out.size; have z2 := HBn2.out.size; have z3 := HB7.out.size; have hkE : ∀ k, k < wr.heap.size → k ≠ X → k ≠ Y → w8.heap[k]? = wr.heap[k]? := fun k h1 h2 h3 => (hKn k ⟨by omega, h2⟩).trans ((HB7.out.block k (by omega)).trans ((HKn2.out k ⟨by omega, h3⟩).trans (HKn.out k ⟨h1, h2⟩))); have hq := (hkE w.heap.size (by have := HZ.out; omega) (by omega) (by omega)).trans HCt.out.2.2; have hq1 := (blk_cell hq 0).trans rfl; have hq2 := (blk_cell hq 1).trans rfl; have hq3 := (blk_cell hq 2).trans rfl; have hq4 := (blk_cell hq 3).trans rfl;
            have HAl8 := Aside0.mk (R_stay rfl HAl.out (fun k e => hkE k (Kd.R_lt HAl.out k e) (HXX.out.1 k e).1 (HXX.out.1 k e).2)); have HTl8 := Aside0.mk (R_stay rfl HTl.out (fun k e => hkE k (Kd.R_lt HTl.out k e) (HXX.out.2 k e).1 (HXX.out.2 k e).2)); have HVo8 := Aside0.mk (R_stay rfl HRo2.out (fun k e => (hKn k ⟨by have := Kd.R_lt HRo2.out k e; omega, by have : w5.heap.size ≤ k := HRo2.out.1 k e; have := HZ.out; omega⟩).trans (HB7.out.block k (Kd.R_lt HRo2.out k e)))); have HBn3z := Aside0.mk (show wr.heap.size ≤ w8.heap.size by have := hBn.size; omega); have HB8 := Aside0.mk (show Below w.heap.size w w8 from HW.out.trans (HBn.out.trans (HBn2.out.trans ((HB7.out.mono (by have := HW.out.size; omega)).trans hBn)))); clear hRo hXn hKn hBn z1 z2 z3 hkE hq)
        | (go_at_call 20; refine (end_any w.heap.size X a0 a1 a2 a3 Av cv lf _ HC.out HCt.out.1 (Nat.le_of_lt HXl.out) (R_C HLf.out).2.2 (by omega)).mono ?_; intro e w5 hP; obtain ⟨vo, rfl, hRo, hXn, hKn, hBn⟩ := hP.out; clear hP; rw [HTr.out] at hRo; have HRo := Aside0.mk hRo; have HXn := Aside0.mk hXn; have HKn := Aside0.mk hKn; have HBn := Aside0.mk hBn; clear hRo hXn hKn hBn)
        | (go_at_call 23; refine (rend_any w.heap.size Y a0 a1 a2 a3 Ab cb lf _ ((HKn.out Y ⟨HZ.out.2, by omega⟩).trans HCt.out.2.1) (by omega) ((HBt.out.kept (fun k hk => HKn.out k ⟨hk.2.1, hk.2.2.2.2.2.1⟩)).c) hlc (by omega)).mono ?_; intro e w6 hP; obtain ⟨vo2, rfl, hRo, hXn, hKn, hBn⟩ := hP.out; clear hP; rw [HTr.out] at hRo; obtain ⟨Av1, cv1, rfl⟩ := Kd.R_slice HRo.out; obtain ⟨Av2, cv2, rfl⟩ := Kd.R_slice hRo; have HRo2 := Aside0.mk hRo; have HXn2 := Aside0.mk hXn; have HKn2 := Aside0.mk hKn; have HBn2 := Aside0.mk hBn; clear hRo hXn hKn hBn)
        | (go_at_call 15; refine (same_any Av1 Av2 cv1 cv2 Tr _ ?s1 (R_C HRo.out).2.1 (R_C HRo2.out).2.2 (R_C HRo2.out).2.1).mono ?_; (case s1 => exact (R_C (R_stay rfl HRo.out (fun k e => HKn2.out k ⟨Kd.R_lt HRo.out k e, by have : wr.heap.size ≤ k := HRo.out.1 k e; have := HZ.out.2; omega⟩))).2.2); rintro e w7 ⟨rfl, hB⟩; have HB7 := Aside0.mk hB; clear hB)
        | (go_at_call 14; refine (ref_lengths_any a0 a1 a2 a3 Aa ca al _ (R_C HAl8.out).2.2 (R_C HAl8.out).2.1 (by omega)).mono ?_; rintro e w9 ⟨vw, rfl, hRw, hB⟩; obtain ⟨Aw, cw, rfl⟩ := Kd.R_slice hRw; have HRw := Aside0.mk hRw; have HB9 := Aside0.mk hB; clear hq1 hq2 hq3 hq4 hRw hB)
        | (at_builtin; refine Kd.R_append_rows (Kd.int .i64) (w0 := w) w.heap.size rfl (.tmp 110) (.tmp 111) 32 3 (.int .i64 0) 8 rfl Try.underlying32 info3 rfl (by decide) (by omega) (.slice At tl.length ct) tl Tr _ _ _ (fun k => w.heap.size < k) (fun _ => False) rfl rfl ?aO ?aC (fun _ _ h => h) (fun _ h => h.elim) ?aF ?aB ?aS ?aL ?_; (case aO => exact Kd.R_below HTl8.out HB9.out); (case aC => exact Kd.C_below (R_C HVo8.out).2.2 HB9.out); (case aF => intro k hk; have := HB9.out.size; have := HBn3z.out; have := HZ.out; omega); (case aB => exact HB8.out.trans (HB9.out.mono HB8.out.size)); (case aS => exact Nat.le_trans HB8.out.size HB9.out.size); (case aL => omega); intro v9 w10 hR hB hg _; rw [← HTr.out, HLawE.out] at hR; obtain ⟨A9, c9, rfl⟩ := Kd.R_slice hR; have HR10 := Aside0.mk hR; have HB10 := Aside0.mk hB; have HG10 := Aside0.mk hg; clear hR hB hg))
      go_ret
      exact ⟨rfl, HB10.out.trans (HB11.out.mono HB10.out.size)⟩
end Go.Proofs.Ytpadajjlakhnjaa.H
