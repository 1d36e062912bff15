/- The reference's (*Cutter).Write as a contract. -/
import Derived.Test.YtpadajjlakhnjaaCy
namespace Go.Proofs.Ytpadajjlakhnjaa.H
open Go.RowKit Go.Shelf Go.Proofs.YtpadajjlakhnjaaW.PrintWords Go.Proofs.YtpadajjlakhnjaaW.PrintLast Go.Proofs.YtpadajjlakhnjaaW.PrintMore
set_option linter.unusedVariables false
set_option linter.unusedSimpArgs false

/-- A slice of bytes that is a part of a row in these blocks. -/
structure LeftAt (w : World) (A : Option Addr) (m : List Int) (ok : Nat → Prop) : Prop where
  out : ∃ (A1 : Option Addr) (Z : List Int), Kd.C (Kd.int .u8) w A1 Z.length Z ∧ (∀ ad, A1 = some ad → ok ad.block) ∧ ∀ W, Kd.C (Kd.int .u8) W A1 Z.length Z → Kd.C (Kd.int .u8) W A m.length m
theorem LeftAt.c {w : World} {A : Option Addr} {m : List Int} {ok : Nat → Prop} (h : LeftAt w A m ok) : Kd.C (Kd.int .u8) w A m.length m := by
  obtain ⟨A1, Z, h1, _, h3⟩ := h.out
  exact h3 w h1
theorem LeftAt.kept {w w' : World} {A : Option Addr} {m : List Int} {ok : Nat → Prop} (h : LeftAt w A m ok) (hk : ∀ k, ok k → w'.heap[k]? = w.heap[k]?) : LeftAt w' A m ok := by
  obtain ⟨A1, Z, h1, h2, h3⟩ := h.out
  exact ⟨A1, Z, C_keeps h1 (fun ad e => hk _ (h2 ad e)), h2, h3⟩
theorem LeftAt.mono {w : World} {A : Option Addr} {m : List Int} {ok ok' : Nat → Prop} (h : LeftAt w A m ok) (hk : ∀ k, ok k → ok' k) : LeftAt w A m ok' := by
  obtain ⟨A1, Z, h1, h2, h3⟩ := h.out
  exact ⟨A1, Z, h1, fun ad e => hk _ (h2 ad e), h3⟩
structure RWriteP (n0 X : Nat) (a0 a1 a2 a3 : Int) (T1 T2 : List Int) (w : World) (e : Ending) (w' : World) : Prop where
  out : ∃ vo A' c', e = .returned vo ∧ Kd.R (Kd.int .i64) 3 w' w.heap.size (fun k => w.heap.size ≤ k) vo T1 ∧ CutAt w' X 52 a0 a1 a2 a3 (.slice A' T2.length c') ∧ T2.length ≤ c' ∧ LeftAt w' A' T2 (fun k => w.heap.size ≤ k ∧ k < w'.heap.size) ∧
    Keeps (fun k => k < w.heap.size ∧ k ≠ X) w w' ∧ Below n0 w w'
theorem sure_no {a0 a1 a2 a3 q : Int} {m : List Int} (hq : firstV a0 a1 a2 a3 m = q) (h : q = m.length ∧ q < a2) : sureV a0 a1 a2 a3 m = false := by
  unfold sureV
  rw [hq, decide_eq_true h.2, h.1, beq_self_eq_true]
  rfl
theorem sure_yes {a0 a1 a2 a3 q : Int} {m : List Int} (hq : firstV a0 a1 a2 a3 m = q) (h : ¬ (q = m.length ∧ q < a2)) : sureV a0 a1 a2 a3 m = true := by
  unfold sureV
  rw [hq]
  by_cases h1 : q = m.length
  · rw [decide_eq_false (fun h2 => h ⟨h1, h2⟩)]; simp
  · have : (q == (m.length : Int)) = false := by simpa using h1
    rw [this]; rfl

set_option maxRecDepth 100000 in
set_option maxHeartbeats 4000000 in
theorem rwrite_any (n0 X : Nat) (a0 a1 a2 a3 : Int) (A0 : Option Addr) (c0 : Nat) (L : List Int) (B : Option Addr) (cb : Nat) (b : List Int) (w : World) (hc : check a0 a1 a2 = 0) (hX : CutAt w X 52 a0 a1 a2 a3 (.slice A0 L.length c0)) (hn : n0 ≤ X)
    (hv : Kd.C (Kd.int .u8) w A0 L.length L) (hb : Kd.C (Kd.int .u8) w B b.length b) (hl : L.length + b.length ≤ 17592186044415) :
    Calls Try.prog 22 #[.pointer (some ⟨X, 0, none⟩), .slice B b.length cb] w fun e w' => RWriteP n0 X a0 a1 a2 a3 (wrt (firstV a0 a1 a2 a3) a2 (L ++ b).length (L ++ b)).1 (wrt (firstV a0 a1 a2 a3) a2 (L ++ b).length (L ++ b)).2 w e w' := by
  have hu24 := Try.underlying24
  have hu52 := Try.underlying52
  have hck := check_ok hc
  have ha1 : 0 < a1 := by omega
  have hXlt : X < w.heap.size := blk_lt hX
  have hFb : ∀ m : List Int, 0 < m.length → 1 ≤ firstV a0 a1 a2 a3 m ∧ firstV a0 a1 a2 a3 m ≤ m.length := fun m hm => by have := firstV_bound a3 hc m; exact ⟨this.2.2.2.1 hm, this.2.1⟩
  obtain ⟨Z, hZ⟩ : ∃ Z, L ++ b = Z := ⟨_, rfl⟩
  have hzl : Z.length ≤ 17592186044415 := by rw [← hZ, List.length_append]; exact hl
  rw [hZ]
  obtain ⟨T1, hT1⟩ : ∃ T, (wrt (firstV a0 a1 a2 a3) a2 Z.length Z).1 = T := ⟨_, rfl⟩
  obtain ⟨T2, hT2⟩ : ∃ T, (wrt (firstV a0 a1 a2 a3) a2 Z.length Z).2 = T := ⟨_, rfl⟩
  rw [hT1, hT2]
  have HZ := Aside0.mk hZ
  have HT := Aside0.mk (And.intro hT1 hT2)
  have HC := Aside0.mk hc
  have HX := Aside0.mk hX
  have HV := Aside0.mk hv
  have HBb := Aside0.mk hb
  have HFb := Aside0.mk hFb
  have HL := Aside0.mk hl
  have HZL := Aside0.mk hzl
  have HCK := Aside0.mk hck
  have hx4 := hX.c4
  have hf4 := hX.f4
  clear hc hX hv hb hl hFb hZ hT1 hT2 hck hzl
  go_enter Try.func22, Try.ntmps22
  go_wp2_with (first
    | (at_builtin; refine Kd.R_append_rows (Kd.int .u8) (w0 := w) w.heap.size rfl (.tmp 9) (.tmp 13) 25 5 (.int .u8 0) 1 rfl Try.underlying25 info5 rfl (by decide) (by omega) (.slice (some ⟨w.heap.size, 0, none⟩) 0 0) [] L _ _ _ (fun k => w.heap.size ≤ k) (fun _ => False) rfl rfl ?aO ?aC (fun _ _ h => h) (fun _ h => h.elim) ?aF ?aB ?aS ?aL ?_; (case aO => exact R_empty _ _ _); (case aC => exact Kd.C_alloc HV.out _); (case aF => intro k hk; simp at hk; omega); (case aB => exact below_alloc (Below.refl _ _) _); (case aS => simp); (case aL => have := HL.out; simp; omega); intro v0 w1 hR0 hb0 _ _; simp only [List.nil_append] at hR0; obtain ⟨Ab, cc, rfl⟩ := Kd.R_slice hR0; have HR0 := Aside0.mk hR0; have HB0 := Aside0.mk hb0; have hX1 : CutAt w1 X 52 a0 a1 a2 a3 _ := (hb0.block X hXlt).trans HX.out; have HX1 := Aside0.mk hX1; clear hx4 hf4; have hx4 := hX1.c4; have hf4 := hX1.f4; clear hR0 hb0 hX1)
    | (at_builtin; refine Kd.R_append_rows (Kd.int .u8) (w0 := w) w.heap.size rfl (.tmp 14) (.tmp 15) 25 5 (.int .u8 0) 1 rfl Try.underlying25 info5 rfl (by decide) (by omega) (.slice Ab L.length cc) L b _ _ _ (fun k => w.heap.size ≤ k) (fun _ => False) rfl rfl ?aO ?aC (fun _ _ h => h) (fun _ h => h.elim) ?aF ?aB ?aS ?aL ?_; (case aO => exact HR0.out); (case aC => exact Kd.C_below HBb.out HB0.out); (case aF => intro k hk; have := HB0.out.size; omega); (case aB => exact HB0.out); (case aS => exact HB0.out.size); (case aL => have := HL.out; omega); intro v1 w2 hR2 hb2 hg2 _; rw [HZ.out] at hR2; obtain ⟨A1, c1, rfl⟩ := Kd.R_slice hR2; have HR2 := Aside0.mk hR2; have HB2 := Aside0.mk hb2; have hX2 : CutAt w2 X 52 a0 a1 a2 a3 _ := (hb2.block X hXlt).trans HX.out; have HX2 := Aside0.mk hX2; clear hx4 hf4; have hx4 := hX2.c4; have hf4 := hX2.f4; clear hR2 hb2 hg2 hX2))
  have hX3 := HX2.out.set (.slice A1 Z.length c1)
  obtain ⟨w3, hw3⟩ : ∃ w3, w2.setCell ⟨X, 4, none⟩ (.slice A1 Z.length c1) = w3 := ⟨_, rfl⟩
  rw [hw3] at hX3 ⊢
  have hs3 : w3.heap.size = w2.heap.size := by rw [← hw3]; exact World.size_setCell _ _ _
  have hs2 := HB2.out.size
  have hA1 : ∀ ad, A1 = some ad → ad.block ≠ X ∧ ad.block < w3.heap.size ∧ w.heap.size ≤ ad.block := fun ad e => by
    obtain ⟨h2, _, cs, h3⟩ := R_block HR2.out ad e
    exact ⟨by omega, by rw [hs3]; exact blk_lt h3, h2⟩
  have hC3 : Kd.C (Kd.int .u8) w3 A1 Z.length Z := C_keeps (R_C HR2.out).2.2 (fun ad e => by rw [← hw3]; exact Below.heap_setCell _ _ _ _ (hA1 ad e).1)
  have hB3 : Below n0 w w3 := by rw [← hw3]; exact (HB2.out.mono (by omega)).setCell (p := ⟨X, 4, none⟩) hn _
  have hK3 : Keeps (fun k => k < w.heap.size ∧ k ≠ X) w w3 := fun k ⟨h1, h2⟩ => by
    rw [← hw3, Below.heap_setCell _ _ _ _ h2, HB2.out.block k h1]
  have hcap := (R_C HR2.out).2.1
  have HX3 := Aside0.mk hX3
  have HC3 := Aside0.mk hC3
  have HB3 := Aside0.mk hB3
  have HK3 := Aside0.mk hK3
  have HA1 := Aside0.mk hA1
  have HW3 := Aside0.mk hw3
  clear hX3 hC3 hB3 hK3 hA1 hw3 hx4 hf4
  go_loopw [5] (fun ov wr => ∃ (A' : Option Addr) (c' : Nat) (m outl : List Int), m.length ≤ c' ∧ Aside0 (CutAt wr X 52 a0 a1 a2 a3 (.slice A' m.length c')) ∧ Aside0 (∀ W, Kd.C (Kd.int .u8) W A1 Z.length Z → Kd.C (Kd.int .u8) W A' m.length m) ∧ Aside0 (Kd.R (Kd.int .i64) 3 wr w3.heap.size (fun k => w3.heap.size ≤ k) ov outl) ∧
    Aside0 (outl ++ (wrt (firstV a0 a1 a2 a3) a2 m.length m).1 = T1 ∧ (wrt (firstV a0 a1 a2 a3) a2 m.length m).2 = T2 ∧ outl.length + m.length ≤ Z.length) ∧ Aside0 (Keeps (fun k => k < w3.heap.size ∧ k ≠ X) w3 wr) ∧ Aside0 (w3.heap.size ≤ wr.heap.size ∧ Below n0 w wr)) (fun _ wr => leftLen wr X)
  case atStart => exact ⟨A1, c1, Z, [], hcap, HX3, ⟨fun W h => h⟩, ⟨Kd.R_nil _ _ _ _ _⟩, ⟨HT.out.1, HT.out.2, by simp⟩, ⟨fun _ _ => rfl⟩, ⟨Nat.le_refl _, HB3.out⟩⟩
  case round =>
    obtain ⟨A', c', m, outl, hmc, HXr, HI, HO, HT', HKr, HW⟩ := hrel
    have hR := HO.out
    obtain ⟨Ao, co, rfl⟩ := Kd.R_slice hR
    clear hR
    have hx0 := HXr.out.c0
    have hx1 := HXr.out.c1
    have hx2 := HXr.out.c2
    have hx3 := HXr.out.c3
    have hx4 := HXr.out.c4
    have hf4 := HXr.out.f4
    have hXr : X < wr.heap.size := blk_lt HXr.out
    have hCm : Kd.C (Kd.int .u8) wr A' m.length m := HI.out _ (C_keeps HC3.out (fun ad e => HKr.out _ ⟨(HA1.out ad e).2.1, (HA1.out ad e).1⟩))
    have HCm := Aside0.mk hCm
    by_cases hp : 0 < m.length
    · have hg : decide (0 < (m.length : Int)) = true := decide_eq_true (by omega)
      have hne : m ≠ [] := List.length_pos_iff.1 hp
      have hfb := HFb.out m hp
      obtain ⟨q, hq⟩ : ∃ q, firstV a0 a1 a2 a3 m = q := ⟨_, rfl⟩
      rw [hq] at hfb
      obtain ⟨Sv, hSv⟩ : ∃ Sv, sureV a0 a1 a2 a3 m = Sv := ⟨_, rfl⟩
      have HSv := Aside0.mk hSv
      clear hSv
      have HQ := Aside0.mk hq
      have HNe := Aside0.mk hne
      clear hne hq
      go_wp2
      go_region_held3 (fun w' => w'.cell? ⟨X, 0, none⟩ = some (.int .i64 a0) ∧ w'.cell? ⟨X, 1, none⟩ = some (.int .i64 a1) ∧ w'.cell? ⟨X, 2, none⟩ = some (.int .i64 a2) ∧ w'.cell? ⟨X, 3, none⟩ = some (.int .u64 a3) ∧ w'.cell? ⟨X, 4, none⟩ = some (.slice A' m.length c') ∧ Kd.C (Kd.int .u8) w' A' m.length m) (first | exact ⟨hx0, hx1, hx2, hx3, hx4, Kd.C_drew hCm⟩ | exact ⟨cell_later hB hx0, cell_later hB hx1, cell_later hB hx2, cell_later hB hx3, cell_later hB hx4, Kd.C_below (Kd.C_drew hCm) hB⟩) (first | (go_at_call 25; refine (ref_first_any a0 a1 a2 a3 A' c' m _ HC.out (by first | exact Kd.C_drew HCm.out | assumption)).mono ?_; rintro e w' ⟨rfl, hB⟩; rw [HQ.out, HSv.out]))
      have hXw : CutAt w' X 52 a0 a1 a2 a3 (.slice A' m.length c') := (hB.block X hXr).trans HXr.out
      have hBw : Below wr.heap.size wr w' := below_step (below_drew (Below.refl _ wr)) hB
      have hRw := Kd.R_below HO.out hBw
      have hKw : Keeps (fun k => k < w3.heap.size ∧ k ≠ X) w3 w' := HKr.out.t (fun k hk => hBw.block k (by have := HW.out.1; have := hk.1; omega))
      have hWw : Below n0 w w' := HW.out.2.trans (hBw.mono (by omega))
      have hsw : w3.heap.size ≤ w'.heap.size := by have := hBw.size; have := HW.out.1; omega
      have HXw := Aside0.mk hXw
      have HRw := Aside0.mk hRw
      have HKw := Aside0.mk hKw
      have HWw := Aside0.mk hWw
      rename_i hSx
      have HCw := Aside0.mk hSx.2.2.2.2.2
      clear hSx hx0 hx1 hx2 hx3 hx4 hf4 hCm hB hBw hRw hKw hWw
      have hx0 := hXw.c0
      have hx1 := hXw.c1
      have hx2 := hXw.c2
      have hx3 := hXw.c3
      have hx4 := hXw.c4
      have hf4 := hXw.f4
      clear hXw
      by_cases hst : q = (m.length : Int) ∧ q < a2
      · obtain rfl := (HSv.out).symm.trans (sure_no HQ.out hst)
        have hw := wrt_stop HNe.out HQ.out hst
        have hte := HT'.out
        rw [hw] at hte
        have HTe := Aside0.mk (And.intro (show outl = T1 by simpa using hte.1) (show m = T2 by simpa using hte.2.1))
        clear hst hw hte
        go_wp2
        go_ret
        refine RWriteP.mk ⟨_, A', c', rfl, ?_, ?_, ?_, ?_, ?_, HWw.out⟩
        · rw [← HTe.out.1]
          exact Kd.R_mono (Kd.R_lower HRw.out (by omega)) (fun k hk => by omega)
        · rw [← HTe.out.2]; exact HXw.out
        · rw [← HTe.out.2]; exact hmc
        · rw [← HTe.out.2]
          exact ⟨A1, Z, C_keeps HC3.out (fun ad e => HKw.out _ ⟨(HA1.out ad e).2.1, (HA1.out ad e).1⟩), fun ad e => ⟨(HA1.out ad e).2.2, by have := (HA1.out ad e).2.1; omega⟩, HI.out⟩
        · rintro k ⟨h1, h2⟩
          rw [HKw.out k ⟨by omega, h2⟩]
          exact HK3.out k ⟨h1, h2⟩
      · obtain rfl := (HSv.out).symm.trans (sure_yes HQ.out hst)
        have hw := wrt_go HFb.out HNe.out HQ.out hst
        obtain ⟨A2, s1, s2, s3⟩ := drop_run A' c' m q (by omega) hfb.2 hmc
        have hml : (m.drop q.toNat).length < m.length := by simp; omega
        have hte := HT'.out
        rw [hw] at hte
        obtain ⟨m2, hm2⟩ : ∃ m2, m.drop q.toNat = m2 := ⟨_, rfl⟩
        rw [hm2] at s1 s2 s3 hml hte
        have HTe := Aside0.mk (show (outl ++ [q]) ++ (wrt (firstV a0 a1 a2 a3) a2 m2.length m2).1 = T1 ∧ (wrt (firstV a0 a1 a2 a3) a2 m2.length m2).2 = T2 ∧ (outl ++ [q]).length + m2.length ≤ Z.length from ⟨by simpa using hte.1, hte.2.1, by have := hte.2.2; simp; omega⟩)
        have HS2 := Aside0.mk s2
        have HS3 := Aside0.mk s3
        have HSW := Aside0.mk hsw
        clear hst hw hte s2 s3 hm2 hsw
        go_wp2_with (at_builtin; refine Kd.R_append_rows (Kd.int .i64) (w0 := w') w3.heap.size rfl (.tmp 39) (.tmp 41) 32 3 (.int .i64 0) 8 rfl Try.underlying32 info3 rfl (by decide) (by omega) (.slice Ao outl.length co) outl [q] _ _ _ (fun k => w3.heap.size ≤ k) (fun _ => False) rfl rfl ?aO ?aC (fun _ _ h => h) (fun _ h => h.elim) ?aF ?aB ?aS ?aL ?_; (case aO => exact Kd.R_below HRw.out (below_alloc (Below.refl _ _) _)); (case aC => exact C_row .i64 3 _ [q] #[.int .i64 q] _ rfl (by simp)); (case aF => intro k hk; have := HSW.out; simp at hk; omega); (case aB => exact (below_alloc (Below.refl _ _) _).mono HSW.out); (case aS => have := HSW.out; simp; omega); (case aL => have h1 := HTe.out.2.2; have h2 := HZL.out; rw [List.length_append] at h1; simp only [List.length_cons, List.length_nil] at h1 ⊢; omega); intro v1 w4 hR1 hB1 hg1 _; obtain ⟨A3, c3, rfl⟩ := Kd.R_slice hR1; have hX4 : CutAt w4 X 52 a0 a1 a2 a3 (.slice A' m.length c') := (hB1.block X (by omega)).trans HXw.out; have HR4 := Aside0.mk hR1; have HB4 := Aside0.mk hB1; have HX4 := Aside0.mk hX4; clear hx0 hx1 hx2 hx3 hx4 hf4; have hx4 := hX4.c4; have hf4 := hX4.f4; clear hR1 hB1 hg1 hX4)
        have hs4 := HB4.out.size
        have hsw := HSW.out
        refine ⟨⟨A2, c' - q.toNat, m2, outl ++ [q], HS3.out, ⟨HX4.out.set _⟩, ⟨fun W h => HS2.out W (HI.out W h)⟩, ⟨by simpa using Kd.R_far (p := ⟨X, 4, none⟩) HR4.out (fun k hk => by show k ≠ X; omega) (.slice A2 m2.length (c' - q.toNat))⟩, HTe, ⟨?_⟩, ⟨by rw [World.size_setCell]; omega, ?_⟩⟩, ?_⟩
        · rintro k ⟨h1, h2⟩
          rw [Below.heap_setCell _ _ _ _ h2, HB4.out.block k h1]
          exact HKw.out k ⟨h1, h2⟩
        · exact (HWw.out.trans (HB4.out.mono (by omega))).setCell (p := ⟨X, 4, none⟩) hn _
        · rw [(HX4.out.set (.slice A2 m2.length (c' - q.toNat))).leftLen, HXr.out.leftLen]
          exact hml
    · have hg : decide (0 < (m.length : Int)) = false := decide_eq_false (by omega)
      have hm0 : m = [] := by cases m with | nil => rfl | cons _ _ => simp at hp
      have hte := HT'.out
      rw [hm0, wrt_nil] at hte
      have HTe := Aside0.mk (And.intro (show outl = T1 by simpa using hte.1) (show m = T2 by rw [hm0]; exact hte.2.1))
      clear hm0 hte hCm
      go_wp2
      go_ret
      have hsr := HW.out.1
      refine RWriteP.mk ⟨_, A', c', rfl, ?_, ?_, ?_, ?_, ?_, HW.out.2⟩
      · rw [← HTe.out.1]
        exact Kd.R_mono (Kd.R_lower HO.out (by omega)) (fun k hk => by omega)
      · rw [← HTe.out.2]; exact HXr.out
      · rw [← HTe.out.2]; exact hmc
      · rw [← HTe.out.2]
        exact ⟨A1, Z, C_keeps HC3.out (fun ad e => HKr.out _ ⟨(HA1.out ad e).2.1, (HA1.out ad e).1⟩), fun ad e => ⟨(HA1.out ad e).2.2, by have := (HA1.out ad e).2.1; omega⟩, HI.out⟩
      · rintro k ⟨h1, h2⟩
        rw [HKr.out k ⟨by omega, h2⟩]
        exact HK3.out k ⟨h1, h2⟩
end Go.Proofs.Ytpadajjlakhnjaa.H
