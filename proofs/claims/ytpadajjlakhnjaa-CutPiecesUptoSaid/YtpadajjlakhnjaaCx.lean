/- (*Cutter).Write as a contract. -/
import Derived.Test.YtpadajjlakhnjaaCw
import Derived.Deep.RegionHeld3
namespace Go.Proofs.Ytpadajjlakhnjaa.H
open Go.RowKit Go.Shelf Go.Proofs.YtpadajjlakhnjaaW.PrintWords Go.Proofs.YtpadajjlakhnjaaW.PrintLast Go.Proofs.YtpadajjlakhnjaaW.PrintMore
set_option linter.unusedVariables false
set_option linter.unusedSimpArgs false

structure WriteP (n0 X : Nat) (v : Value) (a0 a1 a2 a3 : Int) (T1 T2 : List Int) (w : World) (e : Ending) (w' : World) : Prop where
  out : ∃ vo v', e = .returned vo ∧ Kd.R (Kd.int .i64) 3 w' w.heap.size (fun k => w.heap.size ≤ k) vo T1 ∧ CutAt w' X 60 a0 a1 a2 a3 v' ∧ Kd.R (Kd.int .u8) 5 w' w.heap.size (fun k => w.heap.size ≤ k) v' T2 ∧
    Keeps (fun k => k < w.heap.size ∧ k ≠ X ∧ some k ≠ v.ownBlock) w w' ∧ Below n0 w w'
def leftLen (w : World) (X : Nat) : Nat := ((w.cell? ⟨X, 4, none⟩).map sliceLen).getD 0
theorem CutAt.leftLen {w : World} {X t : Nat} {a0 a1 a2 a3 : Int} {A : Option Addr} {n c : Nat} (h : CutAt w X t a0 a1 a2 a3 (.slice A n c)) : leftLen w X = n := by
  unfold H.leftLen
  rw [h.c4]
  rfl

set_option maxRecDepth 100000 in
set_option maxHeartbeats 4000000 in
theorem write_any (n0 X : Nat) (a0 a1 a2 a3 : Int) (ok : Nat → Prop) (v : Value) (L : List Int) (B : Option Addr) (cb : Nat) (b : List Int) (w : World) (hc : check a0 a1 a2 = 0) (hX : CutAt w X 60 a0 a1 a2 a3 v) (hn : n0 ≤ X)
    (hv : Kd.R (Kd.int .u8) 5 w n0 ok v L) (hXv : v.ownBlock ≠ some X) (hb : Kd.C (Kd.int .u8) w B b.length b) (hl : L.length + b.length ≤ 17592186044415) :
    Calls Try.prog 19 #[.pointer (some ⟨X, 0, none⟩), .slice B b.length cb] w fun e w' => WriteP n0 X v a0 a1 a2 a3 (wrt (firstV a0 a1 a2 a3) a2 (L ++ b).length (L ++ b)).1 (wrt (firstV a0 a1 a2 a3) a2 (L ++ b).length (L ++ b)).2 w e w' := by
  have hu24 := Try.underlying24
  have hu60 := Try.underlying60
  have hck := check_ok hc
  have ha1 : 0 < a1 := by omega
  have hXlt : X < w.heap.size := blk_lt hX
  have hFb : ∀ m : List Int, 0 < m.length → 1 ≤ firstV a0 a1 a2 a3 m ∧ firstV a0 a1 a2 a3 m ≤ m.length := fun m hm => by have := firstV_bound a3 hc m; exact ⟨this.2.2.2.1 hm, this.2.1⟩
  obtain ⟨Z, hZ⟩ : ∃ Z, L ++ b = Z := ⟨_, rfl⟩
  have hzl : Z.length ≤ 17592186044415 := by rw [← hZ, List.length_append]; exact hl
  rw [hZ]
  obtain ⟨T1, hT1⟩ : ∃ T, (wrt (firstV a0 a1 a2 a3) a2 Z.length Z).1 = T := ⟨_, rfl⟩
  obtain ⟨T2, hT2⟩ : ∃ T, (wrt (firstV a0 a1 a2 a3) a2 Z.length Z).2 = T := ⟨_, rfl⟩
  rw [hT1, hT2]
  obtain ⟨A0, c0, rfl⟩ := Kd.R_slice hv
  have hv2 : Kd.R (Kd.int .u8) 5 w n0 (fun k => some k = (Value.slice A0 L.length c0).ownBlock ∨ w.heap.size ≤ k) (.slice A0 L.length c0) L := Kd.R_mono (Kd.R_tight (by rfl) hv) (fun k hk => .inl hk)
  have HZ := Aside0.mk hZ
  have HT := Aside0.mk (And.intro hT1 hT2)
  have HC := Aside0.mk hc
  have HX := Aside0.mk hX
  have HV := Aside0.mk hv2
  have HXv := Aside0.mk hXv
  have HBb := Aside0.mk hb
  have HFb := Aside0.mk hFb
  have HL := Aside0.mk hl
  have HZL := Aside0.mk hzl
  have HCK := Aside0.mk hck
  have hx4 := hX.c4
  have hf4 := hX.f4
  clear hc hX hv hXv hb hl hFb hZ hT1 hT2 hv2 hck hzl
  go_enter Try.func19, Try.ntmps19
  go_wp2_with (first
    | (go_at_call 28; refine (made_yes X a0 a1 a2 a3 _ _ HX.out ha1).mono ?_; rintro e w1 ⟨rfl, hB⟩; have hx := hB.block X hXlt; have HB1 := Aside0.mk hB; have hX1 : CutAt w1 X 60 a0 a1 a2 a3 _ := hx.trans HX.out; have HX1 := Aside0.mk hX1; clear hx4 hf4; have hx4 := hX1.c4; have hf4 := hX1.f4; clear hx hB hX1)
    | (at_builtin; refine Kd.R_append_rows (Kd.int .u8) (w0 := w) n0 rfl (.tmp 14) (.tmp 15) 25 5 (.int .u8 0) 1 rfl Try.underlying25 info5 rfl (by decide) (by omega) (.slice A0 L.length c0) L b _ _ _ (fun k => some k = (Value.slice A0 L.length c0).ownBlock ∨ w.heap.size ≤ k) (fun _ => False) rfl rfl ?aO ?aC (fun _ _ h => h) (fun _ h => h.elim) ?aF ?aB ?aS ?aL ?_; (case aO => exact Kd.R_below HV.out (HB1.out.mono (by omega))); (case aC => exact Kd.C_below HBb.out HB1.out); (case aF => intro k hk; have := HB1.out.size; exact .inr (by omega)); (case aB => exact HB1.out.mono (by omega)); (case aS => have := HB1.out.size; omega); (case aL => have := HL.out; omega); intro v1 w2 hR2 hb2 hg2 _; rw [HZ.out] at hR2; obtain ⟨A1, c1, rfl⟩ := Kd.R_slice hR2; have HR2 := Aside0.mk hR2; have HB2 := Aside0.mk hb2; have HG2 := Aside0.mk hg2; have hX2 : CutAt w2 X 60 a0 a1 a2 a3 _ := (hg2.block X (blk_lt HX1.out) (fun e => HXv.out e.symm)).trans HX1.out; have HX2 := Aside0.mk hX2; clear hx4 hf4; have hx4 := hX2.c4; have hf4 := hX2.f4; clear hR2 hb2 hg2 hX2))
  have hX3 := HX2.out.set (.slice A1 Z.length c1)
  obtain ⟨w3, hw3⟩ : ∃ w3, w2.setCell ⟨X, 4, none⟩ (.slice A1 Z.length c1) = w3 := ⟨_, rfl⟩
  rw [hw3] at hX3 ⊢
  have hs3 : w3.heap.size = w2.heap.size := by rw [← hw3]; exact World.size_setCell _ _ _
  have hs1 := HB1.out.size
  have hs2 := HG2.out.size
  have hA1 : ∀ ad, A1 = some ad → ad.block ≠ X ∧ ad.block < w3.heap.size := fun ad e => by
    obtain ⟨_, h2, cs, h3⟩ := R_block HR2.out ad e
    refine ⟨fun ex => ?_, by rw [hs3]; exact blk_lt h3⟩
    rcases h2 with h2 | h2
    · exact HXv.out (by rw [← h2, ex])
    · omega
  have hC3 : Kd.C (Kd.int .u8) w3 A1 Z.length Z := C_keeps (R_C HR2.out).2.2 (fun ad e => by rw [← hw3]; exact Below.heap_setCell _ _ _ _ (hA1 ad e).1)
  have hB3 : Below n0 w w3 := by rw [← hw3]; exact HB2.out.setCell (p := ⟨X, 4, none⟩) hn _
  have hK3 : Keeps (fun k => k < w.heap.size ∧ k ≠ X ∧ some k ≠ (Value.slice A0 L.length c0).ownBlock) w w3 := fun k ⟨h1, h2, h3⟩ => by
    rw [← hw3, Below.heap_setCell _ _ _ _ h2, HG2.out.block k (by omega) h3, HB1.out.block k h1]
  have hcap := (R_C HR2.out).2.1
  have HX3 := Aside0.mk hX3
  have HC3 := Aside0.mk hC3
  have HB3 := Aside0.mk hB3
  have HK3 := Aside0.mk hK3
  have HA1 := Aside0.mk hA1
  have HW3 := Aside0.mk hw3
  clear hX3 hC3 hB3 hK3 hA1 hw3 hx4 hf4
  go_loopw [5] (fun ov wr => ∃ (A' : Option Addr) (c' : Nat) (m outl : List Int), m.length ≤ c' ∧ Aside0 (CutAt wr X 60 a0 a1 a2 a3 (.slice A' m.length c')) ∧ Aside0 (∀ W, Kd.C (Kd.int .u8) W A1 Z.length Z → Kd.C (Kd.int .u8) W A' m.length m) ∧ Aside0 (Kd.R (Kd.int .i64) 3 wr w3.heap.size (fun k => w3.heap.size ≤ k) ov outl) ∧
    Aside0 (outl ++ (wrt (firstV a0 a1 a2 a3) a2 m.length m).1 = T1 ∧ (wrt (firstV a0 a1 a2 a3) a2 m.length m).2 = T2 ∧ outl.length + m.length ≤ Z.length) ∧ Aside0 (Keeps (fun k => k < w3.heap.size ∧ k ≠ X) w3 wr) ∧ Aside0 (w3.heap.size ≤ wr.heap.size ∧ Below n0 w wr)) (fun _ wr => leftLen wr X)
  case atStart => exact ⟨A1, c1, Z, [], hcap, HX3, ⟨fun W h => h⟩, ⟨Kd.R_nil _ _ _ _ _⟩, ⟨HT.out.1, HT.out.2, by simp⟩, ⟨fun _ _ => rfl⟩, ⟨Nat.le_refl _, HB3.out⟩⟩
  case round =>
    obtain ⟨A', c', m, outl, hmc, HXr, HI, HO, HT', HKr, HW⟩ := hrel
    have hR := HO.out
    obtain ⟨Ao, co, rfl⟩ := Kd.R_slice hR
    clear hR
    have hx0 := HXr.out.c0
    have hx1 := HXr.out.c1
    have hx2 := HXr.out.c2
    have hx3 := HXr.out.c3
    have hx4 := HXr.out.c4
    have hf4 := HXr.out.f4
    have hXr : X < wr.heap.size := blk_lt HXr.out
    have hCm : Kd.C (Kd.int .u8) wr A' m.length m := HI.out _ (C_keeps HC3.out (fun ad e => HKr.out _ ⟨(HA1.out ad e).2, (HA1.out ad e).1⟩))
    have HCm := Aside0.mk hCm
    by_cases hp : 0 < m.length
    · have hg : decide (0 < (m.length : Int)) = true := decide_eq_true (by omega)
      have hne : m ≠ [] := List.length_pos_iff.1 hp
      have hfb := HFb.out m hp
      obtain ⟨q, hq⟩ : ∃ q, firstV a0 a1 a2 a3 m = q := ⟨_, rfl⟩
      rw [hq] at hfb
      have HQ := Aside0.mk hq
      have HNe := Aside0.mk hne
      clear hne hq
      go_wp2
      go_region_held3 (fun w' => w'.cell? ⟨X, 0, none⟩ = some (.int .i64 a0) ∧ w'.cell? ⟨X, 1, none⟩ = some (.int .i64 a1) ∧ w'.cell? ⟨X, 2, none⟩ = some (.int .i64 a2) ∧ w'.cell? ⟨X, 3, none⟩ = some (.int .u64 a3) ∧ w'.cell? ⟨X, 4, none⟩ = some (.slice A' m.length c') ∧ Kd.C (Kd.int .u8) w' A' m.length m) (first | exact ⟨hx0, hx1, hx2, hx3, hx4, Kd.C_drew hCm⟩ | exact ⟨cell_later hB hx0, cell_later hB hx1, cell_later hB hx2, cell_later hB hx3, cell_later hB hx4, Kd.C_below (Kd.C_drew hCm) hB⟩) (first | (go_at_call 24; refine (first_any a0 a1 a2 a3 A' c' m _ HC.out (by first | exact Kd.C_drew HCm.out | assumption)).mono ?_; rintro e w' ⟨rfl, hB⟩; rw [HQ.out]))
      have hXw : CutAt w' X 60 a0 a1 a2 a3 (.slice A' m.length c') := (hB.block X hXr).trans HXr.out
      have hBw : Below wr.heap.size wr w' := below_step (below_drew (Below.refl _ wr)) hB
      have hRw := Kd.R_below HO.out hBw
      have hKw : Keeps (fun k => k < w3.heap.size ∧ k ≠ X) w3 w' := HKr.out.t (fun k hk => hBw.block k (by have := HW.out.1; have := hk.1; omega))
      have hWw : Below n0 w w' := HW.out.2.trans (hBw.mono (by omega))
      have hsw : w3.heap.size ≤ w'.heap.size := by have := hBw.size; have := HW.out.1; omega
      have HXw := Aside0.mk hXw
      have HRw := Aside0.mk hRw
      have HKw := Aside0.mk hKw
      have HWw := Aside0.mk hWw
      rename_i hSx
      have HCw := Aside0.mk hSx.2.2.2.2.2
      clear hSx hx0 hx1 hx2 hx3 hx4 hf4 hCm hB hBw hRw hKw hWw
      have hx0 := hXw.c0
      have hx1 := hXw.c1
      have hx2 := hXw.c2
      have hx3 := hXw.c3
      have hx4 := hXw.c4
      have hf4 := hXw.f4
      clear hXw
      by_cases hst : q = (m.length : Int) ∧ q < a2
      · have g1 : (q == (m.length : Int)) = true := by simpa using hst.1
        have g2 : decide (q < a2) = true := decide_eq_true hst.2
        have hw := wrt_stop HNe.out HQ.out hst
        have hte := HT'.out
        rw [hw] at hte
        have HTe := Aside0.mk (And.intro (show outl = T1 by simpa using hte.1) (show m = T2 by simpa using hte.2.1))
        clear hst hw hte
        go_wp2_with (go_at_call 26; refine (clone_any A' m c' _ HCw.out (by have := HT'.out.2.2; have := HZL.out; omega)).mono ?_; rintro e wc ⟨vc, rfl, hRc, hBc⟩; have hXc : CutAt wc X 60 a0 a1 a2 a3 _ := (hBc.block X (blk_lt HXw.out)).trans HXw.out; clear hx0 hx1 hx2 hx3 hx4 hf4; have hx4 := hXc.c4; have hf4 := hXc.f4; obtain ⟨Ac, cc, rfl⟩ := Kd.R_slice hRc; have HRc := Aside0.mk hRc; have HBc := Aside0.mk hBc; have HXc := Aside0.mk hXc; clear hRc hBc hXc)
        go_ret
        have hsz : w3.heap.size ≤ w'.heap.size := hsw
        have hsc := HBc.out.size
        refine WriteP.mk ⟨_, _, rfl, ?_, HXc.out.set _, ?_, ?_, ?_⟩
        · rw [← HTe.out.1]
          exact Kd.R_mono (Kd.R_lower (Kd.R_far (Kd.R_below HRw.out HBc.out) (fun k hk => by show k ≠ X; omega) _) (by omega)) (fun k hk => by omega)
        · rw [← HTe.out.2]
          exact Kd.R_mono (Kd.R_lower (Kd.R_far HRc.out (fun k hk => by show k ≠ X; omega) _) (by omega)) (fun k hk => by omega)
        · rintro k ⟨h1, h2, h3⟩
          rw [Below.heap_setCell _ _ _ _ h2, HBc.out.block k (by omega), HKw.out k ⟨by omega, h2⟩]
          exact HK3.out k ⟨h1, h2, h3⟩
        · exact (HWw.out.trans (HBc.out.mono (by omega))).setCell (p := ⟨X, 4, none⟩) hn _
      · have hgg : (q == (m.length : Int)) = false ∨ ((q == (m.length : Int)) = true ∧ decide (q < a2) = false) := by
          by_cases h : q = (m.length : Int)
          · exact .inr ⟨by simpa using h, decide_eq_false (fun h2 => hst ⟨h, h2⟩)⟩
          · exact .inl (by simpa using h)
        have hw := wrt_go HFb.out HNe.out HQ.out hst
        obtain ⟨A2, s1, s2, s3⟩ := drop_run A' c' m q (by omega) hfb.2 hmc
        have hml : (m.drop q.toNat).length < m.length := by simp; omega
        have hte := HT'.out
        rw [hw] at hte
        obtain ⟨m2, hm2⟩ : ∃ m2, m.drop q.toNat = m2 := ⟨_, rfl⟩
        rw [hm2] at s1 s2 s3 hml hte
        have HTe := Aside0.mk (show (outl ++ [q]) ++ (wrt (firstV a0 a1 a2 a3) a2 m2.length m2).1 = T1 ∧ (wrt (firstV a0 a1 a2 a3) a2 m2.length m2).2 = T2 ∧ (outl ++ [q]).length + m2.length ≤ Z.length from ⟨by simpa using hte.1, hte.2.1, by have := hte.2.2; simp; omega⟩)
        have HS2 := Aside0.mk s2
        have HS3 := Aside0.mk s3
        have HSW := Aside0.mk hsw
        clear hst hw hte s2 s3 hm2 hsw
        rcases hgg with g1 | ⟨g1, g2⟩
        all_goals
          go_wp2_with (at_builtin; refine Kd.R_append_rows (Kd.int .i64) (w0 := w') w3.heap.size rfl (.tmp 50) (.tmp 52) 32 3 (.int .i64 0) 8 rfl Try.underlying32 info3 rfl (by decide) (by omega) (.slice Ao outl.length co) outl [q] _ _ _ (fun k => w3.heap.size ≤ k) (fun _ => False) rfl rfl ?aO ?aC (fun _ _ h => h) (fun _ h => h.elim) ?aF ?aB ?aS ?aL ?_; (case aO => exact Kd.R_below HRw.out (below_alloc (Below.refl _ _) _)); (case aC => exact C_row .i64 3 _ [q] #[.int .i64 q] _ rfl (by simp)); (case aF => intro k hk; have := HSW.out; simp at hk; omega); (case aB => exact (below_alloc (Below.refl _ _) _).mono HSW.out); (case aS => have := HSW.out; simp; omega); (case aL => have h1 := HTe.out.2.2; have h2 := HZL.out; rw [List.length_append] at h1; simp only [List.length_cons, List.length_nil] at h1 ⊢; omega); intro v1 w4 hR1 hB1 hg1 _; obtain ⟨A3, c3, rfl⟩ := Kd.R_slice hR1; have hX4 : CutAt w4 X 60 a0 a1 a2 a3 (.slice A' m.length c') := (hB1.block X (by omega)).trans HXw.out; have HR4 := Aside0.mk hR1; have HB4 := Aside0.mk hB1; have HX4 := Aside0.mk hX4; clear hx0 hx1 hx2 hx3 hx4 hf4; have hx4 := hX4.c4; have hf4 := hX4.f4; clear hR1 hB1 hg1 hX4)
          have hs4 := HB4.out.size
          have hsw := HSW.out
          refine ⟨⟨A2, c' - q.toNat, m2, outl ++ [q], HS3.out, ⟨HX4.out.set _⟩, ⟨fun W h => HS2.out W (HI.out W h)⟩, ⟨by simpa using Kd.R_far (p := ⟨X, 4, none⟩) HR4.out (fun k hk => by show k ≠ X; omega) (.slice A2 m2.length (c' - q.toNat))⟩, HTe, ⟨?_⟩, ⟨by rw [World.size_setCell]; omega, ?_⟩⟩, ?_⟩
          · rintro k ⟨h1, h2⟩
            rw [Below.heap_setCell _ _ _ _ h2, HB4.out.block k h1]
            exact HKw.out k ⟨h1, h2⟩
          · exact (HWw.out.trans (HB4.out.mono (by omega))).setCell (p := ⟨X, 4, none⟩) hn _
          · rw [(HX4.out.set (.slice A2 m2.length (c' - q.toNat))).leftLen, HXr.out.leftLen]
            exact hml
    · have hg : decide (0 < (m.length : Int)) = false := decide_eq_false (by omega)
      have hm0 : m = [] := by cases m with | nil => rfl | cons _ _ => simp at hp
      have hte := HT'.out
      rw [hm0, wrt_nil] at hte
      have HTe := Aside0.mk (And.intro (show outl = T1 by simpa using hte.1) (show m = T2 by rw [hm0]; exact hte.2.1))
      clear hm0 hte hCm
      go_wp2_with (go_at_call 26; refine (clone_any A' m c' _ HCm.out (by have := HT'.out.2.2; have := HZL.out; omega)).mono ?_; rintro e wc ⟨vc, rfl, hRc, hBc⟩; have hXc : CutAt wc X 60 a0 a1 a2 a3 _ := (hBc.block X (blk_lt HXr.out)).trans HXr.out; clear hx0 hx1 hx2 hx3 hx4 hf4; have hx4 := hXc.c4; have hf4 := hXc.f4; obtain ⟨Ac, cc, rfl⟩ := Kd.R_slice hRc; have HRc := Aside0.mk hRc; have HBc := Aside0.mk hBc; have HXc := Aside0.mk hXc; clear hRc hBc hXc)
      go_ret
      have hsz : w3.heap.size ≤ wr.heap.size := HW.out.1
      have hsc := HBc.out.size
      refine WriteP.mk ⟨_, _, rfl, ?_, HXc.out.set _, ?_, ?_, ?_⟩
      · rw [← HTe.out.1]
        exact Kd.R_mono (Kd.R_lower (Kd.R_far (Kd.R_below HO.out HBc.out) (fun k hk => by show k ≠ X; omega) _) (by omega)) (fun k hk => by omega)
      · rw [← HTe.out.2]
        exact Kd.R_mono (Kd.R_lower (Kd.R_far HRc.out (fun k hk => by show k ≠ X; omega) _) (by omega)) (fun k hk => by omega)
      · rintro k ⟨h1, h2, h3⟩
        rw [Below.heap_setCell _ _ _ _ h2, HBc.out.block k (by omega), HKr.out k ⟨by omega, h2⟩]
        exact HK3.out k ⟨h1, h2, h3⟩
      · exact (HW.out.2.trans (HBc.out.mono (by omega))).setCell (p := ⟨X, 4, none⟩) hn _
end Go.Proofs.Ytpadajjlakhnjaa.H
