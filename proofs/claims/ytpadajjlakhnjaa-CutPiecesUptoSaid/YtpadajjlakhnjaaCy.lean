/- (*Cutter).End of both as contracts. -/
import Derived.Test.YtpadajjlakhnjaaCx
namespace Go.Proofs.Ytpadajjlakhnjaa.H
open Go.RowKit Go.Shelf Go.Proofs.YtpadajjlakhnjaaW.PrintWords Go.Proofs.YtpadajjlakhnjaaW.PrintLast Go.Proofs.YtpadajjlakhnjaaW.PrintMore
set_option linter.unusedVariables false
set_option linter.unusedSimpArgs false

structure EndP (n0 X t : Nat) (a0 a1 a2 a3 : Int) (T : List Int) (w : World) (e : Ending) (w' : World) : Prop where
  out : ∃ vo, e = .returned vo ∧ Kd.R (Kd.int .i64) 3 w' w.heap.size (fun k => w.heap.size ≤ k) vo T ∧ CutAt w' X t a0 a1 a2 a3 (.slice none 0 0) ∧ Keeps (fun k => k < w.heap.size ∧ k ≠ X) w w' ∧ Below n0 w w'

set_option maxRecDepth 100000 in
set_option maxHeartbeats 4000000 in
theorem end_any (n0 X : Nat) (a0 a1 a2 a3 : Int) (A : Option Addr) (c : Nat) (L : List Int) (w : World) (hc : check a0 a1 a2 = 0) (hX : CutAt w X 60 a0 a1 a2 a3 (.slice A L.length c)) (hn : n0 ≤ X)
    (hC : Kd.C (Kd.int .u8) w A L.length L) (hl : L.length ≤ 17592186044415) :
    Calls Try.prog 20 #[.pointer (some ⟨X, 0, none⟩)] w fun e w' => EndP n0 X 60 a0 a1 a2 a3 (lensV a0 a1 a2 a3 L) w e w' := by
  have hu24 := Try.underlying24
  have hu60 := Try.underlying60
  have ha1 : 0 < a1 := by have := check_ok hc; omega
  have hXlt : X < w.heap.size := blk_lt hX
  obtain ⟨T, hT⟩ : ∃ T, lensV a0 a1 a2 a3 L = T := ⟨_, rfl⟩
  rw [hT]
  have HT := Aside0.mk hT
  have HX := Aside0.mk hX
  have HC := Aside0.mk hC
  have HL := Aside0.mk hl
  clear hc hX hC hl hT
  go_enter Try.func20, Try.ntmps20
  go_wp2_with (first
    | (go_at_call 28; refine (made_yes X a0 a1 a2 a3 _ _ HX.out ha1).mono ?_; rintro e w1 ⟨rfl, hB⟩; have hX1 : CutAt w1 X 60 a0 a1 a2 a3 _ := (hB.block X hXlt).trans HX.out; have hx0 := hX1.c0; have hx1 := hX1.c1; have hx2 := hX1.c2; have hx3 := hX1.c3; have hx4 := hX1.c4; have HX1 := Aside0.mk hX1; have hCm := Kd.C_below HC.out hB; have HB1 := Aside0.mk hB; clear hB hX1))
  have HCm := Aside0.mk hCm
  have hX1lt := blk_lt HX1.out
  go_region_held3 (fun w' => w'.cell? ⟨X, 0, none⟩ = some (.int .i64 a0) ∧ w'.cell? ⟨X, 1, none⟩ = some (.int .i64 a1) ∧ w'.cell? ⟨X, 2, none⟩ = some (.int .i64 a2) ∧ w'.cell? ⟨X, 3, none⟩ = some (.int .u64 a3) ∧ w'.cell? ⟨X, 4, none⟩ = some (.slice A L.length c)) (first | exact ⟨hx0, hx1, hx2, hx3, hx4⟩ | exact ⟨cell_later hB hx0, cell_later hB hx1, cell_later hB hx2, cell_later hB hx3, cell_later hB hx4⟩) (first | (go_at_call 13; refine (lengths_any a0 a1 a2 a3 A c L _ (Kd.C_drew HCm.out) HL.out).mono ?_; rintro e w' ⟨v2, rfl, hR2, hB⟩; rw [HT.out] at hR2))
  rename_i hSx
  clear hSx
  have hBw : Below w1.heap.size w1 w' := below_step (below_drew (Below.refl _ w1)) hB
  have hXw : CutAt w' X 60 a0 a1 a2 a3 (.slice A L.length c) := (hBw.block X hX1lt).trans HX1.out
  obtain ⟨A2, c2, rfl⟩ := Kd.R_slice hR2
  have HR2 := Aside0.mk hR2
  have HXw := Aside0.mk hXw
  have HBw := Aside0.mk hBw
  clear hR2 hBw hx0 hx1 hx2 hx3 hx4 hB
  have hx4 := hXw.c4
  have hf4 := hXw.f4
  clear hXw
  go_wp2
  go_ret
  have hs1 := HB1.out.size
  have hs2 := HBw.out.size
  refine EndP.mk ⟨_, rfl, ?_, HXw.out.set _, ?_, ?_⟩
  · exact Kd.R_mono (Kd.R_lower (Kd.R_far HR2.out (fun k hk => by show k ≠ X; have : w1.heap.size ≤ k := hk; omega) _) (by exact hs1)) (fun k hk => by have : w1.heap.size ≤ k := hk; omega)
  · rintro k ⟨h1, h2⟩
    rw [Below.heap_setCell _ _ _ _ h2, HBw.out.block k (by omega), HB1.out.block k h1]
  · exact ((HB1.out.mono (by omega)).trans (HBw.out.mono (by omega))).setCell (p := ⟨X, 4, none⟩) hn _

set_option maxRecDepth 100000 in
set_option maxHeartbeats 4000000 in
theorem rend_any (n0 X : Nat) (a0 a1 a2 a3 : Int) (A : Option Addr) (c : Nat) (L : List Int) (w : World) (hX : CutAt w X 52 a0 a1 a2 a3 (.slice A L.length c)) (hn : n0 ≤ X)
    (hC : Kd.C (Kd.int .u8) w A L.length L) (hlc : L.length ≤ c) (hl : L.length ≤ 17592186044415) :
    Calls Try.prog 23 #[.pointer (some ⟨X, 0, none⟩)] w fun e w' => EndP n0 X 52 a0 a1 a2 a3 (lensV a0 a1 a2 a3 L) w e w' := by
  have hu24 := Try.underlying24
  have hu52 := Try.underlying52
  have hXlt : X < w.heap.size := blk_lt hX
  obtain ⟨T, hT⟩ : ∃ T, lensV a0 a1 a2 a3 L = T := ⟨_, rfl⟩
  rw [hT]
  obtain ⟨w1, hw1⟩ : ∃ w1, w = w1 := ⟨_, rfl⟩
  have hx0 := hX.c0
  have hx1 := hX.c1
  have hx2 := hX.c2
  have hx3 := hX.c3
  have hx4 := hX.c4
  have HT := Aside0.mk hT
  have HX1 := Aside0.mk hX
  have HCm := Aside0.mk hC
  have HL := Aside0.mk hl
  have HLC := Aside0.mk hlc
  have HB1 := Aside0.mk (Below.refl w.heap.size w)
  have hX1lt := hXlt
  clear hX hC hl hT hlc hw1 w1
  go_enter Try.func23, Try.ntmps23
  go_wp2
  go_region_held3 (fun w' => w'.cell? ⟨X, 0, none⟩ = some (.int .i64 a0) ∧ w'.cell? ⟨X, 1, none⟩ = some (.int .i64 a1) ∧ w'.cell? ⟨X, 2, none⟩ = some (.int .i64 a2) ∧ w'.cell? ⟨X, 3, none⟩ = some (.int .u64 a3) ∧ w'.cell? ⟨X, 4, none⟩ = some (.slice A L.length c)) (first | exact ⟨hx0, hx1, hx2, hx3, hx4⟩ | exact ⟨cell_later hB hx0, cell_later hB hx1, cell_later hB hx2, cell_later hB hx3, cell_later hB hx4⟩) (first | (go_at_call 14; refine (ref_lengths_any a0 a1 a2 a3 A c L _ (Kd.C_drew HCm.out) HLC.out HL.out).mono ?_; rintro e w' ⟨v2, rfl, hR2, hB⟩; rw [HT.out] at hR2))
  rename_i hSx
  clear hSx
  have hBw : Below w.heap.size w w' := below_step (below_drew (Below.refl _ w)) hB
  have hXw : CutAt w' X 52 a0 a1 a2 a3 (.slice A L.length c) := (hBw.block X hX1lt).trans HX1.out
  obtain ⟨A2, c2, rfl⟩ := Kd.R_slice hR2
  have HR2 := Aside0.mk hR2
  have HXw := Aside0.mk hXw
  have HBw := Aside0.mk hBw
  clear hR2 hBw hx0 hx1 hx2 hx3 hx4 hB
  have hx4 := hXw.c4
  have hf4 := hXw.f4
  clear hXw
  go_wp2
  go_ret
  have hs1 := HB1.out.size
  have hs2 := HBw.out.size
  refine EndP.mk ⟨_, rfl, ?_, HXw.out.set _, ?_, ?_⟩
  · exact Kd.R_mono (Kd.R_lower (Kd.R_far HR2.out (fun k hk => by show k ≠ X; have : w.heap.size ≤ k := hk; omega) _) (by exact hs1)) (fun k hk => by have : w.heap.size ≤ k := hk; omega)
  · rintro k ⟨h1, h2⟩
    rw [Below.heap_setCell _ _ _ _ h2, HBw.out.block k (by omega), HB1.out.block k h1]
  · exact ((HB1.out.mono (by omega)).trans (HBw.out.mono (by omega))).setCell (p := ⟨X, 4, none⟩) hn _
end Go.Proofs.Ytpadajjlakhnjaa.H
