/- The law's does as a contract: it answers true, and both stand the same. -/
import Derived.Test.YtpcgmlnipeigjaaUj
namespace Go.Proofs.Ytpcgmlnipeigjaa.H
open Go.RowKit Go.Shelf Go.Proofs.YtpcgmlnipeigjaaW.PrintWords Go.Proofs.YtpcgmlnipeigjaaW.PrintLast Go.Proofs.YtpcgmlnipeigjaaW.PrintMore
set_option linter.unusedVariables false
set_option linter.unusedSimpArgs false

/-- Both, alike. -/
structure PrAt (w : World) (X g Y h : Nat) (first : Int) (l : List Int) (res : Int) : Prop where
  sp : SpAt w X g first l (cnt l) res
  rf : RfAt w Y h first l res
/-- They share nothing. -/
structure Dj (n0 X g Y h : Nat) : Prop where
  xy : X ≠ Y
  xh : X ≠ h
  gy : g ≠ Y
  gh : g ≠ h
  nx : n0 ≤ X
  ng : n0 ≤ g
  ny : n0 ≤ Y
  nh : n0 ≤ h
/-- Only theirs is written, and what is new. -/
structure Mw (n0 X g Y h : Nat) (w w' : World) : Prop where
  keep : ∀ k, k < w.heap.size → k ≠ X → k ≠ g → k ≠ Y → k ≠ h → w'.heap[k]? = w.heap[k]?
  bel : Below n0 w w'
namespace Mw
variable {n0 X g Y h : Nat} {w w1 w2 : World}
theorem refl : Mw n0 X g Y h w w := ⟨fun _ _ _ _ _ _ => rfl, Below.refl _ _⟩
theorem trans (a : Mw n0 X g Y h w w1) (b : Mw n0 X g Y h w1 w2) : Mw n0 X g Y h w w2 := ⟨fun k hk h1 h2 h3 h4 => (b.keep k (Nat.lt_of_lt_of_le hk a.bel.size) h1 h2 h3 h4).trans (a.keep k hk h1 h2 h3 h4), a.bel.trans b.bel⟩
theorem of_s (a : Mv n0 X g w w1) : Mw n0 X g Y h w w1 := ⟨fun k hk h1 h2 _ _ => a.keep k hk h1 h2, a.bel⟩
theorem of_r (a : Mv n0 Y h w w1) : Mw n0 X g Y h w w1 := ⟨fun k hk _ _ h1 h2 => a.keep k hk h1 h2, a.bel⟩
theorem of_below (a : Below w.heap.size w w1) (hn : n0 ≤ w.heap.size) : Mw n0 X g Y h w w1 := ⟨fun k hk _ _ _ _ => a.block k hk, a.mono hn⟩
theorem cell (a : Mw n0 X g Y h w w1) {b i : Nat} {v : Value} (hc : w.cell? ⟨b, i, none⟩ = some v) (h1 : b ≠ X) (h2 : b ≠ g) (h3 : b ≠ Y) (h4 : b ≠ h) : w1.cell? ⟨b, i, none⟩ = some v :=
  (World.cell?_of_block (a.keep b (World.block_lt_of_cell? w _ hc) h1 h2 h3 h4)).trans hc
end Mw
namespace PrAt
variable {w w' : World} {X g Y h : Nat} {first res : Int} {l : List Int}
theorem below (p : PrAt w X g Y h first l res) (hb : Below w.heap.size w w') : PrAt w' X g Y h first l res := ⟨p.sp.below hb, p.rf.below hb⟩
theorem rf_s {n0 : Nat} (p : PrAt w X g Y h first l res) (d : Dj n0 X g Y h) (a : Mv n0 X g w w') : RfAt w' Y h first l res := p.rf.keep (a.keep Y p.rf.ltY d.xy.symm d.gy.symm) (a.keep h p.rf.ltg d.xh.symm d.gh.symm)
theorem sp_r {n0 : Nat} {l' : List Int} {res' : Int} (s : SpAt w X g first l' (cnt l') res') (d : Dj n0 X g Y h) (a : Mv n0 Y h w w') : SpAt w' X g first l' (cnt l') res' := s.keep (a.keep X s.ltX d.xy d.xh) (a.keep g s.ltg d.gy d.gh)
end PrAt
/-- What does leaves. -/
structure DoesP (n0 X g Y h : Nat) (first : Int) (l : List Int) (w : World) (e : Ending) (w' : World) : Prop where
  out : e = .returned (.bool true) ∧ ∃ l' res', PrAt w' X g Y h first l' res' ∧ Sane first l' res' ∧ l'.length = l.length ∧ Mw n0 X g Y h w w'


theorem cellM {n0 X g : Nat} {w w1 : World} (a : Mv n0 X g w w1) {b i : Nat} {v : Value} (hc : w.cell? ⟨b, i, none⟩ = some v) (h1 : b ≠ X) (h2 : b ≠ g) : w1.cell? ⟨b, i, none⟩ = some v :=
  (World.cell?_of_block (a.keep b (World.block_lt_of_cell? w _ hc) h1 h2)).trans hc

set_option maxRecDepth 100000 in
set_option maxHeartbeats 4000000 in
theorem does_0 (n0 X g Y h : Nat) (first res n a0 a1 : Int) (l : List Int) (w : World) (hp : PrAt w X g Y h first l res) (d : Dj n0 X g Y h) (hs : Sane first l res) (hl : 0 < l.length) (ha : a0 ≤ 9223372036854775807) (hn : n ≤ 9223372036854775807) :
    Calls Try.prog 22 #[.pointer (some ⟨X, 0, none⟩), .pointer (some ⟨Y, 0, none⟩), .agg #[.int .i64 0, .int .i64 n, .int .i64 a0, .int .i64 a1]] w fun e w' => DoesP n0 X g Y h first l w e w' := by
  have hu33 := Try.underlying33
  have hu31 := Try.underlying31
  have hXl := hp.sp.ltX
  have hgl := hp.sp.ltg
  have hYl := hp.rf.ltY
  have hhl := hp.rf.ltg
  have hn0 : n0 ≤ w.heap.size := by have := d.nx; omega
  have hl4 := hs.len
  have hr4 := hs.r4
  have hr0 := hs.r0
  have hc4 := hs.c4 0
  have hff : 0 ≤ first ∧ first + l.length ≤ 4096 := ⟨hs.f0, hs.fl⟩
  have hbb := below_alloc (Below.refl w.heap.size w) (.cells #[.int .i64 0, .int .i64 n, .int .i64 a0, .int .i64 a1] 33)
  have HP := Aside0.mk (hp.below hbb)
  have HM := Aside0.mk (show Mw n0 X g Y h w (w.alloc (.cells #[.int .i64 0, .int .i64 n, .int .i64 a0, .int .i64 a1] 33)) from Mw.of_below hbb hn0)
  have HD := Aside0.mk d
  have HS := Aside0.mk hs
  have hbk := blk_new w (.cells #[.int .i64 0, .int .i64 n, .int .i64 a0, .int .i64 a1] 33)
  have HK := Aside0.mk hbk
  have HZ := Aside0.mk (show n0 ≤ (w.alloc (.cells #[.int .i64 0, .int .i64 n, .int .i64 a0, .int .i64 a1] 33)).heap.size by rw [World.size_alloc]; omega)
  clear hp d hs hbb hbk
  go_enter Try.func22, Try.ntmps22
  obtain ⟨V1, V2, l', hv⟩ : ∃ V1 V2 l', takeL first l n res = ((V1, V2), l') := ⟨_, _, _, rfl⟩
  have HV := Aside0.mk hv
  have hsn := takeL_sane (n := n) HS.out
  rw [hv] at hsn
  have HSn := Aside0.mk hsn
  have hq1 := (blk_cell HK.out 1).trans rfl
  clear hv hsn
  go_wp2_with (first
    | (go_at_call 11; refine (take_any n0 X g first res n l _ HP.out.sp HS.out HD.out.nx HD.out.ng).mono ?_; intro e w1 hQ; rw [HV.out] at hQ; obtain ⟨rfl, hS1, hM1⟩ := hQ.out; have HS1 := Aside0.mk hS1; have HR1 := Aside0.mk (HP.out.rf_s HD.out hM1); have HM1 := Aside0.mk (HM.out.trans (Mw.of_s hM1)); have hq2 := cellM hM1 hq1 (by omega) (by omega); clear hQ hS1 hM1 hq1; have hq1 := hq2; clear hq2)
    | (go_at_call 38; refine (rtake_any n0 Y h first res n l _ HR1.out HS.out HD.out.ny HD.out.nh).mono ?_; intro e w2 hQ; rw [HV.out] at hQ; obtain ⟨rfl, hR2, hM2⟩ := hQ.out; have HS2 := Aside0.mk (PrAt.sp_r HS1.out HD.out hM2); have HR2 := Aside0.mk hR2; have HM2 := Aside0.mk (HM1.out.trans (Mw.of_r hM2)); clear hQ hR2 hM2))
  go_ret
  exact ⟨by simp, l', res, ⟨HS2.out, HR2.out⟩, HSn.out.1, HSn.out.2, HM2.out⟩


set_option maxRecDepth 100000 in
set_option maxHeartbeats 4000000 in
theorem does_1 (n0 X g Y h : Nat) (first res n a0 a1 : Int) (l : List Int) (w : World) (hp : PrAt w X g Y h first l res) (d : Dj n0 X g Y h) (hs : Sane first l res) (hl : 0 < l.length) (ha : a0 ≤ 9223372036854775807) (hn : n ≤ 9223372036854775807) :
    Calls Try.prog 22 #[.pointer (some ⟨X, 0, none⟩), .pointer (some ⟨Y, 0, none⟩), .agg #[.int .i64 1, .int .i64 n, .int .i64 a0, .int .i64 a1]] w fun e w' => DoesP n0 X g Y h first l w e w' := by
  have hu33 := Try.underlying33
  have hu31 := Try.underlying31
  have hXl := hp.sp.ltX
  have hgl := hp.sp.ltg
  have hYl := hp.rf.ltY
  have hhl := hp.rf.ltg
  have hn0 : n0 ≤ w.heap.size := by have := d.nx; omega
  have hl4 := hs.len
  have hr4 := hs.r4
  have hr0 := hs.r0
  have hc4 := hs.c4 0
  have hff : 0 ≤ first ∧ first + l.length ≤ 4096 := ⟨hs.f0, hs.fl⟩
  have hbb := below_alloc (Below.refl w.heap.size w) (.cells #[.int .i64 1, .int .i64 n, .int .i64 a0, .int .i64 a1] 33)
  have HP := Aside0.mk (hp.below hbb)
  have HM := Aside0.mk (show Mw n0 X g Y h w (w.alloc (.cells #[.int .i64 1, .int .i64 n, .int .i64 a0, .int .i64 a1] 33)) from Mw.of_below hbb hn0)
  have HD := Aside0.mk d
  have HS := Aside0.mk hs
  have hbk := blk_new w (.cells #[.int .i64 1, .int .i64 n, .int .i64 a0, .int .i64 a1] 33)
  have HK := Aside0.mk hbk
  have HZ := Aside0.mk (show n0 ≤ (w.alloc (.cells #[.int .i64 1, .int .i64 n, .int .i64 a0, .int .i64 a1] 33)).heap.size by rw [World.size_alloc]; omega)
  clear hp d hs hbb hbk
  go_enter Try.func22, Try.ntmps22
  obtain ⟨V1, r2, hv⟩ : ∃ V1 r2, markL first l a0 a1 res = (V1, r2) := ⟨_, _, rfl⟩
  have HV := Aside0.mk hv
  have hsn := markL_sane (a0 := a0) (a1 := a1) HS.out
  rw [hv] at hsn
  have HSn := Aside0.mk hsn
  have hq0 := (blk_cell HK.out 0).trans rfl
  have hq1 := (blk_cell HK.out 1).trans rfl
  have hq2 := (blk_cell HK.out 2).trans rfl
  have hq3 := (blk_cell HK.out 3).trans rfl
  clear hv hsn
  go_wp2_with fail
  go_region_held3 (fun w' => w'.cell? ⟨w.heap.size, 0, none⟩ = some (.int .i64 1) ∧ w'.cell? ⟨w.heap.size, 1, none⟩ = some (.int .i64 n) ∧ w'.cell? ⟨w.heap.size, 2, none⟩ = some (.int .i64 a0) ∧ w'.cell? ⟨w.heap.size, 3, none⟩ = some (.int .i64 a1)) (first
    | exact ⟨hq0, hq1, hq2, hq3⟩
    | exact ⟨cellM hM2 (cellM hM1 hq0 (by omega) (by omega)) (by omega) (by omega), cellM hM2 (cellM hM1 hq1 (by omega) (by omega)) (by omega) (by omega), cellM hM2 (cellM hM1 hq2 (by omega) (by omega)) (by omega) (by omega), cellM hM2 (cellM hM1 hq3 (by omega) (by omega)) (by omega) (by omega)⟩
    | exact ⟨cellM hM1 hq0 (by omega) (by omega), cellM hM1 hq1 (by omega) (by omega), cellM hM1 hq2 (by omega) (by omega), cellM hM1 hq3 (by omega) (by omega)⟩) (first
    | (go_at_call 17; refine (mark_any n0 X g first res a0 a1 l _ (HP.out.sp.below (below_drew (Below.refl _ _))) HS.out ha HD.out.nx HD.out.ng).mono ?_; intro e w1 hQ; rw [HV.out] at hQ; obtain ⟨rfl, hS1, hM1⟩ := hQ.out; have HS1 := Aside0.mk hS1; have HR1 := Aside0.mk ((HP.out.below (below_drew (Below.refl _ _))).rf_s HD.out hM1); have HM1 := Aside0.mk ((HM.out.trans (Mw.of_below (below_drew (Below.refl _ _)) HZ.out)).trans (Mw.of_s hM1)); clear hQ hS1)
    | (go_at_call 39; refine (rmark_any n0 Y h first res a0 a1 l _ HR1.out HS.out ha HD.out.ny HD.out.nh).mono ?_; intro e w2 hQ; rw [HV.out] at hQ; obtain ⟨rfl, hR2, hM2⟩ := hQ.out; have HS2 := Aside0.mk (PrAt.sp_r HS1.out HD.out hM2); have HR2 := Aside0.mk hR2; have HM2 := Aside0.mk (HM1.out.trans (Mw.of_r hM2)); clear hQ hR2))
  go_wp2
  go_ret
  exact ⟨by simp, r2, res, ⟨HS2.out, HR2.out⟩, HSn.out.1, HSn.out.2, HM2.out⟩


set_option maxRecDepth 100000 in
set_option maxHeartbeats 4000000 in
theorem does_2 (n0 X g Y h : Nat) (first res n a0 a1 : Int) (l : List Int) (w : World) (hp : PrAt w X g Y h first l res) (d : Dj n0 X g Y h) (hs : Sane first l res) (hl : 0 < l.length) (ha : a0 ≤ 9223372036854775807) (hn : n ≤ 9223372036854775807) :
    Calls Try.prog 22 #[.pointer (some ⟨X, 0, none⟩), .pointer (some ⟨Y, 0, none⟩), .agg #[.int .i64 2, .int .i64 n, .int .i64 a0, .int .i64 a1]] w fun e w' => DoesP n0 X g Y h first l w e w' := by
  have hu33 := Try.underlying33
  have hu31 := Try.underlying31
  have hXl := hp.sp.ltX
  have hgl := hp.sp.ltg
  have hYl := hp.rf.ltY
  have hhl := hp.rf.ltg
  have hn0 : n0 ≤ w.heap.size := by have := d.nx; omega
  have hl4 := hs.len
  have hr4 := hs.r4
  have hr0 := hs.r0
  have hc4 := hs.c4 0
  have hff : 0 ≤ first ∧ first + l.length ≤ 4096 := ⟨hs.f0, hs.fl⟩
  have hbb := below_alloc (Below.refl w.heap.size w) (.cells #[.int .i64 2, .int .i64 n, .int .i64 a0, .int .i64 a1] 33)
  have HP := Aside0.mk (hp.below hbb)
  have HM := Aside0.mk (show Mw n0 X g Y h w (w.alloc (.cells #[.int .i64 2, .int .i64 n, .int .i64 a0, .int .i64 a1] 33)) from Mw.of_below hbb hn0)
  have HD := Aside0.mk d
  have HS := Aside0.mk hs
  have hbk := blk_new w (.cells #[.int .i64 2, .int .i64 n, .int .i64 a0, .int .i64 a1] 33)
  have HK := Aside0.mk hbk
  have HZ := Aside0.mk (show n0 ≤ (w.alloc (.cells #[.int .i64 2, .int .i64 n, .int .i64 a0, .int .i64 a1] 33)).heap.size by rw [World.size_alloc]; omega)
  clear hp d hs hbb hbk
  go_enter Try.func22, Try.ntmps22
  obtain ⟨V1, r2, hv⟩ : ∃ V1 r2, backL first l a0 a1 0 = (V1, r2) := ⟨_, _, rfl⟩
  have HV := Aside0.mk hv
  have hsn := (fun h => (⟨backL_sane h (by omega), backL_length⟩ : Sane first (backL first l a0 a1 0).2 res ∧ (backL first l a0 a1 0).2.length = l.length)) HS.out
  rw [hv] at hsn
  have HSn := Aside0.mk hsn
  have hq0 := (blk_cell HK.out 0).trans rfl
  have hq1 := (blk_cell HK.out 1).trans rfl
  have hq2 := (blk_cell HK.out 2).trans rfl
  have hq3 := (blk_cell HK.out 3).trans rfl
  clear hv hsn
  go_wp2_with fail
  go_region_held3 (fun w' => w'.cell? ⟨w.heap.size, 0, none⟩ = some (.int .i64 2) ∧ w'.cell? ⟨w.heap.size, 1, none⟩ = some (.int .i64 n) ∧ w'.cell? ⟨w.heap.size, 2, none⟩ = some (.int .i64 a0) ∧ w'.cell? ⟨w.heap.size, 3, none⟩ = some (.int .i64 a1)) (first
    | exact ⟨hq0, hq1, hq2, hq3⟩
    | exact ⟨cellM hM2 (cellM hM1 hq0 (by omega) (by omega)) (by omega) (by omega), cellM hM2 (cellM hM1 hq1 (by omega) (by omega)) (by omega) (by omega), cellM hM2 (cellM hM1 hq2 (by omega) (by omega)) (by omega) (by omega), cellM hM2 (cellM hM1 hq3 (by omega) (by omega)) (by omega) (by omega)⟩
    | exact ⟨cellM hM1 hq0 (by omega) (by omega), cellM hM1 hq1 (by omega) (by omega), cellM hM1 hq2 (by omega) (by omega), cellM hM1 hq3 (by omega) (by omega)⟩) (first
    | (go_at_call 12; refine (free_any n0 X g first res a0 a1 l _ (HP.out.sp.below (below_drew (Below.refl _ _))) HS.out ha HD.out.nx HD.out.ng).mono ?_; intro e w1 hQ; rw [HV.out] at hQ; obtain ⟨rfl, hS1, hM1⟩ := hQ.out; have HS1 := Aside0.mk hS1; have HR1 := Aside0.mk ((HP.out.below (below_drew (Below.refl _ _))).rf_s HD.out hM1); have HM1 := Aside0.mk ((HM.out.trans (Mw.of_below (below_drew (Below.refl _ _)) HZ.out)).trans (Mw.of_s hM1)); clear hQ hS1)
    | (go_at_call 40; refine (rfree_any n0 Y h first res a0 a1 l _ HR1.out HS.out ha HD.out.ny HD.out.nh).mono ?_; intro e w2 hQ; rw [HV.out] at hQ; obtain ⟨rfl, hR2, hM2⟩ := hQ.out; have HS2 := Aside0.mk (PrAt.sp_r HS1.out HD.out hM2); have HR2 := Aside0.mk hR2; have HM2 := Aside0.mk (HM1.out.trans (Mw.of_r hM2)); clear hQ hR2))
  go_wp2
  go_ret
  exact ⟨by simp, r2, res, ⟨HS2.out, HR2.out⟩, HSn.out.1, HSn.out.2, HM2.out⟩


set_option maxRecDepth 100000 in
set_option maxHeartbeats 4000000 in
theorem does_3 (n0 X g Y h : Nat) (first res n a0 a1 : Int) (l : List Int) (w : World) (hp : PrAt w X g Y h first l res) (d : Dj n0 X g Y h) (hs : Sane first l res) (hl : 0 < l.length) (ha : a0 ≤ 9223372036854775807) (hn : n ≤ 9223372036854775807) :
    Calls Try.prog 22 #[.pointer (some ⟨X, 0, none⟩), .pointer (some ⟨Y, 0, none⟩), .agg #[.int .i64 3, .int .i64 n, .int .i64 a0, .int .i64 a1]] w fun e w' => DoesP n0 X g Y h first l w e w' := by
  have hu33 := Try.underlying33
  have hu31 := Try.underlying31
  have hXl := hp.sp.ltX
  have hgl := hp.sp.ltg
  have hYl := hp.rf.ltY
  have hhl := hp.rf.ltg
  have hn0 : n0 ≤ w.heap.size := by have := d.nx; omega
  have hl4 := hs.len
  have hr4 := hs.r4
  have hr0 := hs.r0
  have hc4 := hs.c4 0
  have hff : 0 ≤ first ∧ first + l.length ≤ 4096 := ⟨hs.f0, hs.fl⟩
  have hbb := below_alloc (Below.refl w.heap.size w) (.cells #[.int .i64 3, .int .i64 n, .int .i64 a0, .int .i64 a1] 33)
  have HP := Aside0.mk (hp.below hbb)
  have HM := Aside0.mk (show Mw n0 X g Y h w (w.alloc (.cells #[.int .i64 3, .int .i64 n, .int .i64 a0, .int .i64 a1] 33)) from Mw.of_below hbb hn0)
  have HD := Aside0.mk d
  have HS := Aside0.mk hs
  have hbk := blk_new w (.cells #[.int .i64 3, .int .i64 n, .int .i64 a0, .int .i64 a1] 33)
  have HK := Aside0.mk hbk
  have HZ := Aside0.mk (show n0 ≤ (w.alloc (.cells #[.int .i64 3, .int .i64 n, .int .i64 a0, .int .i64 a1] 33)).heap.size by rw [World.size_alloc]; omega)
  clear hp d hs hbb hbk
  go_enter Try.func22, Try.ntmps22
  obtain ⟨V1, r2, hv⟩ : ∃ V1 r2, backL first l a0 a1 2 = (V1, r2) := ⟨_, _, rfl⟩
  have HV := Aside0.mk hv
  have hsn := (fun h => (⟨backL_sane h (by omega), backL_length⟩ : Sane first (backL first l a0 a1 2).2 res ∧ (backL first l a0 a1 2).2.length = l.length)) HS.out
  rw [hv] at hsn
  have HSn := Aside0.mk hsn
  have hq0 := (blk_cell HK.out 0).trans rfl
  have hq1 := (blk_cell HK.out 1).trans rfl
  have hq2 := (blk_cell HK.out 2).trans rfl
  have hq3 := (blk_cell HK.out 3).trans rfl
  clear hv hsn
  go_wp2_with fail
  go_region_held3 (fun w' => w'.cell? ⟨w.heap.size, 0, none⟩ = some (.int .i64 3) ∧ w'.cell? ⟨w.heap.size, 1, none⟩ = some (.int .i64 n) ∧ w'.cell? ⟨w.heap.size, 2, none⟩ = some (.int .i64 a0) ∧ w'.cell? ⟨w.heap.size, 3, none⟩ = some (.int .i64 a1)) (first
    | exact ⟨hq0, hq1, hq2, hq3⟩
    | exact ⟨cellM hM2 (cellM hM1 hq0 (by omega) (by omega)) (by omega) (by omega), cellM hM2 (cellM hM1 hq1 (by omega) (by omega)) (by omega) (by omega), cellM hM2 (cellM hM1 hq2 (by omega) (by omega)) (by omega) (by omega), cellM hM2 (cellM hM1 hq3 (by omega) (by omega)) (by omega) (by omega)⟩
    | exact ⟨cellM hM1 hq0 (by omega) (by omega), cellM hM1 hq1 (by omega) (by omega), cellM hM1 hq2 (by omega) (by omega), cellM hM1 hq3 (by omega) (by omega)⟩) (first
    | (go_at_call 13; refine (later_any n0 X g first res a0 a1 l _ (HP.out.sp.below (below_drew (Below.refl _ _))) HS.out ha HD.out.nx HD.out.ng).mono ?_; intro e w1 hQ; rw [HV.out] at hQ; obtain ⟨rfl, hS1, hM1⟩ := hQ.out; have HS1 := Aside0.mk hS1; have HR1 := Aside0.mk ((HP.out.below (below_drew (Below.refl _ _))).rf_s HD.out hM1); have HM1 := Aside0.mk ((HM.out.trans (Mw.of_below (below_drew (Below.refl _ _)) HZ.out)).trans (Mw.of_s hM1)); clear hQ hS1)
    | (go_at_call 41; refine (rlater_any n0 Y h first res a0 a1 l _ HR1.out HS.out ha HD.out.ny HD.out.nh).mono ?_; intro e w2 hQ; rw [HV.out] at hQ; obtain ⟨rfl, hR2, hM2⟩ := hQ.out; have HS2 := Aside0.mk (PrAt.sp_r HS1.out HD.out hM2); have HR2 := Aside0.mk hR2; have HM2 := Aside0.mk (HM1.out.trans (Mw.of_r hM2)); clear hQ hR2))
  go_wp2
  go_ret
  exact ⟨by simp, r2, res, ⟨HS2.out, HR2.out⟩, HSn.out.1, HSn.out.2, HM2.out⟩


set_option maxRecDepth 100000 in
set_option maxHeartbeats 4000000 in
theorem does_4 (n0 X g Y h : Nat) (first res n a0 a1 : Int) (l : List Int) (w : World) (hp : PrAt w X g Y h first l res) (d : Dj n0 X g Y h) (hs : Sane first l res) (hl : 0 < l.length) (ha : a0 ≤ 9223372036854775807) (hn : n ≤ 9223372036854775807) :
    Calls Try.prog 22 #[.pointer (some ⟨X, 0, none⟩), .pointer (some ⟨Y, 0, none⟩), .agg #[.int .i64 4, .int .i64 n, .int .i64 a0, .int .i64 a1]] w fun e w' => DoesP n0 X g Y h first l w e w' := by
  have hu33 := Try.underlying33
  have hu31 := Try.underlying31
  have hXl := hp.sp.ltX
  have hgl := hp.sp.ltg
  have hYl := hp.rf.ltY
  have hhl := hp.rf.ltg
  have hn0 : n0 ≤ w.heap.size := by have := d.nx; omega
  have hl4 := hs.len
  have hr4 := hs.r4
  have hr0 := hs.r0
  have hc4 := hs.c4 0
  have hff : 0 ≤ first ∧ first + l.length ≤ 4096 := ⟨hs.f0, hs.fl⟩
  have hbb := below_alloc (Below.refl w.heap.size w) (.cells #[.int .i64 4, .int .i64 n, .int .i64 a0, .int .i64 a1] 33)
  have HP := Aside0.mk (hp.below hbb)
  have HM := Aside0.mk (show Mw n0 X g Y h w (w.alloc (.cells #[.int .i64 4, .int .i64 n, .int .i64 a0, .int .i64 a1] 33)) from Mw.of_below hbb hn0)
  have HD := Aside0.mk d
  have HS := Aside0.mk hs
  have hbk := blk_new w (.cells #[.int .i64 4, .int .i64 n, .int .i64 a0, .int .i64 a1] 33)
  have HK := Aside0.mk hbk
  have HZ := Aside0.mk (show n0 ≤ (w.alloc (.cells #[.int .i64 4, .int .i64 n, .int .i64 a0, .int .i64 a1] 33)).heap.size by rw [World.size_alloc]; omega)
  clear hp d hs hbb hbk
  go_enter Try.func22, Try.ntmps22
  obtain ⟨v, hv⟩ : ∃ v, cnt l 2 = v := ⟨_, rfl⟩
  have HV := Aside0.mk hv
  clear hv
  go_wp2_with (first
    | (go_at_call 14; refine (settle_any n0 X g first res l _ HP.out.sp HS.out HD.out.nx HD.out.ng).mono ?_; intro e w1 hQ; rw [HV.out] at hQ; obtain ⟨rfl, hS1, hM1⟩ := hQ.out; have HS1 := Aside0.mk hS1; have HR1 := Aside0.mk (HP.out.rf_s HD.out hM1); have HM1 := Aside0.mk (HM.out.trans (Mw.of_s hM1)); clear hQ hS1 hM1)
    | (go_at_call 42; refine (rsettle_any n0 Y h first res l _ HR1.out hl4 HD.out.ny HD.out.nh).mono ?_; intro e w2 hQ; rw [HV.out] at hQ; obtain ⟨rfl, hR2, hM2⟩ := hQ.out; have HS2 := Aside0.mk (PrAt.sp_r HS1.out HD.out hM2); have HR2 := Aside0.mk hR2; have HM2 := Aside0.mk (HM1.out.trans (Mw.of_r hM2)); clear hQ hR2 hM2))
  go_ret
  have hsn := settle_sane HS.out
  exact ⟨by simp, settleL l, res, ⟨HS2.out, HR2.out⟩, hsn.1, hsn.2, HM2.out⟩


set_option maxRecDepth 100000 in
set_option maxHeartbeats 4000000 in
theorem does_5 (n0 X g Y h : Nat) (first res n a0 a1 : Int) (l : List Int) (w : World) (hp : PrAt w X g Y h first l res) (d : Dj n0 X g Y h) (hs : Sane first l res) (hl : 0 < l.length) (ha : a0 ≤ 9223372036854775807) (hn : n ≤ 9223372036854775807) :
    Calls Try.prog 22 #[.pointer (some ⟨X, 0, none⟩), .pointer (some ⟨Y, 0, none⟩), .agg #[.int .i64 5, .int .i64 n, .int .i64 a0, .int .i64 a1]] w fun e w' => DoesP n0 X g Y h first l w e w' := by
  have hu33 := Try.underlying33
  have hu31 := Try.underlying31
  have hXl := hp.sp.ltX
  have hgl := hp.sp.ltg
  have hYl := hp.rf.ltY
  have hhl := hp.rf.ltg
  have hn0 : n0 ≤ w.heap.size := by have := d.nx; omega
  have hl4 := hs.len
  have hr4 := hs.r4
  have hr0 := hs.r0
  have hc4 := hs.c4 0
  have hff : 0 ≤ first ∧ first + l.length ≤ 4096 := ⟨hs.f0, hs.fl⟩
  have hbb := below_alloc (Below.refl w.heap.size w) (.cells #[.int .i64 5, .int .i64 n, .int .i64 a0, .int .i64 a1] 33)
  have HP := Aside0.mk (hp.below hbb)
  have HM := Aside0.mk (show Mw n0 X g Y h w (w.alloc (.cells #[.int .i64 5, .int .i64 n, .int .i64 a0, .int .i64 a1] 33)) from Mw.of_below hbb hn0)
  have HD := Aside0.mk d
  have HS := Aside0.mk hs
  have hbk := blk_new w (.cells #[.int .i64 5, .int .i64 n, .int .i64 a0, .int .i64 a1] 33)
  have HK := Aside0.mk hbk
  have HZ := Aside0.mk (show n0 ≤ (w.alloc (.cells #[.int .i64 5, .int .i64 n, .int .i64 a0, .int .i64 a1] 33)).heap.size by rw [World.size_alloc]; omega)
  clear hp d hs hbb hbk
  go_enter Try.func22, Try.ntmps22
  obtain ⟨V1, r2, hv⟩ : ∃ V1 r2, resL l n res = (V1, r2) := ⟨_, _, rfl⟩
  have HV := Aside0.mk hv
  have hsn := resL_sane (n := n) HS.out
  rw [hv] at hsn
  have HSn := Aside0.mk hsn
  have hq0 := (blk_cell HK.out 0).trans rfl
  have hq1 := (blk_cell HK.out 1).trans rfl
  have hq2 := (blk_cell HK.out 2).trans rfl
  have hq3 := (blk_cell HK.out 3).trans rfl
  clear hv hsn
  go_wp2_with fail
  go_region_held3 (fun w' => w'.cell? ⟨w.heap.size, 0, none⟩ = some (.int .i64 5) ∧ w'.cell? ⟨w.heap.size, 1, none⟩ = some (.int .i64 n) ∧ w'.cell? ⟨w.heap.size, 2, none⟩ = some (.int .i64 a0) ∧ w'.cell? ⟨w.heap.size, 3, none⟩ = some (.int .i64 a1)) (first
    | exact ⟨hq0, hq1, hq2, hq3⟩
    | exact ⟨cellM hM2 (cellM hM1 hq0 (by omega) (by omega)) (by omega) (by omega), cellM hM2 (cellM hM1 hq1 (by omega) (by omega)) (by omega) (by omega), cellM hM2 (cellM hM1 hq2 (by omega) (by omega)) (by omega) (by omega), cellM hM2 (cellM hM1 hq3 (by omega) (by omega)) (by omega) (by omega)⟩
    | exact ⟨cellM hM1 hq0 (by omega) (by omega), cellM hM1 hq1 (by omega) (by omega), cellM hM1 hq2 (by omega) (by omega), cellM hM1 hq3 (by omega) (by omega)⟩) (first
    | (go_at_call 15; refine (reserve_any n0 X g first res n l _ (HP.out.sp.below (below_drew (Below.refl _ _))) HS.out HD.out.nx).mono ?_; intro e w1 hQ; rw [HV.out] at hQ; obtain ⟨rfl, hS1, hM1⟩ := hQ.out; have HS1 := Aside0.mk hS1; have HR1 := Aside0.mk ((HP.out.below (below_drew (Below.refl _ _))).rf_s HD.out hM1); have HM1 := Aside0.mk ((HM.out.trans (Mw.of_below (below_drew (Below.refl _ _)) HZ.out)).trans (Mw.of_s hM1)); clear hQ hS1)
    | (go_at_call 43; refine (rreserve_any n0 Y h first res n l _ HR1.out HS.out HD.out.ny).mono ?_; intro e w2 hQ; rw [HV.out] at hQ; obtain ⟨rfl, hR2, hM2⟩ := hQ.out; have HS2 := Aside0.mk (PrAt.sp_r HS1.out HD.out hM2); have HR2 := Aside0.mk hR2; have HM2 := Aside0.mk (HM1.out.trans (Mw.of_r hM2)); clear hQ hR2))
  go_wp2
  go_ret
  exact ⟨by simp, l, r2, ⟨HS2.out, HR2.out⟩, HSn.out.1, rfl, HM2.out⟩


set_option maxRecDepth 100000 in
set_option maxHeartbeats 4000000 in
theorem does_6 (n0 X g Y h : Nat) (first res n a0 a1 : Int) (l : List Int) (w : World) (hp : PrAt w X g Y h first l res) (d : Dj n0 X g Y h) (hs : Sane first l res) (hl : 0 < l.length) (ha : a0 ≤ 9223372036854775807) (hn : n ≤ 9223372036854775807) :
    Calls Try.prog 22 #[.pointer (some ⟨X, 0, none⟩), .pointer (some ⟨Y, 0, none⟩), .agg #[.int .i64 6, .int .i64 n, .int .i64 a0, .int .i64 a1]] w fun e w' => DoesP n0 X g Y h first l w e w' := by
  have hu33 := Try.underlying33
  have hu31 := Try.underlying31
  have hXl := hp.sp.ltX
  have hgl := hp.sp.ltg
  have hYl := hp.rf.ltY
  have hhl := hp.rf.ltg
  have hn0 : n0 ≤ w.heap.size := by have := d.nx; omega
  have hl4 := hs.len
  have hr4 := hs.r4
  have hr0 := hs.r0
  have hc4 := hs.c4 0
  have hff : 0 ≤ first ∧ first + l.length ≤ 4096 := ⟨hs.f0, hs.fl⟩
  have hbb := below_alloc (Below.refl w.heap.size w) (.cells #[.int .i64 6, .int .i64 n, .int .i64 a0, .int .i64 a1] 33)
  have HP := Aside0.mk (hp.below hbb)
  have HM := Aside0.mk (show Mw n0 X g Y h w (w.alloc (.cells #[.int .i64 6, .int .i64 n, .int .i64 a0, .int .i64 a1] 33)) from Mw.of_below hbb hn0)
  have HD := Aside0.mk d
  have HS := Aside0.mk hs
  have hbk := blk_new w (.cells #[.int .i64 6, .int .i64 n, .int .i64 a0, .int .i64 a1] 33)
  have HK := Aside0.mk hbk
  have HZ := Aside0.mk (show n0 ≤ (w.alloc (.cells #[.int .i64 6, .int .i64 n, .int .i64 a0, .int .i64 a1] 33)).heap.size by rw [World.size_alloc]; omega)
  clear hp d hs hbb hbk
  go_enter Try.func22, Try.ntmps22
  obtain ⟨V1, r2, hv⟩ : ∃ V1 r2, relL n res = (V1, r2) := ⟨_, _, rfl⟩
  have HV := Aside0.mk hv
  have hsn := relL_sane (n := n) HS.out
  rw [hv] at hsn
  have HSn := Aside0.mk hsn
  have hq0 := (blk_cell HK.out 0).trans rfl
  have hq1 := (blk_cell HK.out 1).trans rfl
  have hq2 := (blk_cell HK.out 2).trans rfl
  have hq3 := (blk_cell HK.out 3).trans rfl
  clear hv hsn
  go_wp2_with fail
  go_region_held3 (fun w' => w'.cell? ⟨w.heap.size, 0, none⟩ = some (.int .i64 6) ∧ w'.cell? ⟨w.heap.size, 1, none⟩ = some (.int .i64 n) ∧ w'.cell? ⟨w.heap.size, 2, none⟩ = some (.int .i64 a0) ∧ w'.cell? ⟨w.heap.size, 3, none⟩ = some (.int .i64 a1)) (first
    | exact ⟨hq0, hq1, hq2, hq3⟩
    | exact ⟨cellM hM2 (cellM hM1 hq0 (by omega) (by omega)) (by omega) (by omega), cellM hM2 (cellM hM1 hq1 (by omega) (by omega)) (by omega) (by omega), cellM hM2 (cellM hM1 hq2 (by omega) (by omega)) (by omega) (by omega), cellM hM2 (cellM hM1 hq3 (by omega) (by omega)) (by omega) (by omega)⟩
    | exact ⟨cellM hM1 hq0 (by omega) (by omega), cellM hM1 hq1 (by omega) (by omega), cellM hM1 hq2 (by omega) (by omega), cellM hM1 hq3 (by omega) (by omega)⟩) (first
    | (go_at_call 16; refine (release_any n0 X g first res n l _ (HP.out.sp.below (below_drew (Below.refl _ _))) HS.out HD.out.nx).mono ?_; intro e w1 hQ; rw [HV.out] at hQ; obtain ⟨rfl, hS1, hM1⟩ := hQ.out; have HS1 := Aside0.mk hS1; have HR1 := Aside0.mk ((HP.out.below (below_drew (Below.refl _ _))).rf_s HD.out hM1); have HM1 := Aside0.mk ((HM.out.trans (Mw.of_below (below_drew (Below.refl _ _)) HZ.out)).trans (Mw.of_s hM1)); clear hQ hS1)
    | (go_at_call 44; refine (rrelease_any n0 Y h first res n l _ HR1.out HS.out HD.out.ny).mono ?_; intro e w2 hQ; rw [HV.out] at hQ; obtain ⟨rfl, hR2, hM2⟩ := hQ.out; have HS2 := Aside0.mk (PrAt.sp_r HS1.out HD.out hM2); have HR2 := Aside0.mk hR2; have HM2 := Aside0.mk (HM1.out.trans (Mw.of_r hM2)); clear hQ hR2))
  go_wp2
  go_ret
  exact ⟨by simp, l, r2, ⟨HS2.out, HR2.out⟩, HSn.out.1, rfl, HM2.out⟩


set_option maxRecDepth 100000 in
set_option maxHeartbeats 4000000 in
theorem does_7 (n0 X g Y h : Nat) (first res n a0 a1 : Int) (l : List Int) (w : World) (hp : PrAt w X g Y h first l res) (d : Dj n0 X g Y h) (hs : Sane first l res) (hl : 0 < l.length) (ha : a0 ≤ 9223372036854775807) (hn : n ≤ 9223372036854775807) :
    Calls Try.prog 22 #[.pointer (some ⟨X, 0, none⟩), .pointer (some ⟨Y, 0, none⟩), .agg #[.int .i64 7, .int .i64 n, .int .i64 a0, .int .i64 a1]] w fun e w' => DoesP n0 X g Y h first l w e w' := by
  have hu33 := Try.underlying33
  have hu31 := Try.underlying31
  have hXl := hp.sp.ltX
  have hgl := hp.sp.ltg
  have hYl := hp.rf.ltY
  have hhl := hp.rf.ltg
  have hn0 : n0 ≤ w.heap.size := by have := d.nx; omega
  have hl4 := hs.len
  have hr4 := hs.r4
  have hr0 := hs.r0
  have hc4 := hs.c4 0
  have hff : 0 ≤ first ∧ first + l.length ≤ 4096 := ⟨hs.f0, hs.fl⟩
  have hbb := below_alloc (Below.refl w.heap.size w) (.cells #[.int .i64 7, .int .i64 n, .int .i64 a0, .int .i64 a1] 33)
  have HP := Aside0.mk (hp.below hbb)
  have HM := Aside0.mk (show Mw n0 X g Y h w (w.alloc (.cells #[.int .i64 7, .int .i64 n, .int .i64 a0, .int .i64 a1] 33)) from Mw.of_below hbb hn0)
  have HD := Aside0.mk d
  have HS := Aside0.mk hs
  have hbk := blk_new w (.cells #[.int .i64 7, .int .i64 n, .int .i64 a0, .int .i64 a1] 33)
  have HK := Aside0.mk hbk
  have HZ := Aside0.mk (show n0 ≤ (w.alloc (.cells #[.int .i64 7, .int .i64 n, .int .i64 a0, .int .i64 a1] 33)).heap.size by rw [World.size_alloc]; omega)
  clear hp d hs hbb hbk
  go_enter Try.func22, Try.ntmps22
  go_wp2_with (first
    | (go_at_call 21; refine (left_any X g first res l (cnt l) _ HP.out.sp hc4 ⟨hr0, hr4⟩).mono ?_; rintro e w1 ⟨rfl, hB⟩; have HP1 := Aside0.mk (HP.out.below hB); have HM1 := Aside0.mk (HM.out.trans (Mw.of_below hB HZ.out)); clear hB)
    | (go_at_call 26; refine (rleft_q Y h first res (cnt l 0 - res) l _ HP1.out.rf hl4 ⟨hr0, hr4⟩ rfl).mono ?_; rintro e w2 ⟨rfl, nq, rfl⟩; have HP2 := Aside0.mk (HP1.out.below (pw_below_drewN (Below.refl _ _) nq)); have HM2 := Aside0.mk (HM1.out.trans (Mw.of_below (pw_below_drewN (Below.refl w1.heap.size w1) nq) (by have := HM1.out.bel.size; omega))))
    | (go_at_call 19; refine (used_any X g first res l (cnt l) _ HP2.out.sp).mono ?_; rintro e w3 ⟨rfl, hB⟩; have HP3 := Aside0.mk (HP2.out.below hB); have HM3 := Aside0.mk (HM2.out.trans (Mw.of_below hB (by have := HM2.out.bel.size; omega))); clear hB)
    | (go_at_call 45; refine (rused_q Y h first res (cnt l 1) l _ HP3.out.rf hl4 rfl).mono ?_; rintro e w4 ⟨rfl, hw4⟩; rw [hw4]; clear hw4)
    | (go_at_call 20; refine (waiting_any X g first res l (cnt l) _ HP3.out.sp).mono ?_; rintro e w5 ⟨rfl, hB⟩; have HP4 := Aside0.mk (HP3.out.below hB); have HM4 := Aside0.mk (HM3.out.trans (Mw.of_below hB (by have := HM3.out.bel.size; omega))); clear hB)
    | (go_at_call 46; refine (rwaiting_q Y h first res (cnt l 2) l _ HP4.out.rf hl4 rfl).mono ?_; rintro e w6 ⟨rfl, hw6⟩; rw [hw6]; clear hw6))
  go_ret
  exact ⟨by simp, l, res, HP4.out, HS.out, rfl, HM4.out⟩


set_option maxRecDepth 100000 in
set_option maxHeartbeats 4000000 in
theorem does_8 (n0 X g Y h : Nat) (first res n a0 a1 : Int) (l : List Int) (w : World) (hp : PrAt w X g Y h first l res) (d : Dj n0 X g Y h) (hs : Sane first l res) (hl : 0 < l.length) (ha : a0 ≤ 9223372036854775807) (hn : n ≤ 9223372036854775807) :
    Calls Try.prog 22 #[.pointer (some ⟨X, 0, none⟩), .pointer (some ⟨Y, 0, none⟩), .agg #[.int .i64 8, .int .i64 n, .int .i64 a0, .int .i64 a1]] w fun e w' => DoesP n0 X g Y h first l w e w' := by
  have hu33 := Try.underlying33
  have hu31 := Try.underlying31
  have hXl := hp.sp.ltX
  have hgl := hp.sp.ltg
  have hYl := hp.rf.ltY
  have hhl := hp.rf.ltg
  have hn0 : n0 ≤ w.heap.size := by have := d.nx; omega
  have hl4 := hs.len
  have hr4 := hs.r4
  have hr0 := hs.r0
  have hc4 := hs.c4 0
  have hff : 0 ≤ first ∧ first + l.length ≤ 4096 := ⟨hs.f0, hs.fl⟩
  have hbb := below_alloc (Below.refl w.heap.size w) (.cells #[.int .i64 8, .int .i64 n, .int .i64 a0, .int .i64 a1] 33)
  have HP := Aside0.mk (hp.below hbb)
  have HM := Aside0.mk (show Mw n0 X g Y h w (w.alloc (.cells #[.int .i64 8, .int .i64 n, .int .i64 a0, .int .i64 a1] 33)) from Mw.of_below hbb hn0)
  have HD := Aside0.mk d
  have HS := Aside0.mk hs
  have hbk := blk_new w (.cells #[.int .i64 8, .int .i64 n, .int .i64 a0, .int .i64 a1] 33)
  have HK := Aside0.mk hbk
  have HZ := Aside0.mk (show n0 ≤ (w.alloc (.cells #[.int .i64 8, .int .i64 n, .int .i64 a0, .int .i64 a1] 33)).heap.size by rw [World.size_alloc]; omega)
  clear hp d hs hbb hbk
  go_enter Try.func22, Try.ntmps22
  go_wp2_with (go_at_call 47; refine (lruns_any X g Y h first res res n l (cnt l) _ HP.out.sp HP.out.rf hff hl).mono ?_; rintro e w1 ⟨rfl, hB⟩; have HP1 := Aside0.mk (HP.out.below hB); have HM1 := Aside0.mk (HM.out.trans (Mw.of_below hB HZ.out)); clear hB)
  go_ret
  exact ⟨by simp, l, res, HP1.out, HS.out, rfl, HM1.out⟩


set_option maxRecDepth 100000 in
set_option maxHeartbeats 4000000 in
theorem does_9 (n0 X g Y h : Nat) (first res n a0 a1 : Int) (l : List Int) (w : World) (hp : PrAt w X g Y h first l res) (d : Dj n0 X g Y h) (hs : Sane first l res) (hl : 0 < l.length) (ha : a0 ≤ 9223372036854775807) (hn : n ≤ 9223372036854775807) :
    Calls Try.prog 22 #[.pointer (some ⟨X, 0, none⟩), .pointer (some ⟨Y, 0, none⟩), .agg #[.int .i64 9, .int .i64 n, .int .i64 a0, .int .i64 a1]] w fun e w' => DoesP n0 X g Y h first l w e w' := by
  have hu33 := Try.underlying33
  have hu31 := Try.underlying31
  have hXl := hp.sp.ltX
  have hgl := hp.sp.ltg
  have hYl := hp.rf.ltY
  have hhl := hp.rf.ltg
  have hn0 : n0 ≤ w.heap.size := by have := d.nx; omega
  have hl4 := hs.len
  have hr4 := hs.r4
  have hr0 := hs.r0
  have hc4 := hs.c4 0
  have hff : 0 ≤ first ∧ first + l.length ≤ 4096 := ⟨hs.f0, hs.fl⟩
  have hbb := below_alloc (Below.refl w.heap.size w) (.cells #[.int .i64 9, .int .i64 n, .int .i64 a0, .int .i64 a1] 33)
  have HP := Aside0.mk (hp.below hbb)
  have HM := Aside0.mk (show Mw n0 X g Y h w (w.alloc (.cells #[.int .i64 9, .int .i64 n, .int .i64 a0, .int .i64 a1] 33)) from Mw.of_below hbb hn0)
  have HD := Aside0.mk d
  have HS := Aside0.mk hs
  have hbk := blk_new w (.cells #[.int .i64 9, .int .i64 n, .int .i64 a0, .int .i64 a1] 33)
  have HK := Aside0.mk hbk
  have HZ := Aside0.mk (show n0 ≤ (w.alloc (.cells #[.int .i64 9, .int .i64 n, .int .i64 a0, .int .i64 a1] 33)).heap.size by rw [World.size_alloc]; omega)
  clear hp d hs hbb hbk
  go_enter Try.func22, Try.ntmps22
  obtain ⟨B, hB⟩ : ∃ B, hasL first l n = B := ⟨_, rfl⟩
  have HB := Aside0.mk hB
  have hq1 := (blk_cell HK.out 1).trans rfl
  have hf2 : 0 ≤ first ∧ first ≤ 4096 := by omega
  clear hB
  go_wp2_with fail
  go_quiet ((first
    | (go_at_call 28; exact Calls.quiet_of (has_q X g first res n l (cnt l) _ (HP.out.sp.drewN _) hf2 hl4 hn B HB.out))
    | (go_at_call 48; exact Calls.quiet_of (rhas_q Y h first res n l _ (HP.out.rf.drewN _) hf2 hl4 hn B HB.out))))
  go_wp2
  go_ret
  exact ⟨by simp, l, res, HP.out.below (pw_below_drewN (Below.refl _ _) _), HS.out, rfl, HM.out.trans (Mw.of_below (pw_below_drewN (Below.refl _ _) _) HZ.out)⟩


set_option maxRecDepth 100000 in
set_option maxHeartbeats 4000000 in
theorem does_10 (n0 X g Y h : Nat) (first res n a0 a1 : Int) (l : List Int) (w : World) (hp : PrAt w X g Y h first l res) (d : Dj n0 X g Y h) (hs : Sane first l res) (hl : 0 < l.length) (ha : a0 ≤ 9223372036854775807) (hn : n ≤ 9223372036854775807) :
    Calls Try.prog 22 #[.pointer (some ⟨X, 0, none⟩), .pointer (some ⟨Y, 0, none⟩), .agg #[.int .i64 10, .int .i64 n, .int .i64 a0, .int .i64 a1]] w fun e w' => DoesP n0 X g Y h first l w e w' := by
  have hu33 := Try.underlying33
  have hu31 := Try.underlying31
  have hXl := hp.sp.ltX
  have hgl := hp.sp.ltg
  have hYl := hp.rf.ltY
  have hhl := hp.rf.ltg
  have hn0 : n0 ≤ w.heap.size := by have := d.nx; omega
  have hl4 := hs.len
  have hr4 := hs.r4
  have hr0 := hs.r0
  have hc4 := hs.c4 0
  have hff : 0 ≤ first ∧ first + l.length ≤ 4096 := ⟨hs.f0, hs.fl⟩
  have hbb := below_alloc (Below.refl w.heap.size w) (.cells #[.int .i64 10, .int .i64 n, .int .i64 a0, .int .i64 a1] 33)
  have HP := Aside0.mk (hp.below hbb)
  have HM := Aside0.mk (show Mw n0 X g Y h w (w.alloc (.cells #[.int .i64 10, .int .i64 n, .int .i64 a0, .int .i64 a1] 33)) from Mw.of_below hbb hn0)
  have HD := Aside0.mk d
  have HS := Aside0.mk hs
  have hbk := blk_new w (.cells #[.int .i64 10, .int .i64 n, .int .i64 a0, .int .i64 a1] 33)
  have HK := Aside0.mk hbk
  have HZ := Aside0.mk (show n0 ≤ (w.alloc (.cells #[.int .i64 10, .int .i64 n, .int .i64 a0, .int .i64 a1] 33)).heap.size by rw [World.size_alloc]; omega)
  clear hp d hs hbb hbk
  go_enter Try.func22, Try.ntmps22
  go_wp2_with (first
    | (go_at_call 29; refine (bits_any X g first res l (cnt l) _ HP.out.sp hl4).mono ?_; rintro e w1 ⟨rfl, hB⟩; have HP1 := Aside0.mk (HP.out.below hB); have HM1 := Aside0.mk (HM.out.trans (Mw.of_below hB HZ.out)); clear hB)
    | (go_at_call 49; refine (rbits_any Y h first res l _ HP1.out.rf hl4).mono ?_; rintro e w2 ⟨rfl, hB⟩; have HP2 := Aside0.mk (HP1.out.below hB); have HM2 := Aside0.mk (HM1.out.trans (Mw.of_below hB (by have := HM1.out.bel.size; omega))); clear hB))
  go_ret
  exact ⟨by simp, l, res, HP2.out, HS.out, rfl, HM2.out⟩


set_option maxRecDepth 100000 in
set_option maxHeartbeats 4000000 in
theorem does_else (n0 X g Y h : Nat) (first res kd n a0 a1 : Int) (l : List Int) (w : World) (hp : PrAt w X g Y h first l res) (d : Dj n0 X g Y h) (hs : Sane first l res) (hl : 0 < l.length) (ha : a0 ≤ 9223372036854775807) (hn : n ≤ 9223372036854775807) (hkd : kd < 0 ∨ 10 < kd) :
    Calls Try.prog 22 #[.pointer (some ⟨X, 0, none⟩), .pointer (some ⟨Y, 0, none⟩), .agg #[.int .i64 kd, .int .i64 n, .int .i64 a0, .int .i64 a1]] w fun e w' => DoesP n0 X g Y h first l w e w' := by
  have hu33 := Try.underlying33
  have hu31 := Try.underlying31
  have hXl := hp.sp.ltX
  have hgl := hp.sp.ltg
  have hYl := hp.rf.ltY
  have hhl := hp.rf.ltg
  have hn0 : n0 ≤ w.heap.size := by have := d.nx; omega
  have hl4 := hs.len
  have hr4 := hs.r4
  have hr0 := hs.r0
  have hc4 := hs.c4 0
  have hff : 0 ≤ first ∧ first + l.length ≤ 4096 := ⟨hs.f0, hs.fl⟩
  have hbb := below_alloc (Below.refl w.heap.size w) (.cells #[.int .i64 kd, .int .i64 n, .int .i64 a0, .int .i64 a1] 33)
  have HP := Aside0.mk (hp.below hbb)
  have HM := Aside0.mk (show Mw n0 X g Y h w (w.alloc (.cells #[.int .i64 kd, .int .i64 n, .int .i64 a0, .int .i64 a1] 33)) from Mw.of_below hbb hn0)
  have HD := Aside0.mk d
  have HS := Aside0.mk hs
  have hbk := blk_new w (.cells #[.int .i64 kd, .int .i64 n, .int .i64 a0, .int .i64 a1] 33)
  have HK := Aside0.mk hbk
  have HZ := Aside0.mk (show n0 ≤ (w.alloc (.cells #[.int .i64 kd, .int .i64 n, .int .i64 a0, .int .i64 a1] 33)).heap.size by rw [World.size_alloc]; omega)
  clear hp d hs hbb hbk
  have k0 : (kd == 0) = false := by simp; omega
  have k1 : (kd == 1) = false := by simp; omega
  have k2 : (kd == 2) = false := by simp; omega
  have k3 : (kd == 3) = false := by simp; omega
  have k4 : (kd == 4) = false := by simp; omega
  have k5 : (kd == 5) = false := by simp; omega
  have k6 : (kd == 6) = false := by simp; omega
  have k7 : (kd == 7) = false := by simp; omega
  have k8 : (kd == 8) = false := by simp; omega
  have k9 : (kd == 9) = false := by simp; omega
  have k10 : (kd == 10) = false := by simp; omega
  have hq0 := (blk_cell HK.out 0).trans rfl
  clear hkd
  go_enter Try.func22, Try.ntmps22
  go_wp2
  go_ret
  exact ⟨rfl, l, res, HP.out, HS.out, rfl, HM.out⟩


theorem does_any (n0 X g Y h : Nat) (first res kd n a0 a1 : Int) (l : List Int) (w : World) (hp : PrAt w X g Y h first l res) (d : Dj n0 X g Y h) (hs : Sane first l res) (hl : 0 < l.length) (ha : a0 ≤ 9223372036854775807) (hn : n ≤ 9223372036854775807) :
    Calls Try.prog 22 #[.pointer (some ⟨X, 0, none⟩), .pointer (some ⟨Y, 0, none⟩), .agg #[.int .i64 kd, .int .i64 n, .int .i64 a0, .int .i64 a1]] w fun e w' => DoesP n0 X g Y h first l w e w' := by
  by_cases hk : kd < 0 ∨ 10 < kd
  · exact does_else n0 X g Y h first res kd n a0 a1 l w hp d hs hl ha hn hk
  · have h10 : kd = 0 ∨ kd = 1 ∨ kd = 2 ∨ kd = 3 ∨ kd = 4 ∨ kd = 5 ∨ kd = 6 ∨ kd = 7 ∨ kd = 8 ∨ kd = 9 ∨ kd = 10 := by omega
    rcases h10 with rfl | rfl | rfl | rfl | rfl | rfl | rfl | rfl | rfl | rfl | rfl
    · exact does_0 n0 X g Y h first res n a0 a1 l w hp d hs hl ha hn
    · exact does_1 n0 X g Y h first res n a0 a1 l w hp d hs hl ha hn
    · exact does_2 n0 X g Y h first res n a0 a1 l w hp d hs hl ha hn
    · exact does_3 n0 X g Y h first res n a0 a1 l w hp d hs hl ha hn
    · exact does_4 n0 X g Y h first res n a0 a1 l w hp d hs hl ha hn
    · exact does_5 n0 X g Y h first res n a0 a1 l w hp d hs hl ha hn
    · exact does_6 n0 X g Y h first res n a0 a1 l w hp d hs hl ha hn
    · exact does_7 n0 X g Y h first res n a0 a1 l w hp d hs hl ha hn
    · exact does_8 n0 X g Y h first res n a0 a1 l w hp d hs hl ha hn
    · exact does_9 n0 X g Y h first res n a0 a1 l w hp d hs hl ha hn
    · exact does_10 n0 X g Y h first res n a0 a1 l w hp d hs hl ha hn
end Go.Proofs.Ytpcgmlnipeigjaa.H
