/- The law's awake and begin as contracts. -/
import Derived.Test.YtpcgmlnipeigjaaSg
namespace Go.Proofs.Ytpcgmlnipeigjaa.H
open Go.RowKit Go.Shelf Go.Proofs.YtpcgmlnipeigjaaW.PrintWords Go.Proofs.YtpcgmlnipeigjaaW.PrintLast Go.Proofs.YtpcgmlnipeigjaaW.PrintMore
set_option linter.unusedVariables false
set_option linter.unusedSimpArgs false

set_option maxHeartbeats 1000000 in
theorem runsOf_any (p : Option Addr) (w : World) :
    Calls Try.prog 18 #[.pointer p] w fun e w' => ∃ b, e = .returned (.func (.func 37) #[] #[.pointer (some ⟨b, 0, none⟩)]) ∧ w.heap.size ≤ b ∧ w'.heap[b]? = some (.cells #[.pointer p] 25 (0, 0)) ∧ Below w.heap.size w w' := by
  go_enter Try.func18, Try.ntmps18
  go_wp2
  go_ret
  exact ⟨w.heap.size, rfl, Nat.le_refl _, blk_new w _, below_alloc (Below.refl _ _) _⟩

theorem func_nil (c : Array Value) (W : World) : (binOp .eql 42 (.func (.func 37) #[] c) .nilFunc).run Try.prog W = .ok (.bool false) W := by kernel_rfl
theorem sane_small {l : List Int} (ht : ∀ x ∈ l, x = 0 ∨ x = 1 ∨ x = 2) (hl : l.length = 10) : Sane 8 l 0 := ⟨by omega, by omega, ht, by omega, (cnt_nn l 0).1⟩
def L0 : List Int := [0, 0, 0, 0, 0, 0, 0, 0, 0, 0]
def L1 : List Int := [1, 1, 1, 0, 0, 0, 0, 0, 0, 0]
def L2 : List Int := [1, 1, 1, 1, 1, 0, 0, 0, 0, 0]
def L3 : List Int := [2, 2, 2, 1, 1, 0, 0, 0, 0, 0]
def L4 : List Int := [0, 0, 0, 1, 1, 0, 0, 0, 0, 0]
theorem t0 : List.replicate (10 : Int).toNat (0 : Int) = L0 := by decide
theorem t1 : takeL 8 L0 3 0 = ((8, 0), L1) := by decide
theorem t2 : takeL 8 L1 2 0 = ((11, 0), L2) := by decide
theorem t3 : backL 8 L2 8 3 2 = (0, L3) := by decide
theorem t4 : takeL 8 L3 6 0 = ((0, 2), L3) := by decide
theorem t5 : cnt L3 0 - 0 = 5 := by decide
theorem t6 : cnt L3 2 = 3 := by decide
theorem s0 : Sane 8 L0 0 := sane_small (by decide) rfl
theorem s1 : Sane 8 L1 0 := sane_small (by decide) rfl
theorem s2 : Sane 8 L2 0 := sane_small (by decide) rfl
theorem s3 : Sane 8 L3 0 := sane_small (by decide) rfl

set_option maxRecDepth 100000 in
set_option maxHeartbeats 4000000 in
theorem awake_any (w : World) : Calls Try.prog 27 #[] w fun e w' => e = .returned (.bool true) ∧ Below w.heap.size w w' := by
  have hu31 := Try.underlying31
  have ef := func_nil
  go_enter Try.func27, Try.ntmps27
  go_wp2_with (first
    | (go_at_call 14; refine (settle_any w.heap.size X g 8 0 L3 _ HS7.out s3 HXg.out.1 HXg.out.2).mono ?_; intro e w8 hP; rw [t6] at hP; obtain ⟨rfl, hS, hM⟩ := hP.out; have HB8 := Aside0.mk (HB7.out.trans hM.bel); clear hP hS hM)
    | (go_at_call 21; refine (left_any X g 8 0 L3 _ _ HS6.out (s3.c4 0) (by omega)).mono ?_; rw [t5]; rintro e w7 ⟨rfl, hB⟩; have HS7 := Aside0.mk (HS6.out.below hB); have HB7 := Aside0.mk (HB6.out.trans (hB.mono HB6.out.size)); clear hB)
    | (go_at_call 11; refine (take_any w.heap.size X g 8 0 6 L3 _ HS5.out s3 HXg.out.1 HXg.out.2).mono ?_; intro e w6 hP; rw [t4] at hP; obtain ⟨rfl, hS, hM⟩ := hP.out; have HS6 := Aside0.mk hS; have HB6 := Aside0.mk (HB5.out.trans hM.bel); clear hP hS hM)
    | (go_at_call 13; refine (later_any w.heap.size X g 8 0 8 3 L2 _ HS4.out s2 (by omega) HXg.out.1 HXg.out.2).mono ?_; intro e w5 hP; rw [t3] at hP; obtain ⟨rfl, hS, hM⟩ := hP.out; have HS5 := Aside0.mk hS; have HB5 := Aside0.mk (HB4.out.trans hM.bel); clear hP hS hM)
    | (go_at_call 11; refine (take_any w.heap.size X g 8 0 2 L1 _ HS3.out s1 HXg.out.1 HXg.out.2).mono ?_; intro e w4 hP; rw [t2] at hP; obtain ⟨rfl, hS, hM⟩ := hP.out; have HS4 := Aside0.mk hS; have HB4 := Aside0.mk (HB3.out.trans hM.bel); clear hP hS hM)
    | (go_at_call 11; refine (take_any w.heap.size X g 8 0 3 L0 _ HS2.out s0 HXg.out.1 HXg.out.2).mono ?_; intro e w3 hP; rw [t1] at hP; obtain ⟨rfl, hS, hM⟩ := hP.out; have HS3 := Aside0.mk hS; have HB3 := Aside0.mk (HB2.out.trans hM.bel); clear hP hS hM)
    | (go_at_call 18; refine (runsOf_any _ _).mono ?_; rintro e w2 ⟨b, rfl, _, _, hB⟩; have HS2 := Aside0.mk (HS1.out.below hB); have HB2 := Aside0.mk (HB1.out.trans (hB.mono HB1.out.size)); clear hB)
    | (go_at_call 30; refine (new_good 8 10 _ (by decide)).mono ?_; rw [t0]; rintro e w1 ⟨X, g, rfl, hX, hg, hS, hB⟩; have HXg := Aside0.mk (And.intro hX hg); have HS1 := Aside0.mk hS; have HB1 := Aside0.mk hB; clear hX hg hS hB))
  go_ret
  exact ⟨rfl, HB8.out⟩

/-- A space and its reference, as begin makes them. -/
structure BeginP (first count : Int) (w : World) (e : Ending) (w' : World) : Prop where
  out : ∃ X g Y h, e = .returned (.tuple #[.pointer (some ⟨X, 0, none⟩), .pointer (some ⟨Y, 0, none⟩), .bool true]) ∧ w.heap.size ≤ X ∧ w.heap.size ≤ g ∧ w.heap.size ≤ Y ∧ w.heap.size ≤ h ∧ X ≠ Y ∧ X ≠ h ∧ g ≠ Y ∧ g ≠ h ∧
    SpAt w' X g first (List.replicate count.toNat 0) (cnt (List.replicate count.toNat 0)) 0 ∧ RfAt w' Y h first (List.replicate count.toNat 0) 0 ∧ Below w.heap.size w w'

set_option maxRecDepth 100000 in
set_option maxHeartbeats 4000000 in
theorem begin_bad (first count : Int) (A : Option Addr) (n c : Nat) (w : World) (hb : okN first count = false) :
    Calls Try.prog 10 #[.agg #[.int .i64 first, .int .i64 count, .slice A n c]] w fun e w' => e = .returned (.tuple #[.pointer none, .pointer none, .bool true]) ∧ Below w.heap.size w w' := by
  have hu24 := Try.underlying24
  have HB := Aside0.mk hb
  have HQ := Aside0.mk (blk_new w (.cells #[.int .i64 first, .int .i64 count, .slice A n c] 24))
  clear hb
  go_enter Try.func10, Try.ntmps10
  go_wp2_with (first
    | (go_at_call 30; refine (new_bad first count _ HB.out).mono ?_; rintro e w1 ⟨rfl, hB⟩; have hq := (hB.block w.heap.size (blk_lt HQ.out)).trans HQ.out; have hq0 := (blk_cell hq 0).trans rfl; have hq1 := (blk_cell hq 1).trans rfl; have hq2 := (blk_cell hq 2).trans rfl; have HQ1 := Aside0.mk hq; have HB1 := Aside0.mk (below_step (below_alloc (Below.refl w.heap.size w) _) hB); clear hB hq)
    | (go_at_call 31; refine (rnew_bad first count _ HB.out).mono ?_; rintro e w2 ⟨rfl, hB⟩; have HB2 := Aside0.mk (below_step HB1.out hB); clear hB hq0 hq1 hq2)
    | (go_at_call 27; refine (awake_any _).mono ?_; rintro e w3 ⟨rfl, hB⟩; have HB3 := Aside0.mk (below_step HB2.out hB); clear hB))
  go_ret3
  exact ⟨rfl, HB3.out⟩

set_option maxRecDepth 100000 in
set_option maxHeartbeats 4000000 in
theorem begin_good (first count : Int) (A : Option Addr) (n c : Nat) (w : World) (hb : okN first count = true) :
    Calls Try.prog 10 #[.agg #[.int .i64 first, .int .i64 count, .slice A n c]] w fun e w' => BeginP first count w e w' := by
  have hu24 := Try.underlying24
  have HB := Aside0.mk hb
  have HQ := Aside0.mk (blk_new w (.cells #[.int .i64 first, .int .i64 count, .slice A n c] 24))
  clear hb
  go_enter Try.func10, Try.ntmps10
  go_wp2_with (first
    | (go_at_call 30; refine (new_good first count _ HB.out).mono ?_; rintro e w1 ⟨X, g, rfl, hX, hg, hS, hB⟩; have hq := (hB.block w.heap.size (blk_lt HQ.out)).trans HQ.out; have hq0 := (blk_cell hq 0).trans rfl; have hq1 := (blk_cell hq 1).trans rfl; have hq2 := (blk_cell hq 2).trans rfl; have HQ1 := Aside0.mk hq; have HB1 := Aside0.mk (below_step (below_alloc (Below.refl w.heap.size w) _) hB); have HXg := Aside0.mk (And.intro hX hg); have HS1 := Aside0.mk hS; clear hB hq hX hg hS)
    | (go_at_call 31; refine (rnew_good first count _ HB.out).mono ?_; rintro e w2 ⟨Y, h, rfl, hY, hh, hR, hB⟩; have HB2 := Aside0.mk (below_step HB1.out hB); have HYh := Aside0.mk (And.intro hY hh); have HS2 := Aside0.mk (HS1.out.below hB); have HR2 := Aside0.mk hR; clear hB hq0 hq1 hq2 hY hh hR)
    | (go_at_call 27; refine (awake_any _).mono ?_; rintro e w3 ⟨rfl, hB⟩; have HB3 := Aside0.mk (below_step HB2.out hB); have HS3 := Aside0.mk (HS2.out.below hB); have HR3 := Aside0.mk (HR2.out.below hB); clear hB))
  go_ret3
  have hX := HXg.out
  have hY := HYh.out
  have h1 := HS1.out.ltX
  have h2 := HS1.out.ltg
  have hsz : (w.alloc (.cells #[.int .i64 first, .int .i64 count, .slice A n c] 24)).heap.size = w.heap.size + 1 := by simp
  rw [hsz] at hX
  exact ⟨X, g, Y, h, rfl, by omega, by omega, by omega, by omega, by omega, by omega, by omega, by omega, HS3.out, HR3.out, HB3.out⟩
end Go.Proofs.Ytpcgmlnipeigjaa.H
