/- Package space: IndexFunc, ContainsFunc over within's closure; within as contracts. -/
import Derived.Test.YtpcgmlnipeigjaaSb
namespace Go.Proofs.Ytpcgmlnipeigjaa.H
open Go.RowKit Go.Proofs.YtpcgmlnipeigjaaW.PrintWords Go.Proofs.YtpcgmlnipeigjaaW.PrintLast Go.Proofs.YtpcgmlnipeigjaaW.PrintMore
set_option linter.unusedVariables false
set_option linter.unusedSimpArgs false

set_option maxHeartbeats 1000000 in
theorem wcl_any (q what : Int) (b : Nat) (w : World) (hb : w.heap[b]? = some (.cells #[.int .u8 what] 5 (0, 0))) :
    Calls Try.prog 54 #[.int .u8 q, .pointer (some ⟨b, 0, none⟩)] w fun e w' => e = .returned (.bool (q != what)) ∧ Below w.heap.size w w' := by
  have hx := (blk_cell hb 0).trans rfl
  clear hb
  go_enter Try.func54, Try.ntmps54
  go_wp2
  go_ret
  exact ⟨rfl, Below.refl _ _⟩

/-- Are n from at on all so? -/
def allIs (what : Int) (l : List Int) (at_ n : Nat) : Bool := ((l.drop at_).take n).all (· == what)

set_option maxRecDepth 100000 in
set_option maxHeartbeats 2000000 in
theorem index_any (what : Int) (b g c : Nat) (l : List Int) (at_ n : Nat) (w : World) (hb : w.heap[b]? = some (.cells #[.int .u8 what] 5 (0, 0))) (hg : RowAt .u8 5 w g l) (hn : at_ + n ≤ l.length) (hl : l.length ≤ 4096) :
    Calls Try.prog 58 #[.slice (some ⟨g, at_, none⟩) n c, .func (.func 54) #[] #[.pointer (some ⟨b, 0, none⟩)]] w fun e w' => (∃ r, e = .returned (.int .i64 r) ∧ decide (0 ≤ r) = !(allIs what l at_ n)) ∧ Below w.heap.size w w' := by
  have HB := Aside0.mk hb
  have HG := Aside0.mk hg
  clear hb hg
  go_enter Try.func58, Try.ntmps58
  go_wp2
  go_loopw [8] (fun iv wr => ∃ (i : Int), iv = .int .i64 i ∧ 0 ≤ i ∧ i ≤ n ∧ Aside0 (∀ j : Nat, (j : Int) < i → l[at_ + j]? = some what) ∧ Aside0 (Below w.heap.size w wr)) (fun iv _ => (n - intOf iv).toNat)
  case atStart => exact ⟨0, rfl, Int.le_refl _, by omega, ⟨fun j hj => by omega⟩, ⟨Below.refl _ _⟩⟩
  case round =>
    obtain ⟨i, rfl, i0, i1, HI, HW⟩ := hrel
    by_cases hlt : i < (n : Int)
    · have hlt1 : decide (i < (n : Int)) = true := decide_eq_true hlt
      obtain ⟨q, hq⟩ : ∃ q, l[at_ + i.toNat]? = some q := ⟨_, List.getElem?_eq_getElem (by omega)⟩
      have hcell : wr.cell? ⟨g, at_ + i.toNat, none⟩ = some (.int .u8 q) := (HG.out.keep (HW.out.block g HG.out.lt)).cell hq
      have w4 : wrap64 (i + 1) = i + 1 := by unfold wrap64; omega
      have HQ := Aside0.mk hq
      clear hq
      obtain ⟨B, hBq⟩ : ∃ B, (q != what) = B := ⟨_, rfl⟩
      have HBq := Aside0.mk hBq
      clear hBq
      cases B with
      | false =>
        go_wp2_with (go_at_call 54; refine (wcl_any q what b _ ((HW.out.block b (blk_lt HB.out)).trans HB.out)).mono ?_; rintro e w1 ⟨rfl, hB⟩; rw [HBq.out]; have HB1 := Aside0.mk (HW.out.trans (hB.mono HW.out.size)); clear hB)
        refine ⟨⟨i + 1, rfl, by omega, by omega, ⟨fun j hj => ?_⟩, HB1⟩, by simp [intOf]; omega⟩
        have hw : q = what := by simpa using HBq.out
        by_cases hj2 : (j : Int) < i
        · exact HI.out j hj2
        · obtain rfl : j = i.toNat := by omega
          rw [HQ.out, hw]
      | true =>
        go_wp2_with (go_at_call 54; refine (wcl_any q what b _ ((HW.out.block b (blk_lt HB.out)).trans HB.out)).mono ?_; rintro e w1 ⟨rfl, hB⟩; rw [HBq.out]; have HB1 := Aside0.mk (HW.out.trans (hB.mono HW.out.size)); clear hB)
        go_ret
        refine ⟨⟨_, rfl, ?_⟩, HB1.out⟩
        have hw : q ≠ what := by simpa using HBq.out
        have : allIs what l at_ n = false := by
          unfold allIs
          rw [List.all_eq_false]
          refine ⟨q, ?_, by simp [hw]⟩
          refine List.mem_of_getElem? (i := i.toNat) ?_
          rw [List.getElem?_take, if_pos (by omega), List.getElem?_drop]
          exact HQ.out
        rw [this]
        exact decide_eq_true i0
    · have hlt1 : decide (i < (n : Int)) = false := decide_eq_false hlt
      go_wp2
      go_ret
      refine ⟨⟨_, rfl, ?_⟩, HW.out⟩
      have : allIs what l at_ n = true := by
        unfold allIs
        rw [List.all_eq_true]
        intro x hx
        obtain ⟨j, hj⟩ := List.getElem?_of_mem hx
        rw [List.getElem?_take] at hj
        split at hj
        · rw [List.getElem?_drop, HI.out j (by omega)] at hj
          simp [← Option.some.inj hj]
        · cases hj
      rw [this]
      rfl

set_option maxHeartbeats 1000000 in
theorem contains_any (what : Int) (b g c : Nat) (l : List Int) (at_ n : Nat) (w : World) (hb : w.heap[b]? = some (.cells #[.int .u8 what] 5 (0, 0))) (hg : RowAt .u8 5 w g l) (hn : at_ + n ≤ l.length) (hl : l.length ≤ 4096) :
    Calls Try.prog 53 #[.slice (some ⟨g, at_, none⟩) n c, .func (.func 54) #[] #[.pointer (some ⟨b, 0, none⟩)]] w fun e w' => e = .returned (.bool (!(allIs what l at_ n))) ∧ Below w.heap.size w w' := by
  go_enter Try.func53, Try.ntmps53
  go_wp2_with (go_at_call 58; refine (index_any what b g c l at_ n _ hb hg hn hl).mono ?_; rintro e w1 ⟨⟨r, rfl, hr⟩, hB⟩; have HB1 := Aside0.mk hB; clear hB)
  go_ret
  exact ⟨by first | rfl | rw [hr], HB1.out⟩

theorem mid_run (g len K : Nat) (p a1 r : Int) (h1 : 0 ≤ p) (h2 : 1 ≤ a1) (h3 : p + a1 ≤ len) (hr : p + a1 = r) (hK : len ≤ K) (W : World) :
    (Instr.slice 51 (.slice (some ⟨g, 0, none⟩) len K) (some (.int .i64 p)) (some (.int .i64 r)) none).run Try.prog W = .ok (.slice (some ⟨g, p.toNat, none⟩) a1.toNat (K - p.toNat)) W := by
  subst hr
  obtain ⟨i0, hi, hzz⟩ := Option.map_eq_some_iff.1 info5
  simp only [Prod.mk.injEq] at hzz
  have hel : Try.prog.elem 51 = 5 := by simp [Program.elem, Try.underlying51]
  have hu : Try.prog.underlying 51 = some (.slice (Try.prog.elem 51)) := by rw [hel]; exact Try.underlying51
  rw [run_slice_lh W 51 (some ⟨g, 0, none⟩) len K hu .i64 .i64 p (p + a1) h1 (by omega) (by omega), hel]
  obtain ⟨q, rfl⟩ : ∃ q : Nat, p = q := ⟨p.toNat, by omega⟩
  obtain ⟨n, rfl⟩ : ∃ n : Nat, a1 = n := ⟨a1.toNat, by omega⟩
  have e1 : ((q : Int) + n).toNat - q = n := by omega
  have e2 : ¬ K = q := by omega
  have e3 : q ≠ K := fun e => e2 e.symm
  simp [sizeOf, typeInfo, hi, hzz.2.1, sliced, Result.andThen, e1, e2, e3, Addr.add]
  exact fun h => h.symm
/-- Where an area lies. -/
def inA (first : Int) (l : List Int) (a0 a1 : Int) : Bool := decide (first ≤ a0) && decide (1 ≤ a1) && decide (a0 - first ≤ l.length) && decide (a1 ≤ l.length - (a0 - first))
theorem inA_iff {first a0 a1 : Int} {l : List Int} : inA first l a0 a1 = true ↔ first ≤ a0 ∧ 1 ≤ a1 ∧ a0 - first ≤ l.length ∧ a1 ≤ l.length - (a0 - first) := by
  unfold inA
  simp [and_assoc]

set_option maxRecDepth 100000 in
set_option maxHeartbeats 2000000 in
theorem within_out (X g : Nat) (first res a0 a1 what : Int) (l : List Int) (c : Int → Int) (w : World) (hS : SpAt w X g first l c res) (hf : 0 ≤ first ∧ first ≤ 4096) (hl : l.length ≤ 4096) (ha : a0 ≤ 9223372036854775807) (ho : inA first l a0 a1 = false) :
    Calls Try.prog 36 #[.pointer (some ⟨X, 0, none⟩), .agg #[.int .i64 a0, .int .i64 a1], .int .u8 what] w fun e w' => e = .returned (.tuple #[.int .i64 0, .bool false]) ∧ Below w.heap.size w w' := by
  have hu54 := Try.underlying54
  have hu31 := Try.underlying31
  have hS1 := (hS.below (below_alloc (Below.refl _ _) (.cells #[.int .i64 a0, .int .i64 a1] 31)))
  have hS2 := (hS1.below (below_alloc (Below.refl _ _) (.cells #[.int .u8 what] 5)))
  have hx0 := hS2.x0
  obtain ⟨K, hKl, hx1⟩ := hS2.xk
  clear hS hS1 hS2
  by_cases h1 : a0 < first
  · have d1 : decide (a0 < first) = true := decide_eq_true h1
    go_enter Try.func36, Try.ntmps36
    go_wp2
    go_quiet (fail)
    go_wp2
    go_quiet (fail)
    go_wp2
    go_ret2
    exact ⟨rfl, pw_below_drewN (pw_below_drewN (below_alloc (below_alloc (Below.refl _ _) _) _) _) _⟩
  have d1 : decide (a0 < first) = false := decide_eq_false h1
  have w1 : wrap64 (a0 - first) = a0 - first := by unfold wrap64; omega
  by_cases h2 : a1 < 1
  · have d2 : decide (a1 < 1) = true := decide_eq_true h2
    go_enter Try.func36, Try.ntmps36
    go_wp2
    go_quiet (fail)
    go_wp2
    go_quiet (fail)
    go_wp2
    go_ret2
    exact ⟨rfl, pw_below_drewN (pw_below_drewN (below_alloc (below_alloc (Below.refl _ _) _) _) _) _⟩
  have d2 : decide (a1 < 1) = false := decide_eq_false h2
  by_cases h3 : (l.length : Int) < a0 - first
  · have d3 : decide ((l.length : Int) < a0 - first) = true := decide_eq_true h3
    go_enter Try.func36, Try.ntmps36
    go_wp2
    go_quiet (fail)
    go_wp2
    go_quiet (fail)
    go_wp2
    go_ret2
    exact ⟨rfl, pw_below_drewN (pw_below_drewN (below_alloc (below_alloc (Below.refl _ _) _) _) _) _⟩
  have d3 : decide ((l.length : Int) < a0 - first) = false := decide_eq_false h3
  have w2 : wrap64 (l.length - (a0 - first)) = l.length - (a0 - first) := by unfold wrap64; omega
  by_cases h4 : l.length - (a0 - first) < a1
  · have d4 : decide (l.length - (a0 - first) < a1) = true := decide_eq_true h4
    go_enter Try.func36, Try.ntmps36
    go_wp2
    go_quiet (fail)
    go_wp2
    go_quiet (fail)
    go_wp2
    go_ret2
    exact ⟨rfl, pw_below_drewN (pw_below_drewN (below_alloc (below_alloc (Below.refl _ _) _) _) _) _⟩
  · exfalso
    have := inA_iff (first := first) (a0 := a0) (a1 := a1) (l := l)
    rw [ho] at this
    have h := this.2 ⟨by omega, by omega, by omega, by omega⟩
    cases h

set_option maxRecDepth 100000 in
set_option maxHeartbeats 2000000 in
theorem within_in (X g : Nat) (first res a0 a1 p what : Int) (l : List Int) (c : Int → Int) (w : World) (hS : SpAt w X g first l c res) (hf : 0 ≤ first ∧ first ≤ 4096) (hl : l.length ≤ 4096) (hp : a0 - first = p) (h1 : 0 ≤ p) (h2 : 1 ≤ a1) (h3 : p ≤ l.length) (h4 : a1 ≤ l.length - p) :
    Calls Try.prog 36 #[.pointer (some ⟨X, 0, none⟩), .agg #[.int .i64 a0, .int .i64 a1], .int .u8 what] w fun e w' => e = .returned (.tuple #[.int .i64 p, .bool (allIs what l p.toNat a1.toNat)]) ∧ Below w.heap.size w w' := by
  have hu54 := Try.underlying54
  have hu31 := Try.underlying31
  have hS1 := (hS.below (below_alloc (Below.refl _ _) (.cells #[.int .i64 a0, .int .i64 a1] 31)))
  have hS2 := (hS1.below (below_alloc (Below.refl _ _) (.cells #[.int .u8 what] 5)))
  have hx0 := hS2.x0
  obtain ⟨K, hKl, hx1⟩ := hS2.xk
  have d1 : decide (a0 < first) = false := decide_eq_false (by omega)
  have w1 : wrap64 (a0 - first) = p := by unfold wrap64; omega
  have d2 : decide (a1 < 1) = false := decide_eq_false (by omega)
  have d3 : decide ((l.length : Int) < p) = false := decide_eq_false (by omega)
  have w2 : wrap64 (l.length - p) = l.length - p := by unfold wrap64; omega
  have d4 : decide (l.length - p < a1) = false := decide_eq_false (by omega)
  obtain ⟨r, hr⟩ : ∃ r, p + a1 = r := ⟨_, rfl⟩
  have w3 : IntKind.i64.wrap (p + a1) = r := by rw [IntWalk.i64_left]; unfold wrap64; omega
  have h5 : p ≤ r := by omega
  have h6 : r ≤ l.length := by omega
  have hra : r.toNat - p.toNat = a1.toNat := by omega
  have h7 : p < l.length := by omega
  clear hr
  have HS := Aside0.mk hS2
  have HP := Aside0.mk hp
  clear hS hS1 hS2 hp
  go_enter Try.func36, Try.ntmps36
  go_wp2
  go_quiet (fail)
  rename Nat => n1
  go_wp2
  go_quiet (fail)
  rename Nat => n2
  go_wp2
  have hB := pw_below_drewN (pw_below_drewN (below_alloc (below_alloc (Below.refl w.heap.size w) (.cells #[.int .i64 a0, .int .i64 a1] 31)) (.cells #[.int .u8 what] 5)) n1) n2
  have hC : SpAt ((((w.alloc (.cells #[.int .i64 a0, .int .i64 a1] 31)).alloc (.cells #[.int .u8 what] 5)).drewN n1).drewN n2) X g first l c res := (HS.out.below (pw_below_drewN (Below.refl _ _) n1)).below (pw_below_drewN (Below.refl _ _) n2)
  have hb5 : ((((w.alloc (.cells #[.int .i64 a0, .int .i64 a1] 31)).alloc (.cells #[.int .u8 what] 5)).drewN n1).drewN n2).heap[w.heap.size + 1]? = some (.cells #[.int .u8 what] 5 (0, 0)) :=
    ((pw_below_drewN (Below.refl (w.heap.size + 2) _) n2).block _ (by omega)).trans (((pw_below_drewN (Below.refl (w.heap.size + 2) _) n1).block _ (by omega)).trans (alloc_new' (by simp) _))
  have hba : ((((w.alloc (.cells #[.int .i64 a0, .int .i64 a1] 31)).alloc (.cells #[.int .u8 what] 5)).drewN n1).drewN n2).heap[w.heap.size]? = some (.cells #[.int .i64 a0, .int .i64 a1] 31 (0, 0)) :=
    ((pw_below_drewN (Below.refl (w.heap.size + 2) _) n2).block _ (by omega)).trans (((pw_below_drewN (Below.refl (w.heap.size + 2) _) n1).block _ (by omega)).trans ((Below.heap_alloc _ _ _ (by simp)).trans (blk_new w _)))
  obtain ⟨wC, hwC⟩ : ∃ x, (((w.alloc (.cells #[.int .i64 a0, .int .i64 a1] 31)).alloc (.cells #[.int .u8 what] 5)).drewN n1).drewN n2 = x := ⟨_, rfl⟩
  rw [hwC] at hB hC hb5 hba ⊢
  rw [w1]
  clear hwC hx0 hx1
  obtain ⟨K2, hKl2, hx1⟩ := hC.xk
  have hne2 : ¬ (K2 = p.toNat) := by omega
  have hrk : r ≤ (K2 : Int) := by omega
  have hpk : p < (K2 : Int) := by omega
  have ha1 := (blk_cell hba 1).trans rfl
  have HC := Aside0.mk hC
  have HB5 := Aside0.mk hb5
  have HBB := Aside0.mk hB
  have HLe := Aside0.mk (And.intro h1 (And.intro h2 (And.intro h3 h4)))
  clear hC hb5 hba hB h2 h3 h4 d1 d2 d3 d4 w1 w2
  go_region_held3 (fun w' => w'.cell? ⟨X, 1, none⟩ = some (.slice (some ⟨g, 0, none⟩) l.length K2) ∧ w'.cell? ⟨w.heap.size, 1, none⟩ = some (.int .i64 a1) ∧ Below w.heap.size w w') (first | exact ⟨hx1, ha1, below_drew HBB.out⟩ | exact ⟨cell_later hBn hx1, cell_later hBn ha1, below_step (below_drew HBB.out) hBn⟩) (first
    | (go_at_call 53; refine (contains_any what (w.heap.size + 1) g _ l p.toNat a1.toNat wC.drew (show wC.drew.heap[w.heap.size + 1]? = _ from HB5.out) (HC.out.row.keep rfl) (by have := HLe.out; omega) hl).mono ?_; rintro e w' ⟨rfl, hBn⟩))
  go_wp2
  go_ret2
  rename_i hS9
  exact ⟨by simp, hS9.2.2⟩
end Go.Proofs.Ytpcgmlnipeigjaa.H
