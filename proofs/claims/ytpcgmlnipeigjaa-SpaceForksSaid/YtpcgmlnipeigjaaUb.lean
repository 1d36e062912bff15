/- The reference of package space: all of an area, and what it lets be something. -/
import Derived.Test.YtpcgmlnipeigjaaUa
import Derived.Test.YtpcgmlnipeigjaaSg
namespace Go.Proofs.Ytpcgmlnipeigjaa.H
open Go.RowKit Go.Proofs.YtpcgmlnipeigjaaW.PrintWords Go.Proofs.YtpcgmlnipeigjaaW.PrintLast Go.Proofs.YtpcgmlnipeigjaaW.PrintMore
set_option linter.unusedVariables false
set_option linter.unusedSimpArgs false

set_option maxRecDepth 100000 in
set_option maxHeartbeats 2000000 in
theorem rall_out (Y g : Nat) (first res a0 a1 what : Int) (l : List Int) (w : World) (hR : RfAt w Y g first l res) (hf : 0 ≤ first ∧ first ≤ 4096) (hl : l.length ≤ 4096) (ha : a0 ≤ 9223372036854775807) (ho : inA first l a0 a1 = false) :
    Calls Try.prog 57 #[.pointer (some ⟨Y, 0, none⟩), .agg #[.int .i64 a0, .int .i64 a1], .int .i64 what] w fun e w' => e = .returned (.bool false) ∧ Below w.heap.size w w' := by
  have hu74 := Try.underlying74
  have hu31 := Try.underlying31
  have hS1 := (hR.below (below_alloc (Below.refl _ _) (.cells #[.int .i64 a0, .int .i64 a1] 31)))
  have hx0 := hS1.x0
  obtain ⟨K, hKl, hx1⟩ := hS1.xk
  clear hR hS1
  by_cases h1 : a1 < 1
  · have d1 : decide (a1 < 1) = true := decide_eq_true h1
    go_enter Try.func57, Try.ntmps57
    go_wp2
    go_quiet (fail)
    go_wp2
    go_ret
    exact ⟨rfl, pw_below_drewN (below_alloc (Below.refl _ _) _) _⟩
  have d1 : decide (a1 < 1) = false := decide_eq_false h1
  by_cases h2 : (l.length : Int) < a1
  · have d2 : decide ((l.length : Int) < a1) = true := decide_eq_true h2
    go_enter Try.func57, Try.ntmps57
    go_wp2
    go_quiet (fail)
    go_wp2
    go_ret
    exact ⟨rfl, pw_below_drewN (below_alloc (Below.refl _ _) _) _⟩
  have d2 : decide ((l.length : Int) < a1) = false := decide_eq_false h2
  by_cases h3 : a0 < first
  · have d3 : decide (a0 < first) = true := decide_eq_true h3
    go_enter Try.func57, Try.ntmps57
    go_wp2
    go_quiet (fail)
    go_wp2
    go_ret
    exact ⟨rfl, pw_below_drewN (below_alloc (Below.refl _ _) _) _⟩
  have d3 : decide (a0 < first) = false := decide_eq_false h3
  have w1 : IntKind.i64.wrap (a0 - first) = a0 - first := by rw [IntWalk.i64_left]; unfold wrap64; omega
  have w2 : IntKind.i64.wrap (l.length - a1) = l.length - a1 := by rw [IntWalk.i64_left]; unfold wrap64; omega
  by_cases h4 : l.length - a1 < a0 - first
  · have d4 : decide (IntKind.i64.wrap (l.length - a1) < IntKind.i64.wrap (a0 - first)) = true := by rw [w1, w2]; exact decide_eq_true h4
    clear w1 w2
    go_enter Try.func57, Try.ntmps57
    go_wp2
    go_quiet (fail)
    go_wp2
    go_ret
    exact ⟨rfl, pw_below_drewN (below_alloc (Below.refl _ _) _) _⟩
  · exfalso
    have := inA_iff (first := first) (a0 := a0) (a1 := a1) (l := l)
    rw [ho] at this
    have h := this.2 ⟨by omega, by omega, by omega, by omega⟩
    cases h

set_option maxRecDepth 100000 in
set_option maxHeartbeats 2000000 in
theorem rall_in (Y g : Nat) (first res a0 a1 p what : Int) (l : List Int) (w : World) (hR : RfAt w Y g first l res) (hf : 0 ≤ first ∧ first ≤ 4096) (hl : l.length ≤ 4096) (hp : a0 - first = p) (h1 : 0 ≤ p) (h2 : 1 ≤ a1) (h3 : p + a1 ≤ l.length) :
    Calls Try.prog 57 #[.pointer (some ⟨Y, 0, none⟩), .agg #[.int .i64 a0, .int .i64 a1], .int .i64 what] w fun e w' => e = .returned (.bool (allIs what l p.toNat a1.toNat)) ∧ Below w.heap.size w w' := by
  have hu74 := Try.underlying74
  have hu31 := Try.underlying31
  have hS1 := (hR.below (below_alloc (Below.refl _ _) (.cells #[.int .i64 a0, .int .i64 a1] 31)))
  have hx0 := hS1.x0
  obtain ⟨K, hKl, hx1⟩ := hS1.xk
  have HR := Aside0.mk hR
  have HB0 := Aside0.mk (below_alloc (Below.refl w.heap.size w) (.cells #[.int .i64 a0, .int .i64 a1] 31))
  have HC0 := Aside0.mk (blk_new w (.cells #[.int .i64 a0, .int .i64 a1] 31))
  have d1 : decide (a1 < 1) = false := decide_eq_false (by omega)
  have d2 : decide ((l.length : Int) < a1) = false := decide_eq_false (by omega)
  have d3 : decide (a0 < first) = false := decide_eq_false (by omega)
  have w1 : IntKind.i64.wrap (a0 - first) = p := by rw [IntWalk.i64_left]; unfold wrap64; omega
  have w2 : IntKind.i64.wrap (l.length - a1) = l.length - a1 := by rw [IntWalk.i64_left]; unfold wrap64; omega
  have d4 : decide (IntKind.i64.wrap (l.length - a1) < IntKind.i64.wrap (a0 - first)) = false := by rw [w1, w2]; exact decide_eq_false (by omega)
  clear hR hS1 w2
  have HW1 := Aside0.mk w1
  clear w1
  go_enter Try.func57, Try.ntmps57
  go_wp2
  go_quiet (fail)
  rename Nat => n1
  clear d1 d2 d3 d4 hx0 hx1
  have HB1 := Aside0.mk (pw_below_drewN HB0.out n1)
  have HC1 := Aside0.mk (show ((w.alloc (.cells #[.int .i64 a0, .int .i64 a1] 31)).drewN n1).heap[w.heap.size]? = some (.cells #[.int .i64 a0, .int .i64 a1] 31 (0, 0)) from HC0.out)
  have hp' := hp
  clear hp
  go_wp2
  go_loopw [7] (fun iv wr => ∃ (i : Int), iv = .int .i64 i ∧ 0 ≤ i ∧ i ≤ a1 ∧ Aside0 (∀ j : Nat, p.toNat ≤ j → j < p.toNat + i.toNat → l[j]? = some what) ∧ Aside0 (Below w.heap.size w wr) ∧ Aside0 (wr.heap[w.heap.size]? = some (.cells #[.int .i64 a0, .int .i64 a1] 31 (0, 0)))) (fun iv _ => (a1 - intOf iv).toNat)
  case atStart => exact ⟨0, rfl, Int.le_refl _, by omega, ⟨fun j h1 h2 => by omega⟩, HB1, HC1⟩
  case round =>
    obtain ⟨i, rfl, i0, i1, HI, HB, HC⟩ := hrel
    have ha1 := (blk_cell HC.out 1).trans rfl
    have ha0 := (blk_cell HC.out 0).trans rfl
    have hRr := HR.out.below HB.out
    have hx0 := hRr.x0
    obtain ⟨K2, hKl2, hx1⟩ := hRr.xk
    by_cases hlt : i < a1
    · have hlt1 : decide (i < a1) = true := decide_eq_true hlt
      obtain ⟨r, hr⟩ : ∃ r, p + i = r := ⟨_, rfl⟩
      obtain ⟨q, hq⟩ : ∃ q, l[r.toNat]? = some q := ⟨_, List.getElem?_eq_getElem (by omega)⟩
      have hcell := hRr.at_ hq
      have w4 : wrap64 (i + 1) = i + 1 := by unfold wrap64; omega
      have w5 : IntKind.i64.wrap (IntKind.i64.wrap p + i) = r := by rw [IntWalk.i64_left p, IntWalk.i64_left]; unfold wrap64; omega
      have hr0 : 0 ≤ r := by omega
      have hrl : r < (l.length : Int) := by omega
      have HQ := Aside0.mk (And.intro hr hq)
      clear hRr hq hr
      by_cases he : q = what
      · subst he
        have he1 : (q == q) = true := by simp
        go_wp2
        go_quiet (fail)
        rename Nat => n2
        go_wp2
        refine ⟨⟨i + 1, rfl, by omega, by omega, ⟨fun j h1 h2 => ?_⟩, ⟨pw_below_drewN HB.out _⟩, ⟨HC.out⟩⟩, by simp [intOf]; omega⟩
        by_cases hj : j < p.toNat + i.toNat
        · exact HI.out j h1 hj
        · have hr := HQ.out.1
          rw [show j = r.toNat by omega]
          exact HQ.out.2
      · have he1 : (q != what) = true := by simp [he]
        go_wp2
        go_quiet (fail)
        go_wp2
        go_ret
        refine ⟨?_, pw_below_drewN HB.out _⟩
        have hf : allIs what l p.toNat a1.toNat = false := by
          cases h : allIs what l p.toNat a1.toNat with
          | false => rfl
          | true =>
            exfalso
            have hr := HQ.out.1
            have h5 := (allIs_iff (by omega)).1 h r.toNat (by omega) (by omega)
            rw [HQ.out.2] at h5
            cases h5
            exact he rfl
        rw [hf]
        rfl
    · have hlt1 : decide (i < a1) = false := decide_eq_false hlt
      clear hRr
      go_wp2
      go_ret
      refine ⟨?_, HB.out⟩
      have ht : allIs what l p.toNat a1.toNat = true := (allIs_iff (by omega)).2 (fun j h1 h2 => HI.out j h1 (by omega))
      rw [ht]
      rfl
end Go.Proofs.Ytpcgmlnipeigjaa.H
