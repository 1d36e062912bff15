/- Package space and its reference: Has of both. -/
import Derived.Test.YtpcgmlnipeigjaaUd
import Derived.Test.YtpcgmlnipeigjaaSs
namespace Go.Proofs.Ytpcgmlnipeigjaa.H
open Go.RowKit Go.Shelf Go.Proofs.YtpcgmlnipeigjaaW.PrintWords Go.Proofs.YtpcgmlnipeigjaaW.PrintLast Go.Proofs.YtpcgmlnipeigjaaW.PrintMore
set_option linter.unusedVariables false
set_option linter.unusedSimpArgs false

/-- Is it a sector that is not free? -/
def hasL (first : Int) (l : List Int) (n : Int) : Bool := decide (first ≤ n) && decide (n - first < l.length) && (l.getD (n - first).toNat 0 != 0)

set_option maxRecDepth 100000 in
set_option maxHeartbeats 2000000 in
theorem rhas_q (Y g : Nat) (first res n : Int) (l : List Int) (w : World) (hR : RfAt w Y g first l res) (hf : 0 ≤ first ∧ first ≤ 4096) (hl : l.length ≤ 4096) (hn : n ≤ 9223372036854775807) (b : Bool) (hb : hasL first l n = b) :
    Calls Try.prog 48 #[.pointer (some ⟨Y, 0, none⟩), .int .i64 n] w fun e w' => e = .returned (.bool b) ∧ ∃ m, w' = w.drewN m := by
  have hu74 := Try.underlying74
  have hx0 := hR.x0
  obtain ⟨K, hKl, hx1⟩ := hR.xk
  subst hb
  by_cases h1 : first ≤ n
  · have d1 : decide (first ≤ n) = true := decide_eq_true h1
    have w1 : IntKind.i64.wrap (n - first) = n - first := by rw [IntWalk.i64_left]; unfold wrap64; omega
    obtain ⟨p, hp⟩ : ∃ p, n - first = p := ⟨_, rfl⟩
    have hp0 : 0 ≤ p := by omega
    rw [hp] at w1
    by_cases h2 : p < l.length
    · obtain ⟨q, hq⟩ : ∃ q, l[p.toNat]? = some q := ⟨_, List.getElem?_eq_getElem (by omega)⟩
      have hcell := hR.at_ hq
      have hv : hasL first l n = (q != 0) := by
        unfold hasL
        rw [d1, hp, decide_eq_true h2, List.getD_eq_getElem?_getD, hq]
        rfl
      rw [hv]
      rw [← hp] at w1
      have w2 : IntKind.i64.wrap (n - first) = p := by rw [w1, hp]
      have HP := Aside0.mk hp
      clear hR hq hp hv w1
      have d2 : decide (p < (l.length : Int)) = true := decide_eq_true h2
      obtain ⟨B, hB⟩ : ∃ B, (q != 0) = B := ⟨_, rfl⟩
      rw [hB]
      go_enter Try.func48, Try.ntmps48
      go_wp2
      go_quiet (fail)
      go_wp2
      go_ret
      exact ⟨rfl, _, rfl⟩
    · have hv : hasL first l n = false := by
        unfold hasL
        rw [d1, hp, decide_eq_false h2]
        rfl
      rw [hv]
      rw [← hp] at w1
      have w2 : IntKind.i64.wrap (n - first) = p := by rw [w1, hp]
      clear hR hp hv w1
      have d2 : decide (p < (l.length : Int)) = false := decide_eq_false h2
      go_enter Try.func48, Try.ntmps48
      go_wp2
      go_quiet (fail)
      go_wp2
      go_ret
      exact ⟨rfl, _, rfl⟩
  · have d1 : decide (first ≤ n) = false := decide_eq_false h1
    have hv : hasL first l n = false := by unfold hasL; rw [d1]; rfl
    rw [hv]
    clear hR hv
    go_enter Try.func48, Try.ntmps48
    go_wp2
    go_quiet (fail)
    go_wp2
    go_ret
    exact ⟨rfl, _, rfl⟩
set_option maxRecDepth 100000 in
set_option maxHeartbeats 2000000 in
theorem has_q (X g : Nat) (first res n : Int) (l : List Int) (c : Int → Int) (w : World) (hS : SpAt w X g first l c res) (hf : 0 ≤ first ∧ first ≤ 4096) (hl : l.length ≤ 4096) (hn : n ≤ 9223372036854775807) (b : Bool) (hb : hasL first l n = b) :
    Calls Try.prog 28 #[.pointer (some ⟨X, 0, none⟩), .int .i64 n] w fun e w' => e = .returned (.bool b) ∧ ∃ m, w' = w.drewN m := by
  have hu54 := Try.underlying54
  have hx0 := hS.x0
  have HS := Aside0.mk hS
  obtain ⟨K, hKl, hx1⟩ := hS.xk
  subst hb
  by_cases h1 : first ≤ n
  · have d1 : decide (first ≤ n) = true := decide_eq_true h1
    have w1 : IntKind.i64.wrap (n - first) = n - first := by rw [IntWalk.i64_left]; unfold wrap64; omega
    obtain ⟨p, hp⟩ : ∃ p, n - first = p := ⟨_, rfl⟩
    have hp0 : 0 ≤ p := by omega
    rw [hp] at w1
    by_cases h2 : p < l.length
    · obtain ⟨q, hq⟩ : ∃ q, l[p.toNat]? = some q := ⟨_, List.getElem?_eq_getElem (by omega)⟩
      have hcell := hS.at_ hq
      have hv : hasL first l n = (q != 0) := by
        unfold hasL
        rw [d1, hp, decide_eq_true h2, List.getD_eq_getElem?_getD, hq]
        rfl
      rw [hv]
      rw [← hp] at w1
      have w2 : IntKind.i64.wrap (n - first) = p := by rw [w1, hp]
      have HP := Aside0.mk hp
      clear hS hq hp hv w1
      have d2 : decide (p < (l.length : Int)) = true := decide_eq_true h2
      obtain ⟨B, hB⟩ : ∃ B, (q != 0) = B := ⟨_, rfl⟩
      rw [hB]
      go_enter Try.func28, Try.ntmps28
      go_wp2
      go_quiet ((go_at_call 32; exact Calls.quiet_of_same (made_q X g first res l c _ (HS.out.drewN _))))
      go_wp2
      go_ret
      exact ⟨rfl, _, rfl⟩
    · have hv : hasL first l n = false := by
        unfold hasL
        rw [d1, hp, decide_eq_false h2]
        rfl
      rw [hv]
      rw [← hp] at w1
      have w2 : IntKind.i64.wrap (n - first) = p := by rw [w1, hp]
      clear hS hp hv w1
      have d2 : decide (p < (l.length : Int)) = false := decide_eq_false h2
      go_enter Try.func28, Try.ntmps28
      go_wp2
      go_quiet ((go_at_call 32; exact Calls.quiet_of_same (made_q X g first res l c _ (HS.out.drewN _))))
      go_wp2
      go_ret
      exact ⟨rfl, _, rfl⟩
  · have d1 : decide (first ≤ n) = false := decide_eq_false h1
    have hv : hasL first l n = false := by unfold hasL; rw [d1]; rfl
    rw [hv]
    clear hS hv
    go_enter Try.func28, Try.ntmps28
    go_wp2
    go_quiet ((go_at_call 32; exact Calls.quiet_of_same (made_q X g first res l c _ (HS.out.drewN _))))
    go_wp2
    go_ret
    exact ⟨rfl, _, rfl⟩
end Go.Proofs.Ytpcgmlnipeigjaa.H
