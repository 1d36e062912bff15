/- The reference of package space: what it counts; its area, and what it lets be something. -/
import Derived.Test.YtpcgmlnipeigjaaSr
import Derived.Test.YtpcgmlnipeigjaaSk
import Derived.Deep.Cut
namespace Go.Proofs.Ytpcgmlnipeigjaa.H
open Go.RowKit Go.Proofs.YtpcgmlnipeigjaaW.PrintWords Go.Proofs.YtpcgmlnipeigjaaW.PrintLast Go.Proofs.YtpcgmlnipeigjaaW.PrintMore
set_option linter.unusedVariables false
set_option linter.unusedSimpArgs false

theorem RfAt.drewN {w : World} {Y g : Nat} {first res : Int} {l : List Int} (h : RfAt w Y g first l res) (n : Nat) : RfAt (w.drewN n) Y g first l res := h.below (pw_below_drewN (Below.refl _ _) n)
theorem cnt_take {l : List Int} {i : Nat} {q v : Int} (h : l[i]? = some q) : cnt (l.take (i + 1)) v = cnt (l.take i) v + (if q = v then 1 else 0) := by
  obtain ⟨h1, h2⟩ := List.getElem?_eq_some_iff.1 h
  rw [List.take_add_one, h, Option.toList]
  unfold cnt
  rw [List.count_append]
  by_cases e : q = v
  · subst e; simp
  · rw [if_neg e, List.count_singleton, if_neg (by simpa using e)]; simp

set_option maxRecDepth 100000 in
set_option maxHeartbeats 2000000 in
theorem rcount_q (Y g : Nat) (first res what v : Int) (l : List Int) (w : World) (hR : RfAt w Y g first l res) (hl : l.length ≤ 4096) (hv : cnt l what = v) :
    Calls Try.prog 51 #[.pointer (some ⟨Y, 0, none⟩), .int .i64 what] w fun e w' => e = .returned (.int .i64 v) ∧ w' = w := by
  have hu74 := Try.underlying74
  subst hv
  obtain ⟨K, hKl, hx1⟩ := hR.xk
  have HR := Aside0.mk hR
  clear hR
  go_enter Try.func51, Try.ntmps51
  go_wp2
  clear hx1
  go_loopw [5, 13] (fun nv iv wr => ∃ (n i : Int), nv = .int .i64 n ∧ iv = .int .i64 i ∧ 0 ≤ i ∧ i ≤ l.length ∧ n = cnt (l.take i.toNat) what ∧ wr = w) (fun _ iv _ => (l.length - intOf iv).toNat)
  case atStart => exact ⟨0, 0, rfl, rfl, Int.le_refl _, by omega, by simp [cnt], rfl⟩
  case round =>
    obtain ⟨n, i, rfl, rfl, i0, i1, hn, rfl⟩ := hrel
    have hn9 : 0 ≤ n ∧ n ≤ 4096 := by have := cnt_nn (l.take i.toNat) what; simp at this; omega
    by_cases hlt' : i < (l.length : Int)
    · have hlt1 : decide (i < (l.length : Int)) = true := decide_eq_true hlt'
      obtain ⟨q, hq⟩ : ∃ q, l[i.toNat]? = some q := ⟨_, List.getElem?_eq_getElem (by omega)⟩
      have hcell := HR.out.at_ hq
      have hcs := cnt_take (v := what) hq
      have hi1 : (i + 1).toNat = i.toNat + 1 := by omega
      have w4 : wrap64 (i + 1) = i + 1 := by unfold wrap64; omega
      have w5 : wrap64 (n + 1) = n + 1 := by unfold wrap64; omega
      have HN := Aside0.mk hn
      clear hn
      by_cases he : q = what
      · subst he
        have he1 : (q == q) = true := by simp
        rw [if_pos rfl] at hcs
        clear hq
        go_wp2
        refine ⟨⟨n + 1, i + 1, rfl, rfl, by omega, by omega, ?_, by simp⟩, by simp [intOf]; omega⟩
        rw [hi1, hcs, HN.out]
      · have he1 : (q == what) = false := by simp [he]
        rw [if_neg he] at hcs
        clear hq
        go_wp2
        refine ⟨⟨n, i + 1, rfl, rfl, by omega, by omega, ?_, by simp⟩, by simp [intOf]; omega⟩
        rw [hi1, hcs, HN.out]; omega
    · have hlt1 : decide (i < (l.length : Int)) = false := decide_eq_false hlt'
      have HN := Aside0.mk hn
      clear hn
      go_wp2
      go_ret
      have hi : i.toNat = l.length := by omega
      have hn2 := HN.out
      rw [hi, List.take_length] at hn2
      exact ⟨by rw [← hn2]; rfl, rfl⟩
set_option maxHeartbeats 1000000 in
theorem rused_q (Y g : Nat) (first res v : Int) (l : List Int) (w : World) (hR : RfAt w Y g first l res) (hl : l.length ≤ 4096) (hv : cnt l 1 = v) :
    Calls Try.prog 45 #[.pointer (some ⟨Y, 0, none⟩)] w fun e w' => e = .returned (.int .i64 v) ∧ w' = w := by
  go_enter Try.func45, Try.ntmps45
  go_wp2_with (go_at_call 51; refine (rcount_q Y g first res 1 v l _ hR hl hv).mono ?_; rintro e w1 ⟨rfl, rfl⟩)
  go_ret
  exact ⟨rfl, rfl⟩
set_option maxHeartbeats 1000000 in
theorem rwaiting_q (Y g : Nat) (first res v : Int) (l : List Int) (w : World) (hR : RfAt w Y g first l res) (hl : l.length ≤ 4096) (hv : cnt l 2 = v) :
    Calls Try.prog 46 #[.pointer (some ⟨Y, 0, none⟩)] w fun e w' => e = .returned (.int .i64 v) ∧ w' = w := by
  go_enter Try.func46, Try.ntmps46
  go_wp2_with (go_at_call 51; refine (rcount_q Y g first res 2 v l _ hR hl hv).mono ?_; rintro e w1 ⟨rfl, rfl⟩)
  go_ret
  exact ⟨rfl, rfl⟩
set_option maxHeartbeats 1000000 in
theorem rleft_q (Y g : Nat) (first res v : Int) (l : List Int) (w : World) (hR : RfAt w Y g first l res) (hl : l.length ≤ 4096) (hr : 0 ≤ res ∧ res ≤ 4096) (hv : cnt l 0 - res = v) :
    Calls Try.prog 26 #[.pointer (some ⟨Y, 0, none⟩)] w fun e w' => e = .returned (.int .i64 v) ∧ ∃ m, w' = w.drewN m := by
  have hu74 := Try.underlying74
  have h9 := cnt_nn l 0
  obtain ⟨p, hp⟩ : ∃ p, cnt l 0 = p := ⟨_, rfl⟩
  have hx2 := hR.x2
  rw [hp] at hv h9
  have e1 : IntKind.i64.wrap (p - res) = v := by rw [IntWalk.i64_left]; unfold wrap64; omega
  have HR := Aside0.mk hR
  clear hR hv
  go_enter Try.func26, Try.ntmps26
  go_wp2
  go_quiet ((go_at_call 51; exact Calls.quiet_of_same (rcount_q Y g first res 0 p l _ (HR.out.drewN _) hl hp)))
  go_wp2
  go_ret
  exact ⟨rfl, _, rfl⟩
end Go.Proofs.Ytpcgmlnipeigjaa.H
