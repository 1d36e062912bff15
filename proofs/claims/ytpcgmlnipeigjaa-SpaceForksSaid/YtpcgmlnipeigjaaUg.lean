/- The reference of package space: Runs. -/
import Derived.Test.YtpcgmlnipeigjaaUf
namespace Go.Proofs.Ytpcgmlnipeigjaa.H
open Go.RowKit Go.Shelf Go.Proofs.YtpcgmlnipeigjaaW.PrintWords Go.Proofs.YtpcgmlnipeigjaaW.PrintLast Go.Proofs.YtpcgmlnipeigjaaW.PrintMore
set_option linter.unusedVariables false
set_option linter.unusedSimpArgs false

/-- The cells of areas. -/
def areaC (first : Int) (xs : List (Int × Int)) : List Value := xs.flatMap fun x => [.int .i64 (first + x.1), .int .i64 x.2]
theorem areaC_app (first : Int) (xs ys : List (Int × Int)) : areaC first (xs ++ ys) = areaC first xs ++ areaC first ys := by simp [areaC]
theorem areaC_one (first a k : Int) : areaC first [(a, k)] = [.int .i64 (first + a), .int .i64 k] := by simp [areaC]
theorem areaC_length (first : Int) (xs : List (Int × Int)) : (areaC first xs).length = xs.length * 2 := by
  induction xs with
  | nil => rfl
  | cons x r ih => have : areaC first (x :: r) = areaC first [x] ++ areaC first r := areaC_app first [x] r
                   rw [this, List.length_append, ih, List.length_cons]; simp [areaC]; omega
theorem areaC_get (first : Int) {xs : List (Int × Int)} {i : Nat} {a k : Int} (h : xs[i]? = some (a, k)) : (areaC first xs)[i * 2]? = some (.int .i64 (first + a)) ∧ (areaC first xs)[i * 2 + 1]? = some (.int .i64 k) := by
  induction xs generalizing i with
  | nil => simp at h
  | cons x r ih =>
    have e : areaC first (x :: r) = .int .i64 (first + x.1) :: .int .i64 x.2 :: areaC first r := by simp [areaC]
    rw [e]
    cases i with
    | zero => simp at h; subst h; exact ⟨rfl, rfl⟩
    | succ i =>
      have := ih (i := i) (by simpa using h)
      rw [show (i + 1) * 2 = i * 2 + 1 + 1 by omega]
      simpa using this
theorem areaC_set (first : Int) (t : List (Int × Int)) (a k v : Int) : (areaC first (t ++ [(a, k)])).set (t.length * 2 + 1) (.int .i64 v) = areaC first (t ++ [(a, v)]) := by
  rw [areaC_app, areaC_app, areaC_one, areaC_one, List.set_append_right _ _ (by rw [areaC_length]; omega), areaC_length]
  rw [show t.length * 2 + 1 - t.length * 2 = 1 by omega]
  rfl
theorem info31 : (Try.prog.info? 31).map (fun i => (i.zero, i.size, i.bytes)) = some (some (.agg #[.int .i64 0, .int .i64 0]), 2, 16) := by kernel_rfl

theorem row_last {W : World} {b N c : Nat} {A : Option Addr} {first a k : Int} {t : List (Int × Int)} (h : W.ownsRow b 31 2 (.slice A N c) N (areaC first (t ++ [(a, k)]))) :
    ∃ g, A = some ⟨g, 0, none⟩ ∧ b ≤ g ∧ N = t.length + 1 ∧ N ≤ c ∧ W.cell? ⟨g, t.length * 2, none⟩ = some (.int .i64 (first + a)) ∧ W.cell? ⟨g, t.length * 2 + 1, none⟩ = some (.int .i64 k) ∧ ∀ i, W.frozen? ⟨g, i, none⟩ = false := by
  have hl := h.1
  rw [areaC_length, List.length_append, List.length_singleton] at hl
  rcases h.2 with ⟨_, h0⟩ | ⟨g, cap, cur, hv, hb, hg, hc, _⟩
  · omega
  · injection hv with hA _ hcc
    subst hA
    subst hcc
    have hget := areaC_get first (xs := t ++ [(a, k)]) (i := t.length) (a := a) (k := k) (by simp)
    have h1 := h.cells (g := g) rfl _ _ hget.1
    have h2 := h.cells (g := g) rfl _ _ hget.2
    rw [add_plain] at h1 h2
    exact ⟨g, rfl, hb, by omega, hc, h1, h2, fun i => by simp [World.frozen?, hg]⟩
theorem runsL_len (l : List Int) : (runsL l).length ≤ l.length := by
  unfold runsL
  suffices h : ∀ m i r, (runsF m i r).length ≤ m by exact h _ _ _
  intro m
  induction m with
  | zero => intro i r; simp [runsF]
  | succ m ih =>
    intro i r
    simp only [runsF]
    split
    · simp
    · rw [List.length_append]
      have := ih (i + rz r + 1) (r.drop (rz r + 1))
      split <;> simp <;> omega

set_option maxRecDepth 100000 in
set_option maxHeartbeats 4000000 in
theorem rruns_any (Y g : Nat) (first res : Int) (l : List Int) (w : World) (hR : RfAt w Y g first l res) (hf : 0 ≤ first ∧ first ≤ 4096) (hl : l.length ≤ 4096) :
    Calls Try.prog 55 #[.pointer (some ⟨Y, 0, none⟩)] w fun e w' => ∃ A c, e = .returned (.slice A (runsL l).length c) ∧ w'.ownsRow w.heap.size 31 2 (.slice A (runsL l).length c) (runsL l).length (areaC first (runsL l)) ∧ Below w.heap.size w w' := by
  have hu74 := Try.underlying74
  have hu79 := Try.underlying79
  have hu31 := Try.underlying31
  have HR := Aside0.mk hR
  obtain ⟨K, hKl, hx1⟩ := hR.xk
  clear hR
  go_enter Try.func55, Try.ntmps55
  go_wp2
  clear hx1
  go_loopw [3, 12] (fun vv iv wr => ∃ (i : Int), iv = .int .i64 i ∧ 0 ≤ i ∧ i ≤ l.length ∧ Aside0 (wr.ownsRow w.heap.size 31 2 vv (runsL (l.take i.toNat)).length (areaC first (runsL (l.take i.toNat)))) ∧ Aside0 (Below w.heap.size w wr)) (fun _ iv _ => (l.length - intOf iv).toNat)
  case atStart => exact ⟨0, rfl, Int.le_refl _, by omega, ⟨World.ownsRow_nil _ _ _ _⟩, ⟨Below.refl _ _⟩⟩
  case round =>
    obtain ⟨i, rfl, i0, i1, HO, HW⟩ := hrel
    obtain ⟨xs, hxs⟩ : ∃ xs, runsL (l.take i.toNat) = xs := ⟨_, rfl⟩
    rw [hxs] at HO
    have hxl : xs.length ≤ i.toNat := by
      have := runsL_len (l.take i.toNat)
      rw [hxs, List.length_take] at this
      omega
    obtain ⟨N, hN⟩ : ∃ N, xs.length = N := ⟨_, rfl⟩
    rw [hN] at HO hxl
    obtain ⟨A, c, hv⟩ := own_slice HO.out
    rw [hv] at HO
    subst hv
    by_cases hlt' : i < (l.length : Int)
    · have hlt1 : decide (i < (l.length : Int)) = true := decide_eq_true hlt'
      obtain ⟨q, hq⟩ : ∃ q, l[i.toNat]? = some q := ⟨_, List.getElem?_eq_getElem (by omega)⟩
      have hRr := HR.out.below HW.out
      have hcell := hRr.at_ hq
      have hx0 := hRr.x0
      have w4 : wrap64 (i + 1) = i + 1 := by unfold wrap64; omega
      have hsc := runsL_take hq
      have hi1 : (i + 1).toNat = i.toNat + 1 := by omega
      rw [← hi1, hxs] at hsc
      have HXs := Aside0.mk hxs
      have HNx := Aside0.mk hN
      clear hxs hRr hq hN
      by_cases he : q = 0
      · subst he
        have w9 : IntKind.i64.wrap (first + i) = first + i := by rw [IntWalk.i64_left]; unfold wrap64; omega
        rcases List.eq_nil_or_concat xs with rfl | ⟨t, ⟨a, k⟩, rfl⟩
        · have hN := HNx.out
          have hN0 : decide (0 < N) = false := decide_eq_false (by rw [← hN]; simp)
          rw [bump_nil] at hsc
          have HC := Aside0.mk hsc
          have hi2 : (i.toNat : Int) = i := by omega
          rw [hi2] at HC
          have hN4 : N = 0 := by rw [← hN]; rfl
          have HN4 := Aside0.mk hN4
          clear hN hN4 hsc hi2
          go_wp2
          go_quiet (fail)
          go_wp2_with (at_builtin; refine print_append_cells (w0 := w) w.heap.size rfl (.tmp 54) (.tmp 62) 79 31 (.agg #[.int .i64 0, .int .i64 0]) 2 16 rfl Try.underlying79 info31 rfl (by omega) (by omega) _ N (areaC first []) [.int .i64 (first + i), .int .i64 1] rfl rfl rfl ?a1 ?aO ?aB ?aS ?aL ?_; (case a1 => intro u hu; simp at hu; rcases hu with rfl | rfl <;> rfl); (case aO => exact pw_own_below HO.out (pw_below_drewN (Below.refl wr.heap.size wr) nq)); (case aB => exact pw_below_drewN HW.out nq); (case aS => exact HW.out.size); (case aL => have := HN4.out; omega); intro v1 w1 ho1 hb1 _ _; have HO1 := Aside0.mk ho1; have HB1 := Aside0.mk hb1; clear ho1 hb1)
          refine ⟨⟨i + 1, rfl, by omega, by omega, ⟨?_⟩, HB1⟩, by simp [intOf]; omega⟩
          have ho := HO1.out
          rw [HN4.out] at ho
          rw [HC.out]
          exact ho
        · have hN := HNx.out
          rw [List.concat_eq_append] at HO hsc hN
          clear HNx
          obtain ⟨g2, rfl, hb, hN2, hNc, c0, c1, fz⟩ := row_last HO.out
          obtain ⟨p, hp⟩ : ∃ p : Nat, t.length = p := ⟨_, rfl⟩
          rw [hp] at c0 c1 hN2
          have f1 := fz (p * 2 + 1)
          have hpp : (0 : Int) ≤ p := by omega
          have w5 : IntKind.i64.wrap ((N : Int) - 1) = p := by rw [IntWalk.i64_left]; unfold wrap64; omega
          have hN0 : decide (0 < N) = true := decide_eq_true (by omega)
          have hpN : p < N := by omega
          have HK := Aside0.mk (show 0 ≤ a ∧ 0 ≤ k ∧ a + k ≤ 4096 by
            obtain ⟨a', k', e', h1, h2, _⟩ := runsL_good (l := l.take i.toNat) (x := (a, k)) (by rw [HXs.out]; simp)
            injection e' with e1 e2
            rw [List.length_take] at h2
            omega)
          by_cases e : a + k = i
          · have HE := Aside0.mk e
            have w6 : IntKind.i64.wrap (first + a + k) = first + i := by rw [IntWalk.i64_left]; have := HK.out; unfold wrap64; omega
            have HNN := Aside0.mk (And.intro hN (And.intro hN2 hp))
            rw [bump_hit (show a + k = (i.toNat : Int) by omega)] at hsc
            clear fz hN hN2 hp e hxl
            have HC := Aside0.mk hsc
            clear hsc
            have hk2 : wrap64 (k + 1) = k + 1 := by have := HK.out; unfold wrap64; omega
            go_wp2
            go_quiet (fail)
            go_wp2
            refine ⟨⟨i + 1, rfl, by omega, by omega, ⟨?_⟩, ⟨(pw_below_drewN HW.out nq).setCell (p := ⟨g2, p * 2 + 1, none⟩) hb _⟩⟩, by simp [intOf]; omega⟩
            have hN := HNN.out.1
            have hp := HNN.out.2.2
            have ho := ((pw_own_below HO.out (pw_below_drewN (Below.refl wr.heap.size wr) nq)).stored (p * 2 + 1) (.int .i64 (k + 1))).1
            rw [← hp, areaC_set] at ho
            rw [HC.out, ← hp, List.length_append, List.length_singleton]
            rw [List.length_append, List.length_singleton] at hN
            rw [hN]
            exact ho
          · obtain ⟨s, hs⟩ : ∃ s, first + a + k = s := ⟨_, rfl⟩
            have w6 : IntKind.i64.wrap (first + a + k) = s := by rw [IntWalk.i64_left]; have := HK.out; unfold wrap64; omega
            have hne : (s == first + i) = false := by simp; omega
            rw [bump_miss (show a + k ≠ (i.toNat : Int) by omega)] at hsc
            have HC := Aside0.mk hsc
            have hN4 : N ≤ 4096 := by omega
            have HNN := Aside0.mk (And.intro hN (And.intro hN2 hp))
            have hi2 : (i.toNat : Int) = i := by omega
            rw [hi2] at HC
            clear fz hN hN2 hp e hxl hsc hs hi2 f1
            go_wp2
            go_quiet (fail)
            go_wp2_with (at_builtin; refine print_append_cells (w0 := w) w.heap.size rfl (.tmp 54) (.tmp 62) 79 31 (.agg #[.int .i64 0, .int .i64 0]) 2 16 rfl Try.underlying79 info31 rfl (by omega) (by omega) _ N (areaC first (t ++ [(a, k)])) [.int .i64 (first + i), .int .i64 1] rfl rfl rfl ?a1 ?aO ?aB ?aS ?aL ?_; (case a1 => intro u hu; simp at hu; rcases hu with rfl | rfl <;> rfl); (case aO => exact pw_own_below HO.out (pw_below_drewN (Below.refl wr.heap.size wr) nq)); (case aB => exact pw_below_drewN HW.out nq); (case aS => exact HW.out.size); (case aL => omega); intro v1 w1 ho1 hb1 _ _; have HO1 := Aside0.mk ho1; have HB1 := Aside0.mk hb1; clear ho1 hb1)
            refine ⟨⟨i + 1, rfl, by omega, by omega, ⟨?_⟩, HB1⟩, by simp [intOf]; omega⟩
            have hN := HNN.out.1
            rw [HC.out, areaC_app, areaC_one, List.length_append, List.length_singleton, hN]
            exact HO1.out
      · have he1 : (q != 0) = true := by simp [he]
        rw [bump_ne he] at hsc
        have HC := Aside0.mk hsc
        clear hsc hi1 hxl
        go_wp2
        refine ⟨⟨i + 1, rfl, by omega, by omega, ?_, HW⟩, by simp [intOf]; omega⟩
        rw [HC.out, HNx.out]; exact HO
    · have hlt1 : decide (i < (l.length : Int)) = false := decide_eq_false hlt'
      have hi : i.toNat = l.length := by omega
      rw [hi, List.take_length] at hxs
      subst hxs
      have HNx := Aside0.mk hN
      clear hN
      go_wp2
      go_ret
      rw [HNx.out]
      exact ⟨A, c, rfl, HO.out, HW.out⟩
end Go.Proofs.Ytpcgmlnipeigjaa.H
