/- The reference of package space: Take. -/
import Derived.Test.YtpcgmlnipeigjaaUg
namespace Go.Proofs.Ytpcgmlnipeigjaa.H
open Go.RowKit Go.Shelf Go.Proofs.YtpcgmlnipeigjaaW.PrintWords Go.Proofs.YtpcgmlnipeigjaaW.PrintLast Go.Proofs.YtpcgmlnipeigjaaW.PrintMore
set_option linter.unusedVariables false
set_option linter.unusedSimpArgs false

theorem row_at {W : World} {b N c : Nat} {A : Option Addr} {first a k : Int} {xs : List (Int × Int)} {j : Nat} (h : W.ownsRow b 31 2 (.slice A N c) N (areaC first xs)) (hj : xs[j]? = some (a, k)) :
    ∃ g, A = some ⟨g, 0, none⟩ ∧ b ≤ g ∧ W.cell? ⟨g, j * 2, none⟩ = some (.int .i64 (first + a)) ∧ W.cell? ⟨g, j * 2 + 1, none⟩ = some (.int .i64 k) := by
  have hl := h.1
  rw [areaC_length] at hl
  obtain ⟨hlt, _⟩ := List.getElem?_eq_some_iff.1 hj
  rcases h.2 with ⟨_, h0⟩ | ⟨g, cap, cur, hv, hb, hg, hc, _⟩
  · omega
  · injection hv with hA _ hcc
    subst hA
    subst hcc
    have hget := areaC_get first hj
    have h1 := h.cells (g := g) rfl _ _ hget.1
    have h2 := h.cells (g := g) rfl _ _ hget.2
    rw [add_plain] at h1 h2
    exact ⟨g, rfl, hb, h1, h2⟩
theorem find_none {α : Type} (p : α → Bool) (xs : List α) (h : ∀ (j : Nat) x, xs[j]? = some x → p x = false) : xs.find? p = none := by
  refine List.find?_eq_none.2 (fun y hy => ?_)
  obtain ⟨j, hj⟩ := List.getElem?_of_mem hy
  rw [h j y hj]; simp
theorem find_at {α : Type} (p : α → Bool) (xs : List α) (i : Nat) (x : α) (hi : xs[i]? = some x) (hx : p x = true) (h : ∀ (j : Nat) y, j < i → xs[j]? = some y → p y = false) : xs.find? p = some x := by
  obtain ⟨hlt, hxe⟩ := List.getElem?_eq_some_iff.1 hi
  have e : xs = xs.take i ++ [x] ++ xs.drop (i + 1) := by
    rw [List.append_assoc, List.singleton_append, ← hxe, ← List.drop_eq_getElem_cons hlt, List.take_append_drop]
  rw [e]
  refine find_hit p _ x _ (fun y hy => ?_) hx
  obtain ⟨j, hj⟩ := List.getElem?_of_mem hy
  rw [List.getElem?_take] at hj
  split at hj
  · exact h j y (by assumption) hj
  · cases hj

set_option maxRecDepth 100000 in
set_option maxHeartbeats 4000000 in
theorem rtake_any (n0 Y g : Nat) (first res n : Int) (l : List Int) (w : World) (hR : RfAt w Y g first l res) (hs : Sane first l res) (hY : n0 ≤ Y) (hg : n0 ≤ g) :
    Calls Try.prog 38 #[.pointer (some ⟨Y, 0, none⟩), .int .i64 n] w fun e w' => RtP n0 Y g first (takeL first l n res).2 res (.tuple #[.int .i64 (takeL first l n res).1.1, .int .i64 (takeL first l n res).1.2]) w e w' := by
  have hu79 := Try.underlying79
  have hu31 := Try.underlying31
  have hlt := hR.ltY
  have hltg := hR.ltg
  have hl := hs.len
  have hr9 := hs.r4
  have hr0 := hs.r0
  have hf : 0 ≤ first ∧ first ≤ 4096 := by have := hs.f0; have := hs.fl; omega
  have HR := Aside0.mk hR
  clear hR hs
  by_cases h1 : n < 1
  · have d1 : decide (n < 1) = true := decide_eq_true h1
    have htk : takeL first l n res = ((0, 1), l) := if_pos h1
    rw [htk]
    clear htk
    go_enter Try.func38, Try.ntmps38
    go_wp2
    go_ret2
    exact ⟨rfl, HR.out, Mv.refl⟩
  have d1 : decide (n < 1) = false := decide_eq_false h1
  obtain ⟨L, hL⟩ : ∃ L, cnt l 0 - res = L := ⟨_, rfl⟩
  have HL := Aside0.mk hL
  by_cases h2 : L < n
  · have d2 : decide (L < n) = true := decide_eq_true h2
    have htk : takeL first l n res = ((0, 2), l) := by unfold takeL; rw [if_neg h1, hL, if_pos h2]
    rw [htk]
    clear htk hL
    go_enter Try.func38, Try.ntmps38
    go_wp2_with (go_at_call 26; refine (rleft_q Y g first res L l _ HR.out hl ⟨hr0, hr9⟩ HL.out).mono ?_; rintro e w2 ⟨rfl, nq, rfl⟩)
    go_ret2
    exact ⟨rfl, HR.out.drewN _, Mv.refl.drewN _⟩
  have d2 : decide (L < n) = false := decide_eq_false h2
  have htk : takeL first l n res = match (runsL l).find? (fun x => decide (n ≤ x.2)) with
    | some x => ((first + x.1, 0), upd 1 n.toNat x.1.toNat l)
    | none => ((0, 2), l) := by unfold takeL; rw [if_neg h1, hL, if_neg h2]; rfl
  obtain ⟨V, E, l', hv⟩ : ∃ V E l', takeL first l n res = ((V, E), l') := ⟨_, _, _, rfl⟩
  rw [hv]
  rw [hv] at htk
  have HT := Aside0.mk htk
  clear hv
  obtain ⟨N, hN⟩ : ∃ N, (runsL l).length = N := ⟨_, rfl⟩
  have hN4 : N ≤ 4096 := by have := runsL_len l; omega
  have HN := Aside0.mk hN
  clear htk hL hN
  go_enter Try.func38, Try.ntmps38
  go_wp2_with (first
    | (go_at_call 26; refine (rleft_q Y g first res L l _ HR.out hl ⟨hr0, hr9⟩ HL.out).mono ?_; rintro e w2 ⟨rfl, nq, rfl⟩)
    | (go_at_call 55; refine (rruns_any Y g first res l _ (HR.out.drewN _) hf hl).mono ?_; rw [HN.out]; rintro e w3 ⟨A, c, rfl, ho, hB⟩; have HO3 := Aside0.mk ho; have HR3 := Aside0.mk ((HR.out.drewN nq).below hB); have HB3 := Aside0.mk (show Below w.heap.size w w3 from below_step (pw_below_drewN (Below.refl w.heap.size w) nq) hB); clear ho hB))
  go_loopw [17] (fun iv wr => ∃ (i : Int), iv = .int .i64 i ∧ 0 ≤ i ∧ i ≤ N ∧ Aside0 (∀ (j : Nat) x, (j : Int) < i → (runsL l)[j]? = some x → x.2 < n) ∧ Aside0 (Below w3.heap.size w3 wr)) (fun iv _ => (N - intOf iv).toNat)
  case atStart => exact ⟨0, rfl, Int.le_refl _, by omega, ⟨fun j x hj => by omega⟩, ⟨Below.refl _ _⟩⟩
  case round =>
    obtain ⟨i, rfl, i0, i1, HI, HW⟩ := hrel
    by_cases hlt' : i < (N : Int)
    · have hlt1 : decide (i < (N : Int)) = true := decide_eq_true hlt'
      obtain ⟨⟨a, k⟩, hq⟩ : ∃ q, (runsL l)[i.toNat]? = some q := ⟨_, List.getElem?_eq_getElem (by have := HN.out; omega)⟩
      obtain ⟨g2, rfl, hb2, c0, c1⟩ := row_at (pw_own_below HO3.out HW.out) hq
      have w4 : wrap64 (i + 1) = i + 1 := by unfold wrap64; omega
      obtain ⟨a', k', e', hk0, hak, _⟩ := runsL_good (List.mem_of_getElem? hq)
      injection e' with ea ek
      have hak' : 0 ≤ a ∧ 0 < k ∧ a + k ≤ l.length := by omega
      have HQ := Aside0.mk hq
      clear hq ea ek hk0 hak hb2
      by_cases hc : n ≤ k
      · have hc1 : decide (n ≤ k) = true := decide_eq_true hc
        have hfi : (runsL l).find? (fun x => decide (n ≤ x.2)) = some (a, k) := find_at _ _ i.toNat _ HQ.out (decide_eq_true hc) (fun j y hj hy => decide_eq_false (by have := HI.out j y (by omega) hy; omega))
        have hv := HT.out
        rw [hfi] at hv
        obtain ⟨⟨rfl, rfl⟩, rfl⟩ : (V = first + a ∧ E = 0) ∧ l' = upd 1 n.toNat a.toNat l := by simpa using hv
        have HR4 := Aside0.mk ((HR3.out.below HW.out).below (below_alloc (Below.refl wr.heap.size wr) (.cells #[.int .i64 (first + a), .int .i64 k] 31)))
        have HM4 := Aside0.mk (show Mv n0 Y g w (wr.alloc (.cells #[.int .i64 (first + a), .int .i64 k] 31)) from Mv.of_below (below_alloc (below_step HB3.out HW.out) _) (by omega))
        have HX := Aside0.mk (blk_new wr (.cells #[.int .i64 (first + a), .int .i64 k] 31))
        have hYr : Y < wr.heap.size := by have := HR3.out.ltY; have := HW.out.size; omega
        have hgr : g < wr.heap.size := by have := HR3.out.ltg; have := HW.out.size; omega
        clear hfi hv
        go_wp2_with (go_at_call 56; refine (rset_any n0 Y g first res (first + a) n 1 a l _ HR4.out hf hl (by omega) hak'.1 (by omega) (by omega) hY hg).mono ?_; intro e w5 hP; obtain ⟨⟨v, rfl⟩, hR5, hM5⟩ := hP.out; have hx := (hM5.keep wr.heap.size (by simp) (by omega) (by omega)).trans HX.out; have hx0 := (blk_cell hx 0).trans rfl; have HR5 := Aside0.mk hR5; have HM5 := Aside0.mk (HM4.out.trans hM5); clear hP hR5 hM5 hx)
        go_ret2
        exact ⟨rfl, HR5.out, HM5.out⟩
      · have hc1 : decide (n ≤ k) = false := decide_eq_false hc
        go_wp2
        refine ⟨⟨i + 1, rfl, by omega, by omega, ⟨fun j x hj hx => ?_⟩, ⟨below_alloc HW.out _⟩⟩, by simp [intOf]; omega⟩
        by_cases hji : (j : Int) < i
        · exact HI.out j x hji hx
        · have : j = i.toNat := by omega
          subst this
          rw [HQ.out] at hx
          cases hx
          show k < n
          omega
    · have hlt1 : decide (i < (N : Int)) = false := decide_eq_false hlt'
      have hfi : (runsL l).find? (fun x => decide (n ≤ x.2)) = none := find_none _ _ (fun j y hy => decide_eq_false (by
        have hj : j < (runsL l).length := (List.getElem?_eq_some_iff.1 hy).1
        have := HI.out j y (by have := HN.out; omega) hy
        omega))
      have hv := HT.out
      rw [hfi] at hv
      obtain ⟨⟨rfl, rfl⟩, rfl⟩ : (V = 0 ∧ E = 2) ∧ l' = l := by simpa using hv
      clear hfi hv
      go_wp2
      go_ret2
      exact ⟨rfl, HR3.out.below HW.out, Mv.of_below (below_step HB3.out HW.out) (by omega)⟩
end Go.Proofs.Ytpcgmlnipeigjaa.H
