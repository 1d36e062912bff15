/- Package space: Free, Later, Settle as contracts; the sectors counted. -/
import Derived.Test.YtpcgmlnipeigjaaSd
namespace Go.Proofs.Ytpcgmlnipeigjaa.H
open Go.RowKit Go.Proofs.YtpcgmlnipeigjaaW.PrintWords Go.Proofs.YtpcgmlnipeigjaaW.PrintLast Go.Proofs.YtpcgmlnipeigjaaW.PrintMore
set_option linter.unusedVariables false
set_option linter.unusedSimpArgs false

theorem allIs_iff {q : Int} {l : List Int} {i n : Nat} (h : i + n ≤ l.length) : allIs q l i n = true ↔ ∀ j, i ≤ j → j < i + n → l[j]? = some q := by
  unfold allIs
  rw [List.all_eq_true]
  constructor
  · intro ha j h1 h2
    have hj : j < l.length := by omega
    have hm : l[j] ∈ (l.drop i).take n := by
      refine List.mem_of_getElem? (i := j - i) ?_
      rw [List.getElem?_take, if_pos (by omega), List.getElem?_drop, show i + (j - i) = j by omega]
      exact List.getElem?_eq_getElem hj
    have := ha _ hm
    rw [List.getElem?_eq_getElem hj]
    simpa using this
  · intro ha x hx
    obtain ⟨j, hj⟩ := List.getElem?_of_mem hx
    rw [List.getElem?_take] at hj
    split at hj
    · rw [List.getElem?_drop, ha (i + j) (by omega) (by omega)] at hj
      simp [← Option.some.inj hj]
    · cases hj
theorem cnt_upd {q v : Int} (n : Nat) : ∀ (i : Nat) (l : List Int), (∀ j, i ≤ j → j < i + n → l[j]? = some q) → ∀ x, cnt (upd v n i l) x = cnt l x - (if x = q then (n : Int) else 0) + (if x = v then (n : Int) else 0) := by
  induction n with
  | zero => intro i l _ x; simp [upd]
  | succ n ih =>
    intro i l h x
    have h0 := h i (Nat.le_refl _) (by omega)
    have hs : ∀ j, i + 1 ≤ j → j < i + 1 + n → (l.set i v)[j]? = some q := fun j h1 h2 => by
      rw [List.getElem?_set_ne (by omega)]
      exact h j (by omega) (by omega)
    simp only [upd]
    rw [ih (i + 1) (l.set i v) hs x, cnt_set h0 v x]
    split <;> split <;> omega
theorem Sane.upd {first res : Int} {l : List Int} (h : Sane first l res) {q v : Int} (hv : v = 0 ∨ v = 1 ∨ v = 2) (i n : Nat) (ha : ∀ j, i ≤ j → j < i + n → l[j]? = some q) (hr : q = 0 → v ≠ 0 → res ≤ cnt l 0 - n) : Sane first (upd v n i l) res := by
  refine ⟨h.f0, by rw [upd_length]; exact h.fl, Tri.upd hv n i l h.tri, h.r0, ?_⟩
  have := h.rl
  rw [cnt_upd n i l ha 0]
  by_cases e1 : (0 : Int) = q
  · rw [if_pos e1]
    by_cases e2 : (0 : Int) = v
    · rw [if_pos e2]; omega
    · rw [if_neg e2]; have := hr e1.symm (fun e => e2 e.symm); omega
  · rw [if_neg e1]
    split <;> omega
theorem backL_sane {first res a0 a1 what : Int} {l : List Int} (h : Sane first l res) (hw : what = 0 ∨ what = 1 ∨ what = 2) : Sane first (backL first l a0 a1 what).2 res := by
  unfold backL
  split
  · rename_i hi
    obtain ⟨h1, h2, h3, h4⟩ := inA_iff.1 hi.1
    exact h.upd hw _ _ ((allIs_iff (by omega)).1 hi.2) (fun e => by cases e)
  · exact h
theorem backL_length {first a0 a1 what : Int} {l : List Int} : (backL first l a0 a1 what).2.length = l.length := by
  unfold backL
  split
  · exact upd_length _ _ _ _
  · rfl

set_option maxHeartbeats 1000000 in
theorem free_any (n0 X g : Nat) (first res a0 a1 : Int) (l : List Int) (w : World) (hS : SpAt w X g first l (cnt l) res) (hs : Sane first l res) (ha : a0 ≤ 9223372036854775807) (hX : n0 ≤ X) (hg : n0 ≤ g) :
    Calls Try.prog 12 #[.pointer (some ⟨X, 0, none⟩), .agg #[.int .i64 a0, .int .i64 a1]] w fun e w' => StP n0 X g first (backL first l a0 a1 0).2 res (.int .i64 (backL first l a0 a1 0).1) w e w' := by
  have hu31 := Try.underlying31
  have HS1 := Aside0.mk (hS.below (below_alloc (Below.refl w.heap.size w) (.cells #[.int .i64 a0, .int .i64 a1] 31)))
  have hlt := hS.ltX
  have HM1 := Aside0.mk (show Mv n0 X g w (w.alloc (.cells #[.int .i64 a0, .int .i64 a1] 31)) from Mv.of_below (below_alloc (Below.refl w.heap.size w) _) (by omega))
  have HS := Aside0.mk hs
  clear hS hs
  go_enter Try.func12, Try.ntmps12
  go_wp2_with (go_at_call 35; refine (back_any n0 X g first res a0 a1 0 l _ HS1.out HS.out ha (by omega) hX hg).mono ?_; intro e w1 hP; obtain ⟨rfl, hS2, hM2⟩ := hP.out; have HS2 := Aside0.mk hS2; have HM2 := Aside0.mk (HM1.out.trans hM2); clear hP hS2 hM2)
  go_ret
  exact ⟨rfl, HS2.out, HM2.out⟩
set_option maxHeartbeats 1000000 in
theorem later_any (n0 X g : Nat) (first res a0 a1 : Int) (l : List Int) (w : World) (hS : SpAt w X g first l (cnt l) res) (hs : Sane first l res) (ha : a0 ≤ 9223372036854775807) (hX : n0 ≤ X) (hg : n0 ≤ g) :
    Calls Try.prog 13 #[.pointer (some ⟨X, 0, none⟩), .agg #[.int .i64 a0, .int .i64 a1]] w fun e w' => StP n0 X g first (backL first l a0 a1 2).2 res (.int .i64 (backL first l a0 a1 2).1) w e w' := by
  have hu31 := Try.underlying31
  have HS1 := Aside0.mk (hS.below (below_alloc (Below.refl w.heap.size w) (.cells #[.int .i64 a0, .int .i64 a1] 31)))
  have hlt := hS.ltX
  have HM1 := Aside0.mk (show Mv n0 X g w (w.alloc (.cells #[.int .i64 a0, .int .i64 a1] 31)) from Mv.of_below (below_alloc (Below.refl w.heap.size w) _) (by omega))
  have HS := Aside0.mk hs
  clear hS hs
  go_enter Try.func13, Try.ntmps13
  go_wp2_with (go_at_call 35; refine (back_any n0 X g first res a0 a1 2 l _ HS1.out HS.out ha (by omega) hX hg).mono ?_; intro e w1 hP; obtain ⟨rfl, hS2, hM2⟩ := hP.out; have HS2 := Aside0.mk hS2; have HM2 := Aside0.mk (HM1.out.trans hM2); clear hP hS2 hM2)
  go_ret
  exact ⟨rfl, HS2.out, HM2.out⟩

/-- All that waits is free. -/
def settleL (l : List Int) : List Int := l.map fun x => if x = 2 then 0 else x
theorem settle_step {l : List Int} {i : Nat} {q : Int} (h : l[i]? = some q) : settleL (l.take (i + 1)) ++ l.drop (i + 1) = (settleL (l.take i) ++ l.drop i).set i (if q = 2 then 0 else q) := by
  obtain ⟨hi, hq⟩ := List.getElem?_eq_some_iff.1 h
  have hlen : (settleL (l.take i)).length = i := by simp [settleL]; omega
  rw [List.set_append_right _ _ (by omega), hlen, Nat.sub_self, List.take_add_one, h, List.drop_eq_getElem_cons hi]
  simp [settleL, hq]
theorem settle_cnt {l : List Int} {i : Nat} {q : Int} (h : l[i]? = some q) : cnt (l.take (i + 1)) 2 = cnt (l.take i) 2 + (if q = 2 then 1 else 0) := by
  rw [List.take_add_one, h]
  unfold cnt
  by_cases e : q = 2
  · simp [e, List.count_append]
  · simp [e, List.count_append]
theorem settle_at {l : List Int} {i : Nat} {q : Int} (h : l[i]? = some q) : (settleL (l.take i) ++ l.drop i)[i]? = some q := by
  obtain ⟨hi, hq⟩ := List.getElem?_eq_some_iff.1 h
  have hlen : (settleL (l.take i)).length = i := by simp [settleL]; omega
  rw [List.getElem?_append_right (by omega), hlen, Nat.sub_self, List.getElem?_drop]
  simpa using h
theorem settle_len (l : List Int) (i : Nat) : (settleL (l.take i) ++ l.drop i).length = l.length := by
  simp [settleL]; omega
theorem settle_tri {l : List Int} (h : Tri l) (i : Nat) : Tri (settleL (l.take i) ++ l.drop i) := fun x hx => by
  rcases List.mem_append.1 hx with h1 | h1
  · obtain ⟨y, hy, rfl⟩ := List.mem_map.1 h1
    split
    · exact .inl rfl
    · exact h y (List.mem_of_mem_take hy)
  · exact h x (List.mem_of_mem_drop h1)
theorem settle_end (l : List Int) : settleL (l.take l.length) ++ l.drop l.length = settleL l := by simp

set_option maxRecDepth 100000 in
set_option maxHeartbeats 2000000 in
theorem settle_any (n0 X g : Nat) (first res : Int) (l : List Int) (w : World) (hS : SpAt w X g first l (cnt l) res) (hs : Sane first l res) (hX : n0 ≤ X) (hg : n0 ≤ g) :
    Calls Try.prog 14 #[.pointer (some ⟨X, 0, none⟩)] w fun e w' => StP n0 X g first (settleL l) res (.int .i64 (cnt l 2)) w e w' := by
  have hu54 := Try.underlying54
  have HS := Aside0.mk hS
  have HSn := Aside0.mk hs
  have hl := hs.len
  have hlt := hS.ltX
  clear hS hs
  go_enter Try.func14, Try.ntmps14
  go_wp2_with (go_at_call 32; refine (made_yes X g first res l _ _ HS.out).mono ?_; rintro e w1 ⟨rfl, hB⟩; have hS1 := HS.out.below hB; obtain ⟨K, hKl, hx1⟩ := hS1.xk; have HS1 := Aside0.mk hS1; have HM1 := Aside0.mk (show Mv n0 X g w w1 from Mv.of_below hB (by omega)); clear hB hS1)
  clear hx1
  go_loopw [3, 14] (fun nv iv wr => ∃ (n i : Int), nv = .int .i64 n ∧ iv = .int .i64 i ∧ 0 ≤ i ∧ i ≤ l.length ∧ n = cnt (l.take i.toNat) 2 ∧ Aside0 (SpAt wr X g first (settleL (l.take i.toNat) ++ l.drop i.toNat) (cnt (settleL (l.take i.toNat) ++ l.drop i.toNat)) res) ∧ Aside0 (Mv n0 X g w wr)) (fun _ iv _ => (l.length - intOf iv).toNat)
  case atStart => exact ⟨0, 0, rfl, rfl, Int.le_refl _, by omega, by simp [cnt], by simpa [settleL] using HS1, HM1⟩
  case round =>
    obtain ⟨n, i, rfl, rfl, i0, i1, hn, HSr, HMr⟩ := hrel
    have hn9 : 0 ≤ n ∧ n ≤ 4096 := by have := cnt_nn (l.take i.toNat) 2; simp at this; omega
    by_cases hlt' : i < (l.length : Int)
    · have hlt1 : decide (i < (l.length : Int)) = true := decide_eq_true hlt'
      obtain ⟨q, hq⟩ : ∃ q, l[i.toNat]? = some q := ⟨_, List.getElem?_eq_getElem (by omega)⟩
      have hcell := HSr.out.at_ (settle_at hq)
      have hstep := settle_step hq
      have hcs := settle_cnt hq
      have hi1 : (i + 1).toNat = i.toNat + 1 := by omega
      have w4 : wrap64 (i + 1) = i + 1 := by unfold wrap64; omega
      have w5 : wrap64 (n + 1) = n + 1 := by unfold wrap64; omega
      have HQ := Aside0.mk hq
      by_cases he : q = 2
      · subst he
        rw [if_pos rfl] at hstep hcs
        have HStep := Aside0.mk hstep
        have HCs := Aside0.mk hcs
        have HN := Aside0.mk hn
        clear hq hstep hcs hn
        go_wp2_with (go_at_call 34; refine (set_any n0 X g first res _ i 1 0 _ HSr.out i0 (by omega) (by rw [settle_len]; omega) (by rw [settle_len]; exact hl) (settle_tri HSn.out.tri _) (.inl rfl) hX hg).mono ?_; intro e w4 hP; obtain ⟨⟨v, rfl⟩, hS4, hM4⟩ := hP.out; have HS4 := Aside0.mk hS4; have HM4 := Aside0.mk (HMr.out.trans hM4); clear hP hS4 hM4)
        refine ⟨⟨n + 1, i + 1, rfl, rfl, by omega, by omega, ?_, ?_, HM4⟩, by simp [intOf]; omega⟩
        · rw [hi1, HCs.out, HN.out]
        · rw [hi1, HStep.out]
          exact HS4
      · have he1 : (q == 2) = false := by simp [he]
        rw [if_neg he] at hstep hcs
        have HStep := Aside0.mk hstep
        have HCs := Aside0.mk hcs
        have HN := Aside0.mk hn
        clear hq hstep hcs hn
        go_wp2
        refine ⟨⟨n, i + 1, rfl, rfl, by omega, by omega, ?_, ?_, HMr⟩, by simp [intOf]; omega⟩
        · rw [hi1, HCs.out, HN.out]; omega
        · have hsame : (settleL (l.take i.toNat) ++ l.drop i.toNat).set i.toNat q = settleL (l.take i.toNat) ++ l.drop i.toNat := by
            have h := settle_at HQ.out
            obtain ⟨h1, h2⟩ := List.getElem?_eq_some_iff.1 h
            rw [← h2, List.set_getElem_self]
          rw [hi1, HStep.out, hsame]
          exact HSr
    · have hlt1 : decide (i < (l.length : Int)) = false := decide_eq_false hlt'
      go_wp2
      go_ret
      have hi : i.toNat = l.length := by omega
      refine ⟨?_, ?_, HMr.out⟩
      · rw [hi, List.take_length]; rfl
      · have h := HSr.out
        rw [hi, settle_end] at h
        exact h
end Go.Proofs.Ytpcgmlnipeigjaa.H
