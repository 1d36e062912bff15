/- Paths: Slash of both, Parts as contracts. -/
import Derived.Test.YtankbofabdjleaaDoorPg
namespace Go.Proofs.YtankbofabdjleaaDoor.H
open Go.RowKit Go.Proofs.YtankbofabdjleaaDoorW.PrintWords Go.Proofs.YtankbofabdjleaaDoorW.PrintLast Go.Proofs.YtankbofabdjleaaDoorW.PrintMore
set_option linter.unusedVariables false
set_option linter.unusedSimpArgs false

theorem pcsF_nil (l : Bs) : ∀ cur, pcsF cur l = [] ↔ (cur = [] ∧ ∀ x ∈ l, x = (47 : UInt8)) := by
  induction l with
  | nil => intro cur; by_cases h : cur = [] <;> simp [pcsF, h]
  | cons c r ih =>
    intro cur
    simp only [pcsF]
    by_cases hc : c = 47
    · rw [if_pos hc]
      by_cases h : cur = []
      · rw [if_pos h, ih]; simp [h, hc]
      · rw [if_neg h]; simp [h]
    · rw [if_neg hc, ih]; simp [hc]
theorem pcs_nil (l : Bs) : pcs l = [] ↔ ∀ x ∈ l, x = (47 : UInt8) := by unfold pcs; rw [pcsF_nil]; simp
theorem dropWhile_nil (l : Bs) : l.dropWhile (· == 47) = [] ↔ ∀ x ∈ l, x = (47 : UInt8) := by
  induction l with
  | nil => simp
  | cons c r ih =>
    by_cases hc : c = 47
    · simp [List.dropWhile, hc, ih]
    · have hb : (c == (47 : UInt8)) = false := by simpa using hc
      simp [List.dropWhile, hb, hc]
theorem trimB_nil (l : Bs) : Lib.trimB l 47 = [] ↔ ∀ x ∈ l, x = (47 : UInt8) := by
  unfold Lib.trimB Lib.trimLeftB Lib.trimRightB
  rw [dropWhile_nil]
  constructor
  · intro h x hx
    by_cases hn : l.reverse.dropWhile (· == 47) = []
    · rw [dropWhile_nil] at hn
      exact hn x (by simpa using hx)
    · exfalso
      have h1 : (l.reverse.dropWhile (· == 47)).head hn ≠ 47 := by
        have := List.head_dropWhile_not (· == (47 : UInt8)) hn
        simpa using this
      have h2 := h ((l.reverse.dropWhile (· == 47)).head hn)
      exact h1 (h2 (by rw [List.mem_reverse]; exact List.head_mem hn))
  · intro h x hx
    rw [List.mem_reverse] at hx
    exact h x (by have := (List.dropWhile_suffix (· == (47 : UInt8)) (l := l.reverse)).subset hx; simpa using this)
theorem hasSuffix_47 (l : Bs) : Lib.hasSuffix l [47] = decide (l.getLast? = some 47) := by
  unfold Lib.hasSuffix
  rcases List.eq_nil_or_concat l with rfl | ⟨t, y, rfl⟩
  · simp
  · rw [List.concat_eq_append, List.getLast?_append]
    by_cases h : y = 47
    · subst h
      simp
    · have : ¬ [(47 : UInt8)] <:+ t ++ [y] := fun ⟨r, hr⟩ => by
        have h1 := congrArg List.getLast? hr
        rw [List.getLast?_append, List.getLast?_append] at h1
        simp at h1
        exact h h1.symm
      have e1 : decide ([(47 : UInt8)] <:+ t ++ [y]) = false := decide_eq_false this
      have e2 : ([(47 : UInt8)].isSuffixOf (t ++ [y])) = false := by
        rw [← Bool.not_eq_true, List.isSuffixOf_iff_suffix]; exact this
      first | rw [e2] | rw [e1] | skip
      simp [h]
/-- Slash's answer. -/
def slashL (l : Bs) : Bool := decide (l.getLast? = some 47) && decide (pcs l ≠ [])

set_option maxRecDepth 100000 in
set_option maxHeartbeats 2000000 in
theorem pslash_any (s : ByteArray) (w : World) (hs : s.size ≤ 9223372036854775807) :
    Calls Tryd.prog 22 #[.string s] w fun e w' => e = .returned (.bool (slashL s.data.toList)) ∧ Below w.heap.size w w' := by
  obtain ⟨l, hl⟩ : ∃ l, s.data.toList = l := ⟨_, rfl⟩
  rw [hl]
  have HL := Aside0.mk hl
  have HX := Aside0.mk (show Lib.hasSuffix s.data.toList (⟨#[47]⟩ : ByteArray).data.toList = decide (l.getLast? = some 47) by rw [hl]; exact hasSuffix_47 l)
  clear hl
  by_cases h1 : l.getLast? = some 47
  · have q1 : decide (l.getLast? = some 47) = true := decide_eq_true h1
    have HQ := Aside0.mk q1
    have hsl : slashL l = decide (pcs l ≠ []) := by unfold slashL; rw [q1]; rfl
    obtain ⟨T, hT⟩ : ∃ T, sB (Lib.trimB l 47) = T := ⟨_, rfl⟩
    have hTe : T.toList.isEmpty = !(decide (pcs l ≠ [])) := by
      rw [empty_data, ← hT, sB_data]
      by_cases h : pcs l = []
      · rw [decide_eq_true ((trimB_nil l).2 ((pcs_nil l).1 h))]; simp [h]
      · rw [decide_eq_false (fun e => h ((pcs_nil l).2 ((trimB_nil l).1 e)))]; simp [h]
    have HT := Aside0.mk (show (⟨(Lib.trimB s.data.toList 47).toArray⟩ : ByteArray) = T by rw [HL.out]; exact hT)
    rw [hsl]
    obtain ⟨B, hB⟩ : ∃ B, decide (pcs l ≠ []) = B := ⟨_, rfl⟩
    rw [hB] at hTe ⊢
    clear hsl q1 h1 hT hB
    cases B with
    | true =>
      have hTe : T.toList.isEmpty = false := hTe
      go_enter Tryd.func22, Tryd.ntmps22
      go_wp2_with (first
        | (go_at_call 34; refine (Tryd.strings_HasSuffix s ⟨#[47]⟩ _ hs).mono ?_; rw [HX.out, HQ.out]; rintro e w1 ⟨rfl, hw1⟩; rw [hw1]; clear hw1)
        | (go_at_call 35; refine (Tryd.strings_Trim_one s 47 (by decide) _ hs).mono ?_; rw [HT.out]; rintro e w1 ⟨rfl, hw1⟩; have HB1 := Aside0.mk (show Below w.heap.size w w1 from hw1.elim (fun h => h ▸ Below.refl _ _) (fun h => h ▸ below_drew (Below.refl _ _))); clear hw1))
      go_ret
      exact ⟨rfl, HB1.out⟩
    | false =>
      have hTe : T.toList.isEmpty = true := hTe
      go_enter Tryd.func22, Tryd.ntmps22
      go_wp2_with (first
        | (go_at_call 34; refine (Tryd.strings_HasSuffix s ⟨#[47]⟩ _ hs).mono ?_; rw [HX.out, HQ.out]; rintro e w1 ⟨rfl, hw1⟩; rw [hw1]; clear hw1)
        | (go_at_call 35; refine (Tryd.strings_Trim_one s 47 (by decide) _ hs).mono ?_; rw [HT.out]; rintro e w1 ⟨rfl, hw1⟩; have HB1 := Aside0.mk (show Below w.heap.size w w1 from hw1.elim (fun h => h ▸ Below.refl _ _) (fun h => h ▸ below_drew (Below.refl _ _))); clear hw1))
      go_ret
      exact ⟨rfl, HB1.out⟩
  · have q1 : decide (l.getLast? = some 47) = false := decide_eq_false h1
    have HQ := Aside0.mk q1
    have hsl : slashL l = false := by unfold slashL; rw [q1]; rfl
    rw [hsl]
    clear hsl q1 h1
    go_enter Tryd.func22, Tryd.ntmps22
    go_wp2_with (go_at_call 34; refine (Tryd.strings_HasSuffix s ⟨#[47]⟩ _ hs).mono ?_; rw [HX.out, HQ.out]; rintro e w1 ⟨rfl, hw1⟩; rw [hw1]; clear hw1)
    go_ret
    exact ⟨rfl, Below.refl _ _⟩

set_option maxRecDepth 100000 in
set_option maxHeartbeats 2000000 in
theorem rslash_any (s : ByteArray) (w : World) (hs : s.size ≤ 4294967280) :
    Calls Tryd.prog 23 #[.string s] w fun e w' => e = .returned (.bool (slashL s.data.toList)) ∧ Below w.heap.size w w' := by
  obtain ⟨l, hl⟩ : ∃ l, s.data.toList = l := ⟨_, rfl⟩
  have hll : l.length = s.size := by rw [← hl, data_length]
  rw [hl]
  have HL := Aside0.mk hl
  by_cases h0 : s.size = 0
  · have d0 : decide (0 < s.size) = false := decide_eq_false (by omega)
    have : slashL l = false := by
      have : l = [] := List.eq_nil_of_length_eq_zero (by omega)
      rw [this]; rfl
    rw [this]
    clear hl hll this h0
    go_enter Tryd.func23, Tryd.ntmps23
    go_wp2
    go_ret
    exact ⟨rfl, Below.refl _ _⟩
  have d0 : decide (0 < s.size) = true := decide_eq_true (by omega)
  obtain ⟨p, hp⟩ : ∃ p : Nat, s.size - 1 = p := ⟨_, rfl⟩
  obtain ⟨q, hq⟩ : ∃ q, l[p]? = some q := ⟨_, List.getElem?_eq_getElem (by omega)⟩
  have hlast : l.getLast? = some q := by rw [List.getLast?_eq_getElem?, hll, hp]; exact hq
  have hp1 : p < s.size := by omega
  have hpz : (s.size : Int) - 1 = p := by omega
  have hp2 : (p : Int) < (s.size : Int) := by omega
  have hp3 : (0 : Int) ≤ (p : Int) := by omega
  have hbt : ((s[p]'hp1).toNat : Int) = q.toNat := (bt_at s p (by simpa using hp1)).trans (bt_get s p q (by rw [hl]; simpa using hq))
  by_cases hq7 : q = 47
  · subst hq7
    have hbt : ((s[p]'hp1).toNat : Int) = 47 := hbt
    obtain ⟨N, hN⟩ : ∃ N, (pcs l).length = N := ⟨_, rfl⟩
    have hsl : slashL l = decide (0 < N) := by
      unfold slashL
      rw [hlast, ← hN]
      by_cases h : pcs l = []
      · simp [h]
      · have := List.length_pos_iff.2 h
        rw [decide_eq_true this]; simp [h]
    rw [hsl]
    have HN := Aside0.mk hN
    clear hl hll hp hq hlast hsl hN h0
    obtain ⟨B, hB⟩ : ∃ B, decide (0 < N) = B := ⟨_, rfl⟩
    rw [hB]
    go_enter Tryd.func23, Tryd.ntmps23
    go_wp2_with (go_at_call 28; refine (pieces_any s _ hs).mono ?_; rw [HL.out, HN.out]; rintro e w1 ⟨v, rfl, hO, hB1⟩; obtain ⟨A, c, rfl⟩ := own_slice hO; have HB1 := Aside0.mk hB1; clear hO hB1)
    go_ret
    exact ⟨rfl, HB1.out⟩
  · have he1 : ((q.toNat : Int) == 47) = false := by
      simp only [beq_eq_false_iff_ne, ne_eq]
      intro h
      exact hq7 (UInt8.toNat_inj.1 (by simpa using (by omega : q.toNat = 47)))
    have hsl : slashL l = false := by unfold slashL; rw [hlast]; simp [hq7]
    rw [hsl]
    clear hl hll hp hq hlast hsl h0 hq7
    go_enter Tryd.func23, Tryd.ntmps23
    go_wp2
    go_ret
    exact ⟨rfl, Below.refl _ _⟩

/-- What Parts hands back. -/
structure PartsP (l : Bs) (w : World) (e : Ending) (w' : World) : Prop where
  out : ∃ b A n c, e = .returned (.func (.func 29) #[] #[.pointer (some ⟨b, 0, none⟩)]) ∧ w.heap.size ≤ b ∧ w'.heap[b]? = some (.cells #[.slice A n c] 23 (0, 0)) ∧ RdS w' A n (splitL l) ∧ Below w.heap.size w w'
set_option maxRecDepth 100000 in
set_option maxHeartbeats 2000000 in
theorem parts_any (s : ByteArray) (m : Int) (w : World) (hs : s.size ≤ 9223372036854775807) (hm : w.cell? ⟨0, 0, none⟩ = some (.int .i64 m)) :
    Calls Tryd.prog 12 #[.string s] w fun e w' => PartsP s.data.toList w e w' := by
  have HM := Aside0.mk hm
  clear hm
  go_enter Tryd.func12, Tryd.ntmps12
  go_wp2_with (go_at_call 16; refine (psplit_any s m _ hs HM.out).mono ?_; intro e w1 hP; obtain ⟨v, rfl, hO, hB⟩ := hP.out; obtain ⟨A, c, rfl⟩ := own_slice hO; have HO1 := Aside0.mk hO; have HB1 := Aside0.mk hB; clear hP hO hB)
  go_ret
  exact ⟨w1.heap.size, A, _, c, rfl, HB1.out.size, blk_new w1 _, (RdS.of_own HO1.out).below (below_alloc (Below.refl _ _) _), below_alloc HB1.out _⟩
end Go.Proofs.YtankbofabdjleaaDoor.H
