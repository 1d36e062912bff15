/- ScriptOps, ScriptLines answer true. Condition: the texts are no longer than 2^20 bytes. -/
import Derived.Test.YteglbmindbfkeaaDoorRz
import Derived.Test.YteglbmindbfkeaaDoorAw
namespace Go.Proofs.YteglbmindbfkeaaDoor.H
open Go.RowKit Go.Proofs.YteglbmindbfkeaaDoorW.PrintWords Go.Proofs.YteglbmindbfkeaaDoorW.PrintLast Go.Proofs.YteglbmindbfkeaaDoorW.PrintMore
set_option linter.unusedVariables false
set_option linter.unusedSimpArgs false
theorem body_mem {o : OpV} {f : Fld} : ∀ {fs : List Fld}, f ∈ fs → (render o f).length ≤ (body o fs).length := by
  intro fs
  induction fs with
  | nil => intro h; simp at h
  | cons g r ih =>
    intro h
    have e : body o (g :: r) = (32 :: render o g) ++ body o r := by unfold body; rw [List.flatMap_cons]
    rw [e, List.length_append, List.length_cons]
    rcases List.mem_cons.1 h with rfl | h
    · omega
    · have := ih h
      omega
theorem printL_ok {o : OpV} {l : Bs} (h : printL o = some l) : OpOk l.length o := by
  unfold printL at h
  split at h
  · next wd fs hk =>
    split at h
    · next hc =>
      obtain ⟨hf, hcp⟩ := hc
      have hl := Option.some.inj h
      obtain ⟨j, hj, hm⟩ := kindOf_mem hk
      have hj2 : 1 ≤ j ∧ j ≤ 19 := by
        have : ∀ e ∈ kinds, 1 ≤ e.1 ∧ e.1 ≤ 19 := by decide
        exact this _ hm
      have hoth : ∀ g, g ∉ fs → o.txt g = [] ∧ o.num g = 0 := fun g hg => by
        have h1 := copyAll_other (o := o) (t := { kind := o.kind }) hg
        rw [hcp] at h1
        refine ⟨h1.1.trans ?_, h1.2.trans ?_⟩
        · cases g <;> rfl
        · cases g <;> rfl
      refine ⟨by omega, fun g => ?_, fun g => ?_⟩
      · by_cases hg : g ∈ fs
        · unfold fewF at hf
          rw [List.all_eq_true] at hf
          have h2 := hf g hg
          by_cases ht : g.isText = true
          · have : o.num g = 0 := by cases g <;> first | rfl | cases ht
            omega
          · simp only [ht, Bool.false_or, decide_eq_true_eq, Bool.or_eq_true, false_or, Bool.false_eq_true] at h2
            unfold fewD at h2
            omega
        · rw [(hoth g hg).2]; omega
      · by_cases hg : g ∈ fs
        · by_cases ht : g.isText = true
          · have h2 := body_mem (o := o) hg
            unfold render at h2
            rw [if_pos ht] at h2
            have h3 := esc_len (o.txt g)
            unfold quoteL at h2
            rw [List.length_cons, List.length_append] at h2
            rw [← hl, List.length_append]
            omega
          · have : o.txt g = [] := by cases g <;> first | rfl | exact absurd rfl ht
            rw [this]; exact Nat.zero_le _
        · rw [(hoth g hg).1]; exact Nat.zero_le _
    · cases h
  · cases h
theorem OpOk.mono {K L : Nat} {o : OpV} (h : OpOk K o) (hl : K ≤ L) : OpOk L o := ⟨h.1, h.2, fun f => Nat.le_trans (h.3 f) hl⟩
theorem printL_len {o : OpV} {q : Bs} (ho : OpOk 1048576 o) (h : printL o = some q) : q.length ≤ 34359738368 := by
  unfold printL at h
  split at h
  · next wd fs hk =>
    split at h
    · have hl := Option.some.inj h
      obtain ⟨j, hj, hm⟩ := kindOf_mem hk
      obtain ⟨h3, h10⟩ := kinds_len _ hm
      have hb := body_len ho fs
      have h3 : fs.length ≤ 3 := h3
      have := Nat.mul_le_mul_right (4 * 1048576 + 24) h3
      have h10 : wd.length ≤ 10 := h10
      rw [← hl, List.length_append]
      omega
    · cases h
  · cases h
set_option maxRecDepth 100000 in
set_option maxHeartbeats 4000000 in
theorem ops_any (o : OpV) (w : World) (hE : Env w) (ho : OpOk 1048576 o) : Calls Tryd.prog 3 #[opV o] w fun e w' => e = .returned (.bool true) ∧ Below w.heap.size w w' := by
  have hA := fun W h => awake_any W h
  have hP := fun W h => pprint_any o W h (ho.mono (by omega))
  have hR := fun W => rprint_any o W (ho.mono (by omega))
  have HE := Aside0.mk hE
  have HA0 := Aside0.mk (OpAt.new w o)
  unfold opV opC at hP hR ⊢
  clear hE
  cases hq : printL o with
  | none =>
    rw [printV_none hq] at hP hR
    clear hq
    go_enter Tryd.func3, Tryd.ntmps3
    go_wp2_with (first
      | (go_at_call 9; refine (hA _ (HE.out.below (below_alloc (Below.refl _ _) _))).mono ?_; rintro e w1 ⟨rfl, hB⟩; have HA1 := Aside0.mk (HA0.out.below hB); have HB1 := Aside0.mk ((below_alloc (Below.refl w.heap.size w) (.cells (opC o) 23)).trans (hB.mono (by simp))); obtain ⟨c0, c1, c2, c3, c4, c5, c6, c7⟩ := HA1.out.cells; clear hB)
      | (go_at_call 10; refine (hP _ (HE.out.below HB1.out)).mono ?_; rintro e w2 ⟨rfl, hB⟩; have HA2 := Aside0.mk (HA1.out.below hB); have HB2 := Aside0.mk (HB1.out.trans (hB.mono HB1.out.size)); clear c0 c1 c2 c3 c4 c5 c6 c7; obtain ⟨c0, c1, c2, c3, c4, c5, c6, c7⟩ := HA2.out.cells; clear hB)
      | (go_at_call 11; refine (hR _).mono ?_; rintro e w3 ⟨rfl, hB⟩; have HB3 := Aside0.mk (HB2.out.trans (hB.mono HB2.out.size)); clear hB))
    go_ret
    exact ⟨rfl, HB3.out⟩
  | some q =>
    have hp := parseL_iff.2 hq
    have hql := printL_len ho hq
    have hS := fun W h => pparse_any (sB q) W h (by rw [sB_size]; exact hql)
    rw [sB_data, hp] at hS
    unfold parseV opV opC at hS
    rw [printV_some hq] at hP hR
    clear hq hp hql
    go_enter Tryd.func3, Tryd.ntmps3
    go_wp2_with (first
      | (go_at_call 9; refine (hA _ (HE.out.below (below_alloc (Below.refl _ _) _))).mono ?_; rintro e w1 ⟨rfl, hB⟩; have HA1 := Aside0.mk (HA0.out.below hB); have HB1 := Aside0.mk ((below_alloc (Below.refl w.heap.size w) (.cells (opC o) 23)).trans (hB.mono (by simp))); obtain ⟨c0, c1, c2, c3, c4, c5, c6, c7⟩ := HA1.out.cells; clear hB)
      | (go_at_call 10; refine (hP _ (HE.out.below HB1.out)).mono ?_; rintro e w2 ⟨rfl, hB⟩; have HA2 := Aside0.mk (HA1.out.below hB); have HB2 := Aside0.mk (HB1.out.trans (hB.mono HB1.out.size)); clear c0 c1 c2 c3 c4 c5 c6 c7; obtain ⟨c0, c1, c2, c3, c4, c5, c6, c7⟩ := HA2.out.cells; clear hB)
      | (go_at_call 11; refine (hR _).mono ?_; rintro e w3 ⟨rfl, hB⟩; have HA3 := Aside0.mk (HA2.out.below hB); have HB3 := Aside0.mk (HB2.out.trans (hB.mono HB2.out.size)); clear hB)
      | (go_at_call 12; refine (hS _ (HE.out.below HB3.out)).mono ?_; rintro e w4 ⟨rfl, hB⟩; have HA4 := Aside0.mk ((HA3.out.below hB).alloc (.cells (opC o) 23)); have HB4 := Aside0.mk (below_alloc (HB3.out.trans (hB.mono HB3.out.size)) (.cells (opC o) 23)); clear c0 c1 c2 c3 c4 c5 c6 c7; obtain ⟨c0, c1, c2, c3, c4, c5, c6, c7⟩ := HA4.out.cells; obtain ⟨d0, d1, d2, d3, d4, d5, d6, d7⟩ := (OpAt.new w4 o).cells; unfold opC at c0 c1 c2 c3 c4 c5 c6 c7 d0 d1 d2 d3 d4 d5 d6 d7; clear hB))
    go_ret
    exact ⟨rfl, HB4.out⟩
set_option maxRecDepth 100000 in
set_option maxHeartbeats 4000000 in
theorem lines_any (s : ByteArray) (w : World) (hE : Env w) (hs : s.size ≤ 1048576) : Calls Tryd.prog 4 #[.string s] w fun e w' => e = .returned (.bool true) ∧ Below w.heap.size w w' := by
  have hA := fun W h => awake_any W h
  have hP := fun W h => pparse_any s W h (by omega)
  have hR := fun W => rparse_any s W (by omega)
  simp only [parse_same] at hR
  have HE := Aside0.mk hE
  obtain ⟨l, hl⟩ : ∃ l, s.data.toList = l := ⟨_, rfl⟩
  have hll : l.length = s.size := by rw [← hl, data_length]
  have hsl : s = sB l := by rw [← hl, data_sB]
  rw [hl] at hP hR
  clear hE hl
  cases hq : parseL l with
  | none =>
    rw [hq] at hP hR
    unfold parseV opV opC at hP hR
    clear hq hll hsl
    go_enter Tryd.func4, Tryd.ntmps4
    go_wp2_with (first
      | (go_at_call 9; refine (hA _ HE.out).mono ?_; rintro e w1 ⟨rfl, hB⟩; have HB1 := Aside0.mk hB; clear hB)
      | (go_at_call 12; refine (hP _ (HE.out.below HB1.out)).mono ?_; rintro e w2 ⟨rfl, hB⟩; have HA2 := Aside0.mk (OpAt.new w2 {}); have HB2 := Aside0.mk (below_alloc (HB1.out.trans (hB.mono HB1.out.size)) (.cells (opC {}) 23)); clear hB)
      | (go_at_call 13; refine (hR _).mono ?_; rintro e w3 ⟨rfl, hB⟩; have HA3 := Aside0.mk ((HA2.out.below hB).alloc (.cells (opC {}) 23)); have HB3 := Aside0.mk (below_alloc (HB2.out.trans (hB.mono HB2.out.size)) (.cells (opC {}) 23)); obtain ⟨c0, c1, c2, c3, c4, c5, c6, c7⟩ := HA3.out.cells; obtain ⟨d0, d1, d2, d3, d4, d5, d6, d7⟩ := (OpAt.new w3 {}).cells; unfold opC at c0 c1 c2 c3 c4 c5 c6 c7 d0 d1 d2 d3 d4 d5 d6 d7; clear hB))
    go_ret
    exact ⟨rfl, HB3.out⟩
  | some o =>
    have hp := parseL_iff.1 hq
    have ho := printL_ok hp
    have hS := fun W h => pprint_any o W h (ho.mono (by omega))
    rw [printV_some hp, ← hsl] at hS
    rw [hq] at hP hR
    unfold parseV opV opC at hP hR
    unfold opV opC at hS
    clear hq hp ho hll hsl
    go_enter Tryd.func4, Tryd.ntmps4
    go_wp2_with (first
      | (go_at_call 9; refine (hA _ HE.out).mono ?_; rintro e w1 ⟨rfl, hB⟩; have HB1 := Aside0.mk hB; clear hB)
      | (go_at_call 12; refine (hP _ (HE.out.below HB1.out)).mono ?_; rintro e w2 ⟨rfl, hB⟩; have HA2 := Aside0.mk (OpAt.new w2 o); have HB2 := Aside0.mk (below_alloc (HB1.out.trans (hB.mono HB1.out.size)) (.cells (opC o) 23)); clear hB)
      | (go_at_call 13; refine (hR _).mono ?_; rintro e w3 ⟨rfl, hB⟩; have HA3 := Aside0.mk ((HA2.out.below hB).alloc (.cells (opC o) 23)); have HB3 := Aside0.mk (below_alloc (HB2.out.trans (hB.mono HB2.out.size)) (.cells (opC o) 23)); obtain ⟨c0, c1, c2, c3, c4, c5, c6, c7⟩ := HA3.out.cells; obtain ⟨d0, d1, d2, d3, d4, d5, d6, d7⟩ := (OpAt.new w3 o).cells; unfold opC at c0 c1 c2 c3 c4 c5 c6 c7 d0 d1 d2 d3 d4 d5 d6 d7; clear hB)
      | (go_at_call 10; refine (hS _ (HE.out.below HB3.out)).mono ?_; rintro e w4 ⟨rfl, hB⟩; have HB4 := Aside0.mk (HB3.out.trans (hB.mono HB3.out.size)); clear hB))
    go_ret
    exact ⟨rfl, HB4.out⟩
end Go.Proofs.YteglbmindbfkeaaDoor.H
