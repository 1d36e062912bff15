/- PathInside answers true; the input reads as it did. No condition of its own; the two listed tables are tied to the program by the given tie. -/
import Derived.Test.YtankbofabdjleaaDoorRc
import Derived.Test.YtankbofabdjleaaDoorPo
namespace Go.Proofs.YtankbofabdjleaaDoor.PathInside
open Go.ChangeShapes Go.WideShapes Go.ChangeAt Go.RowKit Go.Joins
open Go.ChangeMaps (open_string shut_string)
open Go.Proofs.YtankbofabdjleaaDoorW.PrintWords Go.Proofs.YtankbofabdjleaaDoorW.PrintLast Go.Proofs.YtankbofabdjleaaDoorW.PrintMore
open Go.Proofs.YtankbofabdjleaaDoor.H Go.Proofs.YtankbofabdjleaaDoor.Rw
set_option linter.unusedVariables false
set_option linter.unusedSimpArgs false

theorem witness_row (os : Os) {H : Type} (enc : TypeId × Value → H) :
    (OpenSpec.ofChange Rows.pathInsideSpec).preRow enc Tryd.prog Tryd.f8 Rows.pathInsideRow.domain false Rows.pathInsideRow.laid ((Rw.start os).forCall (fun _ _ => 0) ⟨#[], #[.slice none 0 0, .slice none 0 0, .slice none 0 0], []⟩).memory #[.slice none 0 0, .slice none 0 0, .slice none 0 0] := by
  have hw : (DataW.whole enc Tryd.prog ((Rw.start os).forCall (fun _ _ => 0) ⟨#[], #[.slice none 0 0, .slice none 0 0, .slice none 0 0], []⟩).memory Tryd.f8.params.toList Rows.pathInsideSpec.vars false #[Value.slice none 0 0, Value.slice none 0 0, Value.slice none 0 0].toList 8).map (fun x => (x.1, x.2.1)) =
      some ([.nil, .nil, .nil], []) := by kernel_rfl
  obtain ⟨⟨x1, x2, x3⟩, hx, hx1⟩ := Option.map_eq_some_iff.1 hw
  simp only [Prod.mk.injEq] at hx1
  obtain ⟨rfl, rfl⟩ := hx1
  exact OpenSpec.preRow_of_cond 8 hx (by kernel_rfl) (fun k hk => by cases hk) (by kernel_rfl) (Rw.start_met os _)

set_option maxRecDepth 100000 in
theorem lifted (os : Os) (started : os.Started) (H : Type) (enc : TypeId × Value → H) (F : Stop.Interp) :
    ReturnsInHanded {} Tryd.checked os 8 .any ((OpenSpec.ofChange Rows.pathInsideSpec).preRow enc Tryd.prog Tryd.f8 Rows.pathInsideRow.domain false Rows.pathInsideRow.laid) (((OpenSpec.ofChange Rows.pathInsideSpec).at F).post enc Tryd.prog Tryd.f8 false true false false) := by
  refine returnsInHanded_of_row (C := Tryd.checked) (s := OpenSpec.ofChange Rows.pathInsideSpec) own started (by kernel_rfl) Tryd.func8
    (witness_row_at (enc := enc) (C := Tryd.checked) false (Rw.start os) #[.slice none 0 0, .slice none 0 0, .slice none 0 0] rfl (by kernel_rfl) (by kernel_rfl) (by kernel_rfl) (witness_row os enc)) ?_
  intro W base args ds gs before hval0 hW _ hcond0 hsz hL hsh _
  have hval : ∀ (j : Nat) t v, Tryd.f8.params[j]? = some t → args[j]? = some v → Value.okWide Tryd.prog W .any base t v := hval0
  have hW' := hW
  obtain ⟨p, q, hA0, hV, rfl, hfz, hnd⟩ := hW
  have hA : DataW.TrodAll enc Tryd.prog W 0 (fun _ => true) true Tryd.f8.params.toList args.toList ds p := hA0
  rw [Tryd.params8] at hA hval
  obtain ⟨v0, vs0, d0, ds0, p0, q0, hargs, rfl, rfl, h0, r0⟩ := trodAll_cons hA
  obtain ⟨v1, vs1, d1, ds1, p1, q1, rfl, rfl, rfl, h1, r1⟩ := trodAll_cons r0
  obtain ⟨v2, vs2, d2, ds2, p2, q2, rfl, rfl, rfl, h2, r2⟩ := trodAll_cons r1
  obtain ⟨rfl, rfl, rfl⟩ := trodAll_nil r2
  obtain rfl : args = #[v0, v1, v2] := by cases args; simp_all
  obtain ⟨rfl, rfl⟩ := trodVars_none hV
  obtain ⟨m, hm⟩ := number hsh
  have k0 := h0
  have lt0 : ∀ x ∈ p0, x.block < W.heap.size := by obtain ⟨m, hm⟩ := k0; exact DataW.trod_lt m _ _ _ hm
  obtain ⟨A0, n0, c0, rfl⟩ := okWide_slice Tryd.underlying23 (hval 0 23 v0 rfl rfl)
  obtain ⟨xs0, hr0, hp0, hy0⟩ : ∃ xs : List Bs, RdP W A0 n0 c0 xs ∧ (0 < n0 → ∃ b o, A0 = some ⟨b, o, none⟩ ∧ b < W.heap.size) ∧ (∀ y ∈ xs, y.length ≤ 9223372036854775807) := by
    obtain ⟨fuel, hf⟩ := h0
    exact strs_of hf
  have k1 := h1
  have lt1 : ∀ x ∈ p1, x.block < W.heap.size := by obtain ⟨m, hm⟩ := k1; exact DataW.trod_lt m _ _ _ hm
  obtain ⟨A1, n1, c1, rfl⟩ := okWide_slice Tryd.underlying23 (hval 1 23 v1 rfl rfl)
  obtain ⟨xs1, hr1, hp1, hy1⟩ : ∃ xs : List Bs, RdP W A1 n1 c1 xs ∧ (0 < n1 → ∃ b o, A1 = some ⟨b, o, none⟩ ∧ b < W.heap.size) ∧ (∀ y ∈ xs, y.length ≤ 9223372036854775807) := by
    obtain ⟨fuel, hf⟩ := h1
    exact strs_of hf
  have k2 := h2
  have lt2 : ∀ x ∈ p2, x.block < W.heap.size := by obtain ⟨m, hm⟩ := k2; exact DataW.trod_lt m _ _ _ hm
  obtain ⟨A2, n2, c2, rfl⟩ := okWide_slice Tryd.underlying23 (hval 2 23 v2 rfl rfl)
  obtain ⟨xs2, hr2, hp2, hy2⟩ : ∃ xs : List Bs, RdP W A2 n2 c2 xs ∧ (0 < n2 → ∃ b o, A2 = some ⟨b, o, none⟩ ∧ b < W.heap.size) ∧ (∀ y ∈ xs, y.length ≤ 9223372036854775807) := by
    obtain ⟨fuel, hf⟩ := h2
    exact strs_of hf
  clear hA0
  refine (inside_any m A0 A1 A2 n0 n1 n2 c0 c1 c2 xs0 xs1 xs2 W hr0 hr1 hr2 hm).mono fun e W' ⟨he, bel⟩ => ?_
  subst he
  exact ⟨_, rfl, _, _, _, [], _, [], hW', trodAll_mk1 (shut_bool Tryd.underlying4 _), (trodAll_cons_mk (Below.trod laidOut (by kernel_rfl) (of_decide_eq_true (by kernel_rfl)) k0 bel lt0) (trodAll_cons_mk (Below.trod laidOut (by kernel_rfl) (of_decide_eq_true (by kernel_rfl)) k1 bel lt1) (trodAll_cons_mk (Below.trod laidOut (by kernel_rfl) (of_decide_eq_true (by kernel_rfl)) k2 bel lt2) trodAll_mk0))), rfl, bel.frame _, fun h => by cases h⟩

theorem over : Rows.pathInsideRow.holds Tryd.pinned (OpenSpec.ofChange Rows.pathInsideSpec) :=
  OpenClaim.holds_of_cond 8 Tryd.f8 rfl rfl rfl rfl rfl rfl rfl ⟨rfl, rfl, rfl, rfl, rfl⟩ rfl rfl rfl rfl rfl (by kernel_rfl) Tryd.func8 (by kernel_rfl)
    (of_decide_eq_true (by kernel_rfl)) (by unfold Func.isWrapper; first | (rw [if_pos (by decide +kernel)]; kernel_rfl) | (rw [if_neg (by decide +kernel)]; exact ⟨rfl, rfl⟩))
    (fun os started H enc _ F0 => by rw [OpenClaim.pre_eq_preRow]; exact lifted os started H enc F0)
end Go.Proofs.YtankbofabdjleaaDoor.PathInside
namespace Go.Proofs.YtankbofabdjleaaDoor
theorem pathInside_row : Rows.PathInsideSaid := PathInside.over
theorem pathInside_card : Rows.PathInsideCardSaid :=
  Claim7.holds_tied_plain_at .later [] [.data, .pinned] true (true, "79ec44d67e9c41f4f9eba5d314447453b188559b4ff1b4e37be2fbdd80137a80") false
    pathInside_row (fun _ h => by cases h) (by kernel_rfl) (fun _ h => by cases h) pathInside_row_tie rfl ⟨rfl, rfl⟩ (by kernel_rfl) rfl
    (fun f fn hf hfn => by
      obtain rfl : f = 8 := Option.some.inj ((show Tryd.prog.funcNamed "dedup/deduplaw20.PathInside" = some 8 by kernel_rfl).symm.trans hf) |>.symm
      obtain rfl : fn = Tryd.f8 := (Option.some.inj (Tryd.func8.symm.trans hfn)).symm
      refine ⟨by kernel_rfl, fun j t ht => ?_⟩
      rw [Tryd.params8] at ht
      have h3 : t = 23 := by
        rcases j with _ | _ | _ | j
        all_goals first | (simp at ht; done) | (simp at ht; subst ht; simp)
      subst h3
      exact (show Tryd.prog.wantsStandIn 23 = false by kernel_rfl))
    (by kernel_rfl)
#print axioms pathInside_card
end Go.Proofs.YtankbofabdjleaaDoor
