/- Paths: Parent of both as contracts. -/
import Derived.Test.YtankbofabdjleaaDoorPf
namespace Go.Proofs.YtankbofabdjleaaDoor.H
open Go.RowKit Go.Proofs.YtankbofabdjleaaDoorW.PrintWords Go.Proofs.YtankbofabdjleaaDoorW.PrintLast Go.Proofs.YtankbofabdjleaaDoorW.PrintMore
set_option linter.unusedVariables false
set_option linter.unusedSimpArgs false

/-- Parent's answer. -/
def parE (l : Bs) : Int := if splitE l = 0 then (if pcs l = [] then 236 else 0) else splitE l
def parD (l : Bs) : List Bs := if parE l = 0 then (pcs l).take ((pcs l).length - 1) else []
def parN (l : Bs) : Bs := if parE l = 0 then (pcs l).getD ((pcs l).length - 1) [] else []
structure ParP (l : Bs) (w : World) (e : Ending) (w' : World) : Prop where
  out : ∃ A n c, e = .returned (.tuple #[.slice A n c, .string (sB (parN l)), .int .i64 (parE l)]) ∧ RdS w' A n (parD l) ∧ Below w.heap.size w w'
theorem RdS.nil (w : World) : RdS w none 0 [] := ⟨rfl, by omega, fun j x h => by simp at h⟩
theorem RdS.take {w : World} {A : Option Addr} {n : Nat} {xs : List Bs} (h : RdS w A n xs) (k : Nat) (hk : k ≤ n) : RdS w A k (xs.take k) := by
  refine ⟨by rw [List.length_take, h.len]; omega, Nat.le_trans hk h.max, fun j x hj => ?_⟩
  rw [List.getElem?_take] at hj
  split at hj
  · exact h.at_ j x hj
  · cases hj

set_option maxRecDepth 100000 in
set_option maxHeartbeats 4000000 in
theorem pparent_any (s : ByteArray) (m : Int) (w : World) (hs : s.size ≤ 9223372036854775807) (hm : w.cell? ⟨0, 0, none⟩ = some (.int .i64 m)) :
    Calls Tryd.prog 20 #[.string s] w fun e w' => ParP s.data.toList w e w' := by
  have hu9 := Tryd.underlying9
  have hu23 := Tryd.underlying23
  obtain ⟨i9, hi9, hz9⟩ := Option.map_eq_some_iff.1 info9
  obtain ⟨l, hl⟩ : ∃ l, s.data.toList = l := ⟨_, rfl⟩
  rw [hl]
  have HL := Aside0.mk hl
  have HM := Aside0.mk hm
  clear hl hm
  obtain ⟨E, hE⟩ : ∃ E, splitE l = E := ⟨_, rfl⟩
  by_cases h0 : E = 0
  · subst h0
    have hsl := splitL_ok hE
    have hpl := pcs_len l
    have hl5 := (splitE_zero hE).2.1
    obtain ⟨xs, hxs⟩ : ∃ xs, pcs l = xs := ⟨_, rfl⟩
    obtain ⟨N, hN⟩ : ∃ N, xs.length = N := ⟨_, rfl⟩
    have hN4 : N ≤ 513 := by rw [hxs] at hpl; omega
    have hpe : parE l = if xs = [] then 236 else 0 := by unfold parE; rw [if_pos hE, hxs]
    have HPE := Aside0.mk hpe
    have HXs := Aside0.mk hxs
    rw [hxs] at hsl
    have HE := Aside0.mk (And.intro hE hsl)
    have HN := Aside0.mk hN
    clear hE hsl hpl hxs hN hpe
    by_cases hN0 : N = 0
    · have e0 : ((N : Int) == 0) = true := by simp [hN0]
      subst hN0
      go_enter Tryd.func20, Tryd.ntmps20
      go_wp2_with (go_at_call 16; refine (psplit_any s m _ hs HM.out).mono ?_; intro e w1 hP; obtain ⟨v, rfl, hO, hB⟩ := hP.out; rw [HL.out, HE.out.2, HN.out] at hO; rw [HL.out, HE.out.1]; obtain ⟨A, c, rfl⟩ := own_slice hO; have HB1 := Aside0.mk hB; clear hP hO hB)
      go_ret3
      have hx : xs = [] := List.eq_nil_of_length_eq_zero HN.out
      have hp : parE l = 236 := by rw [HPE.out, if_pos hx]
      have hd : parD l = [] := if_neg (by rw [hp]; omega)
      have hn : parN l = [] := if_neg (by rw [hp]; omega)
      exact ⟨none, 0, 0, by rw [hp, hn]; rfl, by rw [hd]; exact RdS.nil _, HB1.out⟩
    · have e0 : ((N : Int) == 0) = false := by simp [hN0]
      have w4 : wrap64 ((N : Int) - 1) = N - 1 := by unfold wrap64; omega
      obtain ⟨p, hp⟩ : ∃ p : Nat, N - 1 = p := ⟨_, rfl⟩
      have hpN : (N : Int) - 1 = p := by omega
      have w6 : IntKind.i64.wrap ((N : Int) - 1) = p := by rw [IntWalk.i64_left, hpN]; unfold wrap64; omega
      have hp1 : p < N := by omega
      have hp2 : (p : Int) < (N : Int) := by omega
      have hp3 : (0 : Int) ≤ (p : Int) := by omega
      have w7 : IntKind.i64.wrap (p : Int) = p := by rw [IntWalk.i64_left]; unfold wrap64; omega
      obtain ⟨x, hx⟩ : ∃ x, xs[p]? = some x := ⟨_, List.getElem?_eq_getElem (by have := HN.out; omega)⟩
      have HX := Aside0.mk (And.intro hx hp)
      clear hx hp w4
      go_enter Tryd.func20, Tryd.ntmps20
      go_wp2_with (go_at_call 16; refine (psplit_any s m _ hs HM.out).mono ?_; intro e w1 hP; obtain ⟨v, rfl, hO, hB⟩ := hP.out; rw [HL.out, HE.out.2, HN.out] at hO; rw [HL.out, HE.out.1]; obtain ⟨A, c, rfl⟩ := own_slice hO; have hNc := own_le hO; have hpc : p ≤ c := (by omega); have hpc2 : (p : Int) ≤ (c : Int) := (by omega); obtain ⟨g, rfl, _, c1⟩ := row_cell hO HX.out.1; have HO1 := Aside0.mk hO; have HB1 := Aside0.mk hB; clear hP hO hB)
      go_quiet (fail)
      go_wp2
      go_ret3
      have hx : xs ≠ [] := fun h => by have := HN.out; rw [h] at this; exact hN0 this.symm
      have hpp : parE l = 0 := by rw [HPE.out, if_neg hx]
      have hd : parD l = xs.take p := by unfold parD; rw [if_pos hpp, HXs.out, HN.out, HX.out.2]
      have hn : parN l = x := by unfold parN; rw [if_pos hpp, HXs.out, HN.out, HX.out.2, List.getD_eq_getElem?_getD, HX.out.1]; rfl
      refine ⟨_, p, p, by rw [hpp, hn]; rfl, ?_, pw_below_drewN HB1.out _⟩
      rw [hd]
      exact ((RdS.of_own HO1.out).take p (by omega)).below (pw_below_drewN (Below.refl _ _) _)
  · have hpe : parE l = E := by unfold parE; rw [if_neg (by rw [hE]; exact h0), hE]
    have hpd : parD l = [] := if_neg (by rw [hpe]; exact h0)
    have hpn : parN l = [] := if_neg (by rw [hpe]; exact h0)
    have hsl := splitL_err hE h0
    have HE := Aside0.mk (And.intro hE hsl)
    have HP := Aside0.mk (And.intro hpe (And.intro hpd hpn))
    have hne : (E != 0) = true := by simpa using h0
    clear hsl hE hpe hpd hpn
    go_enter Tryd.func20, Tryd.ntmps20
    go_wp2_with (go_at_call 16; refine (psplit_any s m _ hs HM.out).mono ?_; intro e w1 hP; obtain ⟨v, rfl, hO, hB⟩ := hP.out; rw [HL.out, HE.out.1]; have HB1 := Aside0.mk hB; clear hP hO hB)
    go_ret3
    refine ⟨none, 0, 0, ?_, by rw [HP.out.2.1]; exact RdS.nil _, HB1.out⟩
    rw [HP.out.1, HP.out.2.2]
    rfl

set_option maxRecDepth 100000 in
set_option maxHeartbeats 4000000 in
theorem rparent_any (s : ByteArray) (w : World) (hs : s.size ≤ 9223372036854775807) :
    Calls Tryd.prog 21 #[.string s] w fun e w' => ParP s.data.toList w e w' := by
  have hu9 := Tryd.underlying9
  have hu23 := Tryd.underlying23
  obtain ⟨i9, hi9, hz9⟩ := Option.map_eq_some_iff.1 info9
  obtain ⟨l, hl⟩ : ∃ l, s.data.toList = l := ⟨_, rfl⟩
  rw [hl]
  have HL := Aside0.mk hl
  clear hl
  obtain ⟨E, hE⟩ : ∃ E, splitE l = E := ⟨_, rfl⟩
  by_cases h0 : E = 0
  · subst h0
    have hsl := splitL_ok hE
    have hpl := pcs_len l
    have hl5 := (splitE_zero hE).2.1
    obtain ⟨xs, hxs⟩ : ∃ xs, pcs l = xs := ⟨_, rfl⟩
    obtain ⟨N, hN⟩ : ∃ N, xs.length = N := ⟨_, rfl⟩
    have hN4 : N ≤ 513 := by rw [hxs] at hpl; omega
    have hpe : parE l = if xs = [] then 236 else 0 := by unfold parE; rw [if_pos hE, hxs]
    have HPE := Aside0.mk hpe
    have HXs := Aside0.mk hxs
    rw [hxs] at hsl
    have HE := Aside0.mk (And.intro hE hsl)
    have HN := Aside0.mk hN
    clear hE hsl hpl hxs hN hpe
    by_cases hN0 : N = 0
    · have e0 : ((N : Int) == 0) = true := by simp [hN0]
      subst hN0
      go_enter Tryd.func21, Tryd.ntmps21
      go_wp2_with (go_at_call 11; refine (rsplit_any s _ hs).mono ?_; intro e w1 hP; obtain ⟨v, rfl, hO, hB⟩ := hP.out; rw [HL.out, HE.out.2, HN.out] at hO; rw [HL.out, HE.out.1]; obtain ⟨A, c, rfl⟩ := own_slice hO; have HB1 := Aside0.mk hB; clear hP hO hB)
      go_ret3
      have hx : xs = [] := List.eq_nil_of_length_eq_zero HN.out
      have hp : parE l = 236 := by rw [HPE.out, if_pos hx]
      have hd : parD l = [] := if_neg (by rw [hp]; omega)
      have hn : parN l = [] := if_neg (by rw [hp]; omega)
      exact ⟨none, 0, 0, by rw [hp, hn]; rfl, by rw [hd]; exact RdS.nil _, HB1.out⟩
    · have e0 : ((N : Int) == 0) = false := by simp [hN0]
      have w4 : wrap64 ((N : Int) - 1) = N - 1 := by unfold wrap64; omega
      obtain ⟨p, hp⟩ : ∃ p : Nat, N - 1 = p := ⟨_, rfl⟩
      have hpN : (N : Int) - 1 = p := by omega
      have w6 : IntKind.i64.wrap ((N : Int) - 1) = p := by rw [IntWalk.i64_left, hpN]; unfold wrap64; omega
      have hp1 : p < N := by omega
      have hp2 : (p : Int) < (N : Int) := by omega
      have hp3 : (0 : Int) ≤ (p : Int) := by omega
      have w7 : IntKind.i64.wrap (p : Int) = p := by rw [IntWalk.i64_left]; unfold wrap64; omega
      obtain ⟨x, hx⟩ : ∃ x, xs[p]? = some x := ⟨_, List.getElem?_eq_getElem (by have := HN.out; omega)⟩
      have HX := Aside0.mk (And.intro hx hp)
      clear hx hp w4
      go_enter Tryd.func21, Tryd.ntmps21
      go_wp2_with (go_at_call 11; refine (rsplit_any s _ hs).mono ?_; intro e w1 hP; obtain ⟨v, rfl, hO, hB⟩ := hP.out; rw [HL.out, HE.out.2, HN.out] at hO; rw [HL.out, HE.out.1]; obtain ⟨A, c, rfl⟩ := own_slice hO; have hNc := own_le hO; have hpc : p ≤ c := (by omega); have hpc2 : (p : Int) ≤ (c : Int) := (by omega); obtain ⟨g, rfl, _, c1⟩ := row_cell hO HX.out.1; have HO1 := Aside0.mk hO; have HB1 := Aside0.mk hB; clear hP hO hB)
      go_quiet (fail)
      go_wp2
      go_ret3
      have hx : xs ≠ [] := fun h => by have := HN.out; rw [h] at this; exact hN0 this.symm
      have hpp : parE l = 0 := by rw [HPE.out, if_neg hx]
      have hd : parD l = xs.take p := by unfold parD; rw [if_pos hpp, HXs.out, HN.out, HX.out.2]
      have hn : parN l = x := by unfold parN; rw [if_pos hpp, HXs.out, HN.out, HX.out.2, List.getD_eq_getElem?_getD, HX.out.1]; rfl
      refine ⟨_, p, c, by rw [hpp, hn]; rfl, ?_, pw_below_drewN HB1.out _⟩
      rw [hd]
      exact ((RdS.of_own HO1.out).take p (by omega)).below (pw_below_drewN (Below.refl _ _) _)
  · have hpe : parE l = E := by unfold parE; rw [if_neg (by rw [hE]; exact h0), hE]
    have hpd : parD l = [] := if_neg (by rw [hpe]; exact h0)
    have hpn : parN l = [] := if_neg (by rw [hpe]; exact h0)
    have hsl := splitL_err hE h0
    have HE := Aside0.mk (And.intro hE hsl)
    have HP := Aside0.mk (And.intro hpe (And.intro hpd hpn))
    have hne : (E != 0) = true := by simpa using h0
    clear hsl hE hpe hpd hpn
    go_enter Tryd.func21, Tryd.ntmps21
    go_wp2_with (go_at_call 11; refine (rsplit_any s _ hs).mono ?_; intro e w1 hP; obtain ⟨v, rfl, hO, hB⟩ := hP.out; rw [HL.out, HE.out.1]; have HB1 := Aside0.mk hB; clear hP hO hB)
    go_ret3
    refine ⟨none, 0, 0, ?_, by rw [HP.out.2.1]; exact RdS.nil _, HB1.out⟩
    rw [HP.out.1, HP.out.2.2]
    rfl
end Go.Proofs.YtankbofabdjleaaDoor.H
