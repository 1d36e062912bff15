/- Paths: PathSplits as a contract. -/
import Derived.Test.YtankbofabdjleaaDoorPr
namespace Go.Proofs.YtankbofabdjleaaDoor.H
open Go.RowKit Go.Proofs.YtankbofabdjleaaDoorW.PrintWords Go.Proofs.YtankbofabdjleaaDoorW.PrintLast Go.Proofs.YtankbofabdjleaaDoorW.PrintMore
set_option linter.unusedVariables false
set_option linter.unusedSimpArgs false

theorem sameB_self (xs : List Bs) : sameB xs xs = true := decide_eq_true rfl
theorem Aw.lift {w w1 w2 : World} {m : Int} (h : Aw w w1 m) (k : Aw w1 w2 m) : Aw w w2 m := ⟨below_then h.below h.below.size k.below, k.cell⟩

set_option maxRecDepth 100000 in
set_option maxHeartbeats 4000000 in
theorem splits_any (m : Int) (s : ByteArray) (w : World) (hs : s.size ≤ 1048576) (hm : w.cell? ⟨0, 0, none⟩ = some (.int .i64 m)) :
    Calls Tryd.prog 7 #[.string s] w fun e w' => e = .returned (.bool true) ∧ Below w.heap.size w w' := by
  have HA := Aside0.mk (Aw.refl hm)
  clear hm
  have K1 := fun W h => psplit_any s m W (by omega) h
  have K2 := fun W => rsplit_any s W (by omega)
  have K3 := fun W h => pparent_any s m W (by omega) h
  have K4 := fun W => rparent_any s W (by omega)
  have K5 := fun W => pslash_any s W (by omega)
  have K6 := fun W => rslash_any s W (by omega)
  obtain ⟨l, hl⟩ : ∃ l, s.data.toList = l := ⟨_, rfl⟩
  rw [hl] at K1 K2 K3 K4 K5 K6
  obtain ⟨E, hE⟩ : ∃ E, splitE l = E := ⟨_, rfl⟩
  obtain ⟨xs, hxs⟩ : ∃ xs, splitL l = xs := ⟨_, rfl⟩
  obtain ⟨N, hN⟩ : ∃ N, xs.length = N := ⟨_, rfl⟩
  obtain ⟨B, hB⟩ : ∃ B, slashL l = B := ⟨_, rfl⟩
  obtain ⟨E2, hE2⟩ : ∃ E, parE l = E := ⟨_, rfl⟩
  obtain ⟨T, hT⟩ : ∃ T, sB (parN l) = T := ⟨_, rfl⟩
  obtain ⟨ys, hys⟩ : ∃ ys, parD l = ys := ⟨_, rfl⟩
  rw [hE, hxs] at K1 K2
  rw [hB] at K5 K6
  have t2 := self_eq T
  have HV := Aside0.mk (And.intro hN (And.intro hE2 (And.intro hT hys)))
  have K1 := Aside0.mk K1
  have K2 := Aside0.mk K2
  have K3 := Aside0.mk K3
  have K4 := Aside0.mk K4
  have K5 := Aside0.mk K5
  have K6 := Aside0.mk K6
  clear hE hxs hN hB hE2 hT hys hl
  go_enter Tryd.func7, Tryd.ntmps7
  go_wp2_with (first
    | (go_at_call 16; refine (K1.out _ HA.out.cell).mono ?_; intro e w1 hP; obtain ⟨v, rfl, hO, hB⟩ := hP.out; rw [HV.out.1] at hO; obtain ⟨A1, c1, rfl⟩ := own_slice hO; have HO1 := Aside0.mk (RdS.of_own hO); have HA := Aside0.mk (HA.out.next hB); clear hP hO hB)
    | (go_at_call 11; refine (K2.out _).mono ?_; intro e w1 hP; obtain ⟨v, rfl, hO, hB⟩ := hP.out; rw [HV.out.1] at hO; obtain ⟨A2, c2, rfl⟩ := own_slice hO; replace HO1 := Aside0.mk (HO1.out.below hB); have HO2 := Aside0.mk (RdS.of_own hO); have HA := Aside0.mk (HA.out.next hB); clear hP hO hB)
    | (go_at_call 20; refine (K3.out _ HA.out.cell).mono ?_; intro e w1 hP; obtain ⟨A3, n3, c3, rfl, hO, hB⟩ := hP.out; rw [HV.out.2.1, HV.out.2.2.1]; rw [HV.out.2.2.2] at hO; replace HO1 := Aside0.mk (HO1.out.below hB); replace HO2 := Aside0.mk (HO2.out.below hB); have HO3 := Aside0.mk hO; have HA := Aside0.mk (HA.out.next hB); clear hP hO hB)
    | (go_at_call 21; refine (K4.out _).mono ?_; intro e w1 hP; obtain ⟨A4, n4, c4, rfl, hO, hB⟩ := hP.out; rw [HV.out.2.1, HV.out.2.2.1]; rw [HV.out.2.2.2] at hO; replace HO1 := Aside0.mk (HO1.out.below hB); replace HO2 := Aside0.mk (HO2.out.below hB); replace HO3 := Aside0.mk (HO3.out.below hB); have HO4 := Aside0.mk hO; have HA := Aside0.mk (HA.out.next hB); clear hP hO hB)
    | (go_at_call 10; refine (awake_any m _ HA.out.cell).mono ?_; rintro e w1 ⟨rfl, hA⟩; replace HO1 := Aside0.mk (HO1.out.below hA.below); replace HO2 := Aside0.mk (HO2.out.below hA.below); replace HO3 := Aside0.mk (HO3.out.below hA.below); replace HO4 := Aside0.mk (HO4.out.below hA.below); have HA := Aside0.mk (HA.out.lift hA); clear hA)
    | (go_at_call 17; refine (same_any _ _ _ _ _ _ _ _ _ HO1.out HO2.out).mono ?_; rw [sameB_self]; rintro e w1 ⟨rfl, hB⟩; replace HO3 := Aside0.mk (HO3.out.below hB); replace HO4 := Aside0.mk (HO4.out.below hB); have HA := Aside0.mk (HA.out.next hB); clear hB HO1 HO2)
    | (go_at_call 17; refine (same_any _ _ _ _ _ _ _ _ _ HO3.out HO4.out).mono ?_; rw [sameB_self]; rintro e w1 ⟨rfl, hB⟩; have HA := Aside0.mk (HA.out.next hB); clear hB HO3 HO4)
    | (go_at_call 22; refine (K5.out _).mono ?_; rintro e w1 ⟨rfl, hB⟩; have HA := Aside0.mk (HA.out.next hB); clear hB)
    | (go_at_call 23; refine (K6.out _).mono ?_; rintro e w1 ⟨rfl, hB⟩; have HA := Aside0.mk (HA.out.next hB); clear hB))
  go_ret
  exact ⟨rfl, HA.out.below⟩
end Go.Proofs.YtankbofabdjleaaDoor.H
