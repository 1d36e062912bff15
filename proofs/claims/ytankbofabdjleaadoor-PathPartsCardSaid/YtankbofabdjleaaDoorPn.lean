/- Paths: awake; the short laws. -/
import Derived.Test.YtankbofabdjleaaDoorPm
namespace Go.Proofs.YtankbofabdjleaaDoor.H
open Go.RowKit Go.Proofs.YtankbofabdjleaaDoorW.PrintWords Go.Proofs.YtankbofabdjleaaDoorW.PrintLast Go.Proofs.YtankbofabdjleaaDoorW.PrintMore
set_option linter.unusedVariables false
set_option linter.unusedSimpArgs false

theorem eq_func_in (d : Nat) (w : World) (f : Fn) (a c : Array Value) : (Op.equalIn (d + 1) 28 (.func f a c) .nilFunc).run Tryd.prog w = .ok false w := by
  have hu := Tryd.underlying28
  simp [Op.equalIn, run_underlying hu, go_sem]
theorem eq_func (w : World) (f : Fn) (a c : Array Value) : (binOp .eql 28 (.func f a c) .nilFunc).run Tryd.prog w = .ok (.bool false) w := by
  have h := eq_func_in 9999 w f a c
  simp only [binOp, Op.equal, Op.maxDepth, Sem.run_bind, h]
  rfl

/-- What was, is still; so is the library's number. -/
structure Aw (w w' : World) (m : Int) : Prop where
  below : Below w.heap.size w w'
  cell : w'.cell? ⟨0, 0, none⟩ = some (.int .i64 m)
theorem Aw.next {w w1 w2 : World} {m : Int} (h : Aw w w1 m) (hb : Below w1.heap.size w1 w2) : Aw w w2 m :=
  ⟨below_then h.below h.below.size hb, cell_later hb h.cell⟩
theorem Aw.refl {w : World} {m : Int} (h : w.cell? ⟨0, 0, none⟩ = some (.int .i64 m)) : Aw w w m := ⟨Below.refl _ _, h⟩
theorem RdS.two {w : World} {g t : Nat} (a b : Bs) (hc : w.heap[g]? = some (.cells #[.string (sB a), .string (sB b)] t (0, 0))) : RdS w (some ⟨g, 0, none⟩) 2 [a, b] := by
  refine ⟨rfl, by omega, fun j x hj => ⟨_, rfl, ?_⟩⟩
  rw [add_plain]
  have : j = 0 ∨ j = 1 := by
    have := (List.getElem?_eq_some_iff.1 hj).1
    simp at this
    omega
  rcases this with rfl | rfl
  · obtain rfl : a = x := by simpa using hj
    simp [World.cell?, hc]
  · obtain rfl : b = x := by simpa using hj
    simp [World.cell?, hc]

set_option maxRecDepth 100000 in
set_option maxHeartbeats 8000000 in
theorem awake_any (m : Int) (w : World) (hm : w.cell? ⟨0, 0, none⟩ = some (.int .i64 m)) :
    Calls Tryd.prog 10 #[] w fun e w' => e = .returned (.bool true) ∧ Aw w w' m := by
  have HA := Aside0.mk (Aw.refl hm)
  clear hm
  have HPa := Aside0.mk (fun W h => parts_any ⟨#[47]⟩ m W (by decide) h)
  have HPb := Aside0.mk (fun W h => parts_any ⟨#[]⟩ m W (by decide) h)
  have HSa := Aside0.mk (fun W h => psplit_any ⟨#[47, 97, 47, 47, 98, 47]⟩ m W (by decide) h)
  have HSb := Aside0.mk (fun W h => psplit_any ⟨#[97]⟩ m W (by decide) h)
  have HC := Aside0.mk (fun W h => pclean_any ⟨#[47, 97, 47, 46, 47, 98, 47, 46, 46, 47, 46, 46, 47, 46, 46, 47, 47, 99]⟩ m W (by decide) h)
  have HLa := Aside0.mk (fun W => pslash_any ⟨#[47, 97, 47]⟩ W (by decide))
  have HLb := Aside0.mk (fun W => pslash_any ⟨#[47]⟩ W (by decide))
  have hef := eq_func
  have hsl : ((sB [47, 99]).toList == [47, 99]) = true := by rw [Lib.toList_data, sB_data]; rfl
  have hu23 := Tryd.underlying23
  have hu9 := Tryd.underlying9
  obtain ⟨i9, hi9, hz9⟩ := Option.map_eq_some_iff.1 info9
  have eE : splitE [47, 97, 47, 47, 98, 47] = 0 := by decide
  have eL : splitL [47, 97, 47, 47, 98, 47] = [[97], [98]] := by decide
  have eF : splitE [97] = 236 := by decide
  have eC : splitE [47, 97, 47, 46, 47, 98, 47, 46, 46, 47, 46, 46, 47, 46, 46, 47, 47, 99] = 0 := by decide
  have eS : cleanL [47, 97, 47, 46, 47, 98, 47, 46, 46, 47, 46, 46, 47, 46, 46, 47, 47, 99] = [47, 99] := by decide
  have eM : slashL [47, 97, 47] = true := by decide
  have eN : slashL [47] = false := by decide
  have eQ : sameB [[97], [98]] [[97], [98]] = true := by decide
  have HV := Aside0.mk (And.intro eE (And.intro eL (And.intro eF (And.intro eC (And.intro eS (And.intro eM (And.intro eN eQ)))))))
  clear eE eL eF eC eS eM eN eQ
  go_enter Tryd.func10, Tryd.ntmps10
  go_wp2_with (first
    | (go_at_call 12; refine (HPa.out _ HA.out.cell).mono ?_; intro e w1 hP; obtain ⟨b, A, n, c, rfl, h1, h2, h3, hB⟩ := hP.out; have HA := Aside0.mk (HA.out.next hB); clear hP h1 h2 h3 hB HPa)
    | (go_at_call 12; refine (HPb.out _ HA.out.cell).mono ?_; intro e w1 hP; obtain ⟨b, A, n, c, rfl, h1, h2, h3, hB⟩ := hP.out; have HA := Aside0.mk (HA.out.next hB); clear hP h1 h2 h3 hB HPb)
    | (go_at_call 16; refine (HSa.out _ HA.out.cell).mono ?_; intro e w1 hP; obtain ⟨v, rfl, hO, hB⟩ := hP.out; change World.ownsRow _ _ _ _ _ (splitL [47, 97, 47, 47, 98, 47]).length (strsC (splitL [47, 97, 47, 47, 98, 47])) at hO; rw [HV.out.2.1] at hO; have HE0 := HV.out.1; obtain ⟨A, c, rfl⟩ := own_slice hO; have HO := Aside0.mk (RdS.of_own hO); have HA := Aside0.mk (HA.out.next hB); clear hP hO hB HSa)
    | (go_at_call 16; refine (HSb.out _ HA.out.cell).mono ?_; intro e w1 hP; obtain ⟨v, rfl, hO, hB⟩ := hP.out; have HO := Aside0.mk (HO.out.below hB); have HA := Aside0.mk (HA.out.next hB); clear hP hO hB HSb; have HE1 := HV.out.2.2.1; rw [show splitE (ByteArray.data (ByteArray.mk #[97])).toList = 236 from HE1]; clear HE1)
    | (go_at_call 18; refine (HC.out _ HA.out.cell).mono ?_; rw [show splitE (ByteArray.data (ByteArray.mk #[47, 97, 47, 46, 47, 98, 47, 46, 46, 47, 46, 46, 47, 46, 46, 47, 47, 99])).toList = 0 from HV.out.2.2.2.1, show cleanL (ByteArray.data (ByteArray.mk #[47, 97, 47, 46, 47, 98, 47, 46, 46, 47, 46, 46, 47, 46, 46, 47, 47, 99])).toList = [47, 99] from HV.out.2.2.2.2.1]; rintro e w1 ⟨rfl, hB⟩; have HO := Aside0.mk (HO.out.below hB); have HA := Aside0.mk (HA.out.next hB); clear hB HC)
    | (go_at_call 17; refine (same_any A (some ⟨w1.heap.size, 0, none⟩) 2 2 c 2 [[97], [98]] [[97], [98]] _ ?r1 ?r2).mono ?_; (case r1 => exact HO.out.below (below_alloc (Below.refl _ _) _)); (case r2 => exact RdS.two [97] [98] (blk_new w1 _)); rw [HV.out.2.2.2.2.2.2.2]; rintro e w2 ⟨rfl, hB⟩; have HA := Aside0.mk ((HA.out.next (below_alloc (Below.refl _ _) _)).next hB); clear hB HO)
    | (go_at_call 22; refine (HLa.out _).mono ?_; rw [show slashL (ByteArray.data (ByteArray.mk #[47, 97, 47])).toList = true from HV.out.2.2.2.2.2.1]; rintro e w2 ⟨rfl, hB⟩; have HA := Aside0.mk (HA.out.next hB); clear hB HLa)
    | (go_at_call 22; refine (HLb.out _).mono ?_; rw [show slashL (ByteArray.data (ByteArray.mk #[47])).toList = false from HV.out.2.2.2.2.2.2.1]; rintro e w2 ⟨rfl, hB⟩; have HA := Aside0.mk (HA.out.next hB); clear hB HLb)
    )
  go_ret
  exact ⟨rfl, HA.out⟩

set_option maxRecDepth 100000 in
set_option maxHeartbeats 2000000 in
theorem limits_any (m : Int) (w : World) (hm : w.cell? ⟨0, 0, none⟩ = some (.int .i64 m)) :
    Calls Tryd.prog 6 #[] w fun e w' => e = .returned (.bool true) ∧ Below w.heap.size w w' := by
  have HM := Aside0.mk hm
  clear hm
  go_enter Tryd.func6, Tryd.ntmps6
  go_wp2_with (go_at_call 10; refine (awake_any m _ HM.out).mono ?_; rintro e w1 ⟨rfl, hA⟩; have HA := Aside0.mk hA; clear hA)
  go_ret
  exact ⟨rfl, HA.out.below⟩

set_option maxRecDepth 100000 in
set_option maxHeartbeats 2000000 in
theorem names_any (s : ByteArray) (m : Int) (w : World) (hs : s.size ≤ 9223372036854775807) (hm : w.cell? ⟨0, 0, none⟩ = some (.int .i64 m)) :
    Calls Tryd.prog 9 #[.string s] w fun e w' => e = .returned (.bool true) ∧ Below w.heap.size w w' := by
  have HM := Aside0.mk hm
  clear hm
  obtain ⟨E, hE⟩ : ∃ E, nameE s.data.toList = E := ⟨_, rfl⟩
  have HE := Aside0.mk hE
  clear hE
  go_enter Tryd.func9, Tryd.ntmps9
  go_wp2_with (first
    | (go_at_call 10; refine (awake_any m _ HM.out).mono ?_; rintro e w1 ⟨rfl, hA⟩; have HA := Aside0.mk hA; clear hA)
    | (go_at_call 26; refine (pname_any s _ hs).mono ?_; rw [HE.out]; rintro e w2 ⟨rfl, hB⟩; have HA := Aside0.mk (HA.out.next hB); clear hB)
    | (go_at_call 15; refine (rname_any s _ hs).mono ?_; rw [HE.out]; rintro e w3 ⟨rfl, hw3⟩; rw [hw3]; clear hw3))
  go_ret
  exact ⟨rfl, HA.out.below⟩
end Go.Proofs.YtankbofabdjleaaDoor.H
