/- Paths: PathCleans as a contract. -/
import Derived.Test.YtankbofabdjleaaDoorPq
namespace Go.Proofs.YtankbofabdjleaaDoor.H
open Go.RowKit Go.Proofs.YtankbofabdjleaaDoorW.PrintWords Go.Proofs.YtankbofabdjleaaDoorW.PrintLast Go.Proofs.YtankbofabdjleaaDoorW.PrintMore
set_option linter.unusedVariables false
set_option linter.unusedSimpArgs false

theorem self_ne (T : ByteArray) : (T.toList != T.toList) = false := by simp
theorem self_eq (T : ByteArray) : (T.toList == T.toList) = true := by simp
theorem text_ne {x y : Bs} (h : x ≠ y) : ((sB x).toList == y) = false := by
  rw [Lib.toList_data, sB_data]
  simpa using h

set_option maxRecDepth 100000 in
set_option maxHeartbeats 4000000 in
theorem cleans_any (m : Int) (s : ByteArray) (w : World) (hs : s.size ≤ 9223372036854775807) (hm : w.cell? ⟨0, 0, none⟩ = some (.int .i64 m)) :
    Calls Tryd.prog 5 #[.string s] w fun e w' => e = .returned (.bool true) ∧ Below w.heap.size w w' := by
  have HM := Aside0.mk hm
  clear hm
  have hP := fun W h => pclean_any s m W hs h
  have hR := fun W => rclean_any s W hs
  obtain ⟨l, hl⟩ : ∃ l, s.data.toList = l := ⟨_, rfl⟩
  rw [hl] at hP hR
  clear hl
  obtain ⟨E, hE⟩ : ∃ E, splitE l = E := ⟨_, rfl⟩
  obtain ⟨T, hT⟩ : ∃ T, sB (cleanL l) = T := ⟨_, rfl⟩
  rw [hT, hE] at hP hR
  have t1 := self_ne T
  have t2 := self_eq T
  have e1 : (E != E) = false := by simp
  have KP := Aside0.mk hP
  have KR := Aside0.mk hR
  clear hP hR
  by_cases h0 : E = 0
  · subst h0
    obtain ⟨hE1, hE2, hE3, hE4, hE5⟩ := clean_again hE
    have hTd : T.data.toList = cleanL l := by rw [← hT, sB_data]
    have hTs : T.size ≤ 9223372036854775807 := by rw [← hT, sB_size]; omega
    have hQ := fun W h => pclean_any T m W hTs h
    have hS := fun W h => psplit_any T m W hTs h
    rw [hTd, hE2, hE1, hT] at hQ
    rw [hTd, hE1, hE3] at hS
    obtain ⟨xs, hxs⟩ : ∃ xs, cleanF (pcs l) = xs := ⟨_, rfl⟩
    rw [hxs] at hS hE4
    have KQ := Aside0.mk hQ
    have KS := Aside0.mk hS
    have HD := Aside0.mk hE4
    obtain ⟨N, hN⟩ : ∃ N, xs.length = N := ⟨_, rfl⟩
    have HN := Aside0.mk hN
    clear hQ hS hE1 hE2 hE3 hE4 hE5 hTd hTs hT hE hxs hN
    go_enter Tryd.func5, Tryd.ntmps5
    go_wp2_with (first
      | (go_at_call 10; refine (awake_any m _ HM.out).mono ?_; rintro e w1 ⟨rfl, hA⟩; have HA := Aside0.mk hA; clear hA)
      | (go_at_call 18; refine (KP.out _ HA.out.cell).mono ?_; rintro e w1 ⟨rfl, hB⟩; have HA := Aside0.mk (HA.out.next hB); clear hB KP)
      | (go_at_call 18; refine (KQ.out _ HA.out.cell).mono ?_; rintro e w1 ⟨rfl, hB⟩; have HA := Aside0.mk (HA.out.next hB); clear hB KQ)
      | (go_at_call 19; refine (KR.out _).mono ?_; rintro e w1 ⟨rfl, hB⟩; have HA := Aside0.mk (HA.out.next hB); clear hB KR)
      | (go_at_call 16; refine (KS.out _ HA.out.cell).mono ?_; intro e w1 hP; obtain ⟨v, rfl, hO, hB⟩ := hP.out; rw [HN.out] at hO; obtain ⟨A, c, rfl⟩ := own_slice hO; have HO := Aside0.mk (RdS.of_own hO); have HA := Aside0.mk (HA.out.next hB); clear hP hO hB KS))
    have hn9 := HO.out.max
    have HW1 := Aside0.mk HA.out.below
    go_loopw [46] (fun iv wr => ∃ i : Int, iv = .int .i64 i ∧ 0 ≤ i ∧ i ≤ N ∧ Aside0 (Below w1.heap.size w1 wr)) (fun iv _ => (N - intOf iv).toNat)
    case atStart => exact ⟨0, rfl, Int.le_refl _, by omega, ⟨Below.refl _ _⟩⟩
    case round =>
      obtain ⟨i, rfl, i0, i1, HW⟩ := hrel
      by_cases hlt : i < (N : Int)
      · have hlt1 : decide (i < (N : Int)) = true := decide_eq_true hlt
        have w4 : wrap64 (i + 1) = i + 1 := by unfold wrap64; omega
        obtain ⟨x, hx⟩ : ∃ x, xs[i.toNat]? = some x := ⟨_, List.getElem?_eq_getElem (by have := HN.out; omega)⟩
        obtain ⟨ad, rfl, c1⟩ := (HO.out.below HW.out).at_ _ _ hx
        have hd := HD.out x (List.mem_of_getElem? hx)
        have q1 := text_ne hd.1
        have q2 := text_ne hd.2
        obtain ⟨t, ht⟩ : ∃ t, sB x = t := ⟨_, rfl⟩
        rw [ht] at c1 q1 q2
        clear hx hd ht
        go_wp2
        exact ⟨⟨i + 1, rfl, by omega, by omega, HW⟩, by simp [intOf]; omega⟩
      · have hlt1 : decide (i < (N : Int)) = false := decide_eq_false hlt
        go_wp2
        go_ret
        exact ⟨rfl, below_then HW1.out HW1.out.size HW.out⟩
  · have h1 : (E != 0) = true := by simpa using h0
    clear hE hT
    go_enter Tryd.func5, Tryd.ntmps5
    go_wp2_with (first
      | (go_at_call 10; refine (awake_any m _ HM.out).mono ?_; rintro e w1 ⟨rfl, hA⟩; have HA := Aside0.mk hA; clear hA)
      | (go_at_call 18; refine (KP.out _ HA.out.cell).mono ?_; rintro e w1 ⟨rfl, hB⟩; have HA := Aside0.mk (HA.out.next hB); clear hB KP)
      | (go_at_call 19; refine (KR.out _).mono ?_; rintro e w1 ⟨rfl, hB⟩; have HA := Aside0.mk (HA.out.next hB); clear hB KR))
    go_ret
    exact ⟨rfl, HA.out.below⟩
end Go.Proofs.YtankbofabdjleaaDoor.H
