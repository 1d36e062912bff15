/- Paths: PathJoins as a contract. -/
import Derived.Test.YtankbofabdjleaaDoorPs
namespace Go.Proofs.YtankbofabdjleaaDoor.H
open Go.RowKit Go.Proofs.YtankbofabdjleaaDoorW.PrintWords Go.Proofs.YtankbofabdjleaaDoorW.PrintLast Go.Proofs.YtankbofabdjleaaDoorW.PrintMore
set_option linter.unusedVariables false
set_option linter.unusedSimpArgs false

theorem nameE_zero {l : Bs} (h : nameE l = 0) : l ≠ [] ∧ (∀ x ∈ l, x ≠ (47 : UInt8)) ∧ (0 : UInt8) ∉ l ∧ l.length ≤ 32 := by
  unfold nameE at h
  split at h
  · omega
  · next h1 =>
    simp only [not_or] at h1
    split at h
    · omega
    · exact ⟨h1.1, fun x hx e => h1.2.2.2.1 (e ▸ hx), h1.2.2.2.2, by omega⟩
/-- Names that may be, joined, are split into these. -/
theorem join_names {xs : List Bs} (h : ∀ x ∈ xs, nameE x = 0) (hl : (joinL xs).length ≤ 512) : splitE (joinL xs) = 0 ∧ splitL (joinL xs) = xs := by
  have hn := fun x hx => nameE_zero (h x hx)
  have hp : pcs (joinL xs) = xs := pcs_join (fun x hx => ⟨(hn x hx).1, (hn x hx).2.1⟩)
  have hne : joinL xs ≠ [] := by
    unfold joinL
    split
    · simp
    · next h0 =>
      cases xs with
      | nil => exact absurd rfl h0
      | cons x r => unfold joinF; rw [List.flatMap_cons]; simp
  have hhd : (joinL xs).head? = some 47 := by
    unfold joinL
    split
    · rfl
    · next h0 =>
      cases xs with
      | nil => exact absurd rfl h0
      | cons x r => unfold joinF; rw [List.flatMap_cons]; rfl
  have hz : (0 : UInt8) ∉ joinL xs := by
    unfold joinL
    split
    · simp
    · unfold joinF
      intro h0
      obtain ⟨x, hx, hx0⟩ := List.mem_flatMap.1 h0
      rcases List.mem_cons.1 hx0 with h6 | h6
      · cases h6
      · exact (hn x hx).2.2.1 h6
  have hE : splitE (joinL xs) = 0 := splitE_5 hne hl hhd hz (by rw [hp]; exact fun x hx => (hn x hx).2.2.2)
  exact ⟨hE, by unfold splitL; rw [if_pos hE, hp]⟩

set_option maxRecDepth 100000 in
set_option maxHeartbeats 2000000 in
theorem joins_any (m : Int) (A : Option Addr) (n c : Nat) (xs : List Bs) (w : World) (hr : RdP w A n c xs) (hp : 0 < n → ∃ b o, A = some ⟨b, o, none⟩ ∧ b < w.heap.size) (hb : (joinF xs).length ≤ 1048576 ∧ n ≤ 1048576) (hm : w.cell? ⟨0, 0, none⟩ = some (.int .i64 m)) :
    Calls Tryd.prog 4 #[.slice A n c] w fun e w' => e = .returned (.bool true) ∧ Below w.heap.size w w' := by
  have HM := Aside0.mk hm
  clear hm
  have hsz : ∀ x ∈ xs, x.length ≤ 1048576 := fun x hx => by
    have : (joinF [x]).length ≤ (joinF xs).length := joinF_sub (List.singleton_sublist.2 hx)
    have e : (joinF [x]).length = x.length + 1 := by simp [joinF]
    omega
  have hJl : (joinL xs).length ≤ 1048577 := by
    unfold joinL
    split
    · simp
    · omega
  have hlen := hr.len
  have hn9 := hr.max
  obtain ⟨T, hT⟩ : ∃ T, sB (joinL xs) = T := ⟨_, rfl⟩
  have hTd : T.data.toList = joinL xs := by rw [← hT, sB_data]
  have hTl : T.size = (joinL xs).length := by rw [← hT, sB_size]
  have K1 : ∀ W, Below w.heap.size w W → Calls Tryd.prog 13 #[.slice A n c] W fun e w' => e = .returned (.string T) ∧ Below W.heap.size W w' := fun W hW => by
    rw [← hT]
    have hs := hW.size
    refine pjoin_any (blkOf A) n c A xs W (hr.below hW).toRdS (fun h0 => ?_) hr.cap (by omega) (by omega)
    obtain ⟨b, o, rfl, hbl⟩ := hp h0
    refine ⟨o, rfl, by show b < _; omega, fun j x hj => ?_⟩
    obtain ⟨ad, had, h⟩ := (hr.below hW).at_ j x hj
    cases had
    rw [add_o] at h
    exact h
  have K2 : ∀ W, Below w.heap.size w W → Calls Tryd.prog 14 #[.slice A n c] W fun e w' => e = .returned (.string T) ∧ w' = W := fun W hW => by
    rw [← hT]
    exact rjoin_any A n c xs W (hr.below hW).toRdS (by omega)
  have t1 := self_ne T
  have K1 := Aside0.mk K1
  have K2 := Aside0.mk K2
  have HR := Aside0.mk hr
  have HS := Aside0.mk (And.intro hsz (And.intro hTd (And.intro hTl (And.intro hJl hlen))))
  clear hr hp hb hsz hTd hTl hJl hT
  go_enter Tryd.func4, Tryd.ntmps4
  go_wp2_with (first
    | (go_at_call 10; refine (awake_any m _ HM.out).mono ?_; rintro e w1 ⟨rfl, hA⟩; have HA := Aside0.mk hA; clear hA)
    | (go_at_call 13; refine (K1.out _ HA.out.below).mono ?_; rintro e w1 ⟨rfl, hB⟩; have HA := Aside0.mk (HA.out.next hB); clear hB K1)
    | (go_at_call 14; refine (K2.out _ HA.out.below).mono ?_; rintro e w2 ⟨rfl, hw2⟩; rw [hw2]; clear hw2 K2))
  go_loopw [18] (fun iv wr => ∃ i : Int, iv = .int .i64 i ∧ 0 ≤ i ∧ i ≤ n ∧ wr = w1 ∧ Aside0 (∀ j x, (j : Nat) < i → xs[j]? = some x → nameE x = 0)) (fun iv _ => (n - intOf iv).toNat)
  case atStart => exact ⟨0, rfl, Int.le_refl _, by omega, rfl, ⟨fun j x hj => by omega⟩⟩
  case round =>
    obtain ⟨i, rfl, i0, i1, rfl, HI⟩ := hrel
    by_cases hlt : i < (n : Int)
    · have hlt1 : decide (i < (n : Int)) = true := decide_eq_true hlt
      have w4 : wrap64 (i + 1) = i + 1 := by unfold wrap64; omega
      obtain ⟨x, hx⟩ : ∃ x, xs[i.toNat]? = some x := ⟨_, List.getElem?_eq_getElem (by omega)⟩
      obtain ⟨ad, rfl, c1⟩ := (HR.out.below HA.out.below).at_ _ _ hx
      have hxs : x.length ≤ 1048576 := HS.out.1 x (List.mem_of_getElem? hx)
      obtain ⟨t, ht⟩ : ∃ t, sB x = t := ⟨_, rfl⟩
      have hN := fun W => rname_any t W (by rw [← ht, sB_size]; omega)
      rw [← ht, sB_data, ht] at hN
      rw [ht] at c1
      obtain ⟨E, hE⟩ : ∃ E, nameE x = E := ⟨_, rfl⟩
      rw [hE] at hN
      have KN := Aside0.mk hN
      have HX := Aside0.mk (And.intro hx hE)
      clear hN hx hE hxs ht
      by_cases h0 : E = 0
      · subst h0
        go_wp2_with (go_at_call 15; refine (KN.out _).mono ?_; rintro e w2 ⟨rfl, hw2⟩; rw [hw2]; clear hw2)
        refine ⟨⟨i + 1, rfl, by omega, by omega, trivial, ⟨fun j y hj hy => ?_⟩⟩, by simp [intOf]; omega⟩
        by_cases hji : (j : Int) < i
        · exact HI.out j y hji hy
        · have : j = i.toNat := by omega
          subst this
          rw [HX.out.1] at hy
          rw [← Option.some.inj hy]
          exact HX.out.2
      · have h1 : (E != 0) = true := by simpa using h0
        go_wp2_with (go_at_call 15; refine (KN.out _).mono ?_; rintro e w2 ⟨rfl, hw2⟩; rw [hw2]; clear hw2)
        go_ret
        exact ⟨rfl, HA.out.below⟩
    · have hlt1 : decide (i < (n : Int)) = false := decide_eq_false hlt
      have hall : ∀ x ∈ xs, nameE x = 0 := fun x hx => by
        obtain ⟨j, hj⟩ := List.getElem?_of_mem hx
        have := (List.getElem?_eq_some_iff.1 hj).1
        exact HI.out j x (by omega) hj
      by_cases hbig : 512 < T.size
      · have l1 : decide ((512 : Int) < (T.size : Int)) = true := decide_eq_true (by omega)
        clear hall
        go_wp2
        go_ret
        exact ⟨rfl, HA.out.below⟩
      · have l1 : decide ((512 : Int) < (T.size : Int)) = false := decide_eq_false (by omega)
        obtain ⟨hE, hL⟩ := join_names hall (by rw [← HS.out.2.2.1]; omega)
        have hSp := fun W h => psplit_any T m W (by have := HS.out.2.2.1; have := HS.out.2.2.2.1; omega) h
        rw [HS.out.2.1, hE, hL] at hSp
        have KS := Aside0.mk hSp
        clear hSp hE hL hall
        go_wp2_with (first
          | (go_at_call 16; refine (KS.out _ HA.out.cell).mono ?_; intro e w2 hP; obtain ⟨v, rfl, hO, hB⟩ := hP.out; rw [HS.out.2.2.2.2] at hO; obtain ⟨A2, c2, rfl⟩ := own_slice hO; have HO := Aside0.mk (RdS.of_own hO); have HA := Aside0.mk (HA.out.next hB); clear hP hO hB)
          | (go_at_call 17; refine (same_any _ _ _ _ _ _ _ _ _ HO.out (HR.out.below HA.out.below).toRdS).mono ?_; rw [sameB_self]; rintro e w3 ⟨rfl, hB⟩; have HA := Aside0.mk (HA.out.next hB); clear hB))
        go_ret
        exact ⟨rfl, HA.out.below⟩
end Go.Proofs.YtankbofabdjleaaDoor.H
