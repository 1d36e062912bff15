/- Paths: same, Join of both as contracts. -/
import Derived.Test.YtankbofabdjleaaDoorPd
namespace Go.Proofs.YtankbofabdjleaaDoor.H
open Go.RowKit Go.Proofs.YtankbofabdjleaaDoorW.PrintWords Go.Proofs.YtankbofabdjleaaDoorW.PrintLast Go.Proofs.YtankbofabdjleaaDoorW.PrintMore
set_option linter.unusedVariables false
set_option linter.unusedSimpArgs false

/-- A row of texts that is read. -/
structure RdS (w : World) (A : Option Addr) (n : Nat) (xs : List Bs) : Prop where
  len : xs.length = n
  max : n ≤ 9223372036854775807
  at_ : ∀ (j : Nat) x, xs[j]? = some x → ∃ ad, A = some ad ∧ w.cell? (ad.add j) = some (.string (sB x))
theorem RdS.below {w w' : World} {A : Option Addr} {n : Nat} {xs : List Bs} (h : RdS w A n xs) (hb : Below w.heap.size w w') : RdS w' A n xs :=
  ⟨h.len, h.max, fun j x hj => by obtain ⟨ad, h1, h2⟩ := h.at_ j x hj; exact ⟨ad, h1, cell_later hb h2⟩⟩
theorem RdS.of_own {W : World} {b N c : Nat} {A : Option Addr} {xs : List Bs} (h : W.ownsRow b 9 1 (.slice A N c) N (strsC xs)) : RdS W A N xs := by
  have hl := h.1
  rw [strsC_length, Nat.mul_one] at hl
  refine ⟨hl, ?_, fun j x hj => ?_⟩
  · rcases h.2 with ⟨_, h0⟩ | ⟨g, cap, cur, hv, hb, hg, hc, hm, _⟩
    · omega
    · have : maxLen = 9223372036854775807 := rfl
      omega
  · obtain ⟨g, rfl, _, h1⟩ := row_cell h hj
    exact ⟨_, rfl, by rw [add_plain]; exact h1⟩
/-- Are they the same? -/
def sameB (xs ys : List Bs) : Bool := decide (xs = ys)

set_option maxRecDepth 100000 in
set_option maxHeartbeats 2000000 in
theorem same_any (A B : Option Addr) (n m c d : Nat) (xs ys : List Bs) (w : World) (ha : RdS w A n xs) (hb : RdS w B m ys) :
    Calls Tryd.prog 17 #[.slice A n c, .slice B m d] w fun e w' => e = .returned (.bool (sameB xs ys)) ∧ Below w.heap.size w w' := by
  have HA := Aside0.mk ha
  have HB := Aside0.mk hb
  have hn9 := ha.max
  have hm9 := hb.max
  clear ha hb
  by_cases hnm : n = m
  · subst hnm
    have e0 : ((n : Int) != (n : Int)) = false := by simp
    go_enter Tryd.func17, Tryd.ntmps17
    go_wp2
    go_loopw [13] (fun iv wr => ∃ i : Int, iv = .int .i64 i ∧ 0 ≤ i ∧ i ≤ n ∧ Aside0 (∀ j : Nat, (j : Int) < i → xs[j]? = ys[j]?) ∧ Aside0 (Below w.heap.size w wr)) (fun iv _ => (n - intOf iv).toNat)
    case atStart => exact ⟨0, rfl, Int.le_refl _, by omega, ⟨fun j hj => by omega⟩, ⟨Below.refl _ _⟩⟩
    case round =>
      obtain ⟨i, rfl, i0, i1, HI, HW⟩ := hrel
      by_cases hlt : i < (n : Int)
      · have hlt1 : decide (i < (n : Int)) = true := decide_eq_true hlt
        have w4 : wrap64 (i + 1) = i + 1 := by unfold wrap64; omega
        obtain ⟨x, hx⟩ : ∃ x, xs[i.toNat]? = some x := ⟨_, List.getElem?_eq_getElem (by have := HA.out.len; omega)⟩
        obtain ⟨y, hy⟩ : ∃ y, ys[i.toNat]? = some y := ⟨_, List.getElem?_eq_getElem (by have := HB.out.len; omega)⟩
        obtain ⟨ad, rfl, c1⟩ := (HA.out.below HW.out).at_ _ _ hx
        obtain ⟨bd, rfl, c2⟩ := (HB.out.below HW.out).at_ _ _ hy
        obtain ⟨s, hs⟩ : ∃ s, sB x = s := ⟨_, rfl⟩
        obtain ⟨t, ht⟩ : ∃ t, sB y = t := ⟨_, rfl⟩
        rw [hs] at c1
        rw [ht] at c2
        have HX := Aside0.mk (And.intro hx (And.intro hy (And.intro hs ht)))
        by_cases he : x = y
        · have e1 : s = t := by rw [← hs, ← ht, he]
          subst e1
          clear hx hy hs ht
          go_wp2
          go_quiet (fail)
          go_wp2
          refine ⟨⟨i + 1, rfl, by omega, by omega, ⟨fun j hj => ?_⟩, ⟨pw_below_drewN HW.out _⟩⟩, by simp [intOf]; omega⟩
          by_cases hji : (j : Int) < i
          · exact HI.out j hji
          · have : j = i.toNat := by omega
            subst this
            rw [HX.out.1, HX.out.2.1, he]
        · have e1 : s ≠ t := fun h => he (sB_inj (by rw [hs, ht, h]))
          have e2 : (s.toList == t.toList) = false := by
            simp only [beq_eq_false_iff_ne, ne_eq]
            intro h
            rw [Lib.toList_data, Lib.toList_data] at h
            apply e1
            rw [← data_sB s, ← data_sB t, h]
          clear hx hy hs ht
          go_wp2
          go_quiet (fail)
          go_wp2
          go_ret
          have : sameB xs ys = false := decide_eq_false (fun h => he (by
            have h1 := HX.out.1
            rw [h, HX.out.2.1] at h1
            exact (Option.some.inj h1).symm))
          exact ⟨by rw [this]; rfl, pw_below_drewN HW.out _⟩
      · have hlt1 : decide (i < (n : Int)) = false := decide_eq_false hlt
        go_wp2
        go_ret
        have : sameB xs ys = true := decide_eq_true (List.ext_getElem? (fun j => by
          by_cases hj : j < n
          · exact HI.out j (by omega)
          · rw [List.getElem?_eq_none (by have := HA.out.len; omega), List.getElem?_eq_none (by have := HB.out.len; omega)]))
        exact ⟨by rw [this]; rfl, HW.out⟩
  · have e0 : ((n : Int) != (m : Int)) = true := by simp; omega
    go_enter Tryd.func17, Tryd.ntmps17
    go_wp2
    go_ret
    have : sameB xs ys = false := decide_eq_false (fun h => hnm (by rw [← HA.out.len, ← HB.out.len, h]))
    exact ⟨by rw [this]; rfl, Below.refl _ _⟩

theorem sB_app (a b : Bs) : sB a ++ sB b = sB (a ++ b) := by
  apply ByteArray.ext
  simp [sB]
/-- The path of parts. -/
def joinF (xs : List Bs) : Bs := xs.flatMap fun x => 47 :: x
def joinL (xs : List Bs) : Bs := if xs = [] then [47] else joinF xs
theorem joinF_take {xs : List Bs} {i : Nat} {x : Bs} (h : xs[i]? = some x) : joinF (xs.take (i + 1)) = joinF (xs.take i) ++ 47 :: x := by
  unfold joinF
  rw [List.take_add_one, h, Option.toList, List.flatMap_append]
  simp
theorem joinF_inter (x : Bs) (xs : List Bs) : joinF (x :: xs) = 47 :: [47].intercalate (x :: xs) := by
  induction xs generalizing x with
  | nil => simp [joinF, List.intercalate]
  | cons y r ih =>
    have := ih y
    unfold joinF at this ⊢
    rw [List.flatMap_cons, this]
    simp [List.intercalate, List.intersperse]
theorem joinF_take_le (xs : List Bs) (i : Nat) : (joinF (xs.take i)).length ≤ (joinF xs).length := by
  conv => rhs; rw [← List.take_append_drop i xs]
  unfold joinF
  rw [List.flatMap_append, List.length_append]
  omega

set_option maxRecDepth 100000 in
set_option maxHeartbeats 2000000 in
theorem rjoin_any (A : Option Addr) (n c : Nat) (xs : List Bs) (w : World) (ha : RdS w A n xs) (hb : (joinF xs).length ≤ 140737488355328) :
    Calls Tryd.prog 14 #[.slice A n c] w fun e w' => e = .returned (.string (sB (joinL xs))) ∧ w' = w := by
  have HA := Aside0.mk ha
  have hn9 := ha.max
  have hlen := ha.len
  have HBd := Aside0.mk hb
  clear ha hb
  by_cases h0 : n = 0
  · subst h0
    obtain rfl : xs = [] := List.eq_nil_of_length_eq_zero hlen
    clear hlen
    go_enter Tryd.func14, Tryd.ntmps14
    go_wp2
    go_ret
    exact ⟨rfl, rfl⟩
  have e0 : ((n : Int) == 0) = false := by simp; omega
  have hne : xs ≠ [] := fun h => by subst h; simp at hlen; omega
  have HJ := Aside0.mk (show joinL xs = joinF xs from if_neg hne)
  have HLen := Aside0.mk hlen
  clear hlen hne
  go_enter Tryd.func14, Tryd.ntmps14
  go_wp2
  go_loop [3, 11] (fun sv iv => ∃ i : Int, iv = .int .i64 i ∧ 0 ≤ i ∧ i ≤ n ∧ sv = .string (sB (joinF (xs.take i.toNat)))) (fun _ iv => (n - intOf iv).toNat)
  case atStart => exact ⟨0, rfl, Int.le_refl _, by omega, rfl⟩
  case round =>
    obtain ⟨i, rfl, i0, i1, rfl⟩ := hrel
    obtain ⟨S, hS⟩ : ∃ S, sB (joinF (xs.take i.toNat)) = S := ⟨_, rfl⟩
    have hSl : S.size ≤ 140737488355328 := by rw [← hS, sB_size]; exact Nat.le_trans (joinF_take_le _ _) HBd.out
    rw [hS]
    have HS := Aside0.mk hS
    clear hS
    by_cases hlt : i < (n : Int)
    · have hlt1 : decide (i < (n : Int)) = true := decide_eq_true hlt
      obtain ⟨x, hx⟩ : ∃ x, xs[i.toNat]? = some x := ⟨_, List.getElem?_eq_getElem (by have := HLen.out; omega)⟩
      have w4 : wrap64 (i + 1) = i + 1 := by unfold wrap64; omega
      obtain ⟨ad, rfl, c1⟩ := HA.out.at_ _ _ hx
      obtain ⟨s, hs⟩ : ∃ s, sB x = s := ⟨_, rfl⟩
      have hjt := joinF_take hx
      have hi1 : (i + 1).toNat = i.toNat + 1 := by omega
      rw [← hi1] at hjt
      have hle := joinF_take_le xs (i + 1).toNat
      have hsl : S.size + (1 + s.size) ≤ 140737488355328 := by
        rw [hjt, List.length_append, List.length_cons] at hle
        rw [← HS.out, ← hs, sB_size, sB_size]
        have := HBd.out
        omega
      rw [hs] at c1
      have HX := Aside0.mk (And.intro hjt hs)
      clear hx hjt hi1 hle hs
      go_wp2
      refine ⟨⟨i + 1, rfl, by omega, by omega, ?_⟩, by simp [intOf]; omega⟩
      rw [HX.out.1, ← sB_app, ← HX.out.2, HS.out]
      congr 1
    · have hlt1 : decide (i < (n : Int)) = false := decide_eq_false hlt
      go_wp2
      go_ret
      refine ⟨?_, rfl⟩
      rw [HJ.out, ← HS.out, List.take_of_length_le (by have := HLen.out; omega)]
      rfl

set_option maxRecDepth 100000 in
set_option maxHeartbeats 2000000 in
theorem pjoin_any (b n c : Nat) (A : Option Addr) (xs : List Bs) (w : World) (ha : RdS w A n xs) (hA : 0 < n → ∃ o, A = some ⟨b, o, none⟩ ∧ b < w.heap.size ∧ ∀ (j : Nat) x, xs[j]? = some x → w.cell? ⟨b, o + j, none⟩ = some (.string (sB x))) (hc : n ≤ c) (hn : n ≤ 140737488355328) (hb : (joinF xs).length ≤ 140737488355328) :
    Calls Tryd.prog 13 #[.slice A n c] w fun e w' => e = .returned (.string (sB (joinL xs))) ∧ Below w.heap.size w w' := by
  have hlen := ha.len
  by_cases h0 : n = 0
  · subst h0
    obtain rfl : xs = [] := List.eq_nil_of_length_eq_zero hlen
    clear hlen ha hA
    go_enter Tryd.func13, Tryd.ntmps13
    go_wp2
    go_ret
    exact ⟨rfl, Below.refl _ _⟩
  have e0 : ((n : Int) == 0) = false := by simp; omega
  obtain ⟨o, rfl, hbl, hcell⟩ := hA (by omega)
  cases xs with
  | nil => simp at hlen; omega
  | cons x r =>
    have hj : joinL (x :: r) = 47 :: [47].intercalate (x :: r) := (if_neg (by simp)).trans (joinF_inter x r)
    have hmap : ((x :: r).map sB).map (·.data.toList) = x :: r := by rw [List.map_map]; exact (List.map_congr_left (fun y _ => sB_data y)).trans (List.map_id _)
    have hjn : Lib.join (((x :: r).map sB).map (·.data.toList)) (⟨#[47]⟩ : ByteArray).data.toList = [47].intercalate (x :: r) := by rw [hmap]; rfl
    obtain ⟨ys, hys⟩ : ∃ ys, (x :: r).map sB = ys := ⟨_, rfl⟩
    have hyl : ys.length = n := by rw [← hys, List.length_map]; exact hlen
    obtain ⟨J, hJ⟩ : ∃ J, [47].intercalate (x :: r) = J := ⟨_, rfl⟩
    rw [hJ] at hj hjn
    rw [hys] at hjn
    have hJl : J.length ≤ 140737488355328 := by
      rw [joinF_inter, hJ, List.length_cons] at hb
      omega
    have HJ := Aside0.mk hj
    have HJn := Aside0.mk hjn
    have HC := Aside0.mk (show ∀ (j : Nat) y, ys[j]? = some y → w.cell? ⟨b, o + j, none⟩ = some (.string y) from fun j y hy => by
      rw [← hys, List.getElem?_map] at hy
      obtain ⟨z, hz, rfl⟩ := Option.map_eq_some_iff.1 hy
      exact hcell j z hz)
    have HYl := Aside0.mk hyl
    rw [hj]
    clear hys hcell hJ hj hjn hmap ha hlen hyl
    go_enter Tryd.func13, Tryd.ntmps13
    go_wp2_with (go_at_call 30; have hk := Tryd.strings_Join b o c ys ⟨#[47]⟩ w HC.out hbl (by have := HYl.out; omega) (by have := HYl.out; omega) (by rw [HJn.out]; exact hJl); rw [HYl.out, HJn.out] at hk; refine hk.mono ?_; rintro e w1 ⟨rfl, hB⟩; have HB1 := Aside0.mk hB; clear hB)
    go_ret
    refine ⟨?_, HB1.out⟩
    show Ending.returned (Value.string (⟨#[47]⟩ ++ sB J)) = _
    rw [show (⟨#[47]⟩ : ByteArray) = sB [47] from rfl, sB_app]
    rfl
end Go.Proofs.YtankbofabdjleaaDoor.H
