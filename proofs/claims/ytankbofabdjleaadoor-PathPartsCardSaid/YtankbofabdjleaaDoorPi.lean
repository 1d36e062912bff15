/- Paths: Inside of both as contracts. -/
import Derived.Test.YtankbofabdjleaaDoorPh
namespace Go.Proofs.YtankbofabdjleaaDoor.H
open Go.RowKit Go.Proofs.YtankbofabdjleaaDoorW.PrintWords Go.Proofs.YtankbofabdjleaaDoorW.PrintLast Go.Proofs.YtankbofabdjleaaDoorW.PrintMore
set_option linter.unusedVariables false
set_option linter.unusedSimpArgs false

/-- Has p all parts of d, and more? -/
def insideB (d p : List Bs) : Bool := decide (d.length < p.length ∧ p.take d.length = d)
theorem insideB_no {d p : List Bs} (h : ¬ d.length < p.length) : insideB d p = false := decide_eq_false (fun hh => h hh.1)
theorem insideB_self (d : List Bs) : insideB d d = false := insideB_no (by omega)
theorem insideB_anti {d p : List Bs} (h : insideB d p = true) : insideB p d = false :=
  insideB_no (by have := (of_decide_eq_true h).1; omega)
theorem insideB_trans {a b c : List Bs} (h : insideB a b = true) (g : insideB b c = true) : insideB a c = true := by
  obtain ⟨h1, h2⟩ := of_decide_eq_true h
  obtain ⟨g1, g2⟩ := of_decide_eq_true g
  refine decide_eq_true ⟨by omega, ?_⟩
  calc c.take a.length = (c.take b.length).take a.length := by rw [List.take_take, Nat.min_eq_left (by omega)]
    _ = a := by rw [g2, h2]
theorem getD_sB (xs : List Bs) {j : Nat} (h : j < xs.length) : ∃ x, xs[j]? = some x ∧ (xs.map sB).getD j ByteArray.empty = sB x := by
  refine ⟨xs[j], List.getElem?_eq_getElem h, ?_⟩
  rw [List.getD_eq_getElem?_getD, List.getElem?_map, List.getElem?_eq_getElem h]
  rfl
theorem map_sB_inj {xs ys : List Bs} (h : xs.map sB = ys.map sB) : xs = ys := by
  induction xs generalizing ys with
  | nil => cases ys with
    | nil => rfl
    | cons => cases h
  | cons x r ih =>
    cases ys with
    | nil => cases h
    | cons y s =>
      simp only [List.map_cons, List.cons.injEq] at h
      rw [sB_inj h.1, ih h.2]
theorem add_o (b o j : Nat) : (⟨b, o, none⟩ : Addr).add j = ⟨b, o + j, none⟩ := by
  unfold Addr.add
  split <;> simp_all
/-- A row of texts at a plain place. -/
structure RdP (w : World) (A : Option Addr) (n c : Nat) (xs : List Bs) : Prop extends RdS w A n xs where
  cap : n ≤ c
  place : n = 0 ∨ ∃ b o, A = some ⟨b, o, none⟩
theorem RdP.below {w w' : World} {A : Option Addr} {n c : Nat} {xs : List Bs} (h : RdP w A n c xs) (hb : Below w.heap.size w w') : RdP w' A n c xs :=
  ⟨h.toRdS.below hb, h.cap, h.place⟩

set_option maxRecDepth 100000 in
set_option maxHeartbeats 2000000 in
theorem pinside_any (A B : Option Addr) (n m c d : Nat) (xs ys : List Bs) (w : World) (ha : RdP w A n c xs) (hb : RdP w B m d ys) :
    Calls Tryd.prog 24 #[.slice A n c, .slice B m d] w fun e w' => e = .returned (.bool (insideB xs ys)) ∧ Below w.heap.size w w' := by
  have HA := Aside0.mk ha
  have HB := Aside0.mk hb
  have hn9 := ha.max
  have hm9 := hb.max
  have hcap := hb.cap
  have hu23 := Tryd.underlying23
  clear ha hb
  by_cases hlt : n < m
  · have l1 : decide ((n : Int) < (m : Int)) = true := decide_eq_true (by omega)
    have hn2 : (n : Int) ≤ (d : Int) := by omega
    have hn3 : (0 : Int) ≤ (n : Int) := by omega
    have hn4 : n ≤ d := by omega
    have HL := Aside0.mk hlt
    by_cases hn0 : n = 0
    · subst hn0
      have hI : insideB xs ys = true := by
        have h1 := HA.out.len
        have h2 := HB.out.len
        refine decide_eq_true ⟨by have := HL.out; omega, ?_⟩
        rw [h1, List.eq_nil_of_length_eq_zero h1]
        rfl
      rw [hI]
      clear hI
      go_enter Tryd.func24, Tryd.ntmps24
      go_wp2_with (go_at_call 36; refine (Tryd.slices_Equal_string_empty _ _ _ 0 _ _ (by omega)).mono ?_; rintro e w1 ⟨rfl, hw1⟩; rw [hw1]; clear hw1)
      go_ret
      exact ⟨rfl, Below.refl _ _⟩
    · obtain ⟨b1, o1, rfl⟩ := HA.out.place.resolve_left hn0
      obtain ⟨b2, o2, rfl⟩ := HB.out.place.resolve_left (by omega)
      have hI : insideB xs ys = decide ((ys.map sB).take n = (xs.map sB).take n) := by
        have h1 := HA.out.len
        have h2 := HB.out.len
        unfold insideB
        rw [decide_eq_decide, h1]
        rw [← List.map_take, ← List.map_take, show xs.take n = xs from by rw [← h1, List.take_length]]
        constructor
        · rintro ⟨_, h⟩; rw [h]
        · intro h; exact ⟨by have := HL.out; omega, map_sB_inj h⟩
      rw [hI]
      clear hI
      obtain ⟨R, hR⟩ : ∃ R, decide ((ys.map sB).take n = (xs.map sB).take n) = R := ⟨_, rfl⟩
      have HR := Aside0.mk hR
      rw [hR]
      clear hR
      go_enter Tryd.func24, Tryd.ntmps24
      go_wp2_with (go_at_call 36; refine (Tryd.slices_Equal_string b2 o2 n _ b1 o1 n _ (ys.map sB) (xs.map sB) _ (by rw [List.length_map, HB.out.len]; exact Nat.le_of_lt HL.out) (by rw [List.length_map, HA.out.len]; exact Nat.le_refl _) hn9 hn9 ?c1 ?c2).mono ?_)
      case c1 =>
        intro j hj
        obtain ⟨x, hx, hg⟩ := getD_sB ys (by simpa using hj)
        rw [hg]
        obtain ⟨ad, had, h⟩ := HB.out.toRdS.at_ j x hx
        cases had
        rw [add_o] at h
        exact h
      case c2 =>
        intro j hj
        obtain ⟨x, hx, hg⟩ := getD_sB xs (by simpa using hj)
        rw [hg]
        obtain ⟨ad, had, h⟩ := HA.out.toRdS.at_ j x hx
        cases had
        rw [add_o] at h
        exact h
      rw [HR.out]
      rintro e w1 ⟨rfl, hw1⟩
      obtain ⟨q, hw1⟩ := hw1
      have HB1 := Aside0.mk (show Below w.heap.size w w1 from hw1 ▸ pw_below_drewN (Below.refl _ _) _)
      clear hw1
      go_wp2
      go_ret
      exact ⟨rfl, HB1.out⟩
  · have l1 : decide ((n : Int) < (m : Int)) = false := decide_eq_false (by omega)
    have hI : insideB xs ys = false := insideB_no (by have := HA.out.len; have := HB.out.len; omega)
    rw [hI]
    clear hI
    go_enter Tryd.func24, Tryd.ntmps24
    go_wp2
    go_ret
    exact ⟨rfl, Below.refl _ _⟩

set_option maxRecDepth 100000 in
set_option maxHeartbeats 2000000 in
theorem rinside_any (A B : Option Addr) (n m c d : Nat) (xs ys : List Bs) (w : World) (ha : RdS w A n xs) (hb : RdS w B m ys) :
    Calls Tryd.prog 25 #[.slice A n c, .slice B m d] w fun e w' => e = .returned (.bool (insideB xs ys)) ∧ Below w.heap.size w w' := by
  have HA := Aside0.mk ha
  have HB := Aside0.mk hb
  have hn9 := ha.max
  have hm9 := hb.max
  clear ha hb
  by_cases hnm : m ≤ n
  · have l1 : decide ((m : Int) ≤ (n : Int)) = true := decide_eq_true (by omega)
    have hI : insideB xs ys = false := insideB_no (by have := HA.out.len; have := HB.out.len; omega)
    rw [hI]
    clear hI
    go_enter Tryd.func25, Tryd.ntmps25
    go_wp2
    go_ret
    exact ⟨rfl, Below.refl _ _⟩
  · have l1 : decide ((m : Int) ≤ (n : Int)) = false := decide_eq_false (by omega)
    go_enter Tryd.func25, Tryd.ntmps25
    go_wp2
    go_loopw [14] (fun iv wr => ∃ i : Int, iv = .int .i64 i ∧ 0 ≤ i ∧ i ≤ n ∧ Aside0 (∀ j : Nat, (j : Int) < i → xs[j]? = ys[j]?) ∧ Aside0 (Below w.heap.size w wr)) (fun iv _ => (n - intOf iv).toNat)
    case atStart => exact ⟨0, rfl, Int.le_refl _, by omega, ⟨fun j hj => by omega⟩, ⟨Below.refl _ _⟩⟩
    case round =>
      obtain ⟨i, rfl, i0, i1, HI, HW⟩ := hrel
      by_cases hlt : i < (n : Int)
      · have hlt1 : decide (i < (n : Int)) = true := decide_eq_true hlt
        have hlt2 : i < (m : Int) := by omega
        have w4 : wrap64 (i + 1) = i + 1 := by unfold wrap64; omega
        obtain ⟨x, hx⟩ : ∃ x, xs[i.toNat]? = some x := ⟨_, List.getElem?_eq_getElem (by have := HA.out.len; omega)⟩
        obtain ⟨y, hy⟩ : ∃ y, ys[i.toNat]? = some y := ⟨_, List.getElem?_eq_getElem (by have := HB.out.len; omega)⟩
        obtain ⟨ad, rfl, c1⟩ := (HA.out.below HW.out).at_ _ _ hx
        obtain ⟨bd, rfl, c2⟩ := (HB.out.below HW.out).at_ _ _ hy
        obtain ⟨s, hs⟩ : ∃ s, sB x = s := ⟨_, rfl⟩
        obtain ⟨t, ht⟩ : ∃ t, sB y = t := ⟨_, rfl⟩
        rw [hs] at c1
        rw [ht] at c2
        have HX := Aside0.mk (And.intro hx (And.intro hy (And.intro hs ht)))
        by_cases he : x = y
        · have e1 : s = t := by rw [← hs, ← ht, he]
          subst e1
          clear hx hy hs ht
          go_wp2
          refine ⟨⟨i + 1, rfl, by omega, by omega, ⟨fun j hj => ?_⟩, HW⟩, by simp [intOf]; omega⟩
          by_cases hji : (j : Int) < i
          · exact HI.out j hji
          · have : j = i.toNat := by omega
            subst this
            rw [HX.out.1, HX.out.2.1, he]
        · have e1 : t ≠ s := fun h => he (sB_inj (by rw [hs, ht, h]))
          have e2 : (t.toList == s.toList) = false := by
            simp only [beq_eq_false_iff_ne, ne_eq]
            intro h
            rw [Lib.toList_data, Lib.toList_data] at h
            apply e1
            rw [← data_sB s, ← data_sB t, h]
          clear hx hy hs ht
          go_wp2
          go_ret
          have : insideB xs ys = false := decide_eq_false (fun h => he (by
            have h1 := HX.out.1
            rw [← h.2, List.getElem?_take, HX.out.2.1] at h1
            split at h1
            · exact (Option.some.inj h1).symm
            · cases h1))
          exact ⟨by rw [this]; rfl, HW.out⟩
      · have hlt1 : decide (i < (n : Int)) = false := decide_eq_false hlt
        go_wp2
        go_ret
        have hin : i = n := by omega
        subst hin
        have : insideB xs ys = true := by
          have h1 := HA.out.len
          have h2 := HB.out.len
          refine decide_eq_true ⟨by omega, ?_⟩
          refine List.ext_getElem? (fun j => ?_)
          rw [List.getElem?_take, h1]
          split
          · exact (HI.out j (by omega)).symm
          · rw [List.getElem?_eq_none (by omega)]
        exact ⟨by rw [this]; rfl, HW.out⟩
end Go.Proofs.YtankbofabdjleaaDoor.H
