/- Paths: Split of both, and same, as contracts. -/
import Derived.Test.YtankbofabdjleaaDoorPb
import Derived.Test.YtankbofabdjleaaDoorShelf
namespace Go.Proofs.YtankbofabdjleaaDoor.H
open Go.RowKit Go.Proofs.YtankbofabdjleaaDoorW.PrintWords Go.Proofs.YtankbofabdjleaaDoorW.PrintLast Go.Proofs.YtankbofabdjleaaDoorW.PrintMore
set_option linter.unusedVariables false
set_option linter.unusedSimpArgs false

/-- A row of texts is handed back: a row of its own, and a number. -/
structure RowP (base : Nat) (xs : List Bs) (E : Int) (w : World) (e : Ending) (w' : World) : Prop where
  out : ∃ v, e = .returned (.tuple #[v, .int .i64 E]) ∧ w'.ownsRow base 9 1 v xs.length (strsC xs) ∧ Below base w w'
theorem row_cell {W : World} {b N c : Nat} {A : Option Addr} {xs : List Bs} {j : Nat} {x : Bs} (h : W.ownsRow b 9 1 (.slice A N c) N (strsC xs)) (hj : xs[j]? = some x) :
    ∃ g, A = some ⟨g, 0, none⟩ ∧ b ≤ g ∧ W.cell? ⟨g, j, none⟩ = some (.string (sB x)) := by
  have hl := h.1
  rw [strsC_length] at hl
  obtain ⟨hlt, _⟩ := List.getElem?_eq_some_iff.1 hj
  rcases h.2 with ⟨_, h0⟩ | ⟨g, cap, cur, hv, hb, hg, hc, _⟩
  · omega
  · injection hv with hA _ hcc
    subst hA
    have h1 := h.cells (g := g) rfl _ _ (strsC_get hj)
    rw [add_plain] at h1
    exact ⟨g, rfl, hb, h1⟩
theorem splitE_1 {l : Bs} (h : l = []) : splitE l = 231 := if_pos h
theorem splitE_2 {l : Bs} (h : l ≠ []) (h2 : 512 < l.length) : splitE l = 241 := by unfold splitE; rw [if_neg h, if_pos h2]
theorem splitE_3 {l : Bs} (h : l ≠ []) (h2 : l.length ≤ 512) (h3 : l.head? ≠ some 47 ∨ (0 : UInt8) ∈ l) : splitE l = 236 := by unfold splitE; rw [if_neg h, if_neg (by omega), if_pos h3]
theorem splitE_4 {l : Bs} (h : l ≠ []) (h2 : l.length ≤ 512) (h3 : l.head? = some 47) (h4 : (0 : UInt8) ∉ l) (h5 : ∃ x ∈ pcs l, 32 < x.length) : splitE l = 241 := by
  unfold splitE
  rw [if_neg h, if_neg (by omega), if_neg (fun h => h.elim (fun h => h h3) h4), if_pos]
  obtain ⟨x, hx, h6⟩ := h5
  exact List.any_eq_true.2 ⟨x, hx, decide_eq_true h6⟩
theorem splitE_5 {l : Bs} (h : l ≠ []) (h2 : l.length ≤ 512) (h3 : l.head? = some 47) (h4 : (0 : UInt8) ∉ l) (h5 : ∀ x ∈ pcs l, x.length ≤ 32) : splitE l = 0 := by
  unfold splitE
  rw [if_neg h, if_neg (by omega), if_neg (fun h => h.elim (fun h => h h3) h4), if_neg]
  intro h
  obtain ⟨x, hx, h6⟩ := List.any_eq_true.1 h
  have := h5 x hx
  have := of_decide_eq_true h6
  omega
theorem splitL_err {l : Bs} {E : Int} (h : splitE l = E) (hE : E ≠ 0) : splitL l = [] := if_neg (by rw [h]; exact hE)
theorem splitL_ok {l : Bs} (h : splitE l = 0) : splitL l = pcs l := if_pos h
theorem empty_data (s : ByteArray) : s.toList.isEmpty = decide (s.data.toList = []) := by
  rw [Lib.toList_data]
  cases s.data.toList <;> simp

set_option maxRecDepth 100000 in
set_option maxHeartbeats 4000000 in
theorem rsplit_any (s : ByteArray) (w : World) (hs : s.size ≤ 9223372036854775807) :
    Calls Tryd.prog 11 #[.string s] w fun e w' => RowP w.heap.size (splitL s.data.toList) (splitE s.data.toList) w e w' := by
  have hu9 := Tryd.underlying9
  obtain ⟨l, hl⟩ : ∃ l, s.data.toList = l := ⟨_, rfl⟩
  have hll : l.length = s.size := by rw [← hl, data_length]
  have hem := empty_data s
  rw [hl] at hem ⊢
  have HL := Aside0.mk hl
  have HLL := Aside0.mk hll
  by_cases h1 : l = []
  · have e1 : s.toList.isEmpty = true := by rw [hem]; exact decide_eq_true h1
    have hE := splitE_1 h1
    rw [splitL_err hE (by omega), hE]
    clear hl hll hem hE
    go_enter Tryd.func11, Tryd.ntmps11
    go_wp2
    go_ret2
    exact ⟨_, rfl, World.ownsRow_nil _ _ _ _, Below.refl _ _⟩
  have e1 : s.toList.isEmpty = false := by rw [hem]; exact decide_eq_false h1
  by_cases h2 : 512 < l.length
  · have d2 : decide (512 < s.size) = true := decide_eq_true (by omega)
    have d2' : decide ((512 : Int) < (s.size : Int)) = true := decide_eq_true (by omega)
    have hE := splitE_2 h1 h2
    rw [splitL_err hE (by omega), hE]
    clear hl hll hem hE
    go_enter Tryd.func11, Tryd.ntmps11
    go_wp2
    go_ret2
    exact ⟨_, rfl, World.ownsRow_nil _ _ _ _, Below.refl _ _⟩
  have d2 : decide (512 < s.size) = false := decide_eq_false (by omega)
  have d2' : decide ((512 : Int) < (s.size : Int)) = false := decide_eq_false (by omega)
  have hs5 : s.size ≤ 512 := by omega
  have hs0 : 0 < s.size := by have := List.length_pos_iff.2 h1; omega
  obtain ⟨q, hq⟩ : ∃ q, l[0]? = some q := ⟨_, List.getElem?_eq_getElem (by omega)⟩
  have hb0 : ((s[0]'hs0).toNat : Int) = q.toNat := (bt_at s 0 hs0).trans (bt_get s 0 q (by rw [hl]; exact hq))
  have hhd : l.head? = some q := by rw [List.head?_eq_getElem?]; exact hq
  by_cases h3 : q = 47
  · subst h3
    have hb0 : ((s[0]'hs0).toNat : Int) = 47 := hb0
    obtain ⟨B, hB⟩ : ∃ B, hasB 0 l = B := ⟨_, rfl⟩
    have HB := Aside0.mk hB
    cases B with
    | true =>
      have hE := splitE_3 h1 (by omega) (.inr (of_decide_eq_true hB))
      rw [splitL_err hE (by omega), hE]
      clear hl hll hem hE hq hhd hB h1
      go_enter Tryd.func11, Tryd.ntmps11
      go_wp2_with (go_at_call 27; refine (has_any s 0 0 rfl _ hs).mono ?_; rw [HL.out, HB.out]; rintro e w1 ⟨rfl, hw1⟩; rw [hw1]; clear hw1)
      go_ret2
      exact ⟨_, rfl, World.ownsRow_nil _ _ _ _, Below.refl _ _⟩
    | false =>
      have h4 : (0 : UInt8) ∉ l := of_decide_eq_false hB
      obtain ⟨xs, hxs⟩ : ∃ xs, pcs l = xs := ⟨_, rfl⟩
      have HXs := Aside0.mk hxs
      obtain ⟨N, hN⟩ : ∃ N, xs.length = N := ⟨_, rfl⟩
      have hN4 : N ≤ 513 := by have := pcs_len l; rw [hxs] at this; omega
      have HN := Aside0.mk hN
      have HE4 := Aside0.mk (fun h5 => splitE_4 h1 (by omega) hhd h4 h5)
      have HE5 := Aside0.mk (fun h5 => splitE_5 h1 (by omega) hhd h4 h5)
      obtain ⟨E, hE⟩ : ∃ E, splitE l = E := ⟨_, rfl⟩
      obtain ⟨ys, hys⟩ : ∃ ys, splitL l = ys := ⟨_, rfl⟩
      rw [hE, hys]
      have HE := Aside0.mk (And.intro hE hys)
      clear hl hll hem hq hhd hB h1 h4 hxs hN hE hys
      go_enter Tryd.func11, Tryd.ntmps11
      go_wp2_with (first
        | (go_at_call 27; refine (has_any s 0 0 rfl _ hs).mono ?_; rw [HL.out, HB.out]; rintro e w1 ⟨rfl, hw1⟩; rw [hw1]; clear hw1)
        | (go_at_call 28; refine (pieces_any s _ (by omega)).mono ?_; rw [HL.out, HXs.out, HN.out]; rintro e w1 ⟨v, rfl, hO, hB⟩; obtain ⟨A, c, rfl⟩ := own_slice hO; have HO1 := Aside0.mk hO; have HB1 := Aside0.mk hB; clear hO hB))
      go_loop [23] (fun iv => ∃ i : Int, iv = .int .i64 i ∧ 0 ≤ i ∧ i ≤ N ∧ Aside0 (∀ (j : Nat) x, (j : Int) < i → xs[j]? = some x → x.length ≤ 32)) (fun iv => (N - intOf iv).toNat)
      case atStart => exact ⟨0, rfl, Int.le_refl _, by omega, ⟨fun j x hj => by omega⟩⟩
      case round =>
        obtain ⟨i, rfl, i0, i1, HI⟩ := hrel
        have w4 : wrap64 (i + 1) = i + 1 := by unfold wrap64; omega
        by_cases hlt : i < (N : Int)
        · have hlt1 : decide (i < (N : Int)) = true := decide_eq_true hlt
          obtain ⟨x, hx⟩ : ∃ x, xs[i.toNat]? = some x := ⟨_, List.getElem?_eq_getElem (by have := HN.out; omega)⟩
          obtain ⟨g, rfl, _, hc⟩ := row_cell HO1.out hx
          obtain ⟨t, ht⟩ : ∃ t, sB x = t := ⟨_, rfl⟩
          have htl : t.size = x.length := by rw [← ht, sB_size]
          rw [ht] at hc
          have HX := Aside0.mk (And.intro hx htl)
          by_cases h32 : 32 < t.size
          · have d3 : decide (32 < t.size) = true := decide_eq_true h32
            have d3' : decide ((32 : Int) < (t.size : Int)) = true := decide_eq_true (by omega)
            have h9 := HE4.out ⟨x, by rw [HXs.out]; exact List.mem_of_getElem? hx, by omega⟩
            obtain rfl : E = 241 := by rw [← HE.out.1]; exact h9
            obtain rfl : ys = [] := by rw [← HE.out.2]; exact splitL_err h9 (by omega)
            clear hx htl h9 ht
            go_wp2
            go_ret2
            exact ⟨_, rfl, World.ownsRow_nil _ _ _ _, HB1.out⟩
          · have d3 : decide (32 < t.size) = false := decide_eq_false h32
            have d3' : decide ((32 : Int) < (t.size : Int)) = false := decide_eq_false (by omega)
            clear hx htl ht
            go_wp2
            go_round
            case rel =>
              refine ⟨i + 1, rfl, by omega, by omega, ⟨fun j y hj hy => ?_⟩⟩
              by_cases hji : (j : Int) < i
              · exact HI.out j y hji hy
              · have : j = i.toNat := by omega
                subst this
                rw [HX.out.1] at hy
                cases hy
                have := HX.out.2
                omega
            case measure => simp [intOf]; omega
        · have hlt1 : decide (i < (N : Int)) = false := decide_eq_false hlt
          have h9 := HE5.out (fun x hx => by
            rw [HXs.out] at hx
            obtain ⟨j, hj⟩ := List.getElem?_of_mem hx
            have := (List.getElem?_eq_some_iff.1 hj).1
            exact HI.out j x (by have := HN.out; omega) hj)
          obtain rfl : E = 0 := by rw [← HE.out.1]; exact h9
          obtain rfl : ys = xs := by rw [← HE.out.2, splitL_ok h9]; exact HXs.out
          clear h9
          go_wp2
          go_ret2
          refine ⟨_, rfl, ?_, HB1.out⟩
          rw [HN.out]
          exact HO1.out
  · have hE := splitE_3 h1 (by omega) (.inl (by rw [hhd]; intro h; exact h3 (Option.some.inj h)))
    have he1 : ((q.toNat : Int) != 47) = true := by
      simp only [bne_iff_ne, ne_eq]
      intro h
      exact h3 (UInt8.toNat_inj.1 (by simpa using (by omega : q.toNat = 47)))
    rw [splitL_err hE (by omega), hE]
    clear hl hll hem hE hq hhd h1
    go_enter Tryd.func11, Tryd.ntmps11
    go_wp2
    go_ret2
    exact ⟨_, rfl, World.ownsRow_nil _ _ _ _, Below.refl _ _⟩
end Go.Proofs.YtankbofabdjleaaDoor.H
