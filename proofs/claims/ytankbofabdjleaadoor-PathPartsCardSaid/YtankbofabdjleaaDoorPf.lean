/- Paths: Clean of both as contracts. -/
import Derived.Test.YtankbofabdjleaaDoorPe
namespace Go.Proofs.YtankbofabdjleaaDoor.H
open Go.RowKit Go.Proofs.YtankbofabdjleaaDoorW.PrintWords Go.Proofs.YtankbofabdjleaaDoorW.PrintLast Go.Proofs.YtankbofabdjleaaDoorW.PrintMore
set_option linter.unusedVariables false
set_option linter.unusedSimpArgs false

def cleanStep (out : List Bs) (x : Bs) : List Bs := if x = [46] then out else if x = [46, 46] then out.take (out.length - 1) else out ++ [x]
def cleanF (xs : List Bs) : List Bs := xs.foldl cleanStep []
theorem cleanF_take {xs : List Bs} {i : Nat} {x : Bs} (h : xs[i]? = some x) : cleanF (xs.take (i + 1)) = cleanStep (cleanF (xs.take i)) x := by
  unfold cleanF
  rw [List.take_add_one, h, Option.toList, List.foldl_append]
  rfl
theorem cleanF_sub (xs : List Bs) : (cleanF xs).length ≤ xs.length ∧ ∀ x ∈ cleanF xs, x ∈ xs := by
  suffices h : ∀ (n : Nat), n ≤ xs.length → (cleanF (xs.take n)).length ≤ n ∧ ∀ x ∈ cleanF (xs.take n), x ∈ xs by
    have := h xs.length (Nat.le_refl _)
    rwa [List.take_length] at this
  intro n
  induction n with
  | zero => intro _; simp [cleanF]
  | succ n ih =>
    intro hn
    obtain ⟨h1, h2⟩ := ih (by omega)
    obtain ⟨x, hx⟩ : ∃ x, xs[n]? = some x := ⟨_, List.getElem?_eq_getElem (by omega)⟩
    rw [cleanF_take hx]
    unfold cleanStep
    split
    · exact ⟨by omega, h2⟩
    · split
      · exact ⟨by rw [List.length_take]; omega, fun y hy => h2 y (List.mem_of_mem_take hy)⟩
      · refine ⟨by rw [List.length_append, List.length_singleton]; omega, fun y hy => ?_⟩
        rcases List.mem_append.1 hy with hy | hy
        · exact h2 y hy
        · rw [List.mem_singleton.1 hy]; exact List.mem_of_getElem? hx
theorem joinF_bound (xs : List Bs) (h : ∀ x ∈ xs, x.length ≤ 32) : (joinF xs).length ≤ 33 * xs.length := by
  induction xs with
  | nil => simp [joinF]
  | cons x r ih =>
    have h1 := ih (fun y hy => h y (by simp [hy]))
    have h2 := h x (by simp)
    unfold joinF at h1 ⊢
    rw [List.flatMap_cons, List.length_append, List.length_cons, List.length_cons]
    omega
theorem splitE_zero {l : Bs} (h : splitE l = 0) : l ≠ [] ∧ l.length ≤ 512 ∧ l.head? = some 47 ∧ (0 : UInt8) ∉ l ∧ ∀ x ∈ pcs l, x.length ≤ 32 := by
  unfold splitE at h
  split at h
  · omega
  · split at h
    · omega
    · split at h
      · omega
      · split at h
        · omega
        · rename_i h1 h2 h3 h4
          rw [not_or] at h3
          refine ⟨h1, by omega, by simpa using h3.1, h3.2, fun x hx => ?_⟩
          rw [List.any_eq_true] at h4
          rcases Nat.lt_or_ge 32 x.length with h5 | h5
          · exact absurd ⟨x, hx, decide_eq_true h5⟩ h4
          · exact h5
theorem clean_bound {l : Bs} (h : splitE l = 0) : (joinF (cleanF (pcs l))).length ≤ 140737488355328 ∧ (cleanF (pcs l)).length ≤ 513 := by
  obtain ⟨_, h2, _, _, h5⟩ := splitE_zero h
  obtain ⟨h6, h7⟩ := cleanF_sub (pcs l)
  have h8 := pcs_len l
  have := joinF_bound (cleanF (pcs l)) (fun x hx => h5 x (h7 x hx))
  omega
theorem beq_dec (x y : Bs) : (x == y) = decide (x = y) := by
  by_cases h : x = y
  · rw [h]; simp
  · rw [decide_eq_false h]; simpa using h
/-- The block of an address. -/
def blkOf (A : Option Addr) : Nat := (A.map Addr.block).getD 0
/-- Clean's answer. -/
def cleanL (l : Bs) : Bs := if splitE l = 0 then joinL (cleanF (pcs l)) else []

set_option maxRecDepth 100000 in
set_option maxHeartbeats 4000000 in
theorem pclean_any (s : ByteArray) (m : Int) (w : World) (hs : s.size ≤ 9223372036854775807) (hm : w.cell? ⟨0, 0, none⟩ = some (.int .i64 m)) :
    Calls Tryd.prog 18 #[.string s] w fun e w' => e = .returned (.tuple #[.string (sB (cleanL s.data.toList)), .int .i64 (splitE s.data.toList)]) ∧ Below w.heap.size w w' := by
  have hu9 := Tryd.underlying9
  have hu23 := Tryd.underlying23
  obtain ⟨i9, hi9, hz9⟩ := Option.map_eq_some_iff.1 info9
  obtain ⟨l, hl⟩ : ∃ l, s.data.toList = l := ⟨_, rfl⟩
  rw [hl]
  have HL := Aside0.mk hl
  have HM := Aside0.mk hm
  clear hl hm
  obtain ⟨E, hE⟩ : ∃ E, splitE l = E := ⟨_, rfl⟩
  by_cases h0 : E = 0
  · subst h0
    have hcl : cleanL l = joinL (cleanF (pcs l)) := if_pos hE
    have hb := clean_bound hE
    have hsl := splitL_ok hE
    have hpl := pcs_len l
    have hl5 := (splitE_zero hE).2.1
    obtain ⟨xs, hxs⟩ : ∃ xs, pcs l = xs := ⟨_, rfl⟩
    rw [hxs] at hcl hb hsl hpl
    obtain ⟨N, hN⟩ : ∃ N, xs.length = N := ⟨_, rfl⟩
    rw [hcl, hE]
    have HE := Aside0.mk (And.intro hE hsl)
    have HN := Aside0.mk hN
    have HBd := Aside0.mk hb
    have hN4 : N ≤ 513 := by omega
    clear hE hcl hb hsl hpl hxs hN
    go_enter Tryd.func18, Tryd.ntmps18
    go_wp2_with (go_at_call 16; refine (psplit_any s m _ hs HM.out).mono ?_; intro e w1 hP; obtain ⟨v, rfl, hO, hB⟩ := hP.out; rw [HL.out, HE.out.2, HN.out] at hO; rw [HL.out, HE.out.1]; obtain ⟨A, c, rfl⟩ := own_slice hO; have HO1 := Aside0.mk hO; have HB1 := Aside0.mk hB; clear hP hO hB)
    go_loopw [6, 19] (fun vv iv wr => ∃ (i : Int), iv = .int .i64 i ∧ 0 ≤ i ∧ i ≤ N ∧ Aside0 (wr.ownsRow w1.heap.size 9 1 vv (cleanF (xs.take i.toNat)).length (strsC (cleanF (xs.take i.toNat)))) ∧ Aside0 (Below w1.heap.size w1 wr)) (fun _ iv _ => (N - intOf iv).toNat)
    case atStart => exact ⟨0, rfl, Int.le_refl _, by omega, ⟨World.ownsRow_nil _ _ _ _⟩, ⟨Below.refl _ _⟩⟩
    case round =>
      obtain ⟨i, rfl, i0, i1, HO, HW⟩ := hrel
      obtain ⟨ys, hys⟩ : ∃ ys, cleanF (xs.take i.toNat) = ys := ⟨_, rfl⟩
      rw [hys] at HO
      obtain ⟨K, hK⟩ : ∃ K, ys.length = K := ⟨_, rfl⟩
      rw [hK] at HO
      obtain ⟨B, c2, hv⟩ := own_slice HO.out
      subst hv
      have hKc := own_le HO.out
      have hK4 : K ≤ 513 := by
        have h := (cleanF_sub (xs.take i.toNat)).1
        rw [hys, hK, List.length_take] at h
        omega
      have HK := Aside0.mk hK
      have HYs := Aside0.mk hys
      clear hys hK
      by_cases hlt : i < (N : Int)
      · have hlt1 : decide (i < (N : Int)) = true := decide_eq_true hlt
        have w4 : wrap64 (i + 1) = i + 1 := by unfold wrap64; omega
        obtain ⟨x, hx⟩ : ∃ x, xs[i.toNat]? = some x := ⟨_, List.getElem?_eq_getElem (by have := HN.out; omega)⟩
        obtain ⟨g, rfl, _, c1⟩ := row_cell (pw_own_below HO1.out HW.out) hx
        have hct := cleanF_take hx
        have hi1 : (i + 1).toNat = i.toNat + 1 := by omega
        rw [← hi1, HYs.out] at hct
        obtain ⟨t, ht⟩ : ∃ t, sB x = t := ⟨_, rfl⟩
        have e46 : (t.toList == [46]) = decide (x = [46]) := by rw [Lib.toList_data, ← ht, sB_data]; exact beq_dec _ _
        have e4646 : (t.toList == [46, 46]) = decide (x = [46, 46]) := by rw [Lib.toList_data, ← ht, sB_data]; exact beq_dec _ _
        rw [ht] at c1
        have HX := Aside0.mk (And.intro hx ht)
        clear hx ht hi1
        by_cases h46 : x = [46]
        · have hst : cleanStep ys x = ys := if_pos h46
          rw [hst] at hct
          have HC := Aside0.mk hct
          rw [decide_eq_true h46] at e46
          clear hct hst e4646 h46
          go_wp2
          refine ⟨⟨i + 1, rfl, by omega, by omega, ?_, HW⟩, by simp [intOf]; omega⟩
          rw [HC.out, HK.out]
          exact HO
        rw [decide_eq_false h46] at e46
        by_cases h4646 : x = [46, 46]
        · have hst : cleanStep ys x = ys.take (K - 1) := by unfold cleanStep; rw [if_neg h46, if_pos h4646, HK.out]
          rw [hst] at hct
          have HC := Aside0.mk hct
          rw [decide_eq_true h4646] at e4646
          clear hct hst h46
          clear h4646
          have cut : ∀ k : Nat, k = K - 1 → wr.ownsRow w1.heap.size 9 1 (.slice B k c2) (cleanF (xs.take (i + 1).toNat)).length (strsC (cleanF (xs.take (i + 1).toNat))) := fun k hk => by
            have h9 := own_take HO.out (show k ≤ K by omega)
            rw [HC.out]
            have hl : (ys.take (K - 1)).length = k := by rw [List.length_take, HK.out]; omega
            rw [hl, ← hk]
            have : (strsC ys).take (k * 1) = strsC (ys.take k) := by rw [Nat.mul_one]; unfold strsC; rw [List.map_take]
            rw [← this]
            exact h9
          have HCut := Aside0.mk cut
          clear cut
          by_cases hK0 : K = 0
          · have mx : max ((K : Int) - 1) 0 = 0 := by omega
            go_wp2
            exact ⟨⟨i + 1, rfl, by omega, by omega, ⟨HCut.out _ (by rw [hK0]; rfl)⟩, HW⟩, by simp [intOf]; omega⟩
          · have mx : max ((K : Int) - 1) 0 = K - 1 := by omega
            go_wp2
            exact ⟨⟨i + 1, rfl, by omega, by omega, ⟨HCut.out _ rfl⟩, HW⟩, by simp [intOf]; omega⟩
        · have hst : cleanStep ys x = ys ++ [x] := by unfold cleanStep; rw [if_neg h46, if_neg h4646]
          rw [hst] at hct
          have HC := Aside0.mk hct
          rw [decide_eq_false h4646] at e4646
          clear hct hst h46 h4646
          go_wp2_with (at_builtin; refine print_append_cells (w0 := w1) w1.heap.size rfl (.tmp 24) (.tmp 26) 23 9 (.string ⟨#[]⟩) 1 16 rfl Tryd.underlying23 info9 rfl (by omega) (by omega) _ K (strsC ys) [.string t] rfl rfl rfl ?a1 ?aO ?aB ?aS ?aL ?_; (case a1 => intro u hu; simp at hu; subst hu; rfl); (case aO => exact HO.out); (case aB => exact HW.out); (case aS => exact HW.out.size); (case aL => omega); intro v1 w2 ho1 hb1 _ _; have HO2 := Aside0.mk ho1; have HB2 := Aside0.mk hb1; clear ho1 hb1)
          refine ⟨⟨i + 1, rfl, by omega, by omega, ⟨?_⟩, HB2⟩, by simp [intOf]; omega⟩
          rw [HC.out, strsC_app, List.length_append, List.length_singleton, HK.out]
          have h9 := HO2.out
          rw [← HX.out.2] at h9
          exact h9
      · have hlt1 : decide (i < (N : Int)) = false := decide_eq_false hlt
        have hyx : ys = cleanF xs := by rw [← HYs.out, List.take_of_length_le (by have := HN.out; omega)]
        subst hyx
        have HB9 := Aside0.mk (show Below w.heap.size w wr from below_step HB1.out HW.out)
        have hrd := RdS.of_own HO.out
        have hA : 0 < K → ∃ o, B = some ⟨blkOf B, o, none⟩ ∧ blkOf B < wr.heap.size ∧ ∀ (j : Nat) x, (cleanF xs)[j]? = some x → wr.cell? ⟨blkOf B, o + j, none⟩ = some (.string (sB x)) := fun hK0 => by
          obtain ⟨x0, hx0⟩ : ∃ x, (cleanF xs)[0]? = some x := ⟨_, List.getElem?_eq_getElem (by rw [HK.out]; exact hK0)⟩
          obtain ⟨g, rfl, _, h0⟩ := row_cell HO.out hx0
          refine ⟨0, rfl, World.block_lt_of_cell? wr _ h0, fun j x hx => ?_⟩
          obtain ⟨g', hg', _, h1⟩ := row_cell HO.out hx
          cases hg'
          rw [Nat.zero_add]
          exact h1
        have HRd := Aside0.mk (And.intro hrd hA)
        clear hrd hA
        go_wp2_with (go_at_call 13; refine (pjoin_any (blkOf B) K c2 B (cleanF xs) _ HRd.out.1 HRd.out.2 hKc (by omega) HBd.out.1).mono ?_; rintro e w3 ⟨rfl, hB⟩; have HB3 := Aside0.mk (below_step HB9.out hB); clear hB)
        go_ret2
        exact ⟨rfl, HB3.out⟩
  · have hcl : cleanL l = [] := if_neg (by rw [hE]; exact h0)
    have hsl := splitL_err hE h0
    rw [hcl, hE]
    have HE := Aside0.mk (And.intro hE hsl)
    have hne : (E != 0) = true := by simpa using h0
    clear hcl hsl hE
    go_enter Tryd.func18, Tryd.ntmps18
    go_wp2_with (go_at_call 16; refine (psplit_any s m _ hs HM.out).mono ?_; intro e w1 hP; obtain ⟨v, rfl, hO, hB⟩ := hP.out; rw [HL.out, HE.out.1]; have HB1 := Aside0.mk hB; clear hP hO hB)
    go_ret2
    exact ⟨rfl, HB1.out⟩

set_option maxRecDepth 100000 in
set_option maxHeartbeats 4000000 in
theorem rclean_any (s : ByteArray) (w : World) (hs : s.size ≤ 9223372036854775807) :
    Calls Tryd.prog 19 #[.string s] w fun e w' => e = .returned (.tuple #[.string (sB (cleanL s.data.toList)), .int .i64 (splitE s.data.toList)]) ∧ Below w.heap.size w w' := by
  have hu9 := Tryd.underlying9
  have hu23 := Tryd.underlying23
  obtain ⟨i9, hi9, hz9⟩ := Option.map_eq_some_iff.1 info9
  obtain ⟨l, hl⟩ : ∃ l, s.data.toList = l := ⟨_, rfl⟩
  rw [hl]
  have HL := Aside0.mk hl
  clear hl
  obtain ⟨E, hE⟩ : ∃ E, splitE l = E := ⟨_, rfl⟩
  by_cases h0 : E = 0
  · subst h0
    have hcl : cleanL l = joinL (cleanF (pcs l)) := if_pos hE
    have hb := clean_bound hE
    have hsl := splitL_ok hE
    have hpl := pcs_len l
    have hl5 := (splitE_zero hE).2.1
    obtain ⟨xs, hxs⟩ : ∃ xs, pcs l = xs := ⟨_, rfl⟩
    rw [hxs] at hcl hb hsl hpl
    obtain ⟨N, hN⟩ : ∃ N, xs.length = N := ⟨_, rfl⟩
    rw [hcl, hE]
    have HE := Aside0.mk (And.intro hE hsl)
    have HN := Aside0.mk hN
    have HBd := Aside0.mk hb
    have hN4 : N ≤ 513 := by omega
    clear hE hcl hb hsl hpl hxs hN
    go_enter Tryd.func19, Tryd.ntmps19
    go_wp2_with (go_at_call 11; refine (rsplit_any s _ hs).mono ?_; intro e w1 hP; obtain ⟨v, rfl, hO, hB⟩ := hP.out; rw [HL.out, HE.out.2, HN.out] at hO; rw [HL.out, HE.out.1]; obtain ⟨A, c, rfl⟩ := own_slice hO; have HO1 := Aside0.mk hO; have HB1 := Aside0.mk hB; clear hP hO hB)
    go_loopw [6, 19] (fun vv iv wr => ∃ (i : Int), iv = .int .i64 i ∧ 0 ≤ i ∧ i ≤ N ∧ Aside0 (wr.ownsRow w1.heap.size 9 1 vv (cleanF (xs.take i.toNat)).length (strsC (cleanF (xs.take i.toNat)))) ∧ Aside0 (Below w1.heap.size w1 wr)) (fun _ iv _ => (N - intOf iv).toNat)
    case atStart => exact ⟨0, rfl, Int.le_refl _, by omega, ⟨World.ownsRow_nil _ _ _ _⟩, ⟨Below.refl _ _⟩⟩
    case round =>
      obtain ⟨i, rfl, i0, i1, HO, HW⟩ := hrel
      obtain ⟨ys, hys⟩ : ∃ ys, cleanF (xs.take i.toNat) = ys := ⟨_, rfl⟩
      rw [hys] at HO
      obtain ⟨K, hK⟩ : ∃ K, ys.length = K := ⟨_, rfl⟩
      rw [hK] at HO
      obtain ⟨B, c2, hv⟩ := own_slice HO.out
      subst hv
      have hKc := own_le HO.out
      have hK4 : K ≤ 513 := by
        have h := (cleanF_sub (xs.take i.toNat)).1
        rw [hys, hK, List.length_take] at h
        omega
      have HK := Aside0.mk hK
      have HYs := Aside0.mk hys
      clear hys hK
      by_cases hlt : i < (N : Int)
      · have hlt1 : decide (i < (N : Int)) = true := decide_eq_true hlt
        have w4 : wrap64 (i + 1) = i + 1 := by unfold wrap64; omega
        obtain ⟨x, hx⟩ : ∃ x, xs[i.toNat]? = some x := ⟨_, List.getElem?_eq_getElem (by have := HN.out; omega)⟩
        obtain ⟨g, rfl, _, c1⟩ := row_cell (pw_own_below HO1.out HW.out) hx
        have hct := cleanF_take hx
        have hi1 : (i + 1).toNat = i.toNat + 1 := by omega
        rw [← hi1, HYs.out] at hct
        obtain ⟨t, ht⟩ : ∃ t, sB x = t := ⟨_, rfl⟩
        have e46 : (t.toList == [46]) = decide (x = [46]) := by rw [Lib.toList_data, ← ht, sB_data]; exact beq_dec _ _
        have e4646 : (t.toList == [46, 46]) = decide (x = [46, 46]) := by rw [Lib.toList_data, ← ht, sB_data]; exact beq_dec _ _
        rw [ht] at c1
        have HX := Aside0.mk (And.intro hx ht)
        clear hx ht hi1
        by_cases h46 : x = [46]
        · have hst : cleanStep ys x = ys := if_pos h46
          rw [hst] at hct
          have HC := Aside0.mk hct
          rw [decide_eq_true h46] at e46
          clear hct hst e4646 h46
          go_wp2
          refine ⟨⟨i + 1, rfl, by omega, by omega, ?_, HW⟩, by simp [intOf]; omega⟩
          rw [HC.out, HK.out]
          exact HO
        rw [decide_eq_false h46] at e46
        by_cases h4646 : x = [46, 46]
        · have hst : cleanStep ys x = ys.take (K - 1) := by unfold cleanStep; rw [if_neg h46, if_pos h4646, HK.out]
          rw [hst] at hct
          have HC := Aside0.mk hct
          rw [decide_eq_true h4646] at e4646
          clear hct hst h46
          clear h4646
          have cut : ∀ k : Nat, k = K - 1 → wr.ownsRow w1.heap.size 9 1 (.slice B k c2) (cleanF (xs.take (i + 1).toNat)).length (strsC (cleanF (xs.take (i + 1).toNat))) := fun k hk => by
            have h9 := own_take HO.out (show k ≤ K by omega)
            rw [HC.out]
            have hl : (ys.take (K - 1)).length = k := by rw [List.length_take, HK.out]; omega
            rw [hl, ← hk]
            have : (strsC ys).take (k * 1) = strsC (ys.take k) := by rw [Nat.mul_one]; unfold strsC; rw [List.map_take]
            rw [← this]
            exact h9
          have HCut := Aside0.mk cut
          clear cut
          by_cases hK0 : K = 0
          · have d3 : decide (0 < K) = false := decide_eq_false (by omega)
            go_wp2
            exact ⟨⟨i + 1, rfl, by omega, by omega, ⟨HCut.out K (by omega)⟩, HW⟩, by simp [intOf]; omega⟩
          · have d3 : decide (0 < K) = true := decide_eq_true (by omega)
            have hKp : 0 < K := by omega
            go_wp2
            exact ⟨⟨i + 1, rfl, by omega, by omega, ⟨HCut.out _ rfl⟩, HW⟩, by simp [intOf]; omega⟩
        · have hst : cleanStep ys x = ys ++ [x] := by unfold cleanStep; rw [if_neg h46, if_neg h4646]
          rw [hst] at hct
          have HC := Aside0.mk hct
          rw [decide_eq_false h4646] at e4646
          clear hct hst h46 h4646
          go_wp2_with (at_builtin; refine print_append_cells (w0 := w1) w1.heap.size rfl (.tmp 24) (.tmp 26) 23 9 (.string ⟨#[]⟩) 1 16 rfl Tryd.underlying23 info9 rfl (by omega) (by omega) _ K (strsC ys) [.string t] rfl rfl rfl ?a1 ?aO ?aB ?aS ?aL ?_; (case a1 => intro u hu; simp at hu; subst hu; rfl); (case aO => exact HO.out); (case aB => exact HW.out); (case aS => exact HW.out.size); (case aL => omega); intro v1 w2 ho1 hb1 _ _; have HO2 := Aside0.mk ho1; have HB2 := Aside0.mk hb1; clear ho1 hb1)
          refine ⟨⟨i + 1, rfl, by omega, by omega, ⟨?_⟩, HB2⟩, by simp [intOf]; omega⟩
          rw [HC.out, strsC_app, List.length_append, List.length_singleton, HK.out]
          have h9 := HO2.out
          rw [← HX.out.2] at h9
          exact h9
      · have hlt1 : decide (i < (N : Int)) = false := decide_eq_false hlt
        have hyx : ys = cleanF xs := by rw [← HYs.out, List.take_of_length_le (by have := HN.out; omega)]
        subst hyx
        have HB9 := Aside0.mk (show Below w.heap.size w wr from below_step HB1.out HW.out)
        have hrd := RdS.of_own HO.out
        have hA : 0 < K → ∃ o, B = some ⟨blkOf B, o, none⟩ ∧ blkOf B < wr.heap.size ∧ ∀ (j : Nat) x, (cleanF xs)[j]? = some x → wr.cell? ⟨blkOf B, o + j, none⟩ = some (.string (sB x)) := fun hK0 => by
          obtain ⟨x0, hx0⟩ : ∃ x, (cleanF xs)[0]? = some x := ⟨_, List.getElem?_eq_getElem (by rw [HK.out]; exact hK0)⟩
          obtain ⟨g, rfl, _, h0⟩ := row_cell HO.out hx0
          refine ⟨0, rfl, World.block_lt_of_cell? wr _ h0, fun j x hx => ?_⟩
          obtain ⟨g', hg', _, h1⟩ := row_cell HO.out hx
          cases hg'
          rw [Nat.zero_add]
          exact h1
        have HRd := Aside0.mk (And.intro hrd hA)
        clear hrd hA
        go_wp2_with (go_at_call 14; refine (rjoin_any B K c2 (cleanF xs) _ HRd.out.1 HBd.out.1).mono ?_; rintro e w3 ⟨rfl, hw3⟩; rw [hw3]; clear hw3)
        go_ret2
        exact ⟨rfl, HB9.out⟩
  · have hcl : cleanL l = [] := if_neg (by rw [hE]; exact h0)
    have hsl := splitL_err hE h0
    rw [hcl, hE]
    have HE := Aside0.mk (And.intro hE hsl)
    have hne : (E != 0) = true := by simpa using h0
    clear hcl hsl hE
    go_enter Tryd.func19, Tryd.ntmps19
    go_wp2_with (go_at_call 11; refine (rsplit_any s _ hs).mono ?_; intro e w1 hP; obtain ⟨v, rfl, hO, hB⟩ := hP.out; rw [HL.out, HE.out.1]; have HB1 := Aside0.mk hB; clear hP hO hB)
    go_ret2
    exact ⟨rfl, HB1.out⟩
end Go.Proofs.YtankbofabdjleaaDoor.H
