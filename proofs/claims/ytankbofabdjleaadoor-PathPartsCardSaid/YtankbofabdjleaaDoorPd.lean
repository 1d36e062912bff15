/- Paths: the program's Split as a contract; same. -/
import Derived.Test.YtankbofabdjleaaDoorPc
import Derived.WalkMore
namespace Go.Proofs.YtankbofabdjleaaDoor.H
open Go.RowKit Go.Proofs.YtankbofabdjleaaDoorW.PrintWords Go.Proofs.YtankbofabdjleaaDoorW.PrintLast Go.Proofs.YtankbofabdjleaaDoorW.PrintMore
set_option linter.unusedVariables false
set_option linter.unusedSimpArgs false

theorem hasPrefix_47 (l : Bs) : Lib.hasPrefix l [47] = decide (l.head? = some 47) := by
  cases l with
  | nil => simp [Lib.hasPrefix]
  | cons c r =>
    by_cases h : c = 47
    · subst h; simp [Lib.hasPrefix, List.isPrefixOf]
    · have h2 : ¬ (47 : UInt8) = c := fun e => h e.symm
      simp [Lib.hasPrefix, List.isPrefixOf, h, h2]
theorem indexByte_has (l : Bs) (c : UInt8) : decide (0 ≤ Lib.indexByte l c) = hasB c l := by
  induction l with
  | nil => simp [Lib.indexByte, hasB]
  | cons b r ih =>
    unfold Lib.indexByte
    by_cases h : b = c
    · subst h; simp [hasB]
    · have hb : (b == c) = false := by simpa using h
      rw [hb, if_neg (by simp)]
      have hg := Lib.indexByte_ge r c
      by_cases h1 : Lib.indexByte r c = -1
      · rw [h1] at ih ⊢
        simp at ih ⊢
        unfold hasB at ih ⊢
        simp at ih ⊢
        exact ⟨fun e => h e.symm, ih⟩
      · rw [if_neg (by simpa using h1)]
        have e1 : decide (0 ≤ Lib.indexByte r c + 1) = true := decide_eq_true (by omega)
        have e2 : decide (0 ≤ Lib.indexByte r c) = true := decide_eq_true (by omega)
        rw [e2] at ih
        rw [e1]
        have := of_decide_eq_true ih.symm
        exact (decide_eq_true (List.mem_cons_of_mem _ this)).symm
theorem filter_take {xs : List Bs} {i : Nat} {x : Bs} (h : xs[i]? = some x) (p : Bs → Bool) : (xs.take (i + 1)).filter p = (xs.take i).filter p ++ (if p x then [x] else []) := by
  rw [List.take_add_one, h, Option.toList, List.filter_append]
  congr 1
  by_cases hp : p x = true <;> simp [hp]
def neB (x : Bs) : Bool := decide (x ≠ [])

set_option maxRecDepth 100000 in
set_option maxHeartbeats 4000000 in
theorem psplit_any (s : ByteArray) (m : Int) (w : World) (hs : s.size ≤ 9223372036854775807) (hm : w.cell? ⟨0, 0, none⟩ = some (.int .i64 m)) :
    Calls Tryd.prog 16 #[.string s] w fun e w' => RowP w.heap.size (splitL s.data.toList) (splitE s.data.toList) w e w' := by
  have hu9 := Tryd.underlying9
  obtain ⟨l, hl⟩ : ∃ l, s.data.toList = l := ⟨_, rfl⟩
  have hll : l.length = s.size := by rw [← hl, data_length]
  have hem := empty_data s
  rw [hl] at hem ⊢
  have HL := Aside0.mk hl
  have HLL := Aside0.mk hll
  have HM := Aside0.mk hm
  clear hm
  by_cases h1 : l = []
  · have e1 : s.toList.isEmpty = true := by rw [hem]; exact decide_eq_true h1
    have hE := splitE_1 h1
    rw [splitL_err hE (by omega), hE]
    clear hl hll hem hE
    go_enter Tryd.func16, Tryd.ntmps16
    go_wp2_with fail
    go_step3
    go_wp2
    try rw [Exit.noGoto_ret]
    go_ret2
    exact ⟨_, rfl, World.ownsRow_nil _ _ _ _, Below.refl _ _⟩
  have e1 : s.toList.isEmpty = false := by rw [hem]; exact decide_eq_false h1
  by_cases h2 : 512 < l.length
  · have d2 : decide (512 < s.size) = true := decide_eq_true (by omega)
    have d2' : decide ((512 : Int) < (s.size : Int)) = true := decide_eq_true (by omega)
    have hE := splitE_2 h1 h2
    rw [splitL_err hE (by omega), hE]
    clear hl hll hem hE
    go_enter Tryd.func16, Tryd.ntmps16
    go_wp2_with fail
    go_step3
    go_wp2
    try rw [Exit.noGoto_ret]
    go_ret2
    exact ⟨_, rfl, World.ownsRow_nil _ _ _ _, Below.refl _ _⟩
  have d2 : decide (512 < s.size) = false := decide_eq_false (by omega)
  have d2' : decide ((512 : Int) < (s.size : Int)) = false := decide_eq_false (by omega)
  have hs5 : s.size ≤ 512 := by omega
  have HP1 := Aside0.mk (show Lib.hasPrefix s.data.toList (⟨#[47]⟩ : ByteArray).data.toList = decide (l.head? = some 47) by rw [hl]; exact hasPrefix_47 l)
  have HC1 := Aside0.mk (show decide (0 ≤ Lib.indexByte s.data.toList 0) = hasB 0 l by rw [hl]; exact indexByte_has l 0)
  by_cases h3 : l.head? = some 47
  · have hq1 : decide (l.head? = some 47) = true := decide_eq_true h3
    have HQ1 := Aside0.mk hq1
    obtain ⟨B, hB⟩ : ∃ B, hasB 0 l = B := ⟨_, rfl⟩
    have HB := Aside0.mk hB
    cases B with
    | true =>
      have hE := splitE_3 h1 (by omega) (.inr (of_decide_eq_true hB))
      rw [splitL_err hE (by omega), hE]
      clear hl hll hem hE hB h1 h3 hq1
      go_enter Tryd.func16, Tryd.ntmps16
      go_wp2_with fail
      go_step3
      go_wp2_with (first
        | (go_at_call 31; refine (Tryd.strings_HasPrefix s ⟨#[47]⟩ _).mono ?_; rw [HP1.out, HQ1.out]; rintro e w1 ⟨rfl, hw1⟩; rw [hw1]; clear hw1)
        | (go_at_call 32; refine (Tryd.strings_Contains_one s 0 _).mono ?_; rw [HC1.out, HB.out]; rintro e w1 ⟨rfl, hw1⟩; rw [hw1]; clear hw1))
      try rw [Exit.noGoto_ret]
      go_ret2
      exact ⟨_, rfl, World.ownsRow_nil _ _ _ _, Below.refl _ _⟩
    | false =>
      have h4 : (0 : UInt8) ∉ l := of_decide_eq_false hB
      obtain ⟨segs, hsg⟩ : ∃ segs, allF [] l = segs := ⟨_, rfl⟩
      have hpc : segs.filter neB = pcs l := by rw [← hsg, pcs_eq]; rfl
      obtain ⟨N, hN⟩ : ∃ N, segs.length = N := ⟨_, rfl⟩
      have hcn : Lib.countB s ⟨#[47]⟩ + 1 = N := by
        have := Lib.count_one 47 s.data.toList
        rw [← hN, ← hsg, allF_length, ← hl]
        exact congrArg (· + 1) this
      have hsp : (Lib.splitB ⟨#[47]⟩ 0 (Lib.countB s ⟨#[47]⟩) s).map Value.string = strsC segs := by
        rw [splitB_all, hl, hsg, List.map_map]
        rfl
      have hN4 : N ≤ 513 := by
        have h := List.count_le_length (a := (47 : UInt8)) (l := l)
        rw [← hN, ← hsg, allF_length]
        omega
      have HN := Aside0.mk hN
      have HCn := Aside0.mk hcn
      have HSp := Aside0.mk hsp
      have HPc := Aside0.mk hpc
      have HE4 := Aside0.mk (fun h5 => splitE_4 h1 (by omega) h3 h4 h5)
      have HE5 := Aside0.mk (fun h5 => splitE_5 h1 (by omega) h3 h4 h5)
      obtain ⟨E, hE⟩ : ∃ E, splitE l = E := ⟨_, rfl⟩
      obtain ⟨ys, hys⟩ : ∃ ys, splitL l = ys := ⟨_, rfl⟩
      rw [hE, hys]
      have HE := Aside0.mk (And.intro hE hys)
      clear hl hll hem h3 hq1 hB h1 h4 hsg hpc hN hcn hsp hE hys
      go_enter Tryd.func16, Tryd.ntmps16
      go_wp2_with fail
      go_step3
      go_wp2_with (first
        | (go_at_call 31; refine (Tryd.strings_HasPrefix s ⟨#[47]⟩ _).mono ?_; rw [HP1.out, HQ1.out]; rintro e w1 ⟨rfl, hw1⟩; rw [hw1]; clear hw1)
        | (go_at_call 32; refine (Tryd.strings_Contains_one s 0 _).mono ?_; rw [HC1.out, HB.out]; rintro e w1 ⟨rfl, hw1⟩; rw [hw1]; clear hw1))
      go_step3
      go_wp2_with (go_at_call 33; refine (Tryd.strings_Split s ⟨#[47]⟩ m _ (by omega) HM.out (by decide)).mono ?_; rw [HCn.out, HSp.out]; rintro e w1 ⟨rfl, hw1⟩; rw [hw1]; clear hw1)
      have HB1 := Aside0.mk (show Below w.heap.size w (w.alloc (.cells (strsC segs).toArray 9)) from below_alloc (Below.refl _ _) _)
      have HS1 := Aside0.mk (blk_new w (.cells (strsC segs).toArray 9))
      obtain ⟨V, hV⟩ : ∃ V, w.alloc (.cells (strsC segs).toArray 9) = V := ⟨_, rfl⟩
      rw [hV] at HB1 HS1 ⊢
      clear hV
      go_loopw [4, 25] (fun vv iv wr => ∃ (i : Int), iv = .int .i64 i ∧ 0 ≤ i ∧ i ≤ N ∧ Aside0 (∀ (j : Nat) x, (j : Int) < i → segs[j]? = some x → x.length ≤ 32) ∧ Aside0 (wr.ownsRow V.heap.size 9 1 vv ((segs.take i.toNat).filter neB).length (strsC ((segs.take i.toNat).filter neB))) ∧ Aside0 (Below V.heap.size V wr)) (fun _ iv _ => (N - intOf iv).toNat)
      case atStart => exact ⟨0, rfl, Int.le_refl _, by omega, ⟨fun j x hj => by omega⟩, ⟨World.ownsRow_nil _ _ _ _⟩, ⟨Below.refl _ _⟩⟩
      case round =>
        obtain ⟨i, rfl, i0, i1, HI, HO, HW⟩ := hrel
        obtain ⟨xs, hxs⟩ : ∃ xs, (segs.take i.toNat).filter neB = xs := ⟨_, rfl⟩
        rw [hxs] at HO
        obtain ⟨K, hK⟩ : ∃ K, xs.length = K := ⟨_, rfl⟩
        rw [hK] at HO
        obtain ⟨A, c, hv⟩ := own_slice HO.out
        subst hv
        have hK4 : K ≤ 513 := by
          have h := List.length_filter_le neB (segs.take i.toNat)
          rw [hxs, hK, List.length_take] at h
          omega
        have HK := Aside0.mk hK
        have HXs := Aside0.mk hxs
        clear hxs hK
        have w4 : wrap64 (i + 1) = i + 1 := by unfold wrap64; omega
        by_cases hlt : i < (N : Int)
        · have hlt1 : decide (i < (N : Int)) = true := decide_eq_true hlt
          obtain ⟨x, hx⟩ : ∃ x, segs[i.toNat]? = some x := ⟨_, List.getElem?_eq_getElem (by have := HN.out; omega)⟩
          have hc : wr.cell? ⟨w.heap.size, i.toNat, none⟩ = some (.string (sB x)) := (blk_cell ((HW.out.block _ (blk_lt HS1.out)).trans HS1.out) i.toNat).trans (by rw [List.getElem?_toArray]; exact strsC_get hx)
          have hft := filter_take hx neB
          have hi1 : (i + 1).toNat = i.toNat + 1 := by omega
          rw [← hi1, HXs.out] at hft
          obtain ⟨t, ht⟩ : ∃ t, sB x = t := ⟨_, rfl⟩
          have htl : t.size = x.length := by rw [← ht, sB_size]
          have hte : t.toList.isEmpty = decide (x = []) := by rw [empty_data, ← ht, sB_data]
          rw [ht] at hc
          have HX := Aside0.mk (And.intro hx (And.intro htl ht))
          have nxt : x.length ≤ 32 → ∀ (j : Nat) y, (j : Int) < i + 1 → segs[j]? = some y → y.length ≤ 32 := fun hle j y hj hy => by
            by_cases hji : (j : Int) < i
            · exact HI.out j y hji hy
            · have : j = i.toNat := by omega
              subst this
              rw [HX.out.1] at hy
              cases hy
              exact hle
          have HNx := Aside0.mk nxt
          clear hx ht nxt hi1
          by_cases hxe : x = []
          · subst hxe
            have e2 : t.toList.isEmpty = true := by rw [hte]; rfl
            rw [show neB [] = false from rfl] at hft
            simp only [Bool.false_eq_true, if_false, List.append_nil] at hft
            have HF := Aside0.mk hft
            clear hft hte htl
            go_wp2
            refine ⟨⟨i + 1, rfl, by omega, by omega, ⟨HNx.out (by simp)⟩, ?_, HW⟩, by simp [intOf]; omega⟩
            rw [HF.out, HK.out]
            exact HO
          · have e2 : t.toList.isEmpty = false := by rw [hte]; exact decide_eq_false hxe
            rw [show neB x = true from decide_eq_true hxe, if_pos rfl] at hft
            have HF := Aside0.mk hft
            by_cases h32 : 32 < t.size
            · have d3 : decide (32 < t.size) = true := decide_eq_true h32
              have d3' : decide ((32 : Int) < (t.size : Int)) = true := decide_eq_true (by omega)
              have h9 := HE4.out ⟨x, by rw [← HPc.out]; exact List.mem_filter.2 ⟨List.mem_of_getElem? HX.out.1, decide_eq_true hxe⟩, by omega⟩
              obtain rfl : E = 241 := by rw [← HE.out.1]; exact h9
              obtain rfl : ys = [] := by rw [← HE.out.2]; exact splitL_err h9 (by omega)
              clear hft hte htl h9
              go_wp2
              try rw [Exit.noGoto_ret]
              go_ret2
              exact ⟨_, rfl, World.ownsRow_nil _ _ _ _, below_step HB1.out HW.out⟩
            · have d3 : decide (32 < t.size) = false := decide_eq_false h32
              have d3' : decide ((32 : Int) < (t.size : Int)) = false := decide_eq_false (by omega)
              have hx32 : x.length ≤ 32 := by omega
              clear hft hte htl
              go_wp2_with (at_builtin; refine print_append_cells (w0 := V) V.heap.size rfl (.tmp 36) (.tmp 38) 23 9 (.string ⟨#[]⟩) 1 16 rfl Tryd.underlying23 info9 rfl (by omega) (by omega) _ K (strsC xs) [.string t] rfl rfl rfl ?a1 ?aO ?aB ?aS ?aL ?_; (case a1 => intro u hu; simp at hu; subst hu; rfl); (case aO => exact HO.out); (case aB => exact HW.out); (case aS => exact HW.out.size); (case aL => omega); intro v1 w1 ho1 hb1 _ _; have HO1 := Aside0.mk ho1; have HB2 := Aside0.mk hb1; clear ho1 hb1)
              refine ⟨⟨i + 1, rfl, by omega, by omega, ⟨HNx.out hx32⟩, ⟨?_⟩, HB2⟩, by simp [intOf]; omega⟩
              rw [HF.out, strsC_app, List.length_append, List.length_singleton, HK.out]
              have h9 := HO1.out
              rw [← HX.out.2.2] at h9
              exact h9
        · have hlt1 : decide (i < (N : Int)) = false := decide_eq_false hlt
          have h9 := HE5.out (fun x hx => by
            rw [← HPc.out] at hx
            obtain ⟨hx, _⟩ := List.mem_filter.1 hx
            obtain ⟨j, hj⟩ := List.getElem?_of_mem hx
            have := (List.getElem?_eq_some_iff.1 hj).1
            exact HI.out j x (by have := HN.out; omega) hj)
          have hxx : xs = pcs l := by
            rw [← HXs.out, ← HPc.out, List.take_of_length_le (by have := HN.out; omega)]
          obtain rfl : E = 0 := by rw [← HE.out.1]; exact h9
          obtain rfl : ys = xs := by rw [← HE.out.2, splitL_ok h9]; exact hxx.symm
          clear h9 hxx
          go_wp2
          try rw [Exit.noGoto_ret]
          go_ret2
          refine ⟨_, rfl, ?_, below_step HB1.out HW.out⟩
          rw [HK.out]
          exact own_weaken HO.out HB1.out.size
  · have hq1 : decide (l.head? = some 47) = false := decide_eq_false h3
    have HQ1 := Aside0.mk hq1
    have hE := splitE_3 h1 (by omega) (.inl h3)
    rw [splitL_err hE (by omega), hE]
    clear hl hll hem hE h3 h1 hq1
    go_enter Tryd.func16, Tryd.ntmps16
    go_wp2_with fail
    go_step3
    go_wp2_with (go_at_call 31; refine (Tryd.strings_HasPrefix s ⟨#[47]⟩ _).mono ?_; rw [HP1.out, HQ1.out]; rintro e w1 ⟨rfl, hw1⟩; rw [hw1]; clear hw1)
    try rw [Exit.noGoto_ret]
    go_ret2
    exact ⟨_, rfl, World.ownsRow_nil _ _ _ _, Below.refl _ _⟩
end Go.Proofs.YtankbofabdjleaaDoor.H
