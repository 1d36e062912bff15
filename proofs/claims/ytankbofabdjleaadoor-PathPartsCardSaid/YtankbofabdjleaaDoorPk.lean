/- Paths: ContainsAny of ASCII bytes in any text; Name of both. -/
import Derived.Test.YtankbofabdjleaaDoorPj
import Derived.Lib.OthersKept
namespace Go.Proofs.YtankbofabdjleaaDoor.H
open Go.RowKit Go.Proofs.YtankbofabdjleaaDoorW.PrintWords Go.Proofs.YtankbofabdjleaaDoorW.PrintLast Go.Proofs.YtankbofabdjleaaDoorW.PrintMore
set_option linter.unusedVariables false
set_option linter.unusedSimpArgs false

theorem noAny_run {s chars : List UInt8} {i k : Nat} (h : Lib.NoAny s chars i) (hk : ∀ (j : Nat) b, i ≤ j → j < i + k → s[j]? = some b → chars.contains b = false) : Lib.NoAny s chars (i + k) := fun j b hj hb => by
  by_cases hji : j < i
  · exact h j b hji hb
  · exact hk j b (by omega) hj hb

set_option maxRecDepth 1000000 in
set_option maxHeartbeats 8000000 in
theorem indexAny_short (s chars : ByteArray) (w : World) (h2 : chars.size = 2) (h8 : s.size ≤ 8) (hs : ∀ (j : Nat) (h : j < chars.size), (chars[j]'h).toNat < 128) :
    Calls Tryd.prog 52 #[.string s, .string chars] w fun e w' => e = .returned (.int .i64 (Lib.indexAny s.data.toList chars.data.toList)) ∧ Below w.heap.size w w' := by
  have HC := Aside0.mk hs
  clear hs
  have hemp : chars.toList.isEmpty = false := by
    rw [Lib.toList_data]
    cases h : chars.data.toList with
    | nil => have := Lib.size_eq chars; rw [h, List.length_nil] at this; omega
    | cons _ _ => rfl
  have hn1 : ((chars.size : Int) == 1) = false := beq_eq_false_iff_ne.2 (by omega)
  have h8z : decide ((8 : Int) < (s.size : Int)) = false := decide_eq_false (by omega)
  have H2 := Aside0.mk h2
  clear h2
  have hu9 := Tryd.underlying9
  go_enter Tryd.func52, Tryd.ntmps52
  go_wp2_with (go_at_call 63; refine (Tryd.strings_shouldUseASCIISet _ _).mono ?_; rintro e w1 ⟨rfl, hw1⟩; rw [hw1, h8z]; clear hw1)
  go_loopg [9, 10] s.size (fun g _ _ wx => ∃ i : Nat, s.size ≤ i + g ∧ i ≤ s.size ∧ wx.heap[w.heap.size]? = some (.stringIter s i) ∧ Aside0 (Lib.NoAny s.data.toList chars.data.toList i) ∧ Aside0 (Below w.heap.size w wx))
  case atStart => exact ⟨0, by omega, by omega, World.iter_heap w s 0, ⟨Lib.NoAny.zero _ _⟩, ⟨below_alloc (Below.refl _ w) (.stringIter s 0)⟩⟩
  case round =>
    obtain ⟨i, hig, hi, hit, HN, HB⟩ := hrel
    by_cases hlt : i < s.size
    · obtain ⟨g, rfl⟩ : ∃ g, gk = g + 1 := ⟨gk - 1, by omega⟩
      obtain ⟨x, hx⟩ : ∃ x : UInt8, s[i]'hlt = x := ⟨_, rfl⟩
      have hxl : s.data.toList[i]? = some x := by rw [← hx]; exact Lib.data_getElem? s i hlt
      obtain ⟨W, hW⟩ : ∃ W, wr.iterAt w.heap.size s (i + (Utf8.decode s i).2) = W := ⟨_, rfl⟩
      have hWi : W.heap[w.heap.size]? = some (.stringIter s (i + (Utf8.decode s i).2)) := by rw [← hW]; exact Lib.iterAt_heap wr _ s i _ hit
      have hWB : Below w.heap.size w W := by rw [← hW]; exact Lib.below_iterAt HB.out (Nat.le_refl _) _ _
      have hWl : w.heap.size < W.heap.size := (Array.getElem?_eq_some_iff.1 hWi).1
      have hnx := fun ty => Lib.run_next_any_at (P := Tryd.prog) wr w.heap.size s i ty hit hlt
      rw [hW] at hnx
      have HW := Aside0.mk (And.intro hWi (And.intro hWB hWl))
      clear hWi hWB hWl hW
      by_cases hx128 : x.toNat < 128
      · have hd := decode_ascii s i hlt (by rw [hx]; exact hx128)
        rw [hx] at hd
        rw [hd] at hnx HW
        have HX := Aside0.mk hxl
        have hcon := Lib.contains_iff_indexByte chars.data.toList x
        have hback : ((x.toNat : Int)).toNat.toUInt8 = x := by simp
        clear hxl hx hd
        cases hin : chars.data.toList.contains x
        · rw [hin] at hcon
          have hlt0 : decide ((0 : Int) ≤ Lib.indexByte chars.data.toList x) = false := hcon.symm
          clear hcon
          go_wp2_with (go_at_call 62; refine (Tryd.strings_IndexRune_ascii _ _ _ (by omega) (by omega)).mono ?_; rintro e w' ⟨rfl, hw⟩; rw [hw, hback]; clear hw)
          go_roundg g
          case measure => omega
          case rel => exact ⟨i + 1, by omega, by omega, HW.out.1, ⟨HN.out.succ HX.out hin⟩, ⟨HW.out.2.1⟩⟩
        · rw [hin] at hcon
          have hge : decide ((0 : Int) ≤ Lib.indexByte chars.data.toList x) = true := hcon.symm
          clear hcon
          go_wp2_with (go_at_call 62; refine (Tryd.strings_IndexRune_ascii _ _ _ (by omega) (by omega)).mono ?_; rintro e w' ⟨rfl, hw⟩; rw [hw, hback]; clear hw)
          go_ret
          exact ⟨by rw [Lib.indexAny_hit HN.out HX.out hin]; rfl, HW.out.2.1⟩
      · obtain ⟨hk1, hk2⟩ := decode_run s i hlt (by rw [hx]; omega)
        obtain ⟨hr1, hr2⟩ := decode_high s i hlt (by rw [hx]; omega)
        obtain ⟨R, hR⟩ : ∃ R, Utf8.decode s i = R := ⟨_, rfl⟩
        rw [hR] at hnx HW hk1 hk2 hr1 hr2
        obtain ⟨r, k⟩ := R
        have hno : Lib.NoAny s.data.toList chars.data.toList (i + k) := noAny_run HN.out (fun j b h1 h2 hb => by
          have h3 := hk2 (j - i) (by simp only; omega)
          rw [show i + (j - i) = j from by omega] at h3
          have hjs : j < s.size := by simp only at hk1; omega
          rw [get_at' s j hjs] at h3
          have hbb : s[j]'hjs = b := by
            have := Lib.data_getElem? s j hjs
            rw [hb] at this
            exact (Option.some.inj this).symm
          rw [hbb] at h3
          rw [← Bool.not_eq_true, List.contains_iff_mem]
          intro hm
          obtain ⟨q, hq⟩ := List.getElem?_of_mem hm
          have hql := (List.getElem?_eq_some_iff.1 hq).1
          rw [data_length] at hql
          have h4 := HC.out q hql
          have h5 := Lib.data_getElem? chars q hql
          rw [hq] at h5
          rw [← Option.some.inj h5] at h4
          omega)
        have HK := Aside0.mk (And.intro hk1 (And.intro hr2 hno))
        have hr1 : (128 : Int) ≤ (r : Int) := by simp only at hr1; omega
        clear hk1 hk2 hr2 hno hR hxl hx
        go_wp2_with (go_at_call 62; refine (indexRune_high chars _ _ H2.out HC.out hr1).mono ?_; rintro e w' ⟨rfl, hw⟩; have HB2 := Aside0.mk hw; clear hw)
        go_roundg g
        case measure => omega
        case rel =>
          have h1 := HK.out.1
          have h2 := HK.out.2.1
          change i + k ≤ s.size at h1
          change 1 ≤ k at h2
          refine ⟨i + k, by omega, by omega, ?_, ⟨HK.out.2.2⟩, ⟨below_then HW.out.2.1 (by have := HW.out.2.2; omega) HB2.out⟩⟩
          rw [HB2.out.block _ HW.out.2.2]
          exact HW.out.1
    · obtain rfl : i = s.size := by omega
      have hnx := fun ty => Lib.run_next_end_at (P := Tryd.prog) wr w.heap.size s s.size ty hit hlt
      go_wp2
      go_ret
      exact ⟨by rw [Lib.indexAny_none (by rw [← Lib.size_eq]; exact HN.out)]; rfl, HB.out⟩

theorem hv62 : (Tryd.prog.info? 62).map (fun i => (i.zero, i.size)) = some (some (.agg (Array.replicate 256 (.bool false))), 256) := by kernel_rfl

/-- The set of the bytes, in two blocks. -/
def setW (w : World) (l : List UInt8) : World := (w.alloc (.cells (Lib.setCells l) 62)).alloc (.cells (Lib.setCells l) 62)
theorem setW_cell (w : World) (l : List UInt8) (x : UInt8) : (setW w l).cell? ⟨w.heap.size + 1, x.toNat, none⟩ = some (.bool (l.contains x)) := by
  unfold setW
  rw [World.cell?_alloc_at _ _ _ _ (by simp), Lib.setCells_at]
theorem setW_below (w : World) (l : List UInt8) : Below w.heap.size w (setW w l) := below_alloc (below_alloc (Below.refl _ _) _) _

set_option maxRecDepth 1000000 in
set_option maxHeartbeats 8000000 in
theorem indexAny_long (s chars : ByteArray) (w : World) (h2 : chars.size = 2) (h8 : 8 < s.size) (hs9 : s.size ≤ 9223372036854775807) (hascii : ∀ (j : Nat) b, chars.data.toList[j]? = some b → b.toNat < 128) :
    Calls Tryd.prog 52 #[.string s, .string chars] w fun e w' => e = .returned (.int .i64 (Lib.indexAny s.data.toList chars.data.toList)) ∧ Below w.heap.size w w' := by
  have hM := fun W => Tryd.strings_makeASCIISet (zero_of_info hv62).1 chars W (by omega) hascii
  have hemp : chars.toList.isEmpty = false := by
    rw [Lib.toList_data]
    cases h : chars.data.toList with
    | nil => have := Lib.size_eq chars; rw [h, List.length_nil] at this; omega
    | cons _ _ => rfl
  have hn1 : ((chars.size : Int) == 1) = false := beq_eq_false_iff_ne.2 (by omega)
  have h8z : decide ((8 : Int) < (s.size : Int)) = true := decide_eq_true (by omega)
  obtain ⟨l, hl⟩ : ∃ l, chars.data.toList = l := ⟨_, rfl⟩
  rw [hl] at hM ⊢
  have hsc : (storeCells ⟨w.heap.size + 1, 0, none⟩ (Lib.setCells l).toList 0).run Tryd.prog ((w.alloc (.cells (Lib.setCells l) 62)).alloc (.cells (Array.replicate 256 (.bool false)) 62)) = .ok () (setW w l) := by
    have := run_storeCells_new (P := Tryd.prog) (w.alloc (.cells (Lib.setCells l) 62)) 62 (Array.replicate 256 (.bool false)) (Lib.setCells l) (by rw [Lib.setCells_size]; exact (zero_of_info hv62).2) (by rw [Lib.setCells_size, Array.size_replicate]) (Lib.setCells_one _)
    unfold setW
    simpa using this
  have hsz := Lib.setCells_size l
  have hz := (zero_of_info hv62).1
  have HM := Aside0.mk hM
  clear hM hascii hl
  go_enter Tryd.func52, Tryd.ntmps52
  go_wp2_with (first
    | (go_at_call 63; refine (Tryd.strings_shouldUseASCIISet _ _).mono ?_; rintro e w1 ⟨rfl, hw1⟩; rw [hw1, h8z]; clear hw1)
    | (go_at_call 47; refine (HM.out _).mono ?_; rintro e w1 ⟨rfl, hw1⟩; rw [hw1]; clear hw1))
  clear hsc hz
  go_loopg [8] s.size (fun g s8 wx => ∃ i : Int, 0 ≤ i ∧ i + (g : Nat) = s.size ∧ s8 = .int .i64 i ∧ wx = setW w l ∧ Aside0 (Lib.NoAny s.data.toList l i.toNat))
  case atStart => exact ⟨0, by omega, by omega, rfl, rfl, ⟨Lib.NoAny.zero _ _⟩⟩
  case round =>
    obtain ⟨i, i0, hig, rfl, rfl, HN⟩ := hrel
    by_cases hlt : i < (s.size : Int)
    · obtain ⟨g, rfl⟩ : ∃ g, gk = g + 1 := ⟨gk - 1, by omega⟩
      have hlt1 : decide (i < (s.size : Int)) = true := decide_eq_true hlt
      have hi : i.toNat < s.size := by omega
      have w4 : wrap64 (i + 1) = i + 1 := by unfold wrap64; omega
      obtain ⟨x, hx⟩ : ∃ x : UInt8, s[i.toNat]'hi = x := ⟨_, rfl⟩
      have hxl : s.data.toList[i.toNat]? = some x := by rw [← hx]; exact Lib.data_getElem? s i.toNat hi
      have HX := Aside0.mk hxl
      clear hxl
      have hcx := setW_cell w l x
      cases hin : l.contains x
      · rw [hin] at hcx
        go_wp2_with (go_at_call 58; refine (Tryd.asciiSet_contains _ x _ _ hcx).mono ?_; rintro e w1 ⟨rfl, hw1⟩; rw [hw1]; clear hw1)
        go_roundg g
        case measure => omega
        case rel =>
          refine ⟨i + 1, by omega, by omega, rfl, rfl, ⟨?_⟩⟩
          rw [show (i + 1).toNat = i.toNat + 1 from by omega]
          exact HN.out.succ HX.out hin
      · rw [hin] at hcx
        go_wp2_with (go_at_call 58; refine (Tryd.asciiSet_contains _ x _ _ hcx).mono ?_; rintro e w1 ⟨rfl, hw1⟩; rw [hw1]; clear hw1)
        go_ret
        refine ⟨?_, setW_below _ _⟩
        rw [Lib.indexAny_hit HN.out HX.out hin, Int.toNat_of_nonneg i0]
        rfl
    · have hlt1 : decide (i < (s.size : Int)) = false := decide_eq_false hlt
      go_wp2
      go_ret
      have : i.toNat = s.data.toList.length := by rw [data_length]; omega
      exact ⟨by rw [Lib.indexAny_none (by rw [← this]; exact HN.out)]; rfl, setW_below _ _⟩

set_option maxRecDepth 1000000 in
set_option maxHeartbeats 8000000 in
theorem containsAny_any (s chars : ByteArray) (w : World) (h2 : chars.size = 2) (hs9 : s.size ≤ 9223372036854775807) (hc : ∀ (j : Nat) (h : j < chars.size), (chars[j]'h).toNat < 128) :
    Calls Tryd.prog 37 #[.string s, .string chars] w fun e w' => e = .returned (.bool (Lib.containsAny s.data.toList chars.data.toList)) ∧ Below w.heap.size w w' := by
  have hascii : ∀ (j : Nat) b, chars.data.toList[j]? = some b → b.toNat < 128 := fun j b hb => by
    have hql := (List.getElem?_eq_some_iff.1 hb).1
    rw [data_length] at hql
    have h5 := Lib.data_getElem? chars j hql
    rw [hb] at h5
    have := hc j hql
    rw [← Option.some.inj h5] at this
    exact this
  have hI : ∀ W, Calls Tryd.prog 52 #[.string s, .string chars] W fun e w' => e = .returned (.int .i64 (Lib.indexAny s.data.toList chars.data.toList)) ∧ Below W.heap.size W w' := fun W => by
    by_cases h8 : s.size ≤ 8
    · exact indexAny_short s chars W h2 h8 hc
    · exact indexAny_long s chars W h2 (by omega) hs9 hascii
  unfold Lib.containsAny
  obtain ⟨R, hR⟩ : ∃ R, Lib.indexAny s.data.toList chars.data.toList = R := ⟨_, rfl⟩
  rw [hR] at hI ⊢
  have HI := Aside0.mk hI
  clear hI hR hascii hc
  obtain ⟨B, hB⟩ : ∃ B, decide ((0 : Int) ≤ R) = B := ⟨_, rfl⟩
  rw [hB]
  go_enter Tryd.func37, Tryd.ntmps37
  go_wp2_with (go_at_call 52; refine (HI.out _).mono ?_; rintro e w1 ⟨rfl, hw1⟩; have HB1 := Aside0.mk hw1; clear hw1)
  go_ret
  exact ⟨rfl, HB1.out⟩
end Go.Proofs.YtankbofabdjleaaDoor.H
