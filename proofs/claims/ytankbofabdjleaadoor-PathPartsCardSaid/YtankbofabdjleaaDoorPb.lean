/- Paths: rows of texts; the reference's has and pieces as contracts. -/
import Derived.Test.YtankbofabdjleaaDoorProg
import Derived.Test.YtankbofabdjleaaDoorWWords
import Derived.Test.YtankbofabdjleaaDoorWMore
import Derived.Test.YtankbofabdjleaaDoorPa
import Derived.WalkKit
import Derived.WalkSpells
import Derived.StillTailTactics
import Derived.KernelRfl
import Derived.BigRegion
import Derived.Lib.LazyBuf
import Derived.BigQuiet
import Derived.Deep.QuietTactic
import Derived.Deep.RegionHeld3
namespace Go.Proofs.YtankbofabdjleaaDoor.H
open Go.RowKit Go.Proofs.YtankbofabdjleaaDoorW.PrintWords Go.Proofs.YtankbofabdjleaaDoorW.PrintLast Go.Proofs.YtankbofabdjleaaDoorW.PrintMore
set_option linter.unusedVariables false
set_option linter.unusedSimpArgs false

/-- The cells of a row of texts. -/
def strsC (xs : List Bs) : List Value := xs.map fun x => .string (sB x)
theorem strsC_length (xs : List Bs) : (strsC xs).length = xs.length := by simp [strsC]
theorem strsC_app (xs ys : List Bs) : strsC (xs ++ ys) = strsC xs ++ strsC ys := by simp [strsC]
theorem strsC_get {xs : List Bs} {i : Nat} {x : Bs} (h : xs[i]? = some x) : (strsC xs)[i]? = some (.string (sB x)) := by simp [strsC, h]
theorem info9 : (Tryd.prog.info? 9).map (fun i => (i.zero, i.size, i.bytes)) = some (some (.string ⟨#[]⟩), 1, 16) := by kernel_rfl
theorem bt_get (s : ByteArray) (i : Int) (c : UInt8) (h : s.data.toList[i.toNat]? = some c) : bt s i = (c.toNat : Int) := by
  obtain ⟨h1, h2⟩ := List.getElem?_eq_some_iff.1 h
  have h3 : i.toNat < s.size := by rw [← data_length]; exact h1
  unfold bt
  rw [dif_pos h3]
  have : s[i.toNat] = c := by rw [← h2]; rfl
  rw [this]

/-- Is the byte in it? -/
def hasB (c : UInt8) (l : Bs) : Bool := decide (c ∈ l)

set_option maxRecDepth 100000 in
set_option maxHeartbeats 1000000 in
theorem has_any (s : ByteArray) (c : UInt8) (v : Int) (hv : (c.toNat : Int) = v) (w : World) (hs : s.size ≤ 9223372036854775807) :
    Calls Tryd.prog 27 #[.string s, .int .u8 v] w fun e w' => e = .returned (.bool (hasB c s.data.toList)) ∧ w' = w := by
  subst hv
  obtain ⟨N, hN⟩ : ∃ N, s.size = N := ⟨_, rfl⟩
  have HN := Aside0.mk hN
  clear hN
  go_enter Tryd.func27, Tryd.ntmps27
  go_wp2
  go_loop [5] (fun iv => ∃ i : Int, iv = .int .i64 i ∧ 0 ≤ i ∧ i ≤ s.size ∧ Aside0 (∀ j : Nat, (j : Int) < i → s.data.toList[j]? ≠ some c)) (fun iv => (s.size - intOf iv).toNat)
  case atStart => exact ⟨0, rfl, Int.le_refl _, by omega, ⟨fun j hj => by omega⟩⟩
  case round =>
    obtain ⟨i, rfl, i0, i1, HI⟩ := hrel
    by_cases hlt : i < (s.size : Int)
    · have hlt1 : decide (i < (s.size : Int)) = true := decide_eq_true hlt
      have hin : i.toNat < s.size := by omega
      have hbt := bt_at s i
      obtain ⟨q, hq⟩ : ∃ q, s.data.toList[i.toNat]? = some q := ⟨_, List.getElem?_eq_getElem (by rw [data_length]; exact hin)⟩
      have hb := bt_get s i q hq
      have w4 : wrap64 (i + 1) = i + 1 := by unfold wrap64; omega
      have HQ := Aside0.mk hq
      clear hq
      by_cases he : q = c
      · subst he
        have he1 : ((q.toNat : Int) == (q.toNat : Int)) = true := by simp
        go_wp2
        go_ret
        have : hasB q s.data.toList = true := decide_eq_true (List.mem_of_getElem? HQ.out)
        exact ⟨by rw [this]; rfl, rfl⟩
      · have he1 : ((q.toNat : Int) == (c.toNat : Int)) = false := by
          simp only [beq_eq_false_iff_ne, ne_eq]
          intro h
          exact he (UInt8.toNat_inj.1 (by omega))
        go_wp2
        go_round
        case rel =>
          refine ⟨i + 1, rfl, by omega, by omega, ⟨fun j hj => ?_⟩⟩
          by_cases hj2 : (j : Int) < i
          · exact HI.out j hj2
          · have : j = i.toNat := by omega
            subst this
            rw [HQ.out]
            intro h
            exact he (Option.some.inj h)
        case measure => simp [intOf]; omega
    · have hlt1 : decide (i < (s.size : Int)) = false := decide_eq_false hlt
      go_wp2
      go_ret
      have : hasB c s.data.toList = false := decide_eq_false (fun h => by
        obtain ⟨j, hj⟩ := List.getElem?_of_mem h
        have hl := (List.getElem?_eq_some_iff.1 hj).1
        rw [data_length] at hl
        exact HI.out j (by omega) hj)
      exact ⟨by rw [this]; rfl, rfl⟩

theorem cur_step {l : Bs} {i f : Nat} {c : UInt8} (h : l[i]? = some c) (hf : f ≤ i) : (l.take (i + 1)).drop f = (l.take i).drop f ++ [c] := by
  obtain ⟨h1, h2⟩ := List.getElem?_eq_some_iff.1 h
  rw [List.take_add_one, h, Option.toList, List.drop_append_of_le_length (by rw [List.length_take]; omega)]
theorem drop_at {l : Bs} {i : Nat} {c : UInt8} (h : l[i]? = some c) : l.drop i = c :: l.drop (i + 1) := by
  obtain ⟨h1, h2⟩ := List.getElem?_eq_some_iff.1 h
  rw [List.drop_eq_getElem_cons h1, h2]
theorem cur_nil {l : Bs} {i : Nat} : (l.take i).drop i = [] := List.drop_eq_nil_of_le (by rw [List.length_take]; omega)
theorem cur_ne {l : Bs} {i f : Nat} (h : f < i) (hi : i ≤ l.length) : (l.take i).drop f ≠ [] := fun e => by
  have := congrArg List.length e
  rw [List.length_drop, List.length_take] at this
  simp at this
  omega
/-- How far the pieces have been read. -/
def Pcd (l : Bs) (i f : Nat) (xs : List Bs) : Prop := if i ≤ l.length then xs ++ pcsF ((l.take i).drop f) (l.drop i) = pcs l else xs = pcs l
theorem Pcd.le {l : Bs} {i f : Nat} {xs : List Bs} (h : Pcd l i f xs) (hi : i ≤ l.length) : xs ++ pcsF ((l.take i).drop f) (l.drop i) = pcs l := by unfold Pcd at h; rwa [if_pos hi] at h
theorem Pcd.gt {l : Bs} {i f : Nat} {xs : List Bs} (h : Pcd l i f xs) (hi : ¬ i ≤ l.length) : xs = pcs l := by unfold Pcd at h; rwa [if_neg hi] at h
theorem Pcd.mk {l : Bs} {i f : Nat} {xs : List Bs} (hi : i ≤ l.length) (h : xs ++ pcsF ((l.take i).drop f) (l.drop i) = pcs l) : Pcd l i f xs := by unfold Pcd; rwa [if_pos hi]
theorem Pcd.other {l : Bs} {i f : Nat} {xs : List Bs} {c : UInt8} (h : Pcd l i f xs) (hc : l[i]? = some c) (hf : f ≤ i) (hn : c ≠ 47) : Pcd l (i + 1) f xs := by
  obtain ⟨h1, _⟩ := List.getElem?_eq_some_iff.1 hc
  have h2 := h.le (by omega)
  rw [drop_at hc] at h2
  simp only [pcsF] at h2
  rw [if_neg hn, ← cur_step hc hf] at h2
  exact .mk (by omega) h2
theorem Pcd.slash {l : Bs} {i f : Nat} {xs : List Bs} (h : Pcd l i f xs) (hc : l[i]? = some 47) (hf : f ≤ i) : Pcd l (i + 1) (i + 1) (if f < i then xs ++ [(l.take i).drop f] else xs) := by
  obtain ⟨h1, _⟩ := List.getElem?_eq_some_iff.1 hc
  have h2 := h.le (by omega)
  rw [drop_at hc] at h2
  simp only [pcsF] at h2
  rw [if_pos trivial] at h2
  refine .mk (by omega) ?_
  rw [cur_nil]
  by_cases hlt : f < i
  · rw [if_neg (cur_ne hlt (by omega))] at h2
    rw [if_pos hlt, List.append_assoc]
    exact h2
  · obtain rfl : f = i := by omega
    rw [cur_nil, if_pos rfl] at h2
    rw [if_neg hlt]
    exact h2
theorem Pcd.last {l : Bs} {f : Nat} {xs : List Bs} (h : Pcd l l.length f xs) (hf : f ≤ l.length) : Pcd l (l.length + 1) (l.length + 1) (if f < l.length then xs ++ [(l.take l.length).drop f] else xs) := by
  have h2 := h.le (Nat.le_refl _)
  rw [List.drop_length] at h2
  simp only [pcsF] at h2
  unfold Pcd
  rw [if_neg (by omega)]
  by_cases hlt : f < l.length
  · rw [if_neg (cur_ne hlt (Nat.le_refl _))] at h2
    rw [if_pos hlt]
    exact h2
  · obtain rfl : f = l.length := by omega
    rw [cur_nil, if_pos rfl, List.append_nil] at h2
    rw [if_neg hlt]
    exact h2
theorem ext_sB (s : ByteArray) (f i : Nat) : s.extract f i = sB ((s.data.toList.take i).drop f) := by
  rw [Lib.extract_eq, ← List.drop_take]
  rfl

set_option maxRecDepth 100000 in
set_option maxHeartbeats 4000000 in
theorem pieces_any (s : ByteArray) (w : World) (hs : s.size ≤ 4294967280) :
    Calls Tryd.prog 28 #[.string s] w fun e w' => ∃ v, e = .returned v ∧ w'.ownsRow w.heap.size 9 1 v (pcs s.data.toList).length (strsC (pcs s.data.toList)) ∧ Below w.heap.size w w' := by
  have hu9 := Tryd.underlying9
  obtain ⟨l, hl⟩ : ∃ l, s.data.toList = l := ⟨_, rfl⟩
  have hll : l.length = s.size := by rw [← hl, data_length]
  rw [hl]
  have HL := Aside0.mk hl
  have HLL := Aside0.mk hll
  clear hl hll
  go_enter Tryd.func28, Tryd.ntmps28
  go_wp2
  go_loopw [3, 4, 5] (fun vv fv iv wr => ∃ (i f : Int) (xs : List Bs), iv = .int .i64 i ∧ fv = .int .i64 f ∧ 0 ≤ f ∧ f ≤ i ∧ i ≤ s.size + 1 ∧ Aside0 (Pcd l i.toNat f.toNat xs ∧ xs.length ≤ i.toNat) ∧ Aside0 (wr.ownsRow w.heap.size 9 1 vv xs.length (strsC xs)) ∧ Aside0 (Below w.heap.size w wr)) (fun _ _ iv _ => (s.size + 1 - intOf iv).toNat)
  case atStart => exact ⟨0, 0, [], rfl, rfl, Int.le_refl _, Int.le_refl _, by omega, ⟨.mk (by simp) (by simp [pcs]), by simp⟩, ⟨World.ownsRow_nil _ _ _ _⟩, ⟨Below.refl _ _⟩⟩
  case round =>
    obtain ⟨i, f, xs, rfl, rfl, f0, fi, i1, HP, HO, HW⟩ := hrel
    obtain ⟨N, hN⟩ : ∃ N, xs.length = N := ⟨_, rfl⟩
    rw [hN] at HO
    obtain ⟨A, c, hv⟩ := own_slice HO.out
    subst hv
    have HN := Aside0.mk hN
    have hNb : N ≤ i.toNat := by rw [← hN]; exact HP.out.2
    clear hN
    have w4 : wrap64 (i + 1) = i + 1 := by unfold wrap64; omega
    by_cases hle : i ≤ (s.size : Int)
    · have d0 : decide (i ≤ (s.size : Int)) = true := decide_eq_true hle
      by_cases hlt : i < (s.size : Int)
      · have d1 : decide (i < (s.size : Int)) = true := decide_eq_true hlt
        have hin : i.toNat < s.size := by omega
        have hbt := bt_at s i
        obtain ⟨q, hq⟩ : ∃ q, l[i.toNat]? = some q := ⟨_, List.getElem?_eq_getElem (by rw [HLL.out]; exact hin)⟩
        have hb := bt_get s i q (by rw [HL.out]; exact hq)
        have HQ := Aside0.mk hq
        have hi1 : (i + 1).toNat = i.toNat + 1 := by omega
        have HI1 := Aside0.mk hi1
        clear hq hi1
        by_cases he : q = 47
        · subst he
          have hb : bt s i = 47 := hb
          have hsl := HP.out.1.slash HQ.out (by omega)
          by_cases hfi : f < i
          · have d2 : decide (f < i) = true := decide_eq_true hfi
            rw [if_pos (by omega)] at hsl
            have hex := ext_sB s f.toNat i.toNat
            rw [HL.out] at hex
            have HX := Aside0.mk hex
            have HSl := Aside0.mk hsl
            clear hsl hex
            go_wp2_with (at_builtin; refine print_append_cells (w0 := w) w.heap.size rfl (.tmp 25) (.tmp 30) 23 9 (.string ⟨#[]⟩) 1 16 rfl Tryd.underlying23 info9 rfl (by omega) (by omega) _ N (strsC xs) [.string (s.extract f.toNat i.toNat)] rfl rfl rfl ?a1 ?aO ?aB ?aS ?aL ?_; (case a1 => intro u hu; simp at hu; subst hu; rfl); (case aO => exact HO.out); (case aB => exact HW.out); (case aS => exact HW.out.size); (case aL => omega); intro v1 w1 ho1 hb1 _ _; have HO1 := Aside0.mk ho1; have HB1 := Aside0.mk hb1; clear ho1 hb1)
            refine ⟨⟨i + 1, i + 1, xs ++ [(l.take i.toNat).drop f.toNat], rfl, rfl, by omega, Int.le_refl _, by omega, ⟨by rw [HI1.out]; exact HSl.out, by have := HP.out.2; rw [List.length_append, List.length_singleton]; omega⟩, ⟨?_⟩, HB1⟩, by simp [intOf]; omega⟩
            rw [strsC_app, List.length_append, List.length_singleton, HN.out]
            have h9 := HO1.out
            rw [HX.out] at h9
            exact h9
          · have d2 : decide (f < i) = false := decide_eq_false hfi
            rw [if_neg (by omega)] at hsl
            have HSl := Aside0.mk hsl
            clear hsl
            go_wp2
            exact ⟨⟨i + 1, i + 1, xs, rfl, rfl, by omega, Int.le_refl _, by omega, ⟨by rw [HI1.out]; exact HSl.out, by have := HP.out.2; omega⟩, by rw [HN.out]; exact HO, HW⟩, by simp [intOf]; omega⟩
        · have he1 : ((q.toNat : Int) != 47) = true := by
            simp only [bne_iff_ne, ne_eq]
            intro h
            exact he (UInt8.toNat_inj.1 (by simpa using (by omega : q.toNat = 47)))
          have hot := HP.out.1.other HQ.out (by omega) he
          have HOt := Aside0.mk hot
          clear hot
          go_wp2
          refine ⟨⟨i + 1, f, xs, rfl, rfl, f0, by omega, by omega, ⟨by rw [HI1.out]; exact HOt.out, by have := HP.out.2; omega⟩, by rw [HN.out]; exact HO, HW⟩, by simp [intOf]; omega⟩
      · have d1 : decide (i < (s.size : Int)) = false := decide_eq_false hlt
        have hiN : i.toNat = l.length := by rw [HLL.out]; omega
        have hi1 : (i + 1).toNat = i.toNat + 1 := by omega
        have HI1 := Aside0.mk hi1
        have hsl := HP.out.1
        rw [hiN] at hsl
        have hsl := hsl.last (by rw [HLL.out]; omega)
        rw [← hiN] at hsl
        clear hi1 hiN
        by_cases hfi : f < i
        · have d2 : decide (f < i) = true := decide_eq_true hfi
          rw [if_pos (by omega)] at hsl
          have hex := ext_sB s f.toNat i.toNat
          rw [HL.out] at hex
          have HX := Aside0.mk hex
          have HSl := Aside0.mk hsl
          clear hsl hex
          go_wp2_with (at_builtin; refine print_append_cells (w0 := w) w.heap.size rfl (.tmp 25) (.tmp 30) 23 9 (.string ⟨#[]⟩) 1 16 rfl Tryd.underlying23 info9 rfl (by omega) (by omega) _ N (strsC xs) [.string (s.extract f.toNat i.toNat)] rfl rfl rfl ?a1 ?aO ?aB ?aS ?aL ?_; (case a1 => intro u hu; simp at hu; subst hu; rfl); (case aO => exact HO.out); (case aB => exact HW.out); (case aS => exact HW.out.size); (case aL => omega); intro v1 w1 ho1 hb1 _ _; have HO1 := Aside0.mk ho1; have HB1 := Aside0.mk hb1; clear ho1 hb1)
          refine ⟨⟨i + 1, i + 1, xs ++ [(l.take i.toNat).drop f.toNat], rfl, rfl, by omega, Int.le_refl _, by omega, ⟨by rw [HI1.out]; exact HSl.out, by have := HP.out.2; rw [List.length_append, List.length_singleton]; omega⟩, ⟨?_⟩, HB1⟩, by simp [intOf]; omega⟩
          rw [strsC_app, List.length_append, List.length_singleton, HN.out]
          have h9 := HO1.out
          rw [HX.out] at h9
          exact h9
        · have d2 : decide (f < i) = false := decide_eq_false hfi
          rw [if_neg (by omega)] at hsl
          have HSl := Aside0.mk hsl
          clear hsl
          go_wp2
          exact ⟨⟨i + 1, i + 1, xs, rfl, rfl, by omega, Int.le_refl _, by omega, ⟨by rw [HI1.out]; exact HSl.out, by have := HP.out.2; omega⟩, by rw [HN.out]; exact HO, HW⟩, by simp [intOf]; omega⟩
    · have d0 : decide (i ≤ (s.size : Int)) = false := decide_eq_false hle
      go_wp2
      go_ret
      have hx := HP.out.1.gt (by rw [HLL.out]; omega)
      refine ⟨_, rfl, ?_, HW.out⟩
      rw [← hx, HN.out]
      exact HO.out
end Go.Proofs.YtankbofabdjleaaDoor.H
