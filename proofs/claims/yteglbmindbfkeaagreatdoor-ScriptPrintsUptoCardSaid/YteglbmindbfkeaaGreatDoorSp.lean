/- The reference's split of a line: a row of texts of its own. Condition: the line is no longer than 2^35 bytes. -/
import Derived.Test.YteglbmindbfkeaaGreatDoorRs2
namespace Go.Proofs.YteglbmindbfkeaaGreatDoor.H
open Go.RowKit Go.Proofs.YteglbmindbfkeaaGreatDoorW.PrintWords
set_option linter.unusedVariables false
set_option linter.unusedSimpArgs false
/-- The cells of a row of texts. -/
def strsC (xs : List Bs) : List Value := xs.map fun x => .string (sB x)
theorem strsC_length (xs : List Bs) : (strsC xs).length = xs.length := by simp [strsC]
theorem strsC_app (xs ys : List Bs) : strsC (xs ++ ys) = strsC xs ++ strsC ys := by simp [strsC]
theorem strsC_get {xs : List Bs} {i : Nat} {x : Bs} (h : xs[i]? = some x) : (strsC xs)[i]? = some (.string (sB x)) := by simp [strsC, h]
theorem infoStr : (Tryz.prog.info? 9).map (fun i => (i.zero, i.size, i.bytes)) = some (some (.string ⟨#[]⟩), 1, 16) := by kernel_rfl
theorem row_cell {W : World} {b N c : Nat} {A : Option Addr} {xs : List Bs} {j : Nat} {x : Bs} (h : W.ownsRow b 9 1 (.slice A N c) N (strsC xs)) (hj : xs[j]? = some x) :
    ∃ g, A = some ⟨g, 0, none⟩ ∧ b ≤ g ∧ W.cell? ⟨g, j, none⟩ = some (.string (sB x)) := by
  have hl := h.1
  rw [strsC_length] at hl
  obtain ⟨hlt, _⟩ := List.getElem?_eq_some_iff.1 hj
  rcases h.2 with ⟨_, h0⟩ | ⟨g, cap, cur, hv, hb, hg, hc, _⟩
  · omega
  · injection hv with hA _ hcc
    subst hA
    have h1 := h.cells (g := g) rfl _ _ (strsC_get hj)
    rw [add_plain] at h1
    exact ⟨g, rfl, hb, h1⟩
theorem cur_step {l : Bs} {i f : Nat} {c : UInt8} (h : l[i]? = some c) (hf : f ≤ i) : (l.take (i + 1)).drop f = (l.take i).drop f ++ [c] := by
  obtain ⟨h1, h2⟩ := List.getElem?_eq_some_iff.1 h
  rw [List.take_add_one, h, Option.toList, List.drop_append_of_le_length (by rw [List.length_take]; omega)]
theorem cur_nil {l : Bs} {i : Nat} : (l.take i).drop i = [] := List.drop_eq_nil_of_le (by rw [List.length_take]; omega)
theorem cur_iff {l : Bs} {i f : Nat} (hf : f ≤ i) (hi : i ≤ l.length) : (l.take i).drop f = [] ↔ f = i := by
  constructor
  · intro e
    have := congrArg List.length e
    rw [List.length_drop, List.length_take] at this
    simp at this
    omega
  · rintro rfl; exact cur_nil
/-- How far the words have been read. -/
def SpI (l : Bs) (i f : Nat) (q : Bool) (xs : List Bs) : Prop := if i ≤ l.length then xs ++ splR q ((l.take i).drop f) (l.drop i) = splL l else xs = splL l
theorem SpI.le {l : Bs} {i f : Nat} {q : Bool} {xs : List Bs} (h : SpI l i f q xs) (hi : i ≤ l.length) : xs ++ splR q ((l.take i).drop f) (l.drop i) = splL l := by unfold SpI at h; rwa [if_pos hi] at h
theorem SpI.gt {l : Bs} {i f : Nat} {q : Bool} {xs : List Bs} (h : SpI l i f q xs) (hi : ¬ i ≤ l.length) : xs = splL l := by unfold SpI at h; rwa [if_neg hi] at h
theorem SpI.mk {l : Bs} {i f : Nat} {q : Bool} {xs : List Bs} (hi : i ≤ l.length) (h : xs ++ splR q ((l.take i).drop f) (l.drop i) = splL l) : SpI l i f q xs := by unfold SpI; rwa [if_pos hi]
theorem SpI.blank {l : Bs} {i f : Nat} {xs : List Bs} (h : SpI l i f false xs) (hc : l[i]? = some 32) : SpI l (i + 1) (i + 1) false (xs ++ [(l.take i).drop f]) := by
  obtain ⟨h1, _⟩ := List.getElem?_eq_some_iff.1 hc
  have h2 := h.le (by omega)
  rw [drop_at hc, splR_cons, if_pos ⟨rfl, rfl⟩] at h2
  refine .mk (by omega) ?_
  rw [cur_nil, List.append_assoc]
  exact h2
theorem SpI.esc {l : Bs} {i f : Nat} {xs : List Bs} (h : SpI l i f true xs) (hf : f ≤ i) (hc : l[i]? = some 92) (hi : i + 1 < l.length) : SpI l (i + 2) f true xs := by
  obtain ⟨h1, _⟩ := List.getElem?_eq_some_iff.1 hc
  have h2 := h.le (by omega)
  obtain ⟨d, hd⟩ : ∃ d, l[i + 1]? = some d := ⟨_, List.getElem?_eq_getElem hi⟩
  rw [drop_at hc, splR_cons, if_neg (fun h => by cases h.2), if_pos ⟨rfl, rfl⟩, drop_at hd] at h2
  refine .mk (by omega) ?_
  rw [cur_step hd (by omega), cur_step hc hf, List.append_assoc]
  exact h2
theorem SpI.escEnd {l : Bs} {i f : Nat} {xs : List Bs} (h : SpI l i f true xs) (hf : f ≤ i) (hc : l[i]? = some 92) (hi : i + 1 = l.length) : SpI l (i + 1) f true xs := by
  obtain ⟨h1, _⟩ := List.getElem?_eq_some_iff.1 hc
  have h2 := h.le (by omega)
  rw [drop_at hc, splR_cons, if_neg (fun h => by cases h.2), if_pos ⟨rfl, rfl⟩, hi, List.drop_length] at h2
  refine .mk (by omega) ?_
  rw [cur_step hc hf, hi, List.drop_length]
  exact h2
theorem SpI.quote {l : Bs} {i f : Nat} {q : Bool} {xs : List Bs} (h : SpI l i f q xs) (hf : f ≤ i) (hc : l[i]? = some 34) (hq : q = true ∨ f = i) : SpI l (i + 1) f (!q) xs := by
  obtain ⟨h1, _⟩ := List.getElem?_eq_some_iff.1 hc
  have h2 := h.le (by omega)
  rw [drop_at hc, splR_cons, if_neg (fun h => by cases h.1), if_neg (fun h => by cases h.1), if_pos ⟨rfl, hq.imp id fun e => (cur_iff hf (by omega)).2 e⟩] at h2
  refine .mk (by omega) ?_
  rw [cur_step hc hf]
  exact h2
theorem SpI.other {l : Bs} {i f : Nat} {q : Bool} {xs : List Bs} {c : UInt8} (h : SpI l i f q xs) (hf : f ≤ i) (hc : l[i]? = some c) (h32 : ¬ (c = 32 ∧ q = false)) (h92 : ¬ (c = 92 ∧ q = true)) (h34 : ¬ (c = 34 ∧ (q = true ∨ f = i))) : SpI l (i + 1) f q xs := by
  obtain ⟨h1, _⟩ := List.getElem?_eq_some_iff.1 hc
  have h2 := h.le (by omega)
  rw [drop_at hc, splR_cons, if_neg h32, if_neg h92, if_neg (fun e => h34 ⟨e.1, e.2.imp id fun e => (cur_iff hf (by omega)).1 e⟩)] at h2
  refine .mk (by omega) ?_
  rw [cur_step hc hf]
  exact h2
theorem SpI.last {l : Bs} {f : Nat} {q : Bool} {xs : List Bs} (h : SpI l l.length f q xs) : SpI l (l.length + 1) (l.length + 1) q (xs ++ [(l.take l.length).drop f]) := by
  have h2 := h.le (Nat.le_refl _)
  rw [List.drop_length, splR] at h2
  unfold SpI
  rw [if_neg (by omega)]
  exact h2
theorem u8_ne {c : UInt8} {k : Nat} (h : c ≠ UInt8.ofNat k) (hk : k < 256) (z : Int) (hz : z = (k : Int)) : ((c.toNat : Int) == z) = false := by
  subst hz
  simp only [beq_eq_false_iff_ne, ne_eq]
  intro e
  apply h
  apply UInt8.toNat_inj.1
  rw [UInt8.toNat_ofNat']
  omega
/-- What split answers. -/
def SplP (xs : List Bs) (w : World) (e : Ending) (w' : World) : Prop := ∃ v, e = .returned v ∧ w'.ownsRow w.heap.size 9 1 v xs.length (strsC xs) ∧ Below w.heap.size w w'
set_option maxRecDepth 100000 in
set_option maxHeartbeats 4000000 in
theorem rsplit_any (s : ByteArray) (w : World) (hs : s.size ≤ 34359738368) :
    Calls Tryz.prog 31 #[.string s] w fun e w' => SplP (splL s.data.toList) w e w' := by
  have hu9 := Tryz.underlying9
  obtain ⟨l, hl⟩ : ∃ l, s.data.toList = l := ⟨_, rfl⟩
  have hll : l.length = s.size := by rw [← hl, data_length]
  rw [hl]
  have HL := Aside0.mk hl
  have HLL := Aside0.mk hll
  clear hl hll
  go_enter Tryz.func31, Tryz.ntmps31
  go_wp2_with fail
  go_loopw [3, 4, 5, 6] (fun vv fv qv iv wr => ∃ (i f : Int) (q : Bool) (xs : List Bs), iv = .int .i64 i ∧ fv = .int .i64 f ∧ qv = .bool q ∧ 0 ≤ f ∧ f ≤ i ∧ i ≤ s.size + 1 ∧ Aside0 (SpI l i.toNat f.toNat q xs ∧ xs.length ≤ i.toNat) ∧ Aside0 (wr.ownsRow w.heap.size 9 1 vv xs.length (strsC xs)) ∧ Aside0 (Below w.heap.size w wr)) (fun _ _ _ iv _ => (s.size + 1 - intOf iv).toNat)
  case atStart => exact ⟨0, 0, false, [], rfl, rfl, rfl, Int.le_refl _, Int.le_refl _, by omega, ⟨.mk (by simp) (by simp [splL]), by simp⟩, ⟨World.ownsRow_nil _ _ _ _⟩, ⟨Below.refl _ _⟩⟩
  case round =>
    obtain ⟨i, f, q, xs, rfl, rfl, rfl, f0, fi, i1, HP, HO, HW⟩ := hrel
    obtain ⟨N, hN⟩ : ∃ N, xs.length = N := ⟨_, rfl⟩
    rw [hN] at HO
    obtain ⟨A, c, hv⟩ := own_slice HO.out
    subst hv
    have HN := Aside0.mk hN
    have hNb : N ≤ i.toNat := by rw [← hN]; exact HP.out.2
    clear hN
    have w4 : wrap64 (i + 1) = i + 1 := by unfold wrap64; omega
    by_cases hle : i ≤ (s.size : Int)
    · have d0 : decide (i ≤ (s.size : Int)) = true := decide_eq_true hle
      by_cases hlt : i < (s.size : Int)
      · have e0 : (i == (s.size : Int)) = false := by simp only [beq_eq_false_iff_ne, ne_eq]; omega
        have hin : i.toNat < s.size := by omega
        have hbt := bt_at s i
        obtain ⟨c1, hc1⟩ : ∃ c, l[i.toNat]? = some c := ⟨_, List.getElem?_eq_getElem (by rw [HLL.out]; exact hin)⟩
        have hb := bt_get s i c1 (by rw [HL.out]; exact hc1)
        have HQ := Aside0.mk hc1
        have hi1 : (i + 1).toNat = i.toNat + 1 := by omega
        have HI1 := Aside0.mk hi1
        clear hc1 hi1
        cases q with
        | false =>
          by_cases he : c1 = 32
          · subst he
            have hb : bt s i = 32 := hb
            have hsl := HP.out.1.blank HQ.out
            have hex := ext_sB s f.toNat i.toNat
            rw [HL.out] at hex
            have HX := Aside0.mk hex
            have HSl := Aside0.mk hsl
            clear hsl hex
            go_wp2_with (at_builtin; refine print_append_cells (w0 := w) w.heap.size rfl (.tmp 27) (.tmp 32) 66 9 (.string ⟨#[]⟩) 1 16 rfl Tryz.underlying66 infoStr rfl (by omega) (by omega) _ N (strsC xs) [.string (s.extract f.toNat i.toNat)] rfl rfl rfl ?a1 ?aO ?aB ?aS ?aL ?_; (case a1 => intro u hu; simp at hu; subst hu; rfl); (case aO => exact HO.out); (case aB => exact HW.out); (case aS => exact HW.out.size); (case aL => omega); intro v1 w1 ho1 hb1 _ _; have HO1 := Aside0.mk ho1; have HB1 := Aside0.mk hb1; clear ho1 hb1)
            refine ⟨⟨i + 1, i + 1, false, xs ++ [(l.take i.toNat).drop f.toNat], rfl, rfl, rfl, by omega, Int.le_refl _, by omega, ⟨by rw [HI1.out]; exact HSl.out, by have := HP.out.2; rw [List.length_append, List.length_singleton]; omega⟩, ⟨?_⟩, HB1⟩, by simp [intOf]; omega⟩
            rw [strsC_app, List.length_append, List.length_singleton, HN.out]
            have h9 := HO1.out
            rw [HX.out] at h9
            exact h9
          · have n32 := u8_ne (k := 32) he (by decide) 32 rfl
            by_cases h34 : c1 = 34
            · subst h34
              have hb : bt s i = 34 := hb
              by_cases hfi : i = f
              · have e1 : (i == f) = true := by simpa using hfi
                have HS2 := Aside0.mk (HP.out.1.quote (by omega) HQ.out (.inr (by omega)))
                clear hfi
                go_wp2
                exact ⟨⟨i + 1, f, true, xs, rfl, rfl, rfl, f0, by omega, by omega, ⟨by rw [HI1.out]; exact HS2.out, by have := HP.out.2; omega⟩, by rw [HN.out]; exact HO, HW⟩, by simp [intOf]; omega⟩
              · have e1 : (i == f) = false := by simpa using hfi
                have HS2 := Aside0.mk (HP.out.1.other (by omega) HQ.out (by simp) (by simp) (by simp; omega))
                clear hfi
                go_wp2
                exact ⟨⟨i + 1, f, false, xs, rfl, rfl, rfl, f0, by omega, by omega, ⟨by rw [HI1.out]; exact HS2.out, by have := HP.out.2; omega⟩, by rw [HN.out]; exact HO, HW⟩, by simp [intOf]; omega⟩
            · have n34 := u8_ne (k := 34) h34 (by decide) 34 rfl
              have HS2 := Aside0.mk (HP.out.1.other (by omega) HQ.out (fun h => he h.1) (fun h => by cases h.2) (fun h => h34 h.1))
              clear he h34
              go_wp2
              all_goals exact ⟨⟨i + 1, f, false, xs, rfl, rfl, rfl, f0, by omega, by omega, ⟨by rw [HI1.out]; exact HS2.out, by have := HP.out.2; omega⟩, by rw [HN.out]; exact HO, HW⟩, by simp [intOf]; omega⟩
        | true =>
          by_cases h92 : c1 = 92
          · subst h92
            have hb : bt s i = 92 := hb
            by_cases hl1 : i + 1 < (s.size : Int)
            · have d1 : decide ((s.size : Int) ≤ i + 1) = false := decide_eq_false (by omega)
              have w5 : wrap64 (i + 1 + 1) = i + 1 + 1 := by unfold wrap64; omega
              have HS2 := Aside0.mk (HP.out.1.esc (by omega) HQ.out (by rw [HLL.out]; omega))
              go_wp2
              exact ⟨⟨i + 1 + 1, f, true, xs, rfl, rfl, rfl, f0, by omega, by omega, ⟨by rw [show (i + 1 + 1).toNat = i.toNat + 2 by omega]; exact HS2.out, by have := HP.out.2; omega⟩, by rw [HN.out]; exact HO, HW⟩, by simp [intOf]; omega⟩
            · have d1 : decide ((s.size : Int) ≤ i + 1) = true := decide_eq_true (by omega)
              have HS2 := Aside0.mk (HP.out.1.escEnd (by omega) HQ.out (by rw [HLL.out]; omega))
              go_wp2
              exact ⟨⟨(s.size : Int), f, true, xs, rfl, rfl, rfl, f0, by omega, by omega, ⟨by rw [show ((s.size : Int)).toNat = i.toNat + 1 by omega]; exact HS2.out, by have := HP.out.2; omega⟩, by rw [HN.out]; exact HO, HW⟩, by simp [intOf]; omega⟩
          · have n92 := u8_ne (k := 92) h92 (by decide) 92 rfl
            by_cases h34 : c1 = 34
            · subst h34
              have hb : bt s i = 34 := hb
              have HS2 := Aside0.mk (HP.out.1.quote (by omega) HQ.out (.inl rfl))
              clear h92
              go_wp2
              all_goals exact ⟨⟨i + 1, f, false, xs, rfl, rfl, rfl, f0, by omega, by omega, ⟨by rw [HI1.out]; exact HS2.out, by have := HP.out.2; omega⟩, by rw [HN.out]; exact HO, HW⟩, by simp [intOf]; omega⟩
            · have n34 := u8_ne (k := 34) h34 (by decide) 34 rfl
              have HS2 := Aside0.mk (HP.out.1.other (by omega) HQ.out (fun h => by cases h.2) (fun h => h92 h.1) (fun h => h34 h.1))
              clear h92 h34
              go_wp2
              all_goals exact ⟨⟨i + 1, f, true, xs, rfl, rfl, rfl, f0, by omega, by omega, ⟨by rw [HI1.out]; exact HS2.out, by have := HP.out.2; omega⟩, by rw [HN.out]; exact HO, HW⟩, by simp [intOf]; omega⟩
      · have e0 : (i == (s.size : Int)) = true := by simp only [beq_iff_eq]; omega
        have hiN : i.toNat = l.length := by rw [HLL.out]; omega
        have hi1 : (i + 1).toNat = i.toNat + 1 := by omega
        have HI1 := Aside0.mk hi1
        have hsl := HP.out.1
        rw [hiN] at hsl
        have hsl := hsl.last
        rw [← hiN] at hsl
        have hex := ext_sB s f.toNat i.toNat
        rw [HL.out] at hex
        have HX := Aside0.mk hex
        have HSl := Aside0.mk hsl
        clear hsl hex hi1 hiN
        go_wp2_with (at_builtin; refine print_append_cells (w0 := w) w.heap.size rfl (.tmp 27) (.tmp 32) 66 9 (.string ⟨#[]⟩) 1 16 rfl Tryz.underlying66 infoStr rfl (by omega) (by omega) _ N (strsC xs) [.string (s.extract f.toNat i.toNat)] rfl rfl rfl ?a1 ?aO ?aB ?aS ?aL ?_; (case a1 => intro u hu; simp at hu; subst hu; rfl); (case aO => exact HO.out); (case aB => exact HW.out); (case aS => exact HW.out.size); (case aL => omega); intro v1 w1 ho1 hb1 _ _; have HO1 := Aside0.mk ho1; have HB1 := Aside0.mk hb1; clear ho1 hb1)
        refine ⟨⟨i + 1, i + 1, q, xs ++ [(l.take i.toNat).drop f.toNat], rfl, rfl, rfl, by omega, Int.le_refl _, by omega, ⟨by rw [HI1.out]; exact HSl.out, by have := HP.out.2; rw [List.length_append, List.length_singleton]; omega⟩, ⟨?_⟩, HB1⟩, by simp [intOf]; omega⟩
        rw [strsC_app, List.length_append, List.length_singleton, HN.out]
        have h9 := HO1.out
        rw [HX.out] at h9
        exact h9
    · have d0 : decide (i ≤ (s.size : Int)) = false := decide_eq_false hle
      go_wp2
      go_ret
      have hx := HP.out.1.gt (by rw [HLL.out]; omega)
      refine ⟨_, rfl, ?_, HW.out⟩
      rw [← hx, HN.out]
      exact HO.out
end Go.Proofs.YteglbmindbfkeaaGreatDoor.H
