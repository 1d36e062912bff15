/- The reference's Unquote as a contract. -/
import Derived.Test.YteglbmindbfkeaaGreatDoorQd
namespace Go.Proofs.YteglbmindbfkeaaGreatDoor.H
open Go.RowKit Go.Proofs.YteglbmindbfkeaaGreatDoorW.PrintWords
set_option linter.unusedVariables false
set_option linter.unusedSimpArgs false

theorem i64_wrap (x : Int) (h0 : -9223372036854775808 ≤ x) (h1 : x ≤ 9223372036854775807) : IntKind.i64.wrap x = x := by
  rw [IntKind.wrap_i64]; omega
theorem hex_wraps {a b : Nat} (ha : a < 16) (hb : b < 16) : wrap64 (16 * (a : Int)) = 16 * (a : Int) ∧ wrap64 (16 * (a : Int) + (b : Int)) = 16 * (a : Int) + (b : Int) ∧ IntKind.i64.wrap (16 * (a : Int)) = 16 * (a : Int) ∧ IntKind.i64.wrap (16 * (a : Int) + (b : Int)) = 16 * (a : Int) + (b : Int) :=
  ⟨by unfold wrap64; omega, by unfold wrap64; omega, i64_wrap _ (by omega) (by omega), i64_wrap _ (by omega) (by omega)⟩
theorem esc_cases (c : UInt8) : (escB c = [c] ∧ c ≠ 34 ∧ c ≠ 92) ∨ (escB c = [92, c] ∧ (c = 34 ∨ c = 92)) ∨ escB c = [92, 120, hexD (c.toNat / 16), hexD (c.toNat % 16)] := by
  unfold escB
  by_cases h1 : c = 34 ∨ c = 92
  · rw [if_pos h1]; exact .inr (.inl ⟨rfl, h1⟩)
  · rw [if_neg h1]
    by_cases h2 : 32 ≤ c.toNat ∧ c.toNat ≤ 126
    · rw [if_pos h2]; simp only [not_or] at h1; exact .inl ⟨rfl, h1.1, h1.2⟩
    · rw [if_neg h2]; exact .inr (.inr rfl)
/-- What is read of a quoted text is its bytes' beginning. -/
def Dk (l : Bs) (i : Nat) (acc : Bs) : Prop := ∀ b, quoteL b = l → ∃ rest, b = acc ++ rest ∧ l.drop i = rest.flatMap escB ++ [34]
theorem Dk.start {l : Bs} : Dk l 1 [] := fun b h => ⟨b, rfl, by rw [← h]; rfl⟩
theorem Dk.next {l : Bs} {i : Nat} {acc b : Bs} (h : Dk l i acc) (hb : quoteL b = l) (hi : i + 1 < l.length) : ∃ c rest, b = acc ++ c :: rest ∧ l.drop i = escB c ++ (rest.flatMap escB ++ [34]) := by
  obtain ⟨rest, h1, h2⟩ := h b hb
  cases rest with
  | nil =>
    have := congrArg List.length h2
    rw [List.length_drop] at this
    simp at this
    omega
  | cons c r => exact ⟨c, r, h1, by rw [h2]; simp⟩
theorem drop_get {l t : Bs} {i k : Nat} {x : UInt8} (h : l.drop i = t) (hx : l[i + k]? = some x) : t[k]? = some x := by
  rw [← h, List.getElem?_drop, hx]
theorem drop_more {l t : Bs} {i k : Nat} (h : l.drop i = t) : l.drop (i + k) = t.drop k := by rw [← h, List.drop_drop]
theorem Dk.plain {l : Bs} {i : Nat} {acc : Bs} {q : UInt8} (h : Dk l i acc) (hi : i + 1 < l.length) (hq : l[i]? = some q) (h1 : q ≠ 92) : Dk l (i + 1) (acc ++ [q]) := fun b hb => by
  obtain ⟨c, rest, e1, e2⟩ := h.next hb hi
  have hq0 := drop_get (k := 0) e2 hq
  rcases esc_cases c with ⟨e, _⟩ | ⟨e, _⟩ | e
  · rw [e] at hq0 e2
    simp at hq0
    subst hq0
    refine ⟨rest, by rw [e1]; simp, ?_⟩
    rw [drop_more (k := 1) e2]; rfl
  · rw [e] at hq0; simp at hq0; exact absurd hq0.symm h1
  · rw [e] at hq0; simp at hq0; exact absurd hq0.symm h1
theorem Dk.esc {l : Bs} {i : Nat} {acc : Bs} {x : UInt8} (h : Dk l i acc) (hi : i + 1 < l.length) (hq : l[i]? = some 92) (hx : l[i + 1]? = some x) (h1 : x ≠ 120) : Dk l (i + 2) (acc ++ [x]) := fun b hb => by
  obtain ⟨c, rest, e1, e2⟩ := h.next hb hi
  have hq0 := drop_get (k := 0) e2 hq
  have hq1 := drop_get (k := 1) e2 hx
  rcases esc_cases c with ⟨e, _, hc⟩ | ⟨e, _⟩ | e
  · rw [e] at hq0; simp at hq0; exact absurd hq0 hc
  · rw [e] at hq1 e2
    simp at hq1
    subst hq1
    refine ⟨rest, by rw [e1]; simp, ?_⟩
    rw [drop_more (k := 2) e2]; rfl
  · rw [e] at hq1; simp at hq1; exact absurd hq1.symm h1
theorem Dk.hex {l : Bs} {i : Nat} {acc : Bs} (h : Dk l i acc) (hi : i + 1 < l.length) (hq : l[i]? = some 92) (hx : l[i + 1]? = some 120) : ∀ b, quoteL b = l → ∃ c rest, b = acc ++ c :: rest ∧ l[i + 2]? = some (hexD (c.toNat / 16)) ∧ l[i + 3]? = some (hexD (c.toNat % 16)) ∧ l.drop (i + 4) = rest.flatMap escB ++ [34] := fun b hb => by
  obtain ⟨c, rest, e1, e2⟩ := h.next hb hi
  have hq0 := drop_get (k := 0) e2 hq
  have hq1 := drop_get (k := 1) e2 hx
  rcases esc_cases c with ⟨e, _, hc⟩ | ⟨e, hc⟩ | e
  · rw [e] at hq0; simp at hq0; exact absurd hq0 hc
  · rw [e] at hq1
    simp at hq1
    rcases hc with rfl | rfl <;> cases hq1
  · rw [e] at e2
    refine ⟨c, rest, e1, ?_, ?_, ?_⟩
    · rw [← List.getElem?_drop, e2]; rfl
    · rw [← List.getElem?_drop, e2]; rfl
    · rw [drop_more (k := 4) e2]; rfl
/-- No bytes have this quoted text. -/
theorem unq_none {l : Bs} (h : ∀ b, quoteL b ≠ l) : unqL l = none := by
  cases e : unqL l with
  | none => rfl
  | some b => exact absurd (unqL_iff.1 e) (h b)
theorem unq_some {l b : Bs} (h : quoteL b = l) : unqL l = some b := unqL_iff.2 h
theorem Dk.end {l : Bs} {i : Nat} {acc : Bs} (h : Dk l i acc) (hi : l.length ≤ i + 1) (b : Bs) (hb : quoteL b = l) : b = acc := by
  obtain ⟨rest, h1, h2⟩ := h b hb
  cases rest with
  | nil => rw [h1, List.append_nil]
  | cons c r =>
    have := congrArg List.length h2
    rw [List.length_drop, List.flatMap_cons] at this
    have := (escB_len c).1
    simp at *
    omega
theorem byteV {a b : Nat} (ha : a < 16) (hb : b < 16) (c : UInt8) (h1 : hexV (hexD (c.toNat / 16)) = some a) (h2 : hexV (hexD (c.toNat % 16)) = some b) : UInt8.ofNat (16 * a + b) = c := by
  have h8 := c.toNat_lt
  rw [hexV_hexD (by omega)] at h1
  rw [hexV_hexD (by omega)] at h2
  cases h1
  cases h2
  have : 16 * (c.toNat / 16) + c.toNat % 16 = c.toNat := by omega
  rw [this, UInt8.ofNat_toNat]

set_option maxRecDepth 100000 in
set_option maxHeartbeats 8000000 in
theorem runquote_any (s : ByteArray) (w : World) (hs : s.size ≤ 34359738368) :
    Calls Tryz.prog 78 #[.string s] w fun e w' => e = .returned (unqV s) ∧ Below w.heap.size w w' := by
  have hu9 := Tryz.underlying9
  obtain ⟨l, hl⟩ : ∃ l, s.data.toList = l := ⟨_, rfl⟩
  have hll : l.length = s.size := by rw [← hl, data_length]
  have HL := Aside0.mk hl
  have HLL := Aside0.mk hll
  have HVn := Aside0.mk (fun (h : ∀ b, quoteL b ≠ l) => show unqV s = .tuple #[.string ⟨#[]⟩, .bool false] by unfold unqV; rw [hl, unq_none h])
  have HVs := Aside0.mk (fun b (h : quoteL b = l) => show unqV s = .tuple #[.string (sB b), .bool true] by unfold unqV; rw [hl, unq_some h])
  have hqf : ∀ b, quoteL b = l → 2 ≤ l.length ∧ l[0]? = some 34 ∧ l[l.length - 1]? = some 34 := fun b hb => by
    have h2 := (quoteL_len b).1
    rw [hb] at h2
    refine ⟨h2, by rw [← hb]; rfl, ?_⟩
    rw [← List.getLast?_eq_getElem?, ← hb]
    unfold quoteL
    rw [← List.cons_append, List.getLast?_append]; rfl
  have HQF := Aside0.mk hqf
  clear hl hqf
  by_cases h2 : s.size < 2
  · have d1 : decide ((s.size : Int) < 2) = true := decide_eq_true (by omega)
    have HV := Aside0.mk (HVn.out (fun b hb => by have := (HQF.out b hb).1; omega))
    clear HVn HVs hll
    go_enter Tryz.func78, Tryz.ntmps78
    go_wp2
    go_ret2
    exact ⟨by rw [HV.out]; rfl, Below.refl _ _⟩
  have d1 : decide ((s.size : Int) < 2) = false := decide_eq_false (by omega)
  obtain ⟨p, hp⟩ : ∃ p : Nat, s.size - 1 = p := ⟨_, rfl⟩
  have hp0 : 0 < s.size := by omega
  have hp1 : p < s.size := by omega
  have hpz : (s.size : Int) - 1 = p := by omega
  have hp2 : (p : Int) < (s.size : Int) := by omega
  have hp3 : (0 : Int) ≤ (p : Int) := by omega
  obtain ⟨q0, hq0⟩ : ∃ q, l[0]? = some q := ⟨_, List.getElem?_eq_getElem (by rw [hll]; exact hp0)⟩
  obtain ⟨qL, hqL⟩ : ∃ q, l[p]? = some q := ⟨_, List.getElem?_eq_getElem (by rw [hll]; exact hp1)⟩
  have hb0 : ((s[0]'hp0).toNat : Int) = q0.toNat := (bt_at s 0 hp0).trans (bt_get s 0 q0 (by rw [HL.out]; exact hq0))
  have hbL : ((s[p]'hp1).toNat : Int) = qL.toNat := (bt_at s p (by simpa using hp1)).trans (bt_get s p qL (by rw [HL.out]; simpa using hqL))
  have HQ0 := Aside0.mk hq0
  have HQL := Aside0.mk (show l[l.length - 1]? = some qL by rw [← hqL]; congr 1; omega)
  have HPs := Aside0.mk hp
  clear hq0 hqL hp
  by_cases hz0 : q0 = 34
  · subst hz0
    have hb0 : ((s[0]'hp0).toNat : Int) = 34 := hb0
    by_cases hzL : qL = 34
    · subst hzL
      have hbL : ((s[p]'hp1).toNat : Int) = 34 := hbL
      clear hll
      go_enter Tryz.func78, Tryz.ntmps78
      go_wp2
      go_loopw [4, 5] (fun vv iv wr => ∃ (i : Int) (acc : Bs), iv = .int .i64 i ∧ 1 ≤ i ∧ i ≤ s.size ∧ Aside0 (Dk l i.toNat acc ∧ acc.length ≤ i.toNat) ∧ Aside0 (wr.ownsRow w.heap.size 5 1 vv acc.length (Lib.byteCells acc)) ∧ Aside0 (Below w.heap.size w wr)) (fun _ iv _ => (s.size - intOf iv).toNat)
      case atStart => exact ⟨1, [], rfl, Int.le_refl _, by omega, ⟨Dk.start, by simp⟩, ⟨World.ownsRow_nil _ _ _ _⟩, ⟨Below.refl _ _⟩⟩
      case round =>
        obtain ⟨i, acc, rfl, i0, i1, HI, HO, HW⟩ := hrel
        obtain ⟨N, hN⟩ : ∃ N, acc.length = N := ⟨_, rfl⟩
        rw [hN] at HO
        obtain ⟨A, c, hv⟩ := own_slice HO.out
        subst hv
        have HN := Aside0.mk hN
        have hNb : N ≤ i.toNat := by rw [← hN]; exact HI.out.2
        have hWz := HW.out.size
        have w4 : wrap64 (i + 1) = i + 1 := by unfold wrap64; omega
        have hi1 : (i + 1).toNat = i.toNat + 1 := by omega
        have HI1 := Aside0.mk hi1
        clear hN hi1
        by_cases hlt : i < (p : Int)
        · have d2 : decide (i < (p : Int)) = true := decide_eq_true hlt
          have hin : i.toNat < s.size := by omega
          have hin1 : (i + 1).toNat < s.size := by omega
          have hbt := bt_at s i
          have hbt1 := bt_at s (i + 1)
          obtain ⟨q, hq⟩ : ∃ q, l[i.toNat]? = some q := ⟨_, List.getElem?_eq_getElem (by rw [HLL.out]; exact hin)⟩
          obtain ⟨x, hx⟩ : ∃ q, l[(i + 1).toNat]? = some q := ⟨_, List.getElem?_eq_getElem (by rw [HLL.out]; exact hin1)⟩
          have hb := bt_get s i q (by rw [HL.out]; exact hq)
          have hb1 := bt_get s (i + 1) x (by rw [HL.out]; exact hx)
          have hil : i.toNat + 1 < l.length := by have := HLL.out; have := HPs.out; omega
          have HQ := Aside0.mk (And.intro hq (And.intro (show l[i.toNat + 1]? = some x by rw [← HI1.out]; exact hx) hil))
          clear hq hx hil
          by_cases hq1 : q = 92
          · subst hq1
            have hb : bt s i = 92 := hb
            by_cases hlt1 : i + 1 < (p : Int)
            · have d3 : decide ((p : Int) ≤ i + 1) = false := decide_eq_false (by omega)
              by_cases hx1 : x = 120
              · subst hx1
                have hb1 : bt s (i + 1) = 120 := hb1
                have hhx := HI.out.1.hex HQ.out.2.2 HQ.out.1 HQ.out.2.1
                have w3' : wrap64 (i + 3) = i + 3 := by unfold wrap64; omega
                by_cases hlt3 : i + 3 < (p : Int)
                · have d4 : decide ((p : Int) ≤ i + 3) = false := decide_eq_false (by omega)
                  have w2' : wrap64 (i + 2) = i + 2 := by unfold wrap64; omega
                  have hbt2 := bt_at s (i + 2)
                  have hbt3 := bt_at s (i + 3)
                  have hin2 : (i + 2).toNat < s.size := by omega
                  have hin3 : (i + 3).toNat < s.size := by omega
                  obtain ⟨y, hy⟩ : ∃ p, l[(i + 2).toNat]? = some p := ⟨_, List.getElem?_eq_getElem (by rw [HLL.out]; exact hin2)⟩
                  obtain ⟨r, hr⟩ : ∃ p, l[(i + 3).toNat]? = some p := ⟨_, List.getElem?_eq_getElem (by rw [HLL.out]; exact hin3)⟩
                  have hb2 := bt_get s (i + 2) y (by rw [HL.out]; exact hy)
                  have hb3 := bt_get s (i + 3) r (by rw [HL.out]; exact hr)
                  have hy' : l[i.toNat + 2]? = some y := by rw [← hy]; congr 1; omega
                  have hr' : l[i.toNat + 3]? = some r := by rw [← hr]; congr 1; omega
                  have bd4 : (0 : Int) ≤ i + 2 := by omega
                  have bd5 : i + 2 < (s.size : Int) := by omega
                  have bd6 : (0 : Int) ≤ i + 3 := by omega
                  have bd7 : i + 3 < (s.size : Int) := by omega
                  have IP := rdigit_any y
                  have IR := rdigit_any r
                  unfold hexI at IP IR
                  clear hy hr
                  cases hvp : hexV y with
                  | none =>
                    rw [hvp] at IP
                    have IP := Aside0.mk IP
                    have HV := Aside0.mk (HVn.out (fun b hb => by
                      obtain ⟨c2, rest, _, e2, _⟩ := hhx b hb
                      rw [hy'] at e2
                      have h8 := c2.toNat_lt
                      rw [Option.some.inj e2, hexV_hexD (by omega)] at hvp
                      cases hvp))
                    clear HVn HVs hhx hvp hy' hr' IR
                    go_wp2_with (go_at_call 100; refine (IP.out _).mono ?_; rintro e w2 ⟨rfl, hw2⟩; rw [hw2]; clear hw2 IP)
                    go_ret2
                    exact ⟨by rw [HV.out]; rfl, HW.out⟩
                  | some a =>
                    have ha := hexV_lt hvp
                    rw [hvp] at IP
                    have n3 : decide ((a : Int) < 0) = false := decide_eq_false (by omega)
                    have IP := Aside0.mk IP
                    cases hvr : hexV r with
                    | none =>
                      rw [hvr] at IR
                      have IR := Aside0.mk IR
                      have HV := Aside0.mk (HVn.out (fun b hb => by
                        obtain ⟨c2, rest, _, _, e2, _⟩ := hhx b hb
                        rw [hr'] at e2
                        have h8 := c2.toNat_lt
                        rw [Option.some.inj e2, hexV_hexD (by omega)] at hvr
                        cases hvr))
                      clear HVn HVs hhx hvp hvr hy' hr'
                      go_wp2_with (first
                        | (go_at_call 100; refine (IP.out _).mono ?_; rintro e w2 ⟨rfl, hw2⟩; rw [hw2]; clear hw2 IP)
                        | (go_at_call 100; refine (IR.out _).mono ?_; rintro e w2 ⟨rfl, hw2⟩; rw [hw2]; clear hw2 IR))
                      go_ret2
                      exact ⟨by rw [HV.out]; rfl, HW.out⟩
                    | some b =>
                      have hb' := hexV_lt hvr
                      rw [hvr] at IR
                      have n4 : decide ((b : Int) < 0) = false := decide_eq_false (by omega)
                      have IR := Aside0.mk IR
                      obtain ⟨C, hC⟩ : ∃ C, UInt8.ofNat (16 * a + b) = C := ⟨_, rfl⟩
                      have hCv : ((16 * (a : Int) + (b : Int)) % 256) = (C.toNat : Int) := by
                        rw [← hC, UInt8.toNat_ofNat']
                        omega
                      have HNx := Aside0.mk (show Dk l (i.toNat + 4) (acc ++ [C]) from fun b2 hb2 => by
                        obtain ⟨c2, rest, e1, e2, e3, e4⟩ := hhx b2 hb2
                        rw [hy'] at e2
                        rw [hr'] at e3
                        have e2 := Option.some.inj e2
                        have e3 := Option.some.inj e3
                        rw [e2] at hvp
                        rw [e3] at hvr
                        have := byteV ha hb' c2 hvp hvr
                        rw [hC] at this
                        subst this
                        exact ⟨rest, by rw [e1]; simp, e4⟩)
                      have hi4 : (i + 3 + 1).toNat = i.toNat + 4 := by omega
                      have HI4 := Aside0.mk hi4
                      have w5 : wrap64 (i + 3 + 1) = i + 3 + 1 := by unfold wrap64; omega
                      have hIy : hexI y = (a : Int) := by unfold hexI; rw [hvp]
                      have hIr : hexI r = (b : Int) := by unfold hexI; rw [hvr]
                      obtain ⟨m1, m2, m3, m4⟩ := hex_wraps ha hb'
                      have m7 : IntKind.u8.wrap (16 * (a : Int) + (b : Int)) = (C.toNat : Int) := by rw [← hCv]; simp [IntKind.wrap, IntKind.bits, IntKind.signed]
                      have m5 : IntKind.i64.wrap (i + 2) = i + 2 := i64_wrap _ (by omega) (by omega)
                      have m6 : IntKind.i64.wrap (i + 3) = i + 3 := i64_wrap _ (by omega) (by omega)
                      clear HVn HVs hhx hvp hvr hy' hr' hi4 hC IP IR
                      go_wp2_with (go_at_call 100; refine (rdigit_any _ _).mono ?_; rintro e w2 ⟨rfl, hw2⟩; rw [hw2]; clear hw2)
                      go_region_held3 (fun _ => True) (trivial) (first
                        | (go_at_call 100; refine (rdigit_any _ _).mono ?_; rintro e w2 ⟨rfl, hw2⟩; rw [hw2]; clear hw2)
                        | (refine append_bytes_step (w0 := w) (W0 := wr.drew) w.heap.size (by rfl) (.tmp 81) (.tmp 95) rfl _ N 1 acc [C] #[.int .u8 C.toNat] rfl ?aW rfl ?aX rfl ?aO ?aB ?aS ?aL ?_; (case aW => rfl); (case aX => rfl); (case aO => exact HO.out); (case aB => exact below_drew HW.out); (case aS => exact HW.out.size); (case aL => omega); intro v1 w1 ho1 hb1 _; have HO1 := Aside0.mk ho1; have HB1 := Aside0.mk hb1; clear ho1 hb1))
                      all_goals
                        go_wp2
                        refine ⟨⟨i + 3 + 1, acc ++ [C], rfl, by omega, by omega, ⟨by rw [HI4.out]; exact HNx.out, by have := HI.out.2; rw [HI4.out, List.length_append, List.length_singleton]; omega⟩, ⟨?_⟩, HB1⟩, by simp [intOf]; omega⟩
                        rw [List.length_append, List.length_singleton, HN.out]
                        exact HO1.out
                · have d4 : decide ((p : Int) ≤ i + 3) = true := decide_eq_true (by omega)
                  have HV := Aside0.mk (HVn.out (fun b hb => by
                    obtain ⟨c2, rest, _, _, e3, e4⟩ := hhx b hb
                    have h3 := (List.getElem?_eq_some_iff.1 e3).1
                    have hlen := congrArg List.length e4
                    rw [List.length_drop, List.length_append] at hlen
                    simp at hlen
                    have := HLL.out
                    have := HPs.out
                    omega))
                  clear HVn HVs hhx
                  go_wp2
                  go_ret2
                  exact ⟨by rw [HV.out]; rfl, HW.out⟩
              · have n1 : ((x.toNat : Int) != 120) = true := by
                  simp only [bne_iff_ne, ne_eq]
                  intro h
                  exact hx1 (UInt8.toNat_inj.1 (by simpa using (by omega : x.toNat = 120)))
                have HNx := Aside0.mk (HI.out.1.esc HQ.out.2.2 HQ.out.1 HQ.out.2.1 hx1)
                have w5 : wrap64 (i + 1 + 1) = i + 1 + 1 := by unfold wrap64; omega
                have hi2 : (i + 1 + 1).toNat = i.toNat + 2 := by omega
                have HI2 := Aside0.mk hi2
                clear hi2 hx1
                go_wp2_with (at_builtin; refine append_bytes (w0 := w) w.heap.size rfl (.tmp 50) (.tmp 55) rfl _ N 1 acc [x] _ rfl rfl rfl rfl ?aO ?aB ?aS ?aL ?_; (case aO => exact HO.out); (case aB => exact HW.out); (case aS => exact HW.out.size); (case aL => omega); intro v1 w1 ho1 hb1 _; have HO1 := Aside0.mk ho1; have HB1 := Aside0.mk hb1; clear ho1 hb1)
                refine ⟨⟨i + 1 + 1, acc ++ [x], rfl, by omega, by omega, ⟨by rw [HI2.out]; exact HNx.out, by have := HI.out.2; rw [HI2.out, List.length_append, List.length_singleton]; omega⟩, ⟨?_⟩, HB1⟩, by simp [intOf]; omega⟩
                rw [List.length_append, List.length_singleton, HN.out]
                exact HO1.out
            · have d3 : decide ((p : Int) ≤ i + 1) = true := decide_eq_true (by omega)
              have HV := Aside0.mk (HVn.out (fun b hb => by
                obtain ⟨c2, rest, e1, e2⟩ := HI.out.1.next hb HQ.out.2.2
                have hlen := congrArg List.length e2
                have h0 := drop_get (k := 0) e2 HQ.out.1
                rw [List.length_drop, List.length_append, List.length_append] at hlen
                have := HLL.out
                have := HPs.out
                rcases esc_cases c2 with ⟨e, _, hc⟩ | ⟨e, _⟩ | e
                · rw [e] at h0; simp at h0; exact hc h0
                · rw [e] at hlen; simp at hlen; omega
                · rw [e] at hlen; simp at hlen; omega))
              clear HVn HVs
              go_wp2
              go_ret2
              exact ⟨by rw [HV.out]; rfl, HW.out⟩
          · have n1 : ((q.toNat : Int) != 92) = true := by
              simp only [bne_iff_ne, ne_eq]
              intro h
              exact hq1 (UInt8.toNat_inj.1 (by simpa using (by omega : q.toNat = 92)))
            have HNx := Aside0.mk (HI.out.1.plain HQ.out.2.2 HQ.out.1 hq1)
            clear hq1
            go_wp2_with (at_builtin; refine append_bytes (w0 := w) w.heap.size rfl (.tmp 33) (.tmp 37) rfl _ N 1 acc [q] _ rfl rfl rfl rfl ?aO ?aB ?aS ?aL ?_; (case aO => exact HO.out); (case aB => exact HW.out); (case aS => exact HW.out.size); (case aL => omega); intro v1 w1 ho1 hb1 _; have HO1 := Aside0.mk ho1; have HB1 := Aside0.mk hb1; clear ho1 hb1)
            refine ⟨⟨i + 1, acc ++ [q], rfl, by omega, by omega, ⟨by rw [HI1.out]; exact HNx.out, by have := HI.out.2; rw [HI1.out, List.length_append, List.length_singleton]; omega⟩, ⟨?_⟩, HB1⟩, by simp [intOf]; omega⟩
            rw [List.length_append, List.length_singleton, HN.out]
            exact HO1.out
        · have d2 : decide (i < (p : Int)) = false := decide_eq_false hlt
          have hcv := own_text HO.out
          have hqs : (sB acc).size ≤ 34359738368 := by rw [sB_size]; have := HI.out.2; omega
          have hpq := fun W => rquote_any (sB acc) W hqs
          rw [sB_data] at hpq
          obtain ⟨T, hT⟩ : ∃ T, sB acc = T := ⟨_, rfl⟩
          obtain ⟨Z, hZ⟩ : ∃ Z, sB (quoteL acc) = Z := ⟨_, rfl⟩
          rw [hT] at hpq hcv
          rw [hZ] at hpq
          have HPQ := Aside0.mk hpq
          have HTZ := Aside0.mk (And.intro hT hZ)
          have hEx : Z.toList = s.toList ↔ quoteL acc = l := by rw [Lib.toList_data, Lib.toList_data, ← hZ, sB_data, HL.out]
          clear hqs hpq hT hZ
          by_cases hqe : quoteL acc = l
          · have ee : (Z.toList == s.toList) = true := by rw [hEx.2 hqe]; simp
            have HV := Aside0.mk (HVs.out acc hqe)
            clear HVn HVs hEx hqe
            go_wp2_with (go_at_call 52; refine (HPQ.out _).mono ?_; rintro e w2 ⟨rfl, hB2⟩; have HB2 := Aside0.mk hB2; have hcv2 : (convert 45 9 (.slice A N c)).run Tryz.prog w2 = .ok (.string T) w2 := (by rw [← HTZ.out.1]; exact own_text (pw_own_below HO.out hB2)); clear hB2)
            go_ret2
            exact ⟨by rw [HV.out, HTZ.out.1]; rfl, below_then HW.out hWz HB2.out⟩
          · have ee : (Z.toList == s.toList) = false := by
              simp only [beq_eq_false_iff_ne, ne_eq]
              exact fun h => hqe (hEx.1 h)
            have HV := Aside0.mk (HVn.out (fun b hb => by
              have := HI.out.1.end (by have := HLL.out; have := HPs.out; omega) b hb
              exact hqe (this ▸ hb)))
            clear HVn HVs hEx hqe
            go_wp2_with (go_at_call 52; refine (HPQ.out _).mono ?_; rintro e w2 ⟨rfl, hB2⟩; have HB2 := Aside0.mk hB2; clear hB2)
            go_ret2
            exact ⟨by rw [HV.out]; rfl, below_then HW.out hWz HB2.out⟩
    · have n1 : ((qL.toNat : Int) != 34) = true := by
        simp only [bne_iff_ne, ne_eq]
        intro h
        exact hzL (UInt8.toNat_inj.1 (by simpa using (by omega : qL.toNat = 34)))
      have HV := Aside0.mk (HVn.out (fun b hb => by
        have := (HQF.out b hb).2.2
        rw [HQL.out] at this
        exact hzL (Option.some.inj this)))
      clear HVn HVs hll hzL
      go_enter Tryz.func78, Tryz.ntmps78
      go_wp2
      go_ret2
      exact ⟨by rw [HV.out]; rfl, Below.refl _ _⟩
  · have n1 : ((q0.toNat : Int) != 34) = true := by
      simp only [bne_iff_ne, ne_eq]
      intro h
      exact hz0 (UInt8.toNat_inj.1 (by simpa using (by omega : q0.toNat = 34)))
    have HV := Aside0.mk (HVn.out (fun b hb => by
      have := (HQF.out b hb).2.1
      rw [HQ0.out] at this
      exact hz0 (Option.some.inj this)))
    clear HVn HVs hll hz0
    go_enter Tryz.func78, Tryz.ntmps78
    go_wp2
    go_ret2
    exact ⟨by rw [HV.out]; rfl, Below.refl _ _⟩
end Go.Proofs.YteglbmindbfkeaaGreatDoor.H
