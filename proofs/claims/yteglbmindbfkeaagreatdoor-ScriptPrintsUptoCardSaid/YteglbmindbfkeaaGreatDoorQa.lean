/- The program's Quote as a contract. -/
import Derived.Test.YteglbmindbfkeaaGreatDoorBa
namespace Go.Proofs.YteglbmindbfkeaaGreatDoor.H
open Go.RowKit Go.Proofs.YteglbmindbfkeaaGreatDoorW.PrintWords
set_option linter.unusedVariables false
set_option linter.unusedSimpArgs false

/-- The builder in a round: what it held ahead of the call, and a frame. -/
theorem fresh_bld (w : World) : Bld w.heap.size w.heap.size [] (w.alloc (.cells #[.pointer none, .slice none 0 0] 47)) := Lib.fresh_isBuilder 47 5 w
theorem esc_take {l : Bs} {i : Nat} {c : UInt8} (h : l[i]? = some c) : (l.take (i + 1)).flatMap escB = (l.take i).flatMap escB ++ escB c := by
  rw [List.take_add_one, h, Option.toList, List.flatMap_append]
  simp
theorem below_at {B : Nat} {w w1 w2 : World} (h : Below B w w1) (k : Below B w1 w2) : Below B w w2 := h.trans k
theorem hexes_at (n : Nat) (h : n < 16) : (⟨#[48, 49, 50, 51, 52, 53, 54, 55, 56, 57, 97, 98, 99, 100, 101, 102]⟩ : ByteArray).data.toList[n]? = some (hexD n) := by
  match n, h with
  | 0, _ | 1, _ | 2, _ | 3, _ | 4, _ | 5, _ | 6, _ | 7, _ | 8, _ | 9, _ | 10, _ | 11, _ | 12, _ | 13, _ | 14, _ | 15, _ => rfl
  | n + 16, h => omega

theorem hexes_get (n : Nat) (h : n < 16) : (⟨#[48, 49, 50, 51, 52, 53, 54, 55, 56, 57, 97, 98, 99, 100, 101, 102]⟩ : ByteArray)[n]'h = hexD n := by
  match n, h with
  | 0, _ | 1, _ | 2, _ | 3, _ | 4, _ | 5, _ | 6, _ | 7, _ | 8, _ | 9, _ | 10, _ | 11, _ | 12, _ | 13, _ | 14, _ | 15, _ => rfl
  | n + 16, h => omega

set_option maxRecDepth 100000 in
set_option maxHeartbeats 4000000 in
theorem pquote_any (s : ByteArray) (w : World) (hs : s.size ≤ 34359738368) :
    Calls Tryz.prog 40 #[.string s] w fun e w' => e = .returned (.string (sB (quoteL s.data.toList))) ∧ Below w.heap.size w w' := by
  obtain ⟨l, hl⟩ : ∃ l, s.data.toList = l := ⟨_, rfl⟩
  have hll : l.length = s.size := by rw [← hl, data_length]
  have HF := Aside0.mk (fresh_bld w)
  have HL := Aside0.mk hl
  have HLL := Aside0.mk hll
  rw [hl]
  clear hl hll
  go_enter Tryz.func40, Tryz.ntmps40
  go_wp2_with (go_at_call 64; refine (writeByte_any w.heap.size w.heap.size [] 34 34 rfl _ HF.out (by decide) (by simp)).mono ?_; rintro e w1 ⟨rfl, h1, b1⟩; have H1 := Aside0.mk h1; have B1 := Aside0.mk ((below_alloc (Below.refl w.heap.size w) _).trans b1); clear h1 b1)
  go_loopw [9] (fun iv wr => ∃ i : Int, iv = .int .i64 i ∧ 0 ≤ i ∧ i ≤ s.size ∧ Aside0 (Bld w.heap.size w.heap.size (34 :: (l.take i.toNat).flatMap escB) wr) ∧ Aside0 (Below w.heap.size w wr)) (fun iv _ => (s.size - intOf iv).toNat)
  case atStart => exact ⟨0, rfl, Int.le_refl _, by omega, H1, B1⟩
  case round =>
    obtain ⟨i, rfl, i0, i1, HB, HW⟩ := hrel
    have hWz := HW.out.size
    have hfl := flat_len (l.take i.toNat)
    rw [List.length_take] at hfl
    by_cases hlt : i < (s.size : Int)
    · have d1 : decide (i < (s.size : Int)) = true := decide_eq_true hlt
      have hin : i.toNat < s.size := by omega
      have hbt := bt_at s i
      obtain ⟨q, hq⟩ : ∃ q, l[i.toNat]? = some q := ⟨_, List.getElem?_eq_getElem (by rw [HLL.out]; exact hin)⟩
      have hb := bt_get s i q (by rw [HL.out]; exact hq)
      have hi1 : (i + 1).toNat = i.toNat + 1 := by omega
      have w4 : wrap64 (i + 1) = i + 1 := by unfold wrap64; omega
      have het := esc_take hq
      obtain ⟨B, hBd⟩ : ∃ B, 34 :: (l.take i.toNat).flatMap escB = B := ⟨_, rfl⟩
      have hBl : B.length ≤ 140737488355000 := by rw [← hBd]; simp only [List.length_cons]; omega
      rw [hBd] at HB
      have hfin : 34 :: (l.take (i.toNat + 1)).flatMap escB = B ++ escB q := by rw [het, ← hBd]; rfl
      have HFin := Aside0.mk hfin
      have HI1 := Aside0.mk hi1
      have HBl := Aside0.mk hBl
      clear hq het hfin hi1 hBd hfl hBl
      have hq8 := q.toNat_lt
      by_cases hq1 : q = 34 ∨ q = 92
      · have he : escB q = [92, q] := by unfold escB; rw [if_pos hq1]
        have HE := Aside0.mk he
        clear he
        have fin : ∀ w3, Bld w.heap.size w.heap.size ((B ++ [92]) ++ [q]) w3 → Bld w.heap.size w.heap.size (34 :: (l.take (i + 1).toNat).flatMap escB) w3 := fun w3 h => by
          rw [HI1.out, HFin.out, HE.out]; simpa using h
        have HFn := Aside0.mk fin
        clear fin
        rcases hq1 with rfl | rfl
        · have hb : bt s i = 34 := hb
          go_wp2_with (first
            | (go_at_call 64; refine (writeByte_any w.heap.size w.heap.size B 92 92 rfl _ HB.out (by have := HBl.out; omega) hWz).mono ?_; rintro e w2 ⟨rfl, h2, b2⟩; have H2 := Aside0.mk h2; have B2 := Aside0.mk (HW.out.trans b2); clear h2 b2 HB)
            | (go_at_call 64; refine (writeByte_any w.heap.size w.heap.size (B ++ [92]) 34 34 rfl _ H2.out (by have := HBl.out; simp; omega) B2.out.size).mono ?_; rintro e w3 ⟨rfl, h3, b3⟩; have H3 := Aside0.mk (HFn.out _ h3); have B3 := Aside0.mk (B2.out.trans b3); clear h3 b3 H2))
          exact ⟨⟨i + 1, rfl, by omega, by omega, H3, B3⟩, by simp [intOf]; omega⟩
        · have hb : bt s i = 92 := hb
          go_wp2_with (first
            | (go_at_call 64; refine (writeByte_any w.heap.size w.heap.size B 92 92 rfl _ HB.out (by have := HBl.out; omega) hWz).mono ?_; rintro e w2 ⟨rfl, h2, b2⟩; have H2 := Aside0.mk h2; have B2 := Aside0.mk (HW.out.trans b2); clear h2 b2 HB)
            | (go_at_call 64; refine (writeByte_any w.heap.size w.heap.size (B ++ [92]) 92 92 rfl _ H2.out (by have := HBl.out; simp; omega) B2.out.size).mono ?_; rintro e w3 ⟨rfl, h3, b3⟩; have H3 := Aside0.mk (HFn.out _ h3); have B3 := Aside0.mk (B2.out.trans b3); clear h3 b3 H2))
          exact ⟨⟨i + 1, rfl, by omega, by omega, H3, B3⟩, by simp [intOf]; omega⟩
      · have n1 : ((q.toNat : Int) == 34) = false := by
          simp only [beq_eq_false_iff_ne, ne_eq]
          intro h
          exact hq1 (.inl (UInt8.toNat_inj.1 (by simpa using (by omega : q.toNat = 34))))
        have n2 : ((q.toNat : Int) == 92) = false := by
          simp only [beq_eq_false_iff_ne, ne_eq]
          intro h
          exact hq1 (.inr (UInt8.toNat_inj.1 (by simpa using (by omega : q.toNat = 92))))
        by_cases hq2 : 32 ≤ q.toNat ∧ q.toNat ≤ 126
        · have he : escB q = [q] := by unfold escB; rw [if_neg hq1, if_pos hq2]
          have HE := Aside0.mk he
          have r1 : decide ((32 : Int) ≤ (q.toNat : Int)) = true := decide_eq_true (by omega)
          have r2 : decide ((q.toNat : Int) ≤ 126) = true := decide_eq_true (by omega)
          clear he hq1
          go_wp2_with (go_at_call 64; refine (writeByte_any w.heap.size w.heap.size B q _ rfl _ HB.out (by have := HBl.out; omega) hWz).mono ?_; rintro e w2 ⟨rfl, h2, b2⟩; have H2 := Aside0.mk (show Bld w.heap.size w.heap.size (34 :: (l.take (i + 1).toNat).flatMap escB) w2 by rw [HI1.out, HFin.out, HE.out]; exact h2); have B2 := Aside0.mk (HW.out.trans b2); clear h2 b2 HB)
          exact ⟨⟨i + 1, rfl, by omega, by omega, H2, B2⟩, by simp [intOf]; omega⟩
        · have he : escB q = [92, 120, hexD (q.toNat / 16), hexD (q.toNat % 16)] := by unfold escB; rw [if_neg hq1, if_neg hq2]
          have HE := Aside0.mk he
          clear he hq1
          by_cases hq3 : q.toNat < 32
          · have r1 : decide ((32 : Int) ≤ (q.toNat : Int)) = false := decide_eq_false (by omega)
            go_wp2_with (first
              | (go_at_call 15; refine (writeString_any w.heap.size w.heap.size B ⟨#[92, 120]⟩ _ HB.out (by have := HBl.out; show _ + 2 ≤ _; omega) hWz).mono ?_; rintro e w2 ⟨rfl, h2, b2⟩; have H2 := Aside0.mk h2; have B2 := Aside0.mk (HW.out.trans b2); clear h2 b2 HB)
              | (go_at_call 64; refine (writeByte_any w.heap.size w.heap.size (B ++ [92, 120]) _ _ rfl _ H2.out (by have := HBl.out; simp; omega) B2.out.size).mono ?_; rw [hexes_get _ (by omega)]; rintro e w3 ⟨rfl, h3, b3⟩; have H3 := Aside0.mk h3; have B3 := Aside0.mk (B2.out.trans b3); clear h3 b3 H2)
              | (go_at_call 64; refine (writeByte_any w.heap.size w.heap.size (B ++ [92, 120] ++ [hexD (q.toNat / 16)]) _ _ rfl _ H3.out (by have := HBl.out; simp; omega) B3.out.size).mono ?_; rw [hexes_get _ (by omega)]; rintro e w4 ⟨rfl, h4, b4⟩; have H4 := Aside0.mk h4; have B4 := Aside0.mk (B3.out.trans b4); clear h4 b4 H3))
            refine ⟨⟨i + 1, rfl, by omega, by omega, ⟨?_⟩, B4⟩, by simp [intOf]; omega⟩
            rw [HI1.out, HFin.out, HE.out]
            have := H4.out
            simpa using this
          · have r1 : decide ((32 : Int) ≤ (q.toNat : Int)) = true := decide_eq_true (by omega)
            have r2 : decide ((q.toNat : Int) ≤ 126) = false := decide_eq_false (by omega)
            go_wp2_with (first
              | (go_at_call 15; refine (writeString_any w.heap.size w.heap.size B ⟨#[92, 120]⟩ _ HB.out (by have := HBl.out; show _ + 2 ≤ _; omega) hWz).mono ?_; rintro e w2 ⟨rfl, h2, b2⟩; have H2 := Aside0.mk h2; have B2 := Aside0.mk (HW.out.trans b2); clear h2 b2 HB)
              | (go_at_call 64; refine (writeByte_any w.heap.size w.heap.size (B ++ [92, 120]) _ _ rfl _ H2.out (by have := HBl.out; simp; omega) B2.out.size).mono ?_; rw [hexes_get _ (by omega)]; rintro e w3 ⟨rfl, h3, b3⟩; have H3 := Aside0.mk h3; have B3 := Aside0.mk (B2.out.trans b3); clear h3 b3 H2)
              | (go_at_call 64; refine (writeByte_any w.heap.size w.heap.size (B ++ [92, 120] ++ [hexD (q.toNat / 16)]) _ _ rfl _ H3.out (by have := HBl.out; simp; omega) B3.out.size).mono ?_; rw [hexes_get _ (by omega)]; rintro e w4 ⟨rfl, h4, b4⟩; have H4 := Aside0.mk h4; have B4 := Aside0.mk (B3.out.trans b4); clear h4 b4 H3))
            refine ⟨⟨i + 1, rfl, by omega, by omega, ⟨?_⟩, B4⟩, by simp [intOf]; omega⟩
            rw [HI1.out, HFin.out, HE.out]
            have := H4.out
            simpa using this
    · have d1 : decide (i < (s.size : Int)) = false := decide_eq_false hlt
      have htk : l.take i.toNat = l := List.take_of_length_le (by rw [HLL.out]; omega)
      rw [htk] at HB hfl
      have hqe : quoteL l = (34 :: l.flatMap escB) ++ [34] := rfl
      have HQ := Aside0.mk hqe
      have hBl : (34 :: l.flatMap escB).length + 1 ≤ 140737488355328 := by simp only [List.length_cons]; have := flat_len l; have := HLL.out; omega
      have HBl := Aside0.mk hBl
      clear htk hqe hBl hfl
      obtain ⟨B, hBd⟩ : ∃ B, 34 :: l.flatMap escB = B := ⟨_, rfl⟩
      rw [hBd] at HB HQ HBl
      clear hBd
      go_wp2_with (first
        | (go_at_call 64; refine (writeByte_any w.heap.size w.heap.size B 34 34 rfl _ HB.out HBl.out hWz).mono ?_; rintro e w2 ⟨rfl, h2, b2⟩; have H2 := Aside0.mk h2; have B2 := Aside0.mk (HW.out.trans b2); clear h2 b2 HB)
        | (go_at_call 19; refine (Tryz.Builder_String w.heap.size w.heap.size (B ++ [34]) _ H2.out (by simp)).mono ?_; rintro e w3 ⟨rfl, b3⟩; have B3 := Aside0.mk (B2.out.trans b3); clear b3 H2))
      go_ret
      rw [HQ.out]
      exact ⟨rfl, B3.out⟩
end Go.Proofs.YteglbmindbfkeaaGreatDoor.H
