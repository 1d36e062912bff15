/- deduplaw06.SpaceReserves, every script and every number. -/
import Derived.Test.YtpcgmlnipeigjaaUm
namespace Go.Proofs.Ytpcgmlnipeigjaa.H
open Go.RowKit Go.Shelf Go.Proofs.YtpcgmlnipeigjaaW.PrintWords Go.Proofs.YtpcgmlnipeigjaaW.PrintLast Go.Proofs.YtpcgmlnipeigjaaW.PrintMore
set_option linter.unusedVariables false
set_option linter.unusedSimpArgs false


/-- Where one is left, one can be taken. -/
theorem take_one {first res : Int} {l : List Int} (hs : Sane first l res) (h : 0 < cnt l 0 - res) : ∃ a l', takeL first l 1 res = ((a, 0), l') ∧ Sane first l' res ∧ cnt l' 0 = cnt l 0 - 1 := by
  have hsum := runsL_sum l
  have h0 := hs.r0
  obtain ⟨x, hx⟩ : ∃ x, (runsL l).find? (fun x => decide ((1 : Int) ≤ x.2)) = some x := by
    cases hf : (runsL l).find? (fun x => decide ((1 : Int) ≤ x.2)) with
    | some x => exact ⟨x, rfl⟩
    | none =>
      exfalso
      cases hr : runsL l with
      | nil => rw [hr] at hsum; simp at hsum; omega
      | cons y t =>
        have hy : y ∈ runsL l := by rw [hr]; simp
        have h1 := List.find?_eq_none.1 hf y hy
        obtain ⟨a, k, rfl, hk, _⟩ := runsL_good hy
        simp at h1
        omega
  obtain ⟨a, k, rfl, hk, hak, hz⟩ := runsL_good (List.mem_of_find?_eq_some hx)
  have ht : takeL first l 1 res = ((first + a, 0), upd 1 1 a l) := by
    unfold takeL
    rw [if_neg (by omega), if_neg (by omega), hx]
    rfl
  have hsn := takeL_sane (n := 1) hs
  rw [ht] at hsn
  refine ⟨_, _, ht, hsn.1, ?_⟩
  have := cnt_upd (q := 0) (v := 1) 1 a l (fun j h1 h2 => hz j (by omega) (by omega)) 0
  rw [this]
  simp
theorem take_none {first res : Int} {l : List Int} (h : cnt l 0 - res < 1) : takeL first l 1 res = ((0, 2), l) := by
  unfold takeL
  rw [if_neg (by omega), if_pos h]
/-- How many are free, as the space's block has it. -/
def freeAt (W : World) (X : Nat) : Int := intOf ((W.cell? ⟨X, 2, none⟩).getD undef)
theorem freeAt_eq {W : World} {X g : Nat} {first res : Int} {l : List Int} (h : SpAt W X g first l (cnt l) res) : freeAt W X = cnt l 0 := by
  unfold freeAt
  rw [h.x2]
  rfl


set_option maxRecDepth 100000 in
set_option maxHeartbeats 4000000 in
theorem reserves_bad (first count : Int) (A : Option Addr) (n c : Nat) (m : Int) (w : World) (hb : okN first count = false) :
    Calls Try.prog 8 #[.agg #[.int .i64 first, .int .i64 count, .slice A n c], .int .i64 m] w fun e w' => e = .returned (.bool true) ∧ Below w.heap.size w w' := by
  have hu24 := Try.underlying24
  have HB := Aside0.mk hb
  have HBb := Aside0.mk (below_alloc (Below.refl w.heap.size w) (.cells #[.int .i64 first, .int .i64 count, .slice A n c] 24))
  clear hb
  go_enter Try.func8, Try.ntmps8
  go_wp2_with (go_at_call 10; refine (begin_bad first count A n c _ HB.out).mono ?_; rintro e w1 ⟨rfl, hB⟩; have HB1 := Aside0.mk (below_step HBb.out hB); clear hB)
  go_ret
  exact ⟨rfl, HB1.out⟩


set_option maxRecDepth 100000 in
set_option maxHeartbeats 4000000 in
theorem reserves_good (first count : Int) (A : Option Addr) (c : Nat) (ops : List Op4) (m : Int) (w : World) (hb : okN first count = true) (ho : OpsAt w A ops) (hol : ops.length ≤ 9223372036854775807) (hmI : I64 m) :
    Calls Try.prog 8 #[.agg #[.int .i64 first, .int .i64 count, .slice A ops.length c], .int .i64 m] w fun e w' => e = .returned (.bool true) ∧ Below w.heap.size w w' := by
  have hu24 := Try.underlying24
  have hu33 := Try.underlying33
  have hu31 := Try.underlying31
  have hu22 := Try.underlying22
  have HO := Aside0.mk ho
  have hmI1 := hmI.1
  have hmI2 := hmI.2
  have HB := Aside0.mk hb
  have HQ := Aside0.mk (blk_new w (.cells #[.int .i64 first, .int .i64 count, .slice A ops.length c] 24))
  have HBb := Aside0.mk (below_alloc (Below.refl w.heap.size w) (.cells #[.int .i64 first, .int .i64 count, .slice A ops.length c] 24))
  have lt_of : ∀ {k : Nat}, (w.alloc (.cells #[.int .i64 first, .int .i64 count, .slice A ops.length c] 24)).heap.size ≤ k → w.heap.size ≤ k := fun {k} h => by rw [World.size_alloc] at h; omega
  have hsl := repl_sane hb
  clear hb ho hmI
  go_enter Try.func8, Try.ntmps8
  go_wp2_with (go_at_call 10; refine (begin_good first count A ops.length c _ HB.out).mono ?_; intro e w1 hP; obtain ⟨X, g, Y, h, rfl, hX, hg, hY, hh, n1, n2, n3, n4, hS, hR, hBl⟩ := hP.out; have hq := (hBl.block w.heap.size (blk_lt HQ.out)).trans HQ.out; have hq2 := (blk_cell hq 2).trans rfl; have HD := Aside0.mk (show Dj w.heap.size X g Y h from ⟨n1, n2, n3, n4, lt_of hX, lt_of hg, lt_of hY, lt_of hh⟩); have HP1 := Aside0.mk (show PrAt w1 X g Y h first _ 0 from ⟨hS, hR⟩); have HB1 := Aside0.mk (below_step HBb.out hBl); clear hP hX hg hY hh n1 n2 n3 n4 hS hR hBl hq)
  obtain ⟨l0, hl0⟩ : ∃ l0, List.replicate count.toNat (0 : Int) = l0 := ⟨_, rfl⟩
  have hP1 := HP1.out
  rw [hl0] at hP1 hsl
  have HP := Aside0.mk hP1
  have HS := Aside0.mk hsl.1
  have hlp := hsl.2
  clear hP1 hsl hl0 lt_of hq2
  go_loopw [33] (fun iv wr => ∃ (i : Int) (l : List Int) (res : Int), iv = .int .i64 i ∧ 0 ≤ i ∧ i ≤ ops.length ∧ l.length = l0.length ∧ Aside0 (PrAt wr X g Y h first l res) ∧ Aside0 (Sane first l res) ∧ Aside0 (Below w.heap.size w wr)) (fun iv _ => (ops.length - intOf iv).toNat)
  case atStart => exact ⟨0, l0, 0, rfl, Int.le_refl _, by omega, rfl, HP, HS, HB1⟩
  case round =>
    obtain ⟨i, l, res, rfl, i0, i1, hlc, HPr, HSr, HBr⟩ := hrel
    have hl : 0 < l.length := by omega
    have HLc := Aside0.mk hlc
    clear hlc
    by_cases hlt : i < (ops.length : Int)
    · have w9 : wrap64 (i + 1) = i + 1 := by unfold wrap64; omega
      have hlt1 : decide (i < (ops.length : Int)) = true := decide_eq_true hlt
      obtain ⟨⟨kd, n, a0, a1⟩, hop⟩ : ∃ o, ops[i.toNat]? = some o := ⟨_, List.getElem?_eq_getElem (by omega)⟩
      obtain ⟨b1, b2, b3, b4, ad, rfl, c0, c1, c2, c3⟩ := HO.out i.toNat _ hop
      have c0 := cell_later HBr.out c0
      have c1 := cell_later HBr.out c1
      have c2 := cell_later HBr.out c2
      have c3 := cell_later HBr.out c3
      dsimp only at b1 b2 b3 b4 c0 c1 c2 c3
      have Hb3 := Aside0.mk (And.intro b2.2 b3.2)
      have hba := below_alloc (Below.refl wr.heap.size wr) (.cells #[.int .i64 kd, .int .i64 n, .int .i64 a0, .int .i64 a1] 33)
      have HPa := Aside0.mk (HPr.out.below hba)
      have HBa := Aside0.mk (below_step HBr.out hba)
      clear b1 b2 b3 b4 hop hba
      go_wp2_with (go_at_call 22; refine (does_any w.heap.size X g Y h first res kd n a0 a1 l _ HPa.out HD.out HSr.out hl Hb3.out.2 Hb3.out.1).mono ?_; intro e w2 hQ; obtain ⟨rfl, l', res', hp1, hs1, hl1, hm1⟩ := hQ.out; have HP2 := Aside0.mk hp1; have HS2 := Aside0.mk hs1; have HL2 := Aside0.mk (hl1.trans HLc.out); have HB2 := Aside0.mk (HBa.out.trans hm1.bel); clear hQ hp1 hs1 hl1 hm1)
      exact ⟨⟨i + 1, l', res', rfl, by omega, by omega, HL2.out, HP2, HS2, HB2⟩, by simp [intOf]; omega⟩
    · have hlt1 : decide (i < (ops.length : Int)) = false := decide_eq_false hlt
      obtain ⟨L, hL⟩ : ∃ L, cnt l 0 - res = L := ⟨_, rfl⟩
      have hc4 := HSr.out.c4 0
      have hr4 := HSr.out.r4
      have hr0 := HSr.out.r0
      have hl4 := HSr.out.len
      have hrl : resL l m res = if m < 0 then (1, res) else if L < m then (2, res) else (0, res + m) := by unfold resL; rw [hL]
      have HL := Aside0.mk hL
      clear hL
      by_cases hm0 : m < 0
      · have d1 : decide (m < 0) = true := decide_eq_true hm0
        rw [if_pos hm0] at hrl
        have HRl := Aside0.mk hrl
        clear hrl
        go_wp2_with (go_at_call 15; refine (reserve_any w.heap.size X g first res m l _ HPr.out.sp HSr.out HD.out.nx).mono ?_; intro e w2 hQ; rw [HRl.out] at hQ; obtain ⟨rfl, hS2, hM2⟩ := hQ.out; have HB2 := Aside0.mk (HBr.out.trans hM2.bel); clear hQ hS2 hM2)
        go_ret
        exact ⟨rfl, HB2.out⟩
      have d1 : decide (m < 0) = false := decide_eq_false hm0
      by_cases hmL : L < m
      · have d2 : decide (L < m) = true := decide_eq_true hmL
        rw [if_neg hm0, if_pos hmL] at hrl
        have HRl := Aside0.mk hrl
        clear hrl
        go_wp2_with (first
          | (go_at_call 15; refine (reserve_any w.heap.size X g first res m l _ HPr.out.sp HSr.out HD.out.nx).mono ?_; intro e w2 hQ; rw [HRl.out] at hQ; obtain ⟨rfl, hS2, hM2⟩ := hQ.out; have HR2 := Aside0.mk (HPr.out.rf_s HD.out hM2); have HB2 := Aside0.mk (HBr.out.trans hM2.bel); clear hQ hS2 hM2)
          | (go_at_call 26; refine (rleft_q Y h first res L l _ HR2.out hl4 ⟨hr0, hr4⟩ HL.out).mono ?_; rintro e w3 ⟨rfl, nq, rfl⟩))
        go_ret
        exact ⟨rfl, HB2.out.trans (pw_below_drewN (Below.refl _ _) nq)⟩
      rw [if_neg hm0, if_neg hmL] at hrl
      have hsn := resL_sane (n := m) HSr.out
      rw [hrl] at hsn
      obtain ⟨R, hR⟩ : ∃ R, res + m = R := ⟨_, rfl⟩
      rw [hR] at hrl hsn
      have HRl := Aside0.mk hrl
      have HSn := Aside0.mk hsn.1
      have HRe := Aside0.mk hR
      have hRm : m ≤ R := by omega
      have hR4 := hsn.1.r4
      have hR0 := hsn.1.r0
      clear hrl hsn hR
      have hlw := HPr.out.sp.ltX
      go_wp2_with (go_at_call 15; refine (reserve_any w.heap.size X g first res m l _ HPr.out.sp HSr.out HD.out.nx).mono ?_; intro e w2 hQ; rw [HRl.out] at hQ; obtain ⟨rfl, hS2, hM2⟩ := hQ.out; have HS2 := Aside0.mk hS2; have HB2 := Aside0.mk (HBr.out.trans hM2.bel); clear hQ hS2 hM2)
      go_loopw [10] (fun _ wr => ∃ (l1 : List Int), Aside0 (SpAt wr X g first l1 (cnt l1) R) ∧ Aside0 (Sane first l1 R) ∧ Aside0 (Below w.heap.size w wr)) (fun _ wr => (freeAt wr X - R).toNat)
      case atStart => exact ⟨l, HS2, HSn, HB2⟩
      case round =>
        obtain ⟨l1, HS1, HSn1, HB1'⟩ := hrel
        obtain ⟨L1, hL1⟩ : ∃ L1, cnt l1 0 - R = L1 := ⟨_, rfl⟩
        have hc1 := HSn1.out.c4 0
        have HL1 := Aside0.mk hL1
        have HF1 := Aside0.mk (freeAt_eq HS1.out)
        by_cases hpos : 0 < L1
        · have p1 : decide (0 < L1) = true := decide_eq_true hpos
          obtain ⟨a, l', ht, hsn', hcn⟩ := take_one HSn1.out (by omega)
          have HT := Aside0.mk ht
          have HSn' := Aside0.mk hsn'
          have HCn := Aside0.mk hcn
          clear ht hsn' hcn hL1
          go_wp2_with (first
            | (go_at_call 21; refine (left_any X g first R l1 (cnt l1) _ HS1.out hc1 ⟨hR0, hR4⟩).mono ?_; rw [HL1.out]; rintro e w3 ⟨rfl, hB⟩; have HS3 := Aside0.mk (HS1.out.below hB); have HB3 := Aside0.mk (HB1'.out.trans (hB.mono HB1'.out.size)); clear hB)
            | (go_at_call 11; refine (take_any w.heap.size X g first R 1 l1 _ HS3.out HSn1.out HD.out.nx HD.out.ng).mono ?_; intro e w4 hQ; rw [HT.out] at hQ; obtain ⟨rfl, hS4, hM4⟩ := hQ.out; have HS4 := Aside0.mk hS4; have HB4 := Aside0.mk (HB3.out.trans hM4.bel); clear hQ hS4 hM4))
          refine ⟨⟨l', HS4, HSn', HB4⟩, ?_⟩
          rw [freeAt_eq HS4.out, HF1.out, HCn.out]
          have := HL1.out
          omega
        · have p1 : decide (0 < L1) = false := decide_eq_false hpos
          have hL10 : cnt l1 0 - R < 1 := by omega
          have ht := take_none (first := first) hL10
          have hrel2 : relL m R = (0, R - m) := if_neg (by omega)
          have hsn2 := relL_sane (n := m) HSn1.out
          rw [hrel2] at hsn2
          obtain ⟨R2, hR2⟩ : ∃ R2, R - m = R2 := ⟨_, rfl⟩
          rw [hR2] at hrel2 hsn2
          have hnn := HSn1.out.rl
          have hL2 : cnt l1 0 - R2 = m := by omega
          have HT := Aside0.mk ht
          have HRl2 := Aside0.mk hrel2
          have HSn2 := Aside0.mk hsn2.1
          have HL2 := Aside0.mk hL2
          have hR24 := hsn2.1.r4
          have hR20 := hsn2.1.r0
          clear ht hrel2 hsn2 hR2 hL2 hL1 hL10
          go_wp2_with (first
            | (go_at_call 21; refine (left_any X g first R2 l1 (cnt l1) _ HS5.out hc1 ⟨hR20, hR24⟩).mono ?_; rw [HL2.out]; rintro e w6 ⟨rfl, hB⟩; have HS6 := Aside0.mk (HS5.out.below hB); have HB6 := Aside0.mk (HB5.out.trans (hB.mono HB5.out.size)); clear hB)
            | (go_at_call 16; refine (release_any w.heap.size X g first R m l1 _ HS4.out HSn1.out HD.out.nx).mono ?_; intro e w5 hQ; rw [HRl2.out] at hQ; obtain ⟨rfl, hS5, hM5⟩ := hQ.out; have HS5 := Aside0.mk hS5; have HB5 := Aside0.mk (HB4.out.trans hM5.bel); clear hQ hS5 hM5)
            | (go_at_call 11; refine (take_any w.heap.size X g first R 1 l1 _ HS3.out HSn1.out HD.out.nx HD.out.ng).mono ?_; intro e w4 hQ; rw [HT.out] at hQ; obtain ⟨rfl, hS4, hM4⟩ := hQ.out; have HS4 := Aside0.mk hS4; have HB4 := Aside0.mk (HB3.out.trans hM4.bel); clear hQ hS4 hM4)
            | (go_at_call 21; refine (left_any X g first R l1 (cnt l1) _ HS1.out hc1 ⟨hR0, hR4⟩).mono ?_; rw [HL1.out]; rintro e w3 ⟨rfl, hB⟩; have HS3 := Aside0.mk (HS1.out.below hB); have HB3 := Aside0.mk (HB1'.out.trans (hB.mono HB1'.out.size)); clear hB))
          go_loopw [14] (fun iv wr => ∃ (i : Int) (l3 : List Int), iv = .int .i64 i ∧ 0 ≤ i ∧ i ≤ m ∧ Aside0 (SpAt wr X g first l3 (cnt l3) R2) ∧ Aside0 (Sane first l3 R2) ∧ Aside0 (cnt l3 0 - R2 = m - i) ∧ Aside0 (Below w.heap.size w wr)) (fun iv _ => (m - intOf iv).toNat)
          case atStart => exact ⟨0, l1, rfl, Int.le_refl _, by omega, HS6, HSn2, ⟨by rw [HL2.out]; omega⟩, HB6⟩
          case round =>
            obtain ⟨i, l3, rfl, i0, i1, HS7, HSn7, HC7, HB7⟩ := hrel
            by_cases hlt : i < m
            · have hlt1 : decide (i < m) = true := decide_eq_true hlt
              have w9 : wrap64 (i + 1) = i + 1 := by unfold wrap64; omega
              obtain ⟨a, l', ht, hsn', hcn⟩ := take_one HSn7.out (by have := HC7.out; omega)
              have HT7 := Aside0.mk ht
              have HSn' := Aside0.mk hsn'
              have HCn := Aside0.mk hcn
              clear ht hsn' hcn
              go_wp2_with (go_at_call 11; refine (take_any w.heap.size X g first R2 1 l3 _ HS7.out HSn7.out HD.out.nx HD.out.ng).mono ?_; intro e w8 hQ; rw [HT7.out] at hQ; obtain ⟨rfl, hS8, hM8⟩ := hQ.out; have HS8 := Aside0.mk hS8; have HB8 := Aside0.mk (HB7.out.trans hM8.bel); clear hQ hS8 hM8)
              exact ⟨⟨i + 1, l', rfl, by omega, by omega, HS8, HSn', ⟨by have := HC7.out; have := HCn.out; omega⟩, HB8⟩, by simp [intOf]; omega⟩
            · have hlt1 : decide (i < m) = false := decide_eq_false hlt
              have hc7 := HSn7.out.c4 0
              have HL7 := Aside0.mk (show cnt l3 0 - R2 = 0 by have := HC7.out; omega)
              go_wp2_with (go_at_call 21; refine (left_any X g first R2 l3 (cnt l3) _ HS7.out hc7 ⟨hR20, hR24⟩).mono ?_; rw [HL7.out]; rintro e w8 ⟨rfl, hB⟩; have HB8 := Aside0.mk (HB7.out.trans (hB.mono HB7.out.size)); clear hB)
              go_ret
              exact ⟨rfl, HB8.out⟩

theorem reserves_any (first count : Int) (A : Option Addr) (c : Nat) (ops : List Op4) (m : Int) (w : World) (ho : OpsAt w A ops) (hol : ops.length ≤ 9223372036854775807) (hm : I64 m) :
    Calls Try.prog 8 #[.agg #[.int .i64 first, .int .i64 count, .slice A ops.length c], .int .i64 m] w fun e w' => e = .returned (.bool true) ∧ Below w.heap.size w w' := by
  cases hb : okN first count with
  | false => exact reserves_bad first count A _ c m w hb
  | true => exact reserves_good first count A c ops m w hb ho hol hm
end Go.Proofs.Ytpcgmlnipeigjaa.H
