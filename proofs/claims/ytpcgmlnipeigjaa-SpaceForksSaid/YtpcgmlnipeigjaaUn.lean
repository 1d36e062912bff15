/- deduplaw06.SpaceForks, every script and every further calls. -/
import Derived.Test.YtpcgmlnipeigjaaUm
namespace Go.Proofs.Ytpcgmlnipeigjaa.H
open Go.RowKit Go.Shelf Go.Proofs.YtpcgmlnipeigjaaW.PrintWords Go.Proofs.YtpcgmlnipeigjaaW.PrintLast Go.Proofs.YtpcgmlnipeigjaaW.PrintMore
set_option linter.unusedVariables false
set_option linter.unusedSimpArgs false


/-- A pair is left alone by what another's calls write. -/
theorem PrAt.other {n0 X g Y h X2 g2 Y2 h2 : Nat} {first res : Int} {l : List Int} {w w' : World} (p : PrAt w X g Y h first l res) (m : Mw n0 X2 g2 Y2 h2 w w')
    (h1 : ∀ k, k = X ∨ k = g ∨ k = Y ∨ k = h → k ≠ X2 ∧ k ≠ g2 ∧ k ≠ Y2 ∧ k ≠ h2) : PrAt w' X g Y h first l res := by
  have one : ∀ k, k < w.heap.size → (k = X ∨ k = g ∨ k = Y ∨ k = h) → w'.heap[k]? = w.heap[k]? := fun k hk hx => m.keep k hk (h1 k hx).1 (h1 k hx).2.1 (h1 k hx).2.2.1 (h1 k hx).2.2.2
  exact ⟨p.sp.keep (one X p.sp.ltX (.inl rfl)) (one g p.sp.ltg (.inr (.inl rfl))), p.rf.keep (one Y p.rf.ltY (.inr (.inr (.inl rfl)))) (one h p.rf.ltg (.inr (.inr (.inr rfl))))⟩


set_option maxRecDepth 100000 in
set_option maxHeartbeats 4000000 in
theorem forks_bad (first count : Int) (A : Option Addr) (n c : Nat) (A2 : Option Addr) (n2 c2 : Nat) (w : World) (hb : okN first count = false) :
    Calls Try.prog 7 #[.agg #[.int .i64 first, .int .i64 count, .slice A n c], .slice A2 n2 c2] w fun e w' => e = .returned (.bool true) ∧ Below w.heap.size w w' := by
  have hu24 := Try.underlying24
  have HB := Aside0.mk hb
  have HBb := Aside0.mk (below_alloc (Below.refl w.heap.size w) (.cells #[.int .i64 first, .int .i64 count, .slice A n c] 24))
  clear hb
  go_enter Try.func7, Try.ntmps7
  go_wp2_with (go_at_call 10; refine (begin_bad first count A n c _ HB.out).mono ?_; rintro e w1 ⟨rfl, hB⟩; have HB1 := Aside0.mk (below_step HBb.out hB); clear hB)
  go_ret
  exact ⟨rfl, HB1.out⟩

theorem i_mod (i : Int) (h : 0 ≤ i) : 0 ≤ i % 2 ∧ i % 2 < 2 := by omega

set_option maxRecDepth 100000 in
set_option maxHeartbeats 4000000 in
theorem forks_good (first count : Int) (A : Option Addr) (c : Nat) (ops : List Op4) (A2 : Option Addr) (c2 : Nat) (more : List Op4) (w : World) (hb : okN first count = true) (ho : OpsAt w A ops) (hol : ops.length ≤ 9223372036854775807) (ho2 : OpsAt w A2 more) (hol2 : more.length ≤ 9223372036854775807) :
    Calls Try.prog 7 #[.agg #[.int .i64 first, .int .i64 count, .slice A ops.length c], .slice A2 more.length c2] w fun e w' => e = .returned (.bool true) ∧ Below w.heap.size w w' := by
  have hu24 := Try.underlying24
  have hu33 := Try.underlying33
  have hu31 := Try.underlying31
  have hu22 := Try.underlying22
  have HO := Aside0.mk ho
  have HO2 := Aside0.mk ho2
  have HB := Aside0.mk hb
  have HQ := Aside0.mk (blk_new w (.cells #[.int .i64 first, .int .i64 count, .slice A ops.length c] 24))
  have HBb := Aside0.mk (below_alloc (Below.refl w.heap.size w) (.cells #[.int .i64 first, .int .i64 count, .slice A ops.length c] 24))
  have lt_of : ∀ {k : Nat}, (w.alloc (.cells #[.int .i64 first, .int .i64 count, .slice A ops.length c] 24)).heap.size ≤ k → w.heap.size ≤ k := fun {k} h => by rw [World.size_alloc] at h; omega
  have hsl := repl_sane hb
  clear hb ho ho2
  go_enter Try.func7, Try.ntmps7
  go_wp2_with (go_at_call 10; refine (begin_good first count A ops.length c _ HB.out).mono ?_; intro e w1 hP; obtain ⟨X, g, Y, h, rfl, hX, hg, hY, hh, n1, n2, n3, n4, hS, hR, hBl⟩ := hP.out; have hq := (hBl.block w.heap.size (blk_lt HQ.out)).trans HQ.out; have hq2 := (blk_cell hq 2).trans rfl; have HD := Aside0.mk (show Dj w.heap.size X g Y h from ⟨n1, n2, n3, n4, lt_of hX, lt_of hg, lt_of hY, lt_of hh⟩); have HP1 := Aside0.mk (show PrAt w1 X g Y h first _ 0 from ⟨hS, hR⟩); have HB1 := Aside0.mk (below_step HBb.out hBl); clear hP hX hg hY hh n1 n2 n3 n4 hS hR hBl hq)
  obtain ⟨l0, hl0⟩ : ∃ l0, List.replicate count.toNat (0 : Int) = l0 := ⟨_, rfl⟩
  have hP1 := HP1.out
  rw [hl0] at hP1 hsl
  have HP := Aside0.mk hP1
  have HS := Aside0.mk hsl.1
  have hlp := hsl.2
  clear hP1 hsl hl0 lt_of hq2
  go_loopw [30] (fun iv wr => ∃ (i : Int) (l : List Int) (res : Int), iv = .int .i64 i ∧ 0 ≤ i ∧ i ≤ ops.length ∧ l.length = l0.length ∧ Aside0 (PrAt wr X g Y h first l res) ∧ Aside0 (Sane first l res) ∧ Aside0 (Below w.heap.size w wr)) (fun iv _ => (ops.length - intOf iv).toNat)
  case atStart => exact ⟨0, l0, 0, rfl, Int.le_refl _, by omega, rfl, HP, HS, HB1⟩
  case round =>
    obtain ⟨i, l, res, rfl, i0, i1, hlc, HPr, HSr, HBr⟩ := hrel
    have hl : 0 < l.length := by omega
    have HLc := Aside0.mk hlc
    clear hlc
    by_cases hlt : i < (ops.length : Int)
    · have w9 : wrap64 (i + 1) = i + 1 := by unfold wrap64; omega
      have hlt1 : decide (i < (ops.length : Int)) = true := decide_eq_true hlt
      obtain ⟨⟨kd, n, a0, a1⟩, hop⟩ : ∃ o, ops[i.toNat]? = some o := ⟨_, List.getElem?_eq_getElem (by omega)⟩
      obtain ⟨b1, b2, b3, b4, ad, rfl, c0, c1, c2, c3⟩ := HO.out i.toNat _ hop
      have c0 := cell_later HBr.out c0
      have c1 := cell_later HBr.out c1
      have c2 := cell_later HBr.out c2
      have c3 := cell_later HBr.out c3
      dsimp only at b1 b2 b3 b4 c0 c1 c2 c3
      have Hb3 := Aside0.mk (And.intro b2.2 b3.2)
      have hba := below_alloc (Below.refl wr.heap.size wr) (.cells #[.int .i64 kd, .int .i64 n, .int .i64 a0, .int .i64 a1] 33)
      have HPa := Aside0.mk (HPr.out.below hba)
      have HBa := Aside0.mk (below_step HBr.out hba)
      clear b1 b2 b3 b4 hop hba
      go_wp2_with (go_at_call 22; refine (does_any w.heap.size X g Y h first res kd n a0 a1 l _ HPa.out HD.out HSr.out hl Hb3.out.2 Hb3.out.1).mono ?_; intro e w2 hQ; obtain ⟨rfl, l', res', hp1, hs1, hl1, hm1⟩ := hQ.out; have HP2 := Aside0.mk hp1; have HS2 := Aside0.mk hs1; have HL2 := Aside0.mk (hl1.trans HLc.out); have HB2 := Aside0.mk (HBa.out.trans hm1.bel); clear hQ hp1 hs1 hl1 hm1)
      exact ⟨⟨i + 1, l', res', rfl, by omega, by omega, HL2.out, HP2, HS2, HB2⟩, by simp [intOf]; omega⟩
    · have hlt1 : decide (i < (ops.length : Int)) = false := decide_eq_false hlt
      have hlx := HPr.out.sp.ltX
      go_wp2_with (first
        | (go_at_call 24; refine (fork_any X g first res l (cnt l) _ HPr.out.sp hl HSr.out.len).mono ?_; rintro e w2 ⟨X2, g2, rfl, hX2, hg2, hS2, hB⟩; have HP2 := Aside0.mk (HPr.out.below hB); have HS2 := Aside0.mk hS2; have HX2 := Aside0.mk (And.intro hX2 hg2); have HB2 := Aside0.mk (HBr.out.trans (hB.mono HBr.out.size)); have HZ2 := Aside0.mk hB.size; clear hB hX2 hg2 hS2)
        | (go_at_call 25; refine (rfork_any Y h first res l _ HP2.out.rf hl HSr.out.len).mono ?_; rintro e w3 ⟨Y2, h2, rfl, hY2, hh2, hR2, hB⟩; have HP3 := Aside0.mk (HP2.out.below hB); have HQ3 := Aside0.mk (show PrAt w3 X2 g2 Y2 h2 first l res from ⟨HS2.out.below hB, hR2⟩); have HY2 := Aside0.mk (And.intro hY2 hh2); have HB3 := Aside0.mk (HB2.out.trans (hB.mono HB2.out.size)); clear hB hY2 hh2 hR2))
      have z1 := HBr.out.size
      have z2 := HZ2.out
      have x1 := HPr.out.sp.ltX
      have x2 := HPr.out.sp.ltg
      have x3 := HPr.out.rf.ltY
      have x4 := HPr.out.rf.ltg
      have y1 := HX2.out
      have y2 := HY2.out
      have y3 := HS2.out.ltX
      have y4 := HS2.out.ltg
      have HD2 := Aside0.mk (show Dj w.heap.size X2 g2 Y2 h2 from ⟨by omega, by omega, by omega, by omega, by omega, by omega, by omega, by omega⟩)
      have HN1 := Aside0.mk (show ∀ k, k = X ∨ k = g ∨ k = Y ∨ k = h → k ≠ X2 ∧ k ≠ g2 ∧ k ≠ Y2 ∧ k ≠ h2 from fun k hk => by omega)
      have HN2 := Aside0.mk (show ∀ k, k = X2 ∨ k = g2 ∨ k = Y2 ∨ k = h2 → k ≠ X ∧ k ≠ g ∧ k ≠ Y ∧ k ≠ h from fun k hk => by omega)
      clear z1 z2 x1 x2 x3 x4 y1 y2 y3 y4 hlx
      go_loopw [48] (fun iv wr => ∃ (i : Int) (l1 l2 : List Int) (r1 r2 : Int), iv = .int .i64 i ∧ 0 ≤ i ∧ i ≤ more.length ∧ 0 < l1.length ∧ 0 < l2.length ∧ Aside0 (PrAt wr X g Y h first l1 r1 ∧ PrAt wr X2 g2 Y2 h2 first l2 r2) ∧ Aside0 (Sane first l1 r1 ∧ Sane first l2 r2) ∧ Aside0 (Below w.heap.size w wr)) (fun iv _ => (more.length - intOf iv).toNat)
      case atStart => exact ⟨0, l, l, res, res, rfl, Int.le_refl _, by omega, hl, hl, ⟨HP3.out, HQ3.out⟩, ⟨HSr.out, HSr.out⟩, HB3⟩
      case round =>
        obtain ⟨i, l1, l2, r1, r2, rfl, i0, i1, hl1, hl2, HPr2, HSr2, HBr2⟩ := hrel
        by_cases hlt : i < (more.length : Int)
        · have w9 : wrap64 (i + 1) = i + 1 := by unfold wrap64; omega
          have hlt1 : decide (i < (more.length : Int)) = true := decide_eq_true hlt
          obtain ⟨⟨kd, n, a0, a1⟩, hop⟩ : ∃ o, more[i.toNat]? = some o := ⟨_, List.getElem?_eq_getElem (by omega)⟩
          obtain ⟨b1, b2, b3, b4, ad, rfl, c0, c1, c2, c3⟩ := HO2.out i.toNat _ hop
          have c0 := cell_later HBr2.out c0
          have c1 := cell_later HBr2.out c1
          have c2 := cell_later HBr2.out c2
          have c3 := cell_later HBr2.out c3
          dsimp only at b1 b2 b3 b4 c0 c1 c2 c3
          have Hb3 := Aside0.mk (And.intro b2.2 b3.2)
          have hba := below_alloc (Below.refl wr.heap.size wr) (.cells #[.int .i64 kd, .int .i64 n, .int .i64 a0, .int .i64 a1] 33)
          have HPa := Aside0.mk (HPr2.out.1.below hba)
          have HPb := Aside0.mk (HPr2.out.2.below hba)
          have HBa := Aside0.mk (below_step HBr2.out hba)
          clear b1 b2 b3 b4 hop hba
          have hm := i_mod i i0
          by_cases hev : i % 2 = 0
          · have e0 : (i % 2 == 0) = true := by simp [hev]
            have e1 : (i % 2 == 1) = false := by simp [hev]
            clear hm hev
            go_wp2_with (go_at_call 22; refine (does_any w.heap.size X g Y h first r1 kd n a0 a1 l1 _ HPa.out HD.out HSr2.out.1 hl1 Hb3.out.2 Hb3.out.1).mono ?_; intro e w4 hQ; obtain ⟨rfl, l', res', hp1, hs1, hle, hm1⟩ := hQ.out; have HP4 := Aside0.mk hp1; have HQ4 := Aside0.mk (HPb.out.other hm1 HN2.out); have HS4 := Aside0.mk hs1; have HL4 := Aside0.mk hle; have HB4 := Aside0.mk (HBa.out.trans hm1.bel); clear hQ hp1 hs1 hle hm1)
            exact ⟨⟨i + 1, l', l2, res', r2, rfl, by omega, by omega, by have := HL4.out; omega, hl2, ⟨HP4.out, HQ4.out⟩, ⟨HS4.out, HSr2.out.2⟩, HB4⟩, by simp [intOf]; omega⟩
          · have e0 : (i % 2 == 0) = false := by simp [hev]
            have e1 : (i % 2 == 1) = true := by simp; omega
            clear hm hev
            go_wp2_with (go_at_call 22; refine (does_any w.heap.size X2 g2 Y2 h2 first r2 kd n a0 a1 l2 _ HPb.out HD2.out HSr2.out.2 hl2 Hb3.out.2 Hb3.out.1).mono ?_; intro e w4 hQ; obtain ⟨rfl, l', res', hp1, hs1, hle, hm1⟩ := hQ.out; have HP4 := Aside0.mk hp1; have HQ4 := Aside0.mk (HPa.out.other hm1 HN1.out); have HS4 := Aside0.mk hs1; have HL4 := Aside0.mk hle; have HB4 := Aside0.mk (HBa.out.trans hm1.bel); clear hQ hp1 hs1 hle hm1)
            exact ⟨⟨i + 1, l1, l', r1, res', rfl, by omega, by omega, hl1, by have := HL4.out; omega, ⟨HQ4.out, HP4.out⟩, ⟨HSr2.out.1, HS4.out⟩, HB4⟩, by simp [intOf]; omega⟩
        · have hlt1 : decide (i < (more.length : Int)) = false := decide_eq_false hlt
          go_wp2_with (first
            | (go_at_call 23; refine (same_any w.heap.size X2 g2 Y2 h2 first r2 l2 _ HQ4.out HD2.out HSr2.out.2 hl2).mono ?_; intro e w5 hQ; obtain ⟨rfl, l', res', hp1, hs1, hle, hm1⟩ := hQ.out; have HB5 := Aside0.mk (HB4.out.trans hm1.bel); clear hQ hp1 hs1 hle hm1)
            | (go_at_call 23; refine (same_any w.heap.size X g Y h first r1 l1 _ HPr2.out.1 HD.out HSr2.out.1 hl1).mono ?_; intro e w4 hQ; obtain ⟨rfl, l', res', hp1, hs1, hle, hm1⟩ := hQ.out; have HQ4 := Aside0.mk (HPr2.out.2.other hm1 HN2.out); have HB4 := Aside0.mk (HBr2.out.trans hm1.bel); clear hQ hp1 hs1 hle hm1))
          go_ret
          exact ⟨rfl, HB5.out⟩

theorem forks_any (first count : Int) (A : Option Addr) (c : Nat) (ops : List Op4) (A2 : Option Addr) (c2 : Nat) (more : List Op4) (w : World) (ho : OpsAt w A ops) (hol : ops.length ≤ 9223372036854775807) (ho2 : OpsAt w A2 more) (hol2 : more.length ≤ 9223372036854775807) :
    Calls Try.prog 7 #[.agg #[.int .i64 first, .int .i64 count, .slice A ops.length c], .slice A2 more.length c2] w fun e w' => e = .returned (.bool true) ∧ Below w.heap.size w w' := by
  cases hb : okN first count with
  | false => exact forks_bad first count A _ c A2 _ c2 w hb
  | true => exact forks_good first count A c ops A2 c2 more w hb ho hol ho2 hol2
end Go.Proofs.Ytpcgmlnipeigjaa.H
