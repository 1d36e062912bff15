/- deduplaw06.SpaceDoes and SpaceLooks, every script. -/
import Derived.Test.YtpcgmlnipeigjaaUl
namespace Go.Proofs.Ytpcgmlnipeigjaa.H
open Go.RowKit Go.Shelf Go.Proofs.YtpcgmlnipeigjaaW.PrintWords Go.Proofs.YtpcgmlnipeigjaaW.PrintLast Go.Proofs.YtpcgmlnipeigjaaW.PrintMore
set_option linter.unusedVariables false
set_option linter.unusedSimpArgs false

theorem repl_sane {first count : Int} (hb : okN first count = true) : Sane first (List.replicate count.toNat 0) 0 ∧ 0 < (List.replicate count.toNat (0 : Int)).length := by
  unfold okN at hb
  simp at hb
  refine ⟨⟨by omega, by rw [List.length_replicate]; omega, fun x hx => .inl (List.eq_of_mem_replicate hx), by omega, (cnt_nn _ _).1⟩, by rw [List.length_replicate]; omega⟩


set_option maxRecDepth 100000 in
set_option maxHeartbeats 4000000 in
theorem doesL_bad (first count : Int) (A : Option Addr) (n c : Nat) (w : World) (hb : okN first count = false) :
    Calls Try.prog 5 #[.agg #[.int .i64 first, .int .i64 count, .slice A n c]] w fun e w' => e = .returned (.bool true) ∧ Below w.heap.size w w' := by
  have hu24 := Try.underlying24
  have HB := Aside0.mk hb
  have HBb := Aside0.mk (below_alloc (Below.refl w.heap.size w) (.cells #[.int .i64 first, .int .i64 count, .slice A n c] 24))
  clear hb
  go_enter Try.func5, Try.ntmps5
  go_wp2_with (go_at_call 10; refine (begin_bad first count A n c _ HB.out).mono ?_; rintro e w1 ⟨rfl, hB⟩; have HB1 := Aside0.mk (below_step HBb.out hB); clear hB)
  go_ret
  exact ⟨rfl, HB1.out⟩


set_option maxRecDepth 100000 in
set_option maxHeartbeats 4000000 in
theorem doesL_good (first count : Int) (A : Option Addr) (c : Nat) (ops : List Op4) (w : World) (hb : okN first count = true) (ho : OpsAt w A ops) (hol : ops.length ≤ 9223372036854775807) :
    Calls Try.prog 5 #[.agg #[.int .i64 first, .int .i64 count, .slice A ops.length c]] w fun e w' => e = .returned (.bool true) ∧ Below w.heap.size w w' := by
  have hu24 := Try.underlying24
  have hu33 := Try.underlying33
  have hu31 := Try.underlying31
  have hu22 := Try.underlying22
  have HO := Aside0.mk ho
  have HB := Aside0.mk hb
  have HQ := Aside0.mk (blk_new w (.cells #[.int .i64 first, .int .i64 count, .slice A ops.length c] 24))
  have HBb := Aside0.mk (below_alloc (Below.refl w.heap.size w) (.cells #[.int .i64 first, .int .i64 count, .slice A ops.length c] 24))
  have lt_of : ∀ {k : Nat}, (w.alloc (.cells #[.int .i64 first, .int .i64 count, .slice A ops.length c] 24)).heap.size ≤ k → w.heap.size ≤ k := fun {k} h => by rw [World.size_alloc] at h; omega
  have hsl := repl_sane hb
  clear hb ho
  go_enter Try.func5, Try.ntmps5
  go_wp2_with (go_at_call 10; refine (begin_good first count A ops.length c _ HB.out).mono ?_; intro e w1 hP; obtain ⟨X, g, Y, h, rfl, hX, hg, hY, hh, n1, n2, n3, n4, hS, hR, hBl⟩ := hP.out; have hq := (hBl.block w.heap.size (blk_lt HQ.out)).trans HQ.out; have hq2 := (blk_cell hq 2).trans rfl; have HD := Aside0.mk (show Dj w.heap.size X g Y h from ⟨n1, n2, n3, n4, lt_of hX, lt_of hg, lt_of hY, lt_of hh⟩); have HP1 := Aside0.mk (show PrAt w1 X g Y h first _ 0 from ⟨hS, hR⟩); have HB1 := Aside0.mk (below_step HBb.out hBl); clear hP hX hg hY hh n1 n2 n3 n4 hS hR hBl hq)
  obtain ⟨l0, hl0⟩ : ∃ l0, List.replicate count.toNat (0 : Int) = l0 := ⟨_, rfl⟩
  have hP1 := HP1.out
  rw [hl0] at hP1 hsl
  have HP := Aside0.mk hP1
  have HS := Aside0.mk hsl.1
  have hlp := hsl.2
  clear hP1 hsl hl0 lt_of hq2
  go_loopw [24] (fun iv wr => ∃ (i : Int) (l : List Int) (res : Int), iv = .int .i64 i ∧ 0 ≤ i ∧ i ≤ ops.length ∧ l.length = l0.length ∧ Aside0 (PrAt wr X g Y h first l res) ∧ Aside0 (Sane first l res) ∧ Aside0 (Below w.heap.size w wr)) (fun iv _ => (ops.length - intOf iv).toNat)
  case atStart => exact ⟨0, l0, 0, rfl, Int.le_refl _, by omega, rfl, HP, HS, HB1⟩
  case round =>
    obtain ⟨i, l, res, rfl, i0, i1, hlc, HPr, HSr, HBr⟩ := hrel
    have hl : 0 < l.length := by omega
    have HLc := Aside0.mk hlc
    clear hlc
    by_cases hlt : i < (ops.length : Int)
    · have w9 : wrap64 (i + 1) = i + 1 := by unfold wrap64; omega
      have hlt1 : decide (i < (ops.length : Int)) = true := decide_eq_true hlt
      obtain ⟨⟨kd, n, a0, a1⟩, hop⟩ : ∃ o, ops[i.toNat]? = some o := ⟨_, List.getElem?_eq_getElem (by omega)⟩
      obtain ⟨b1, b2, b3, b4, ad, rfl, c0, c1, c2, c3⟩ := HO.out i.toNat _ hop
      have c0 := cell_later HBr.out c0
      have c1 := cell_later HBr.out c1
      have c2 := cell_later HBr.out c2
      have c3 := cell_later HBr.out c3
      dsimp only at b1 b2 b3 b4 c0 c1 c2 c3
      have Hb3 := Aside0.mk (And.intro b2.2 b3.2)
      have hba := below_alloc (Below.refl wr.heap.size wr) (.cells #[.int .i64 kd, .int .i64 n, .int .i64 a0, .int .i64 a1] 33)
      have HPa := Aside0.mk (HPr.out.below hba)
      have HBa := Aside0.mk (below_step HBr.out hba)
      clear b1 b2 b3 b4 hop hba
      go_wp2_with (go_at_call 22; refine (does_any w.heap.size X g Y h first res kd n a0 a1 l _ HPa.out HD.out HSr.out hl Hb3.out.2 Hb3.out.1).mono ?_; intro e w2 hQ; obtain ⟨rfl, l', res', hp1, hs1, hl1, hm1⟩ := hQ.out; have HP2 := Aside0.mk hp1; have HS2 := Aside0.mk hs1; have HL2 := Aside0.mk (hl1.trans HLc.out); have HB2 := Aside0.mk (HBa.out.trans hm1.bel); clear hQ hp1 hs1 hl1 hm1)
      exact ⟨⟨i + 1, l', res', rfl, by omega, by omega, HL2.out, HP2, HS2, HB2⟩, by simp [intOf]; omega⟩
    · have hlt1 : decide (i < (ops.length : Int)) = false := decide_eq_false hlt
      go_wp2_with (go_at_call 23; refine (same_any w.heap.size X g Y h first res l _ HPr.out HD.out HSr.out hl).mono ?_; intro e w2 hQ; obtain ⟨rfl, l', res', hp1, hs1, hl1, hm1⟩ := hQ.out; have HB2 := Aside0.mk (HBr.out.trans hm1.bel); clear hQ hp1 hs1 hl1 hm1)
      go_ret
      exact ⟨rfl, HB2.out⟩

theorem doesL_any (first count : Int) (A : Option Addr) (c : Nat) (ops : List Op4) (w : World) (ho : OpsAt w A ops) (hol : ops.length ≤ 9223372036854775807) :
    Calls Try.prog 5 #[.agg #[.int .i64 first, .int .i64 count, .slice A ops.length c]] w fun e w' => e = .returned (.bool true) ∧ Below w.heap.size w w' := by
  cases hb : okN first count with
  | false => exact doesL_bad first count A _ c w hb
  | true => exact doesL_good first count A c ops w hb ho hol


set_option maxRecDepth 100000 in
set_option maxHeartbeats 4000000 in
theorem looksL_bad (first count : Int) (A : Option Addr) (n c : Nat) (w : World) (hb : okN first count = false) :
    Calls Try.prog 6 #[.agg #[.int .i64 first, .int .i64 count, .slice A n c]] w fun e w' => e = .returned (.bool true) ∧ Below w.heap.size w w' := by
  have hu24 := Try.underlying24
  have HB := Aside0.mk hb
  have HBb := Aside0.mk (below_alloc (Below.refl w.heap.size w) (.cells #[.int .i64 first, .int .i64 count, .slice A n c] 24))
  clear hb
  go_enter Try.func6, Try.ntmps6
  go_wp2_with (go_at_call 10; refine (begin_bad first count A n c _ HB.out).mono ?_; rintro e w1 ⟨rfl, hB⟩; have HB1 := Aside0.mk (below_step HBb.out hB); clear hB)
  go_ret
  exact ⟨rfl, HB1.out⟩


set_option maxRecDepth 100000 in
set_option maxHeartbeats 4000000 in
theorem looksL_good (first count : Int) (A : Option Addr) (c : Nat) (ops : List Op4) (w : World) (hb : okN first count = true) (ho : OpsAt w A ops) (hol : ops.length ≤ 9223372036854775807) :
    Calls Try.prog 6 #[.agg #[.int .i64 first, .int .i64 count, .slice A ops.length c]] w fun e w' => e = .returned (.bool true) ∧ Below w.heap.size w w' := by
  have hu24 := Try.underlying24
  have hu33 := Try.underlying33
  have hu31 := Try.underlying31
  have hu22 := Try.underlying22
  have HO := Aside0.mk ho
  have HB := Aside0.mk hb
  have HQ := Aside0.mk (blk_new w (.cells #[.int .i64 first, .int .i64 count, .slice A ops.length c] 24))
  have HBb := Aside0.mk (below_alloc (Below.refl w.heap.size w) (.cells #[.int .i64 first, .int .i64 count, .slice A ops.length c] 24))
  have lt_of : ∀ {k : Nat}, (w.alloc (.cells #[.int .i64 first, .int .i64 count, .slice A ops.length c] 24)).heap.size ≤ k → w.heap.size ≤ k := fun {k} h => by rw [World.size_alloc] at h; omega
  have hsl := repl_sane hb
  clear hb ho
  go_enter Try.func6, Try.ntmps6
  go_wp2_with (go_at_call 10; refine (begin_good first count A ops.length c _ HB.out).mono ?_; intro e w1 hP; obtain ⟨X, g, Y, h, rfl, hX, hg, hY, hh, n1, n2, n3, n4, hS, hR, hBl⟩ := hP.out; have hq := (hBl.block w.heap.size (blk_lt HQ.out)).trans HQ.out; have hq2 := (blk_cell hq 2).trans rfl; have HD := Aside0.mk (show Dj w.heap.size X g Y h from ⟨n1, n2, n3, n4, lt_of hX, lt_of hg, lt_of hY, lt_of hh⟩); have HP1 := Aside0.mk (show PrAt w1 X g Y h first _ 0 from ⟨hS, hR⟩); have HB1 := Aside0.mk (below_step HBb.out hBl); clear hP hX hg hY hh n1 n2 n3 n4 hS hR hBl hq)
  obtain ⟨l0, hl0⟩ : ∃ l0, List.replicate count.toNat (0 : Int) = l0 := ⟨_, rfl⟩
  have hP1 := HP1.out
  rw [hl0] at hP1 hsl
  have HP := Aside0.mk hP1
  have HS := Aside0.mk hsl.1
  have hlp := hsl.2
  clear hP1 hsl hl0 lt_of hq2
  go_loopw [24] (fun iv wr => ∃ (i : Int) (l : List Int) (res : Int), iv = .int .i64 i ∧ 0 ≤ i ∧ i ≤ ops.length ∧ l.length = l0.length ∧ Aside0 (PrAt wr X g Y h first l res) ∧ Aside0 (Sane first l res) ∧ Aside0 (Below w.heap.size w wr)) (fun iv _ => (ops.length - intOf iv).toNat)
  case atStart => exact ⟨0, l0, 0, rfl, Int.le_refl _, by omega, rfl, HP, HS, HB1⟩
  case round =>
    obtain ⟨i, l, res, rfl, i0, i1, hlc, HPr, HSr, HBr⟩ := hrel
    have hl : 0 < l.length := by omega
    have HLc := Aside0.mk hlc
    clear hlc
    by_cases hlt : i < (ops.length : Int)
    · have w9 : wrap64 (i + 1) = i + 1 := by unfold wrap64; omega
      have hlt1 : decide (i < (ops.length : Int)) = true := decide_eq_true hlt
      obtain ⟨⟨kd, n, a0, a1⟩, hop⟩ : ∃ o, ops[i.toNat]? = some o := ⟨_, List.getElem?_eq_getElem (by omega)⟩
      obtain ⟨b1, b2, b3, b4, ad, rfl, c0, c1, c2, c3⟩ := HO.out i.toNat _ hop
      have c0 := cell_later HBr.out c0
      have c1 := cell_later HBr.out c1
      have c2 := cell_later HBr.out c2
      have c3 := cell_later HBr.out c3
      dsimp only at b1 b2 b3 b4 c0 c1 c2 c3
      have Hb3 := Aside0.mk (And.intro b2.2 b3.2)
      have hba := below_alloc (Below.refl wr.heap.size wr) (.cells #[.int .i64 kd, .int .i64 n, .int .i64 a0, .int .i64 a1] 33)
      have HPa := Aside0.mk (HPr.out.below hba)
      have HBa := Aside0.mk (below_step HBr.out hba)
      clear b1 b2 b3 b4 hop hba
      go_wp2_with (first
        | (go_at_call 22; refine (does_any w.heap.size X g Y h first res kd n a0 a1 l _ HPa.out HD.out HSr.out hl Hb3.out.2 Hb3.out.1).mono ?_; intro e w2 hQ; obtain ⟨rfl, l', res', hp1, hs1, hl1, hm1⟩ := hQ.out; have HP2 := Aside0.mk hp1; have HS2 := Aside0.mk hs1; have HL2 := Aside0.mk (hl1.trans HLc.out); have HB2 := Aside0.mk (HBa.out.trans hm1.bel); clear hQ hp1 hs1 hl1 hm1)
        | (go_at_call 23; refine (same_any w.heap.size X g Y h first res' l' _ HP2.out HD.out HS2.out (by have := HL2.out; omega)).mono ?_; intro e w3 hQ; obtain ⟨rfl, l3, res3, hp1, hs1, hl1, hm1⟩ := hQ.out; have HP3 := Aside0.mk hp1; have HS3 := Aside0.mk hs1; have HL3 := Aside0.mk (hl1.trans HL2.out); have HB3 := Aside0.mk (HB2.out.trans hm1.bel); clear hQ hp1 hs1 hl1 hm1))
      exact ⟨⟨i + 1, l3, res3, rfl, by omega, by omega, HL3.out, HP3, HS3, HB3⟩, by simp [intOf]; omega⟩
    · have hlt1 : decide (i < (ops.length : Int)) = false := decide_eq_false hlt
      go_wp2
      go_ret
      exact ⟨rfl, HBr.out⟩

theorem looksL_any (first count : Int) (A : Option Addr) (c : Nat) (ops : List Op4) (w : World) (ho : OpsAt w A ops) (hol : ops.length ≤ 9223372036854775807) :
    Calls Try.prog 6 #[.agg #[.int .i64 first, .int .i64 count, .slice A ops.length c]] w fun e w' => e = .returned (.bool true) ∧ Below w.heap.size w w' := by
  cases hb : okN first count with
  | false => exact looksL_bad first count A _ c w hb
  | true => exact looksL_good first count A c ops w hb ho hol

end Go.Proofs.Ytpcgmlnipeigjaa.H
