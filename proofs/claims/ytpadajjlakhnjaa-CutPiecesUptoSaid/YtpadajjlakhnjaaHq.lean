/- The first cut of package cut, as a contract: cut.first, cut.Next. -/
import Derived.Test.YtpadajjlakhnjaaHp
import Derived.Deep.RegionHeld3
import Derived.StillTactics
import Derived.Laws.Pointers
namespace Go.Proofs.Ytpadajjlakhnjaa.H
open Go.RowKit Go.Proofs.YtpadajjlakhnjaaW.PrintWords Go.Proofs.YtpadajjlakhnjaaW.PrintLast Go.Proofs.YtpadajjlakhnjaaW.PrintMore
set_option linter.unusedVariables false
set_option linter.unusedSimpArgs false

set_option maxHeartbeats 1000000 in
theorem first_short (a0 a1 a2 a3 : Int) (A : Option Addr) (c n : Nat) (w : World) (h : (n : Int) ≤ a0) :
    Calls Try.prog 24 #[.agg #[.int .i64 a0, .int .i64 a1, .int .i64 a2, .int .u64 a3], .slice A n c] w fun e w' => e = .returned (.int .i64 n) ∧ Below w.heap.size w w' := by
  have hu24 := Try.underlying24
  have hd : decide ((n : Int) ≤ a0) = true := decide_eq_true h
  clear h
  go_enter Try.func24, Try.ntmps24
  go_wp2
  go_ret
  exact ⟨rfl, below_alloc (Below.refl _ _) _⟩

/-- One round of the scan, by what the walk finds. -/
theorem scan_hit {l : List Int} {kk a1 a3 x i hv y V m : Int} {d : Nat} (hs : (scan l kk a1 a3 (d + 1) x i).getD m = V) (hh : IntKind.u64.wrap (IntKind.u64.wrap (x * 2) + gearV a3 (rd l i)) = hv) (hy : 64 - bitsAt kk a1 i = y) (h0 : y ≤ 64) (ht : (hv / 2 ^ y.toNat == 0) = true) : i = V := by
  have e : shr .u64 hv y = hv / 2 ^ y.toNat := by unfold shr; rw [Nat.min_eq_left (by show y.toNat ≤ 64; omega)]
  simp only [scan, hh, hy, e] at hs
  rw [if_pos (beq_iff_eq.1 ht)] at hs
  exact hs
theorem scan_miss {l : List Int} {kk a1 a3 x i hv y V m : Int} {d : Nat} (hs : (scan l kk a1 a3 (d + 1) x i).getD m = V) (hh : IntKind.u64.wrap (IntKind.u64.wrap (x * 2) + gearV a3 (rd l i)) = hv) (hy : 64 - bitsAt kk a1 i = y) (h0 : y ≤ 64) (ht : (hv / 2 ^ y.toNat == 0) = false) : (scan l kk a1 a3 d hv (i + 1)).getD m = V := by
  have e : shr .u64 hv y = hv / 2 ^ y.toNat := by unfold shr; rw [Nat.min_eq_left (by show y.toNat ≤ 64; omega)]
  simp only [scan, hh, hy, e] at hs
  rw [if_neg (by simpa using ht)] at hs
  exact hs
attribute [local go_sem] min2_int min_two
set_option maxRecDepth 100000 in
set_option maxHeartbeats 2000000 in
theorem first_long (a0 a1 a2 a3 : Int) (A : Option Addr) (c : Nat) (l : List Int) (w : World) (hc : check a0 a1 a2 = 0) (hr : Kd.C (Kd.int .u8) w A l.length l) (h : ¬ (l.length : Int) ≤ a0) :
    Calls Try.prog 24 #[.agg #[.int .i64 a0, .int .i64 a1, .int .i64 a2, .int .u64 a3], .slice A l.length c] w fun e w' => e = .returned (.int .i64 (firstV a0 a1 a2 a3 l)) ∧ Below w.heap.size w w' := by
  have hu24 := Try.underlying24
  have hd : decide ((l.length : Int) ≤ a0) = false := decide_eq_false h
  obtain ⟨hp, c1, c2, c3, c4⟩ := check_ok hc
  obtain ⟨p1, p2⟩ := pows_bound hp
  obtain ⟨l1, l2, _⟩ := lg_spec hp
  have hll : (l.length : Int) ≤ 9223372036854775807 := by have := hr.2.1; omega
  have h' : a0 < (l.length : Int) := by omega
  obtain ⟨V, hV⟩ : ∃ V, firstV a0 a1 a2 a3 l = V := ⟨_, rfl⟩
  rw [hV]
  obtain ⟨m, hm⟩ : ∃ m, (if a2 < (l.length : Int) then a2 else (l.length : Int)) = m := ⟨_, rfl⟩
  have hmin : min (l.length : Int) a2 = m := by rw [← hm]; split <;> omega
  unfold firstV at hV
  rw [if_neg h, hmin] at hV
  have m1 : a0 ≤ m := by omega
  have m2 : m ≤ l.length := by omega
  have HV := Aside0.mk hV
  have HP := Aside0.mk hp
  have HR := Aside0.mk hr
  clear hV hp hr hc h hmin
  go_enter Try.func24, Try.ntmps24
  go_wp2_with (first | (go_at_call 29; refine (len_any HP.out _).mono ?_; rintro e w' ⟨rfl, rfl⟩))
  clear hm
  have hq : (w.alloc (.cells #[.int .i64 a0, .int .i64 a1, .int .i64 a2, .int .u64 a3] 24)).heap[w.heap.size]? = some (.cells #[.int .i64 a0, .int .i64 a1, .int .i64 a2, .int .u64 a3] 24 (0, 0)) := blk_new w _
  have HQ := Aside0.mk hq
  clear hq
  go_loopw [7, 8] (fun hh ii wr => ∃ (d : Nat) (x i : Int), hh = .int .u64 x ∧ ii = .int .i64 i ∧ a0 ≤ i ∧ Aside0 (i + d = m) ∧ Aside0 ((scan l (lg a1) a1 a3 d x i).getD m = V) ∧ Aside0 (wr.heap[w.heap.size]? = some (.cells #[.int .i64 a0, .int .i64 a1, .int .i64 a2, .int .u64 a3] 24 (0, 0))) ∧ Aside0 (Below w.heap.size w wr)) (fun _ ii _ => (m - intOf ii).toNat)
  case atStart => exact ⟨(m - a0).toNat, 0, a0, rfl, rfl, Int.le_refl _, ⟨by omega⟩, HV, HQ, ⟨below_alloc (Below.refl _ _) _⟩⟩
  case round =>
    obtain ⟨d, x, i, rfl, rfl, i0, HD, HS, HB, HW⟩ := hrel
    clear HQ HV
    have hq1 : wr.cell? ⟨w.heap.size, 0, none⟩ = some (.int .i64 a0) := (blk_cell HB.out 0).trans rfl
    have hq2 : wr.cell? ⟨w.heap.size, 1, none⟩ = some (.int .i64 a1) := (blk_cell HB.out 1).trans rfl
    have hq3 : wr.cell? ⟨w.heap.size, 2, none⟩ = some (.int .i64 a2) := (blk_cell HB.out 2).trans rfl
    have hq4 : wr.cell? ⟨w.heap.size, 3, none⟩ = some (.int .u64 a3) := (blk_cell HB.out 3).trans rfl
    cases d with
    | zero =>
      have e : i = m := by have := HD.out; omega
      have hlt : decide (i < m) = false := by simp; omega
      go_wp2
      go_ret
      have hmV := HS.out
      simp only [scan, Option.getD_none] at hmV
      subst hmV
      exact ⟨rfl, HW.out⟩
    | succ d =>
      have hd1 := HD.out
      have hlt : decide (i < m) = true := by simp; omega
      have hi0 : 0 ≤ i := by omega
      have him : i < m := by omega
      have hil : i < (l.length : Int) := by omega
      clear hd1
      obtain ⟨ad, rfl, hx⟩ := Kd.at_int (Kd.C_below HR.out HW.out) i hi0 hil
      have w3 : IntKind.i64.wrap (i + 1) = i + 1 := by rw [IntKind.wrap_i64]; omega
      go_wp2
      have HX := Aside0.mk hx
      have HW' := HW.out
      have HB' := HB.out
      go_region_held3 (fun w' => w'.cell? ⟨w.heap.size, 0, none⟩ = some (.int .i64 a0) ∧ w'.cell? ⟨w.heap.size, 1, none⟩ = some (.int .i64 a1) ∧ w'.cell? ⟨w.heap.size, 2, none⟩ = some (.int .i64 a2) ∧ w'.cell? ⟨w.heap.size, 3, none⟩ = some (.int .u64 a3) ∧ w'.cell? (ad.add i.toNat) = some (.int .u8 (rd l i)) ∧ Below w.heap.size w w') (first | exact ⟨hq1, hq2, hq3, hq4, hx, below_drew HW'⟩ | exact ⟨cell_later hB (by assumption), cell_later hB (by assumption), cell_later hB (by assumption), cell_later hB (by assumption), cell_later hB (by assumption), below_step (by first | assumption | exact below_drew HW') hB⟩) (first | (go_at_call 30; refine (gear_any a0 a1 a2 a3 (rd l i) _).mono ?_; rintro e w' ⟨rfl, hB⟩))
      have hltw : w.heap.size < wr.drew.heap.size := blk_lt HB'
      have hBf := (hB.block w.heap.size hltw).trans HB'
      have HWf := Aside0.mk (below_step (below_drew HW') hB)
      have HBf := Aside0.mk hBf
      obtain ⟨hv, hhv⟩ : ∃ hv, IntKind.u64.wrap (IntKind.u64.wrap (x * 2) + gearV a3 (rd l i)) = hv := ⟨_, rfl⟩
      rw [hhv]
      have HH := Aside0.mk hhv
      have hg1 : w'.cell? ⟨w.heap.size, 1, none⟩ = some (.int .i64 a1) := (blk_cell hBf 1).trans rfl
      clear hhv hq1 hq2 hq3 hq4 hx hB hBf HW' HB' hltw
      rename_i hS
      clear hS
      by_cases ci : i < a1
      · have hci : decide (i < a1) = true := decide_eq_true ci
        go_wp2
        · have ht : (hv / 2 ^ (64 - (lg a1 + 1)).toNat == 0) = true := by assumption
          have hiV := scan_hit HS.out HH.out (show 64 - bitsAt (lg a1) a1 i = 64 - (lg a1 + 1) by rw [show bitsAt (lg a1) a1 i = lg a1 + 1 from if_pos ci]) (by omega) ht
          subst hiV
          go_ret
          exact ⟨rfl, HWf.out⟩
        · have ht : (hv / 2 ^ (64 - (lg a1 + 1)).toNat == 0) = false := by assumption
          go_roundw
          case rel => exact ⟨d, hv, i + 1, rfl, rfl, by omega, ⟨by have := HD.out; omega⟩, ⟨scan_miss HS.out HH.out (show 64 - bitsAt (lg a1) a1 i = 64 - (lg a1 + 1) by rw [show bitsAt (lg a1) a1 i = lg a1 + 1 from if_pos ci]) (by omega) ht⟩, HBf, HWf⟩
          case measure => simp [intOf]; omega
      · have hci : decide (i < a1) = false := decide_eq_false ci
        go_wp2
        · have ht : (hv / 2 ^ (64 - (lg a1 - 1)).toNat == 0) = true := by assumption
          have hiV := scan_hit HS.out HH.out (show 64 - bitsAt (lg a1) a1 i = 64 - (lg a1 - 1) by rw [show bitsAt (lg a1) a1 i = lg a1 - 1 from if_neg (by omega)]) (by omega) ht
          subst hiV
          go_ret
          exact ⟨rfl, HWf.out⟩
        · have ht : (hv / 2 ^ (64 - (lg a1 - 1)).toNat == 0) = false := by assumption
          go_roundw
          case rel => exact ⟨d, hv, i + 1, rfl, rfl, by omega, ⟨by have := HD.out; omega⟩, ⟨scan_miss HS.out HH.out (show 64 - bitsAt (lg a1) a1 i = 64 - (lg a1 - 1) by rw [show bitsAt (lg a1) a1 i = lg a1 - 1 from if_neg (by omega)]) (by omega) ht⟩, HBf, HWf⟩
          case measure => simp [intOf]; omega

theorem first_any (a0 a1 a2 a3 : Int) (A : Option Addr) (c : Nat) (l : List Int) (w : World) (hc : check a0 a1 a2 = 0) (hr : Kd.C (Kd.int .u8) w A l.length l) :
    Calls Try.prog 24 #[.agg #[.int .i64 a0, .int .i64 a1, .int .i64 a2, .int .u64 a3], .slice A l.length c] w fun e w' => e = .returned (.int .i64 (firstV a0 a1 a2 a3 l)) ∧ Below w.heap.size w w' := by
  by_cases h : (l.length : Int) ≤ a0
  · rw [show firstV a0 a1 a2 a3 l = l.length from if_pos h]
    exact first_short a0 a1 a2 a3 A c l.length w h
  · exact first_long a0 a1 a2 a3 A c l w hc hr h

set_option maxHeartbeats 1000000 in
theorem next_ok (a0 a1 a2 a3 : Int) (A : Option Addr) (c : Nat) (l : List Int) (w : World) (hc : check a0 a1 a2 = 0) (hr : Kd.C (Kd.int .u8) w A l.length l) :
    Calls Try.prog 8 #[.agg #[.int .i64 a0, .int .i64 a1, .int .i64 a2, .int .u64 a3], .slice A l.length c] w fun e w' => e = .returned (.tuple #[.int .i64 (firstV a0 a1 a2 a3 l), .int .i64 0]) ∧ Below w.heap.size w w' := by
  have hu24 := Try.underlying24
  have HC := Aside0.mk hc
  have HR := Aside0.mk hr
  clear hc hr
  go_enter Try.func8, Try.ntmps8
  go_wp2_with (first | (go_at_call 11; refine (check_any a0 a1 a2 a3 _).mono ?_; rintro e w1 ⟨rfl, hB⟩; rw [HC.out]; have hq := (hB.block w.heap.size (by simp)).trans (blk_new w _); have hq1 := (blk_cell hq 0).trans rfl; have hq2 := (blk_cell hq 1).trans rfl; have hq3 := (blk_cell hq 2).trans rfl; have hq4 := (blk_cell hq 3).trans rfl; have HB := Aside0.mk (below_step (below_alloc (Below.refl _ _) _) hB); clear hB hq) | (go_at_call 24; refine (first_any a0 a1 a2 a3 A c l _ HC.out (Kd.C_below HR.out HB.out)).mono ?_; rintro e w2 ⟨rfl, hB⟩; have HB2 := Aside0.mk (below_step HB.out hB); clear hB))
  go_ret2
  exact ⟨rfl, HB2.out⟩

set_option maxHeartbeats 1000000 in
theorem next_bad (a0 a1 a2 a3 : Int) (v : Value) (w : World) (hc : check a0 a1 a2 = 50) :
    Calls Try.prog 8 #[.agg #[.int .i64 a0, .int .i64 a1, .int .i64 a2, .int .u64 a3], v] w fun e w' => e = .returned (.tuple #[.int .i64 0, .int .i64 50]) ∧ Below w.heap.size w w' := by
  have hu24 := Try.underlying24
  have HC := Aside0.mk hc
  clear hc
  go_enter Try.func8, Try.ntmps8
  go_wp2_with (first | (go_at_call 11; refine (check_any a0 a1 a2 a3 _).mono ?_; rintro e w1 ⟨rfl, hB⟩; rw [HC.out]; have HB := Aside0.mk (below_step (below_alloc (Below.refl _ _) _) hB); clear hB))
  go_ret2
  exact ⟨rfl, HB.out⟩
def nextV (a0 a1 a2 a3 : Int) (l : List Int) : Int := if check a0 a1 a2 = 0 then firstV a0 a1 a2 a3 l else 0
theorem next_any (a0 a1 a2 a3 : Int) (A : Option Addr) (c : Nat) (l : List Int) (w : World) (hr : Kd.C (Kd.int .u8) w A l.length l) :
    Calls Try.prog 8 #[.agg #[.int .i64 a0, .int .i64 a1, .int .i64 a2, .int .u64 a3], .slice A l.length c] w fun e w' => e = .returned (.tuple #[.int .i64 (nextV a0 a1 a2 a3 l), .int .i64 (check a0 a1 a2)]) ∧ Below w.heap.size w w' := by
  by_cases h : check a0 a1 a2 = 0
  · rw [show nextV a0 a1 a2 a3 l = firstV a0 a1 a2 a3 l from if_pos h, h]
    exact next_ok a0 a1 a2 a3 A c l w h hr
  · rw [show nextV a0 a1 a2 a3 l = 0 from if_neg h, check_else h]
    exact next_bad a0 a1 a2 a3 _ w (check_else h)
end Go.Proofs.Ytpadajjlakhnjaa.H
