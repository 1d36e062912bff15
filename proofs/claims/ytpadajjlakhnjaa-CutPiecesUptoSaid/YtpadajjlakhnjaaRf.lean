/- The reference's first and Next as contracts, by hand. -/
import Derived.Test.YtpadajjlakhnjaaSm
import Derived.Test.YtpadajjlakhnjaaHq
import Derived.Deep.RegionHeld3
namespace Go.Proofs.Ytpadajjlakhnjaa.H
open Go.RowKit Go.Shelf Go.Proofs.YtpadajjlakhnjaaW.PrintWords Go.Proofs.YtpadajjlakhnjaaW.PrintLast Go.Proofs.YtpadajjlakhnjaaW.PrintMore
set_option linter.unusedVariables false
set_option linter.unusedSimpArgs false

theorem sure_facts {a0 a1 a2 m : Int} (a3 : Int) (hc : check a0 a1 a2 = 0) (l : List Int) (hm : min (l.length : Int) a2 = m) (h : ¬ ((l.length : Int) ≤ a0 ∧ (l.length : Int) < a2)) :
    (scan l (lg a1) a1 a3 (m - a0).toNat 0 a0).getD m = firstV a0 a1 a2 a3 l ∧ (∀ i, i < m → i = firstV a0 a1 a2 a3 l → sureV a0 a1 a2 a3 l = true) ∧ (firstV a0 a1 a2 a3 l = m → sureV a0 a1 a2 a3 l = (m == a2)) := by
  have hk := check_ok hc
  refine ⟨?_, ?_, ?_⟩
  · unfold firstV
    by_cases h1 : (l.length : Int) ≤ a0
    · rw [if_pos h1, show (m - a0).toNat = 0 by omega]
      simp only [scan, Option.getD_none]
      omega
    · rw [if_neg h1, hm]
  · intro i hi he
    unfold sureV
    rw [← he]
    have : (i == (l.length : Int)) = false := by simp; omega
    simp [this]
  · intro he
    unfold sureV
    rw [he]
    by_cases h1 : (l.length : Int) < a2
    · have h2 : m = l.length := by omega
      have h3 : m < a2 := by omega
      have h4 : (m == a2) = false := by simp; omega
      have h5 : (m == (l.length : Int)) = true := by simp [h2]
      rw [h4, h5, decide_eq_true h3]
      rfl
    · have h2 : m = a2 := by omega
      simp [h2]
theorem pow_wrap (j : Int) (h0 : 0 ≤ j) (hj : j ≤ 16) : wrap64 (2 ^ j.toNat) = 2 ^ j.toNat := by
  obtain ⟨k, rfl⟩ := Int.eq_ofNat_of_zero_le h0
  have hc : k = 0 ∨ k = 1 ∨ k = 2 ∨ k = 3 ∨ k = 4 ∨ k = 5 ∨ k = 6 ∨ k = 7 ∨ k = 8 ∨ k = 9 ∨ k = 10 ∨ k = 11 ∨ k = 12 ∨ k = 13 ∨ k = 14 ∨ k = 15 ∨ k = 16 := by omega
  rcases hc with rfl | rfl | rfl | rfl | rfl | rfl | rfl | rfl | rfl | rfl | rfl | rfl | rfl | rfl | rfl | rfl | rfl <;> decide +kernel
theorem shl_lt {a1 j : Int} (hp : a1 ∈ pows) (h0 : 0 ≤ j) (hj : j ≤ lg a1) : decide (wrap64 (2 ^ j.toNat) < a1) = decide (j < lg a1) := by
  obtain ⟨l1, l2, l3⟩ := lg_spec hp
  rw [pow_wrap j h0 (by omega)]
  obtain ⟨L, hL⟩ : ∃ L, lg a1 = L := ⟨_, rfl⟩
  rw [hL] at l1 l2 l3 hj ⊢
  congr 1
  apply propext
  rw [← l3]
  constructor
  · intro h
    apply Classical.byContradiction
    intro hn
    have : j = L := by omega
    rw [this] at h
    omega
  · intro h
    have h2 : (2 : Int) ^ j.toNat < 2 ^ L.toNat := by
      have := Nat.pow_lt_pow_right (a := 2) (by omega) (show j.toNat < L.toNat by omega)
      exact_mod_cast this
    exact h2

set_option maxHeartbeats 1000000 in
theorem rfirst_short (a0 a1 a2 a3 : Int) (A : Option Addr) (c n : Nat) (w : World) (h : (n : Int) ≤ a0) (h2 : (n : Int) < a2) :
    Calls Try.prog 25 #[.agg #[.int .i64 a0, .int .i64 a1, .int .i64 a2, .int .u64 a3], .slice A n c] w fun e w' => e = .returned (.tuple #[.int .i64 n, .bool false]) ∧ Below w.heap.size w w' := by
  have hu24 := Try.underlying24
  have hd : decide ((n : Int) ≤ a0) = true := decide_eq_true h
  have hd2 : decide ((n : Int) < a2) = true := decide_eq_true h2
  clear h h2
  go_enter Try.func25, Try.ntmps25
  go_wp2
  go_ret2
  exact ⟨rfl, below_alloc (Below.refl _ _) _⟩

set_option maxRecDepth 100000 in
set_option maxHeartbeats 4000000 in
theorem rfirst_long (a0 a1 a2 a3 : Int) (A : Option Addr) (c : Nat) (l : List Int) (w : World) (hc : check a0 a1 a2 = 0) (hr : Kd.C (Kd.int .u8) w A l.length l) (h : ¬ ((l.length : Int) ≤ a0 ∧ (l.length : Int) < a2)) :
    Calls Try.prog 25 #[.agg #[.int .i64 a0, .int .i64 a1, .int .i64 a2, .int .u64 a3], .slice A l.length c] w fun e w' => e = .returned (.tuple #[.int .i64 (firstV a0 a1 a2 a3 l), .bool (sureV a0 a1 a2 a3 l)]) ∧ Below w.heap.size w w' := by
  have hu24 := Try.underlying24
  obtain ⟨m, hm⟩ : ∃ m, min (l.length : Int) a2 = m := ⟨_, rfl⟩
  obtain ⟨f1, f2, f3⟩ := sure_facts a3 hc l hm h
  obtain ⟨V, hV⟩ : ∃ V, firstV a0 a1 a2 a3 l = V := ⟨_, rfl⟩
  obtain ⟨Sv, hSv⟩ : ∃ Sv, sureV a0 a1 a2 a3 l = Sv := ⟨_, rfl⟩
  rw [hV, hSv] at f2 f3
  rw [hV] at f1
  rw [hV, hSv]
  obtain ⟨hp, c1, c2, c3, c4⟩ := check_ok hc
  obtain ⟨p1, p2⟩ := pows_bound hp
  obtain ⟨l1, l2, _⟩ := lg_spec hp
  have hll : (l.length : Int) ≤ 9223372036854775807 := by have := hr.2.1; omega
  have hg : decide ((l.length : Int) ≤ a0) = false ∨ (decide ((l.length : Int) ≤ a0) = true ∧ decide ((l.length : Int) < a2) = false) := by
    by_cases h1 : (l.length : Int) ≤ a0
    · exact .inr ⟨decide_eq_true h1, decide_eq_false (fun h2 => h ⟨h1, h2⟩)⟩
    · exact .inl (decide_eq_false h1)
  have hgm : (decide (a2 < (l.length : Int)) = true ∧ m = a2) ∨ (decide (a2 < (l.length : Int)) = false ∧ m = l.length) := by
    by_cases h1 : a2 < (l.length : Int)
    · exact .inl ⟨decide_eq_true h1, by omega⟩
    · exact .inr ⟨decide_eq_false h1, by omega⟩
  have m1 : a0 ≤ m := by omega
  have m2 : m ≤ l.length := by omega
  have HF1 := Aside0.mk f1
  have HF2 := Aside0.mk f2
  have HF3 := Aside0.mk f3
  have HP := Aside0.mk hp
  have HR := Aside0.mk hr
  obtain ⟨L, hL⟩ : ∃ L, lg a1 = L := ⟨_, rfl⟩
  have HLg := Aside0.mk hL
  rw [hL] at l1 l2
  clear hV hp hr hc h hm f1 f2 f3 hSv hL
  have hq : (w.alloc (.cells #[.int .i64 a0, .int .i64 a1, .int .i64 a2, .int .u64 a3] 24)).heap[w.heap.size]? = some (.cells #[.int .i64 a0, .int .i64 a1, .int .i64 a2, .int .u64 a3] 24 (0, 0)) := blk_new w _
  have HQ := Aside0.mk hq
  clear hq
  rcases hg with hg | ⟨hg, hg2⟩
  all_goals
    go_enter Try.func25, Try.ntmps25
    go_wp2
    go_loopw [7] (fun kv wr => ∃ j : Int, kv = .int .i64 j ∧ 0 ≤ j ∧ j ≤ L ∧ Aside0 (wr.heap[w.heap.size]? = some (.cells #[.int .i64 a0, .int .i64 a1, .int .i64 a2, .int .u64 a3] 24 (0, 0))) ∧ Aside0 (Below w.heap.size w wr)) (fun kv _ => (L - intOf kv).toNat)
    case atStart => exact ⟨0, rfl, Int.le_refl _, by omega, HQ, ⟨below_alloc (Below.refl _ _) _⟩⟩
    case round =>
      obtain ⟨j, rfl, j0, j1, HB, HW⟩ := hrel
      clear HQ
      have hq1 : wr.cell? ⟨w.heap.size, 0, none⟩ = some (.int .i64 a0) := (blk_cell HB.out 0).trans rfl
      have hq2 : wr.cell? ⟨w.heap.size, 1, none⟩ = some (.int .i64 a1) := (blk_cell HB.out 1).trans rfl
      have hq3 : wr.cell? ⟨w.heap.size, 2, none⟩ = some (.int .i64 a2) := (blk_cell HB.out 2).trans rfl
      have hq4 : wr.cell? ⟨w.heap.size, 3, none⟩ = some (.int .u64 a3) := (blk_cell HB.out 3).trans rfl
      have hsh := shl_lt HP.out j0 (by rw [HLg.out]; exact j1)
      rw [HLg.out] at hsh
      have jn : decide (j < 0) = false := decide_eq_false (by omega)
      by_cases hj : j < L
      · rw [decide_eq_true hj] at hsh
        have w3 : wrap64 (j + 1) = j + 1 := by unfold wrap64; omega
        go_wp2
        go_quiet (fail)
        go_wp2
        go_roundw
        case rel => exact ⟨j + 1, by first | rfl | rw [w3], by omega, by omega, ⟨by first | exact HB.out | simpa using HB.out⟩, ⟨by first | exact pw_below_drewN HW.out _ | exact below_drew HW.out⟩⟩
        case measure => simp [intOf]; omega
      · rw [decide_eq_false hj] at hsh
        obtain rfl : j = L := by omega
        rcases hgm with ⟨hgm, rfl⟩ | ⟨hgm, rfl⟩
        · go_wp2
          go_quiet (fail)
          go_wp2
          have HBq := Aside0.mk (show (wr.drewN nq).heap[w.heap.size]? = some (.cells #[.int .i64 a0, .int .i64 a1, .int .i64 m, .int .u64 a3] 24 (0, 0)) from HB.out)
          have HWq := Aside0.mk (show Below w.heap.size w (wr.drewN nq) from pw_below_drewN HW.out _)
          clear hq1 hq2 hq3 hq4
          go_loopw [9, 10] (fun hh ii wz => ∃ (d : Nat) (x i : Int), hh = .int .u64 x ∧ ii = .int .i64 i ∧ a0 ≤ i ∧ Aside0 (i + d = m) ∧ Aside0 ((scan l j a1 a3 d x i).getD m = V) ∧ Aside0 (wz.heap[w.heap.size]? = some (.cells #[.int .i64 a0, .int .i64 a1, .int .i64 m, .int .u64 a3] 24 (0, 0))) ∧ Aside0 (Below w.heap.size w wz)) (fun _ ii _ => (m - intOf ii).toNat)
          case atStart => exact ⟨(m - a0).toNat, 0, a0, rfl, rfl, Int.le_refl _, ⟨by omega⟩, ⟨by have := HF1.out; rwa [HLg.out] at this⟩, HBq, HWq⟩
          case round =>
            obtain ⟨d, x, i, rfl, rfl, i0, HD, HS, HBz, HWz⟩ := hrel
            clear HBq HWq HB HW
            have hq1 : wr.cell? ⟨w.heap.size, 0, none⟩ = some (.int .i64 a0) := (blk_cell HBz.out 0).trans rfl
            have hq2 : wr.cell? ⟨w.heap.size, 1, none⟩ = some (.int .i64 a1) := (blk_cell HBz.out 1).trans rfl
            have hq3 : wr.cell? ⟨w.heap.size, 2, none⟩ = some (.int .i64 m) := (blk_cell HBz.out 2).trans rfl
            have hq4 : wr.cell? ⟨w.heap.size, 3, none⟩ = some (.int .u64 a3) := (blk_cell HBz.out 3).trans rfl
            cases d with
            | zero =>
              have e : i = m := by have := HD.out; omega
              have hlt : decide (i < m) = false := by simp; omega
              have hmV := HS.out
              simp only [scan, Option.getD_none] at hmV
              have hSe := HF3.out hmV.symm
              have HSe := Aside0.mk hSe
              have HmV := Aside0.mk hmV
              clear hSe e hmV
              go_wp2
              go_quiet (fail)
              go_wp2
              go_ret2
              rw [HSe.out, ← HmV.out]
              try rw [beq_self_eq_true]
              exact ⟨rfl, pw_below_drewN HWz.out _⟩
            | succ d =>
              have hd1 := HD.out
              have hlt : decide (i < m) = true := by simp; omega
              have hi0 : 0 ≤ i := by omega
              have him : i < m := by omega
              have hil : i < (l.length : Int) := by omega
              clear hd1
              obtain ⟨ad, rfl, hx⟩ := Kd.at_int (Kd.C_below HR.out HWz.out) i hi0 hil
              have w3 : wrap64 (i + 1) = i + 1 := by unfold wrap64; omega
              go_wp2
              have HX := Aside0.mk hx
              have HW' := HWz.out
              have HB' := HBz.out
              go_region_held3 (fun w' => w'.cell? ⟨w.heap.size, 0, none⟩ = some (.int .i64 a0) ∧ w'.cell? ⟨w.heap.size, 1, none⟩ = some (.int .i64 a1) ∧ w'.cell? ⟨w.heap.size, 2, none⟩ = some (.int .i64 m) ∧ w'.cell? ⟨w.heap.size, 3, none⟩ = some (.int .u64 a3) ∧ w'.cell? (ad.add i.toNat) = some (.int .u8 (rd l i)) ∧ Below w.heap.size w w') (first | exact ⟨hq1, hq2, hq3, hq4, hx, below_drew HW'⟩ | exact ⟨cell_later hB (by assumption), cell_later hB (by assumption), cell_later hB (by assumption), cell_later hB (by assumption), cell_later hB (by assumption), below_step (by first | assumption | exact below_drew HW') hB⟩) (first | (go_at_call 31; refine (mix_any a3 (rd l i) _).mono ?_; rintro e w' ⟨rfl, hB⟩))
              have hltw : w.heap.size < wr.drew.heap.size := blk_lt HB'
              have hBf := (hB.block w.heap.size hltw).trans HB'
              have HWf := Aside0.mk (below_step (below_drew HW') hB)
              have HBf := Aside0.mk hBf
              obtain ⟨hv, hhv⟩ : ∃ hv, IntKind.u64.wrap (IntKind.u64.wrap (2 * x) + gearV a3 (rd l i)) = hv := ⟨_, rfl⟩
              rw [hhv]
              have HH := Aside0.mk (show IntKind.u64.wrap (IntKind.u64.wrap (x * 2) + gearV a3 (rd l i)) = hv by rw [Int.mul_comm x 2]; exact hhv)
              have hg1 : w'.cell? ⟨w.heap.size, 1, none⟩ = some (.int .i64 a1) := (blk_cell hBf 1).trans rfl
              clear hhv hq1 hq2 hq3 hq4 hx hB hBf HW' HB' hltw
              rename_i hSx
              clear hSx
              have b1 : wrap64 (j - 1) = j - 1 := by unfold wrap64; omega
              have b2 : wrap64 (j + 1) = j + 1 := by unfold wrap64; omega
              have b3 : wrap64 (64 - (j - 1)) = 64 - (j - 1) := by unfold wrap64; omega
              have b4 : wrap64 (64 - (j + 1)) = 64 - (j + 1) := by unfold wrap64; omega
              by_cases ci : i < a1
              · have hci : decide (i < a1) = true := decide_eq_true ci
                go_wp2
                · have ht : (hv / 2 ^ (64 - (j + 1)).toNat == 0) = true := by assumption
                  have hiV := scan_hit HS.out HH.out (show 64 - bitsAt j a1 i = 64 - (j + 1) by rw [show bitsAt j a1 i = j + 1 from if_pos ci]) (by omega) ht
                  have hSt := HF2.out i him hiV
                  go_ret2
                  rw [hSt, ← hiV]
                  exact ⟨rfl, HWf.out⟩
                · have ht : (hv / 2 ^ (64 - (j + 1)).toNat == 0) = false := by assumption
                  go_roundw
                  case rel => exact ⟨d, hv, i + 1, rfl, by first | rfl | rw [w3], by omega, ⟨by have := HD.out; omega⟩, ⟨scan_miss HS.out HH.out (show 64 - bitsAt j a1 i = 64 - (j + 1) by rw [show bitsAt j a1 i = j + 1 from if_pos ci]) (by omega) ht⟩, HBf, HWf⟩
                  case measure => simp [intOf]; omega
              · have hci : decide (i < a1) = false := decide_eq_false ci
                go_wp2
                · have ht : (hv / 2 ^ (64 - (j - 1)).toNat == 0) = true := by assumption
                  have hiV := scan_hit HS.out HH.out (show 64 - bitsAt j a1 i = 64 - (j - 1) by rw [show bitsAt j a1 i = j - 1 from if_neg (by omega)]) (by omega) ht
                  have hSt := HF2.out i him hiV
                  go_ret2
                  rw [hSt, ← hiV]
                  exact ⟨rfl, HWf.out⟩
                · have ht : (hv / 2 ^ (64 - (j - 1)).toNat == 0) = false := by assumption
                  go_roundw
                  case rel => exact ⟨d, hv, i + 1, rfl, by first | rfl | rw [w3], by omega, ⟨by have := HD.out; omega⟩, ⟨scan_miss HS.out HH.out (show 64 - bitsAt j a1 i = 64 - (j - 1) by rw [show bitsAt j a1 i = j - 1 from if_neg (by omega)]) (by omega) ht⟩, HBf, HWf⟩
                  case measure => simp [intOf]; omega
        · go_wp2
          go_quiet (fail)
          go_wp2
          have HBq := Aside0.mk (show (wr.drewN nq).heap[w.heap.size]? = some (.cells #[.int .i64 a0, .int .i64 a1, .int .i64 a2, .int .u64 a3] 24 (0, 0)) from HB.out)
          have HWq := Aside0.mk (show Below w.heap.size w (wr.drewN nq) from pw_below_drewN HW.out _)
          clear hq1 hq2 hq3 hq4
          go_loopw [9, 10] (fun hh ii wz => ∃ (d : Nat) (x i : Int), hh = .int .u64 x ∧ ii = .int .i64 i ∧ a0 ≤ i ∧ Aside0 (i + d = (l.length : Int)) ∧ Aside0 ((scan l j a1 a3 d x i).getD (l.length : Int) = V) ∧ Aside0 (wz.heap[w.heap.size]? = some (.cells #[.int .i64 a0, .int .i64 a1, .int .i64 a2, .int .u64 a3] 24 (0, 0))) ∧ Aside0 (Below w.heap.size w wz)) (fun _ ii _ => ((l.length : Int) - intOf ii).toNat)
          case atStart => exact ⟨((l.length : Int) - a0).toNat, 0, a0, rfl, rfl, Int.le_refl _, ⟨by omega⟩, ⟨by have := HF1.out; rwa [HLg.out] at this⟩, HBq, HWq⟩
          case round =>
            obtain ⟨d, x, i, rfl, rfl, i0, HD, HS, HBz, HWz⟩ := hrel
            clear HBq HWq HB HW
            have hq1 : wr.cell? ⟨w.heap.size, 0, none⟩ = some (.int .i64 a0) := (blk_cell HBz.out 0).trans rfl
            have hq2 : wr.cell? ⟨w.heap.size, 1, none⟩ = some (.int .i64 a1) := (blk_cell HBz.out 1).trans rfl
            have hq3 : wr.cell? ⟨w.heap.size, 2, none⟩ = some (.int .i64 a2) := (blk_cell HBz.out 2).trans rfl
            have hq4 : wr.cell? ⟨w.heap.size, 3, none⟩ = some (.int .u64 a3) := (blk_cell HBz.out 3).trans rfl
            cases d with
            | zero =>
              have e : i = (l.length : Int) := by have := HD.out; omega
              have hlt : decide (i < (l.length : Int)) = false := by simp; omega
              have hmV := HS.out
              simp only [scan, Option.getD_none] at hmV
              have hSe := HF3.out hmV.symm
              have HSe := Aside0.mk hSe
              have HmV := Aside0.mk hmV
              clear hSe e hmV
              go_wp2
              go_quiet (fail)
              go_wp2
              go_ret2
              rw [HSe.out, ← HmV.out]
              try rw [beq_self_eq_true]
              exact ⟨rfl, pw_below_drewN HWz.out _⟩
            | succ d =>
              have hd1 := HD.out
              have hlt : decide (i < (l.length : Int)) = true := by simp; omega
              have hi0 : 0 ≤ i := by omega
              have him : i < (l.length : Int) := by omega
              have hil : i < (l.length : Int) := by omega
              clear hd1
              obtain ⟨ad, rfl, hx⟩ := Kd.at_int (Kd.C_below HR.out HWz.out) i hi0 hil
              have w3 : wrap64 (i + 1) = i + 1 := by unfold wrap64; omega
              go_wp2
              have HX := Aside0.mk hx
              have HW' := HWz.out
              have HB' := HBz.out
              go_region_held3 (fun w' => w'.cell? ⟨w.heap.size, 0, none⟩ = some (.int .i64 a0) ∧ w'.cell? ⟨w.heap.size, 1, none⟩ = some (.int .i64 a1) ∧ w'.cell? ⟨w.heap.size, 2, none⟩ = some (.int .i64 a2) ∧ w'.cell? ⟨w.heap.size, 3, none⟩ = some (.int .u64 a3) ∧ w'.cell? (ad.add i.toNat) = some (.int .u8 (rd l i)) ∧ Below w.heap.size w w') (first | exact ⟨hq1, hq2, hq3, hq4, hx, below_drew HW'⟩ | exact ⟨cell_later hB (by assumption), cell_later hB (by assumption), cell_later hB (by assumption), cell_later hB (by assumption), cell_later hB (by assumption), below_step (by first | assumption | exact below_drew HW') hB⟩) (first | (go_at_call 31; refine (mix_any a3 (rd l i) _).mono ?_; rintro e w' ⟨rfl, hB⟩))
              have hltw : w.heap.size < wr.drew.heap.size := blk_lt HB'
              have hBf := (hB.block w.heap.size hltw).trans HB'
              have HWf := Aside0.mk (below_step (below_drew HW') hB)
              have HBf := Aside0.mk hBf
              obtain ⟨hv, hhv⟩ : ∃ hv, IntKind.u64.wrap (IntKind.u64.wrap (2 * x) + gearV a3 (rd l i)) = hv := ⟨_, rfl⟩
              rw [hhv]
              have HH := Aside0.mk (show IntKind.u64.wrap (IntKind.u64.wrap (x * 2) + gearV a3 (rd l i)) = hv by rw [Int.mul_comm x 2]; exact hhv)
              have hg1 : w'.cell? ⟨w.heap.size, 1, none⟩ = some (.int .i64 a1) := (blk_cell hBf 1).trans rfl
              clear hhv hq1 hq2 hq3 hq4 hx hB hBf HW' HB' hltw
              rename_i hSx
              clear hSx
              have b1 : wrap64 (j - 1) = j - 1 := by unfold wrap64; omega
              have b2 : wrap64 (j + 1) = j + 1 := by unfold wrap64; omega
              have b3 : wrap64 (64 - (j - 1)) = 64 - (j - 1) := by unfold wrap64; omega
              have b4 : wrap64 (64 - (j + 1)) = 64 - (j + 1) := by unfold wrap64; omega
              by_cases ci : i < a1
              · have hci : decide (i < a1) = true := decide_eq_true ci
                go_wp2
                · have ht : (hv / 2 ^ (64 - (j + 1)).toNat == 0) = true := by assumption
                  have hiV := scan_hit HS.out HH.out (show 64 - bitsAt j a1 i = 64 - (j + 1) by rw [show bitsAt j a1 i = j + 1 from if_pos ci]) (by omega) ht
                  have hSt := HF2.out i him hiV
                  go_ret2
                  rw [hSt, ← hiV]
                  exact ⟨rfl, HWf.out⟩
                · have ht : (hv / 2 ^ (64 - (j + 1)).toNat == 0) = false := by assumption
                  go_roundw
                  case rel => exact ⟨d, hv, i + 1, rfl, by first | rfl | rw [w3], by omega, ⟨by have := HD.out; omega⟩, ⟨scan_miss HS.out HH.out (show 64 - bitsAt j a1 i = 64 - (j + 1) by rw [show bitsAt j a1 i = j + 1 from if_pos ci]) (by omega) ht⟩, HBf, HWf⟩
                  case measure => simp [intOf]; omega
              · have hci : decide (i < a1) = false := decide_eq_false ci
                go_wp2
                · have ht : (hv / 2 ^ (64 - (j - 1)).toNat == 0) = true := by assumption
                  have hiV := scan_hit HS.out HH.out (show 64 - bitsAt j a1 i = 64 - (j - 1) by rw [show bitsAt j a1 i = j - 1 from if_neg (by omega)]) (by omega) ht
                  have hSt := HF2.out i him hiV
                  go_ret2
                  rw [hSt, ← hiV]
                  exact ⟨rfl, HWf.out⟩
                · have ht : (hv / 2 ^ (64 - (j - 1)).toNat == 0) = false := by assumption
                  go_roundw
                  case rel => exact ⟨d, hv, i + 1, rfl, by first | rfl | rw [w3], by omega, ⟨by have := HD.out; omega⟩, ⟨scan_miss HS.out HH.out (show 64 - bitsAt j a1 i = 64 - (j - 1) by rw [show bitsAt j a1 i = j - 1 from if_neg (by omega)]) (by omega) ht⟩, HBf, HWf⟩
                  case measure => simp [intOf]; omega

theorem ref_first_any (a0 a1 a2 a3 : Int) (A : Option Addr) (c : Nat) (l : List Int) (w : World) (hc : check a0 a1 a2 = 0) (hr : Kd.C (Kd.int .u8) w A l.length l) :
    Calls Try.prog 25 #[.agg #[.int .i64 a0, .int .i64 a1, .int .i64 a2, .int .u64 a3], .slice A l.length c] w fun e w' => e = .returned (.tuple #[.int .i64 (firstV a0 a1 a2 a3 l), .bool (sureV a0 a1 a2 a3 l)]) ∧ Below w.heap.size w w' := by
  by_cases h : (l.length : Int) ≤ a0 ∧ (l.length : Int) < a2
  · have h1 : firstV a0 a1 a2 a3 l = l.length := if_pos h.1
    have h2 : sureV a0 a1 a2 a3 l = false := by unfold sureV; rw [h1, decide_eq_true h.2, beq_self_eq_true]; rfl
    rw [h1, h2]
    exact rfirst_short a0 a1 a2 a3 A c l.length w h.1 h.2
  · exact rfirst_long a0 a1 a2 a3 A c l w hc hr h

set_option maxHeartbeats 1000000 in
theorem ref_next_any (a0 a1 a2 a3 : Int) (A : Option Addr) (c : Nat) (l : List Int) (w : World) (hr : Kd.C (Kd.int .u8) w A l.length l) (hlc : l.length ≤ c) :
    Calls Try.prog 9 #[.agg #[.int .i64 a0, .int .i64 a1, .int .i64 a2, .int .u64 a3], .slice A l.length c] w fun e w' => e = .returned (.tuple #[.int .i64 (nextV a0 a1 a2 a3 l), .int .i64 (check a0 a1 a2)]) ∧ Below w.heap.size w w' := by
  have hu24 := Try.underlying24
  have HR := Aside0.mk hr
  have HL := Aside0.mk hlc
  clear hr hlc
  by_cases h : check a0 a1 a2 = 0
  · have HC := Aside0.mk h
    clear h
    rw [show nextV a0 a1 a2 a3 l = firstV a0 a1 a2 a3 l from if_pos HC.out, HC.out]
    go_enter Try.func9, Try.ntmps9
    go_wp2_with (first | (go_at_call 12; refine (ref_check_any a0 a1 a2 a3 _).mono ?_; rintro e w1 ⟨rfl, hB⟩; rw [HC.out]; have hq := (hB.block w.heap.size (by simp)).trans (blk_new w _); have hq1 := (blk_cell hq 0).trans rfl; have hq2 := (blk_cell hq 1).trans rfl; have hq3 := (blk_cell hq 2).trans rfl; have hq4 := (blk_cell hq 3).trans rfl; have HB := Aside0.mk (below_step (below_alloc (Below.refl _ _) _) hB); clear hB hq) | (go_at_call 25; refine (ref_first_any a0 a1 a2 a3 A c l _ HC.out (Kd.C_below HR.out HB.out)).mono ?_; rintro e w2 ⟨rfl, hB⟩; have HB2 := Aside0.mk (below_step HB.out hB); clear hB))
    go_ret2
    exact ⟨rfl, HB2.out⟩
  · have HC := Aside0.mk (check_else h)
    rw [show nextV a0 a1 a2 a3 l = 0 from if_neg h, check_else h]
    clear h
    go_enter Try.func9, Try.ntmps9
    go_wp2_with (first | (go_at_call 12; refine (ref_check_any a0 a1 a2 a3 _).mono ?_; rintro e w1 ⟨rfl, hB⟩; rw [HC.out]; have HB := Aside0.mk (below_step (below_alloc (Below.refl _ _) _) hB); clear hB))
    go_ret2
    exact ⟨rfl, HB.out⟩
end Go.Proofs.Ytpadajjlakhnjaa.H
