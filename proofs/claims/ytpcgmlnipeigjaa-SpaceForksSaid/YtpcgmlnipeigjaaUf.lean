/- Package space and its reference: Bits of both. -/
import Derived.Test.YtpcgmlnipeigjaaUf0
import Derived.Laws.BitsAllLaws
namespace Go.Proofs.Ytpcgmlnipeigjaa.H
open Go.RowKit Go.Shelf Go.Proofs.YtpcgmlnipeigjaaW.PrintWords Go.Proofs.YtpcgmlnipeigjaaW.PrintLast Go.Proofs.YtpcgmlnipeigjaaW.PrintMore
set_option linter.unusedVariables false
set_option linter.unusedSimpArgs false

theorem or_pow (v : Int) (k : Nat) (h0 : 0 ≤ v) (h1 : v < 2 ^ k) (hk : k ≤ 7) : bits .or .u8 v (2 ^ k % 256) = v + 2 ^ k := by
  have h2 := two_pow_mono hk
  have h3 : (0 : Int) < 2 ^ k := Int.pow_pos (by omega)
  have e1 : (2 : Int) ^ k % 256 = 2 ^ k := by omega
  rw [e1, u8_or v (2 ^ k) h0 (by omega) (by omega) (by omega)]
  obtain ⟨n, rfl⟩ : ∃ n : Nat, v = n := ⟨v.toNat, by omega⟩
  have h4 : n < 2 ^ k := by exact_mod_cast h1
  have h5 := Nat.two_pow_add_eq_or_of_lt h4 1
  rw [Nat.mul_one] at h5
  have e2 : ((2 : Int) ^ k).toNat = 2 ^ k := by
    have : ((2 : Int) ^ k) = ((2 ^ k : Nat) : Int) := by push_cast; rfl
    rw [this, Int.toNat_natCast]
  rw [e2, Int.toNat_natCast, Nat.or_comm, ← h5]
  push_cast
  omega
/-- The text of bits. -/
def bitsS (l : List Int) : ByteArray := strOfNums (bitsAt ((l.length + 7) / 8) l l.length)

set_option maxRecDepth 100000 in
set_option maxHeartbeats 2000000 in
theorem rbits_any (Y g : Nat) (first res : Int) (l : List Int) (w : World) (hR : RfAt w Y g first l res) (hl : l.length ≤ 4096) :
    Calls Try.prog 49 #[.pointer (some ⟨Y, 0, none⟩)] w fun e w' => e = .returned (.string (bitsS l)) ∧ Below w.heap.size w w' := by
  have hu74 := Try.underlying74
  have HR := Aside0.mk hR
  obtain ⟨K, hKl, hx1⟩ := hR.xk
  obtain ⟨m, hm⟩ : ∃ m, (l.length + 7) / 8 = m := ⟨_, rfl⟩
  have hmk := print_make (P := Try.prog) 51 5 .u8 1 Try.underlying51 info5 (by omega) m (by omega)
  have e1 : ((l.length : Int) + 7) / 8 = (m : Int) := by omega
  have HM := Aside0.mk hm
  have hxa := pw_cell_below (below_alloc (Below.refl w.heap.size w) (.cells (madeCells #[.int .u8 0] m) 5)) hx1
  have HO := Aside0.mk (own_made w w.heap.size 5 .u8 m (Nat.le_refl _) (by omega))
  clear hR hm
  go_enter Try.func49, Try.ntmps49
  go_wp2
  clear hmk hx1 hxa e1
  go_loopw [19] (fun iv wr => ∃ (i : Int), iv = .int .i64 i ∧ 0 ≤ i ∧ i ≤ l.length ∧ Aside0 (wr.ownsRow w.heap.size 5 1 (.slice (some ⟨w.heap.size, 0, none⟩) m m) m (nums .u8 (bitsAt m l i.toNat))) ∧ Aside0 (Below w.heap.size w wr)) (fun iv _ => (l.length - intOf iv).toNat)
  case atStart => exact ⟨0, rfl, Int.le_refl _, by omega, HO, ⟨below_alloc (Below.refl _ _) _⟩⟩
  case round =>
    obtain ⟨i, rfl, i0, i1, HB, HW⟩ := hrel
    by_cases hlt' : i < (l.length : Int)
    · have hlt1 : decide (i < (l.length : Int)) = true := decide_eq_true hlt'
      obtain ⟨q, hq⟩ : ∃ q, l[i.toNat]? = some q := ⟨_, List.getElem?_eq_getElem (by omega)⟩
      have hcell := (HR.out.below HW.out).at_ hq
      have w4 : wrap64 (i + 1) = i + 1 := by unfold wrap64; omega
      have hsc := bitsAt_succ m l hq
      have hi1 : (i + 1).toNat = i.toNat + 1 := by omega
      rw [← hi1] at hsc
      have HQ := Aside0.mk hq
      by_cases he : q = 0
      · subst he
        have hst : stepB (bitsAt m l i.toNat) i.toNat 0 = bitsAt m l i.toNat := if_pos rfl
        rw [hst] at hsc
        have HC := Aside0.mk hsc
        clear hq hi1 hsc hst
        go_wp2
        refine ⟨⟨i + 1, rfl, by omega, by omega, ?_, HW⟩, by simp [intOf]; omega⟩
        rw [HC.out]; exact HB
      · have he1 : (q != 0) = true := by simp [he]
        have hst : stepB (bitsAt m l i.toNat) i.toNat q = (bitsAt m l i.toNat).set (i.toNat / 8) ((bitsAt m l i.toNat).getD (i.toNat / 8) 0 + 2 ^ (i.toNat % 8)) := if_neg he
        rw [hst] at hsc
        have HC := Aside0.mk hsc
        clear hq hi1 hsc hst
        obtain ⟨j, hj⟩ : ∃ j, i / 8 = j := ⟨_, rfl⟩
        obtain ⟨k, hk⟩ : ∃ k, i % 8 = k := ⟨_, rfl⟩
        have w5 : IntKind.i64.wrap (i.tdiv 8) = j := by rw [IntWalk.i64_left, Int.tdiv_eq_ediv_of_nonneg i0]; unfold wrap64; omega
        have w6 : i.tmod 8 = k := by rw [Int.tmod_eq_emod_of_nonneg i0]; omega
        have hmm := HM.out
        have j0 : 0 ≤ j := by omega
        have j1 : j < (m : Int) := by omega
        have k0 : 0 ≤ k := by omega
        have k1 : k < 8 := by omega
        obtain ⟨v, hv⟩ : ∃ v, (bitsAt m l i.toNat).getD (i.toNat / 8) 0 = v := ⟨_, rfl⟩
        have hva := bitsAt_at m l i.toNat
        rw [hv] at hva
        have hkk : i.toNat % 8 = k.toNat := by omega
        have hjj : i.toNat / 8 = j.toNat := by omega
        rw [hkk] at hva
        have hb := own_at HB.out j j0 j1
        have hrd : rd (bitsAt m l i.toNat) j = v := by rw [← hv, hjj]; rfl
        rw [hrd] at hb
        obtain ⟨hc1, hf1⟩ := hb
        have HV := Aside0.mk (And.intro hv (And.intro hkk hjj))
        clear hv hkk hjj hrd hj hk hmm
        go_wp2
        go_region
        go_wp2
        have h2 := two_pow_mono (show k.toNat ≤ 7 by omega)
        have e9 : (v + 2 ^ k.toNat) % 256 = v + 2 ^ k.toNat := by
          have : (0 : Int) < 2 ^ k.toNat := Int.pow_pos (by omega)
          omega
        obtain ⟨hs1, hs2⟩ := own_store HB.out j (v + 2 ^ k.toNat)
        have hv := HV.out
        have hcc := HC.out
        rw [hv.1, hv.2.1, hv.2.2] at hcc
        refine ⟨⟨i + 1, rfl, by omega, by omega, ⟨?_⟩, ⟨?_⟩⟩, by simp [intOf]; omega⟩
        · rw [hcc, e9]
          exact pw_own_below hs1 (below_drew (Below.refl _ _))
        · exact below_drew (HW.out.setCell (p := ⟨w.heap.size, j.toNat, none⟩) (Nat.le_refl _) _)
    · have hlt1 : decide (i < (l.length : Int)) = false := decide_eq_false hlt'
      have hcv := own_string (P := Try.prog) Try.underlying51 Try.underlying5 Try.underlying9 HB.out
      rw [show i.toNat = l.length by omega] at hcv
      obtain ⟨S, hS⟩ : ∃ S, strOfNums (bitsAt m l l.length) = S := ⟨_, rfl⟩
      rw [hS] at hcv
      have HS := Aside0.mk hS
      clear hS
      go_wp2
      go_ret
      refine ⟨?_, HW.out⟩
      rw [← HS.out, ← HM.out]
      rfl
set_option maxRecDepth 100000 in
set_option maxHeartbeats 2000000 in
theorem bits_any (X g : Nat) (first res : Int) (l : List Int) (c : Int → Int) (w : World) (hR : SpAt w X g first l c res) (hl : l.length ≤ 4096) :
    Calls Try.prog 29 #[.pointer (some ⟨X, 0, none⟩)] w fun e w' => e = .returned (.string (bitsS l)) ∧ Below w.heap.size w w' := by
  have hu54 := Try.underlying54
  have HR := Aside0.mk hR
  obtain ⟨K, hKl, hx1⟩ := hR.xk
  obtain ⟨m, hm⟩ : ∃ m, (l.length + 7) / 8 = m := ⟨_, rfl⟩
  have hmk := print_make (P := Try.prog) 51 5 .u8 1 Try.underlying51 info5 (by omega) m (by omega)
  have e1 : ((l.length : Int) + 7) / 8 = (m : Int) := by omega
  have HM := Aside0.mk hm
  have hxa := pw_cell_below (below_alloc (Below.refl w.heap.size w) (.cells (madeCells #[.int .u8 0] m) 5)) hx1
  have HO := Aside0.mk (own_made w w.heap.size 5 .u8 m (Nat.le_refl _) (by omega))
  clear hR hm
  go_enter Try.func29, Try.ntmps29
  go_wp2_with (go_at_call 32; refine (made_q X g first res l c _ HR.out).mono ?_; rintro e w1 ⟨rfl, hw1⟩; rw [hw1]; clear hw1)
  clear hmk hx1 hxa e1
  go_loopw [22] (fun iv wr => ∃ (i : Int), iv = .int .i64 i ∧ 0 ≤ i ∧ i ≤ l.length ∧ Aside0 (wr.ownsRow w.heap.size 5 1 (.slice (some ⟨w.heap.size, 0, none⟩) m m) m (nums .u8 (bitsAt m l i.toNat))) ∧ Aside0 (Below w.heap.size w wr)) (fun iv _ => (l.length - intOf iv).toNat)
  case atStart => exact ⟨0, rfl, Int.le_refl _, by omega, HO, ⟨below_alloc (Below.refl _ _) _⟩⟩
  case round =>
    obtain ⟨i, rfl, i0, i1, HB, HW⟩ := hrel
    by_cases hlt' : i < (l.length : Int)
    · have hlt1 : decide (i < (l.length : Int)) = true := decide_eq_true hlt'
      obtain ⟨q, hq⟩ : ∃ q, l[i.toNat]? = some q := ⟨_, List.getElem?_eq_getElem (by omega)⟩
      have hcell := (HR.out.below HW.out).at_ hq
      have w4 : wrap64 (i + 1) = i + 1 := by unfold wrap64; omega
      have hsc := bitsAt_succ m l hq
      have hi1 : (i + 1).toNat = i.toNat + 1 := by omega
      rw [← hi1] at hsc
      have HQ := Aside0.mk hq
      by_cases he : q = 0
      · subst he
        have hst : stepB (bitsAt m l i.toNat) i.toNat 0 = bitsAt m l i.toNat := if_pos rfl
        rw [hst] at hsc
        have HC := Aside0.mk hsc
        clear hq hi1 hsc hst
        go_wp2
        refine ⟨⟨i + 1, rfl, by omega, by omega, ?_, HW⟩, by simp [intOf]; omega⟩
        rw [HC.out]; exact HB
      · have he1 : (q != 0) = true := by simp [he]
        have hst : stepB (bitsAt m l i.toNat) i.toNat q = (bitsAt m l i.toNat).set (i.toNat / 8) ((bitsAt m l i.toNat).getD (i.toNat / 8) 0 + 2 ^ (i.toNat % 8)) := if_neg he
        rw [hst] at hsc
        have HC := Aside0.mk hsc
        clear hq hi1 hsc hst
        obtain ⟨j, hj⟩ : ∃ j, i / 8 = j := ⟨_, rfl⟩
        obtain ⟨k, hk⟩ : ∃ k, i % 8 = k := ⟨_, rfl⟩
        have w5 : IntKind.i64.wrap (i.tdiv 8) = j := by rw [IntWalk.i64_left, Int.tdiv_eq_ediv_of_nonneg i0]; unfold wrap64; omega
        have w6 : i.tmod 8 = k := by rw [Int.tmod_eq_emod_of_nonneg i0]; omega
        have hmm := HM.out
        have j0 : 0 ≤ j := by omega
        have j1 : j < (m : Int) := by omega
        have k0 : 0 ≤ k := by omega
        have k1 : k < 8 := by omega
        obtain ⟨v, hv⟩ : ∃ v, (bitsAt m l i.toNat).getD (i.toNat / 8) 0 = v := ⟨_, rfl⟩
        have hva := bitsAt_at m l i.toNat
        rw [hv] at hva
        have hkk : i.toNat % 8 = k.toNat := by omega
        have hjj : i.toNat / 8 = j.toNat := by omega
        rw [hkk] at hva
        have hb := own_at HB.out j j0 j1
        have hrd : rd (bitsAt m l i.toNat) j = v := by rw [← hv, hjj]; rfl
        rw [hrd] at hb
        obtain ⟨hc1, hf1⟩ := hb
        have HV := Aside0.mk (And.intro hv (And.intro hkk hjj))
        clear hv hkk hjj hrd hj hk hmm
        go_wp2
        go_region
        go_wp2
        have e9 := or_pow v k.toNat hva.1 hva.2 (by omega)
        obtain ⟨hs1, hs2⟩ := own_store HB.out j (v + 2 ^ k.toNat)
        have hv := HV.out
        have hcc := HC.out
        rw [hv.1, hv.2.1, hv.2.2] at hcc
        refine ⟨⟨i + 1, rfl, by omega, by omega, ⟨?_⟩, ⟨?_⟩⟩, by simp [intOf]; omega⟩
        · rw [hcc, e9]
          exact pw_own_below hs1 (below_drew (Below.refl _ _))
        · exact below_drew (HW.out.setCell (p := ⟨w.heap.size, j.toNat, none⟩) (Nat.le_refl _) _)
    · have hlt1 : decide (i < (l.length : Int)) = false := decide_eq_false hlt'
      have hcv := own_string (P := Try.prog) Try.underlying51 Try.underlying5 Try.underlying9 HB.out
      rw [show i.toNat = l.length by omega] at hcv
      obtain ⟨S, hS⟩ : ∃ S, strOfNums (bitsAt m l l.length) = S := ⟨_, rfl⟩
      rw [hS] at hcv
      have HS := Aside0.mk hS
      clear hS
      go_wp2
      go_ret
      refine ⟨?_, HW.out⟩
      rw [← HS.out, ← HM.out]
      rfl
end Go.Proofs.Ytpcgmlnipeigjaa.H
