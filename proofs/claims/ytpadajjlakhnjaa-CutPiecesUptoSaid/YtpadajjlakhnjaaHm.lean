/- deduplaw05.hasPlace and behind as contracts; a cut text is cut alike behind a cut. -/
import Derived.Test.YtpadajjlakhnjaaHk
namespace Go.Proofs.Ytpadajjlakhnjaa.H
open Go.RowKit Go.Shelf Go.Proofs.YtpadajjlakhnjaaW.PrintWords Go.Proofs.YtpadajjlakhnjaaW.PrintLast Go.Proofs.YtpadajjlakhnjaaW.PrintMore
set_option linter.unusedVariables false
set_option linter.unusedSimpArgs false

/-- The sum from place i on. -/
def tot (M : List Int) (i : Int) : Int := (M.drop i.toNat).sum
theorem tot_step {M : List Int} {i : Int} (h0 : 0 ≤ i) (h1 : i < M.length) : tot M i = rd M i + tot M (i + 1) := by
  unfold tot
  have e : (i + 1).toNat = i.toNat + 1 := by omega
  rw [e, List.drop_eq_getElem_cons (by omega), List.sum_cons]
  simp [rd, List.getD_eq_getElem?_getD, List.getElem?_eq_getElem (show i.toNat < M.length by omega)]
theorem tot_end (M : List Int) : tot M M.length = 0 := by simp [tot]
theorem tot_pos {M : List Int} (h : ∀ x ∈ M, 1 ≤ x) (i : Int) : 0 ≤ tot M i ∧ (0 ≤ i → i < M.length → 1 ≤ tot M i) ∧ tot M i ≤ M.sum := by
  have h1 := sum_nonneg (M.drop i.toNat) (fun x hx => h x (List.mem_of_mem_drop hx))
  have h2 := sum_nonneg (M.take i.toNat) (fun x hx => h x (List.mem_of_mem_take hx))
  have h3 : M.sum = (M.take i.toNat).sum + (M.drop i.toNat).sum := by rw [← List.sum_append, List.take_append_drop]
  unfold tot
  refine ⟨by omega, fun h0 h1' => ?_, by omega⟩
  simp at h1
  omega
theorem rd_ge {M : List Int} (h : ∀ x ∈ M, 1 ≤ x) {i : Int} (h0 : 0 ≤ i) (h1 : i < M.length) : 1 ≤ rd M i := by
  obtain ⟨j, rfl⟩ := Int.eq_ofNat_of_zero_le h0
  exact h _ (rd_mem M j (by omega))

structure PlaceP (M : List Int) (left : Int) (w : World) (e : Ending) (w' : World) : Prop where
  out : ∃ r, e = .returned (.bool r) ∧ (r = true → ∃ k : Nat, k < M.length ∧ tot M k = left) ∧ Below w.heap.size w w'
structure BehindP (M : List Int) (k : Nat) (w : World) (e : Ending) (w' : World) : Prop where
  out : ∃ A' c', e = .returned (.slice A' (M.drop k).length c') ∧ (M.drop k).length ≤ c' ∧ Kd.C (Kd.int .i64) w' A' (M.drop k).length (M.drop k) ∧ Below w.heap.size w w'
set_option maxHeartbeats 1000000 in
theorem place_any (M : List Int) (A : Option Addr) (c : Nat) (right j left : Int) (w : World) (hM : ∀ x ∈ M, 1 ≤ x) (hs : M.sum ≤ 17592186044415) (hC : Kd.C (Kd.int .i64) w A M.length M) (hj0 : 0 ≤ j) (hj : j ≤ M.length) (hr : right = tot M j) :
    Calls Try.prog 17 #[.slice A M.length c, .int .i64 right, .int .i64 j, .int .i64 left] w fun e w' => PlaceP M left w e w' := by
  have HM := Aside0.mk hM
  have HS := Aside0.mk hs
  have HC := Aside0.mk hC
  have HR := Aside0.mk hr
  have hml : (M.length : Int) ≤ 17592186044415 := Int.le_trans (sum_nonneg M hM) hs
  clear hM hs hC hr
  go_enter Try.func17, Try.ntmps17
  go_wp2
  go_loopw [1, 9] (fun rv kv wr => ∃ (rr k : Int), rv = .int .i64 rr ∧ kv = .int .i64 k ∧ 0 ≤ k ∧ k ≤ M.length ∧ Aside0 (rr = tot M k) ∧ Aside0 (Below w.heap.size w wr)) (fun _ kv _ => (M.length - intOf kv).toNat)
  case atStart => exact ⟨right, j, rfl, rfl, hj0, hj, HR, ⟨Below.refl _ _⟩⟩
  case round =>
    obtain ⟨rr, k, rfl, rfl, k0, k1, HT, HB⟩ := hrel
    by_cases hlt : k < (M.length : Int)
    · have hlt1 : decide (k < (M.length : Int)) = true := decide_eq_true hlt
      obtain ⟨ad1, e1, hc1⟩ := Kd.at_int (Kd.C_below HC.out HB.out) k k0 hlt
      cases e1
      by_cases he : rr = left
      · have he1 : (rr == left) = true := by simpa using he
        have hk : ∃ k : Nat, k < M.length ∧ tot M k = left := ⟨k.toNat, by omega, by rw [Int.toNat_of_nonneg k0, ← HT.out, he]⟩
        clear he
        go_wp2
        go_ret
        exact ⟨⟨true, rfl, fun _ => hk, HB.out⟩⟩
      · have he1 : (rr == left) = false := by simpa using he
        have hst := tot_step k0 hlt
        have hp := tot_pos HM.out k
        have hp2 := tot_pos HM.out (k + 1)
        have hg := rd_ge HM.out k0 hlt
        obtain ⟨r, hr⟩ : ∃ r, rd M k = r := ⟨_, rfl⟩
        obtain ⟨r2, hr2⟩ : ∃ r2, tot M (k + 1) = r2 := ⟨_, rfl⟩
        rw [hr] at hc1
        have u1 : wrap64 (rr - r) = r2 := by have := HT.out; have := HS.out; unfold wrap64; omega
        have u2 : wrap64 (k + 1) = k + 1 := by unfold wrap64; omega
        have HT2 := Aside0.mk hr2.symm
        clear he hst hp hp2 hg hr hr2
        go_wp2
        go_roundw
        case rel => exact ⟨r2, k + 1, by first | rfl | rw [u1], by first | rfl | rw [u2], by omega, by omega, HT2, HB⟩
        case measure => simp [intOf]; omega
    · have hlt1 : decide (k < (M.length : Int)) = false := decide_eq_false hlt
      go_wp2
      go_ret
      exact ⟨⟨false, rfl, (fun h => by cases h), HB.out⟩⟩

theorem tot_lt {M : List Int} (h : ∀ x ∈ M, 1 ≤ x) (d : Nat) : ∀ (q i : Int), 0 ≤ q → q + d + 1 = i → i ≤ M.length → tot M i < tot M q := by
  induction d with
  | zero =>
    intro q i h0 hq hi
    have h1 := tot_step h0 (show q < M.length by omega)
    have h2 := rd_ge h h0 (show q < M.length by omega)
    rw [show q + 1 = i by omega] at h1
    omega
  | succ d ih =>
    intro q i h0 hq hi
    have h1 := tot_step h0 (show q < M.length by omega)
    have h2 := rd_ge h h0 (show q < M.length by omega)
    have h3 := ih (q + 1) i (by omega) (by omega) hi
    omega
theorem drop_run64 (A : Option Addr) (c : Nat) (l : List Int) (j : Int) (h0 : 0 ≤ j) (hm : j ≤ l.length) (hc : l.length ≤ c) :
    ∃ A' : Option Addr, (∀ W : World, (Instr.slice 32 (.slice A l.length c) (some (.int .i64 j)) none none).run Try.prog W = .ok (.slice A' (l.drop j.toNat).length (c - j.toNat)) W) ∧
      (∀ w : World, Kd.C (Kd.int .i64) w A l.length l → Kd.C (Kd.int .i64) w A' (l.drop j.toNat).length (l.drop j.toNat)) ∧ (l.drop j.toNat).length ≤ c - j.toNat := by
  obtain ⟨i0, hi, hzz⟩ := Option.map_eq_some_iff.1 info3
  simp only [Prod.mk.injEq] at hzz
  obtain ⟨A', h1, h2, h3⟩ := print_drop_of (P := Try.prog) (Value.int .i64) (0 : Int) 32 3 .i64 Try.underlying32 hi hzz.2.1 A c l j h0 hm hc
  exact ⟨A', h1, fun w h => by have := h2 w (Kd.reads_of_C (d := (0 : Int)) h); exact Kd.C_of_reads this, h3⟩

set_option maxHeartbeats 1000000 in
theorem behind_any (M : List Int) (A : Option Addr) (c : Nat) (n : Int) (k : Nat) (w : World) (hM : ∀ x ∈ M, 1 ≤ x) (hs : M.sum ≤ 17592186044415) (hC : Kd.C (Kd.int .i64) w A M.length M) (hlc : M.length ≤ c) (hk : k < M.length) (hn : n = tot M k) :
    Calls Try.prog 18 #[.slice A M.length c, .int .i64 n] w fun e w' => BehindP M k w e w' := by
  have HM := Aside0.mk hM
  have HS := Aside0.mk hs
  have HC := Aside0.mk hC
  have HL := Aside0.mk hlc
  have HN := Aside0.mk hn
  have hml : (M.length : Int) ≤ 17592186044415 := Int.le_trans (sum_nonneg M hM) hs
  obtain ⟨q, hq⟩ : ∃ q : Int, (k : Int) = q := ⟨_, rfl⟩
  have HQ := Aside0.mk hq
  have hq0 : 0 ≤ q := by omega
  have hq1 : q < M.length := by omega
  clear hM hs hC hlc hn hk hq
  go_enter Try.func18, Try.ntmps18
  go_wp2
  go_loopw [1, 5] (fun nv iv wr => ∃ (nn i : Int), nv = .int .i64 nn ∧ iv = .int .i64 i ∧ q ≤ i ∧ i ≤ M.length ∧ Aside0 (nn = tot M q - tot M i) ∧ Aside0 (Below w.heap.size w wr)) (fun _ iv _ => (intOf iv).toNat)
  case atStart => exact ⟨n, M.length, rfl, rfl, by omega, by omega, ⟨by rw [tot_end, HN.out, HQ.out]; omega⟩, ⟨Below.refl _ _⟩⟩
  case round =>
    obtain ⟨nn, i, rfl, rfl, i0, i1, HT, HB⟩ := hrel
    by_cases hlt : q < i
    · have g1 : decide (0 < i) = true := decide_eq_true (by omega)
      have hst := tot_step (M := M) (i := i - 1) (by omega) (by omega)
      rw [show i - 1 + 1 = i by omega] at hst
      have hl1 := tot_lt HM.out (i - q - 1).toNat q i hq0 (by omega) i1
      have hp := tot_pos HM.out q
      have hp2 := tot_pos HM.out i
      have hp3 := tot_pos HM.out (i - 1)
      have g2 : decide (0 < nn) = true := decide_eq_true (by have := HT.out; omega)
      have u1 : wrap64 (i - 1) = i - 1 := by unfold wrap64; omega
      obtain ⟨i', hi'⟩ : ∃ i', i - 1 = i' := ⟨_, rfl⟩
      rw [hi'] at hst u1 hp3
      obtain ⟨ad1, e1, hc1⟩ := Kd.at_int (Kd.C_below HC.out HB.out) i' (by omega) (by omega)
      cases e1
      obtain ⟨r, hr⟩ : ∃ r, rd M i' = r := ⟨_, rfl⟩
      rw [hr] at hc1 hst
      obtain ⟨n2, hn2⟩ : ∃ n2, nn - r = n2 := ⟨_, rfl⟩
      have u2 : wrap64 n2 = n2 := by have := HT.out; have := HS.out; unfold wrap64; omega
      have HT2 : Aside0 (n2 = tot M q - tot M i') := ⟨by have := HT.out; omega⟩
      clear hst hl1 hp hp2 hp3 hr
      have HI' := Aside0.mk hi'
      have HN2 := Aside0.mk hn2
      go_wp2
      go_roundw
      case rel => exact ⟨n2, i', by first | rfl | rw [u2], by first | rfl | rw [u1], by omega, by omega, HT2, HB⟩
      case measure => simp [intOf]; omega
    · obtain rfl : i = q := by omega
      have hz : nn = 0 := by have := HT.out; omega
      subst hz
      obtain ⟨A', h1, h2, h3⟩ := drop_run64 A c M i hq0 (by omega) HL.out
      have hk : i.toNat = k := by have := HQ.out; omega
      rw [hk] at h1 h2 h3
      have hC2 := h2 _ (Kd.C_below HC.out HB.out)
      have HC2 := Aside0.mk hC2
      have H3 := Aside0.mk h3
      have hg : decide (0 < i) = true ∨ decide (0 < i) = false := by cases decide (0 < i) <;> simp
      obtain ⟨mm, hmm⟩ : ∃ mm, M.drop k = mm := ⟨_, rfl⟩
      rw [hmm] at h1 HC2 H3
      have HMM := Aside0.mk hmm
      clear h2 h3 hC2 hmm
      rcases hg with g | g
      all_goals
        go_wp2
        go_ret
        refine BehindP.mk ?_
        rw [HMM.out]
        exact ⟨_, _, rfl, H3.out, HC2.out, HB.out⟩
end Go.Proofs.Ytpadajjlakhnjaa.H
