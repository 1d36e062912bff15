/- The reference's Lengths as a contract, by hand. -/
import Derived.Test.YtpadajjlakhnjaaRf
import Derived.Test.YtpadajjlakhnjaaHd
namespace Go.Proofs.Ytpadajjlakhnjaa.H
open Go.RowKit Go.Shelf Go.Proofs.YtpadajjlakhnjaaW.PrintWords Go.Proofs.YtpadajjlakhnjaaW.PrintLast Go.Proofs.YtpadajjlakhnjaaW.PrintMore
set_option linter.unusedVariables false
set_option linter.unusedSimpArgs false

theorem lens_fuel (F : List Int → Int) (hF : ∀ m, 0 < m.length → 1 ≤ F m) (n : Nat) : ∀ (l : List Int) (m : Nat), l.length ≤ n → l.length ≤ m → lens F n l = lens F m l := by
  induction n with
  | zero =>
    intro l m h1 h2
    obtain rfl : l = [] := by cases l; rfl; simp at h1
    rw [lens_nil, lens_nil]
  | succ n ih =>
    intro l m h1 h2
    by_cases h : l = []
    · subst h; rw [lens_nil, lens_nil]
    · have hp : 0 < l.length := List.length_pos_iff.2 h
      obtain ⟨m, rfl⟩ : ∃ j, m = j + 1 := ⟨m - 1, by omega⟩
      have := hF l hp
      simp only [lens]
      rw [if_neg h, if_neg h, ih _ m (by simp; omega) (by simp; omega)]
theorem lens_le (F : List Int → Int) (hF : ∀ m, 0 < m.length → 1 ≤ F m) (n : Nat) : ∀ (l : List Int), (lens F n l).length ≤ l.length := by
  induction n with
  | zero => intro l; simp [lens]
  | succ n ih =>
    intro l
    simp only [lens]
    split
    · simp
    · rename_i h
      have hp : 0 < l.length := List.length_pos_iff.2 h
      have := hF l hp
      have := ih (l.drop (F l).toNat)
      simp at this ⊢
      omega
def sliceLen : Value → Nat
  | .slice _ n _ => n
  | _ => 0
/-- One round of the reference's Lengths. -/
theorem lens_step {F : List Int → Int} (hF : ∀ m, 0 < m.length → 1 ≤ F m ∧ F m ≤ m.length) {m outl T : List Int} (h0 : 0 < m.length) (h : outl ++ lens F m.length m = T) :
    (outl ++ [F m]) ++ lens F (m.drop (F m).toNat).length (m.drop (F m).toNat) = T := by
  have hf := hF m h0
  rw [← h, List.append_assoc]
  congr 1
  obtain ⟨n, hn⟩ : ∃ n, m.length = n + 1 := ⟨m.length - 1, by omega⟩
  rw [hn]
  simp only [lens]
  rw [if_neg (by intro e; subst e; simp at h0), lens_fuel F (fun x hx => (hF x hx).1) n _ (m.drop (F m).toNat).length (by simp; omega) (Nat.le_refl _)]
  rfl

set_option maxRecDepth 100000 in
set_option maxHeartbeats 2000000 in
theorem rlengths_good (a0 a1 a2 a3 : Int) (A : Option Addr) (c : Nat) (l : List Int) (w : World) (hc : check a0 a1 a2 = 0) (hr : Kd.C (Kd.int .u8) w A l.length l) (hlc : l.length ≤ c) (hl : l.length ≤ 17592186044415) :
    Calls Try.prog 14 #[.agg #[.int .i64 a0, .int .i64 a1, .int .i64 a2, .int .u64 a3], .slice A l.length c] w fun e w' => ∃ v, e = .returned (.tuple #[v, .int .i64 0]) ∧ Kd.R (Kd.int .i64) 3 w' w.heap.size (fun k => w.heap.size ≤ k) v (lens (firstV a0 a1 a2 a3) l.length l) ∧ Below w.heap.size w w' := by
  have hu24 := Try.underlying24
  have HCH := Aside0.mk hc
  have HR := Aside0.mk hr
  have HLC := Aside0.mk hlc
  have HL := Aside0.mk hl
  have hFb : ∀ m : List Int, 0 < m.length → 1 ≤ firstV a0 a1 a2 a3 m ∧ firstV a0 a1 a2 a3 m ≤ m.length := fun m hm => by have := firstV_bound a3 hc m; exact ⟨this.2.2.2.1 hm, this.2.1⟩
  obtain ⟨T, hT⟩ : ∃ T, lens (firstV a0 a1 a2 a3) l.length l = T := ⟨_, rfl⟩
  rw [hT]
  have HT := Aside0.mk hT
  have HFb := Aside0.mk hFb
  clear hc hr hlc hl hFb hT
  go_enter Try.func14, Try.ntmps14
  go_wp2_with (first | (go_at_call 12; refine (ref_check_any a0 a1 a2 a3 _).mono ?_; rintro e w1 ⟨rfl, hB⟩; rw [HCH.out]; have hq := (hB.block w.heap.size (by simp)).trans (blk_new w _); have HQ := Aside0.mk hq; have HB := Aside0.mk (below_step (below_alloc (Below.refl _ _) _) hB); clear hB hq))
  go_loopw [1, 7] (fun bv ov wr => ∃ (A' : Option Addr) (c' : Nat) (m outl : List Int), bv = .slice A' m.length c' ∧ m.length ≤ c' ∧ Aside0 (Kd.C (Kd.int .u8) w A' m.length m) ∧ Aside0 (Kd.R (Kd.int .i64) 3 wr w.heap.size (fun k => w.heap.size + 1 ≤ k) ov outl) ∧ Aside0 (outl ++ lens (firstV a0 a1 a2 a3) m.length m = T ∧ outl.length + m.length ≤ l.length) ∧ Aside0 (wr.heap[w.heap.size]? = some (.cells #[.int .i64 a0, .int .i64 a1, .int .i64 a2, .int .u64 a3] 24 (0, 0))) ∧ Aside0 (Below w.heap.size w wr)) (fun bv _ _ => sliceLen bv)
  case atStart => exact ⟨A, c, l, [], rfl, HLC.out, HR, ⟨Kd.R_nil _ _ _ _ _⟩, ⟨HT.out, by simp⟩, HQ, HB⟩
  case round =>
    obtain ⟨A', c', m, outl, rfl, hmc, HC, HO, HI, HBq, HW⟩ := hrel
    clear HQ HB
    have hq1 : wr.cell? ⟨w.heap.size, 0, none⟩ = some (.int .i64 a0) := (blk_cell HBq.out 0).trans rfl
    have hq2 : wr.cell? ⟨w.heap.size, 1, none⟩ = some (.int .i64 a1) := (blk_cell HBq.out 1).trans rfl
    have hq3 : wr.cell? ⟨w.heap.size, 2, none⟩ = some (.int .i64 a2) := (blk_cell HBq.out 2).trans rfl
    have hq4 : wr.cell? ⟨w.heap.size, 3, none⟩ = some (.int .u64 a3) := (blk_cell HBq.out 3).trans rfl
    have hR := HO.out
    obtain ⟨Ao, co, rfl⟩ := Kd.R_slice hR
    clear hR
    obtain ⟨Nm, hNm⟩ : ∃ Nm : Int, (m.length : Int) = Nm := ⟨_, rfl⟩
    by_cases hp : 0 < m.length
    · have hg : decide (0 < (m.length : Int)) = true := decide_eq_true (by omega)
      have hfb := HFb.out m hp
      have hst := lens_step HFb.out hp HI.out.1
      have hil := HI.out.2
      obtain ⟨q, hq⟩ : ∃ q, firstV a0 a1 a2 a3 m = q := ⟨_, rfl⟩
      rw [hq] at hst hfb
      obtain ⟨A2, s1, s2, s3⟩ := drop_run A' c' m q (by omega) hfb.2 hmc
      have hml : (m.drop q.toNat).length < m.length := by simp; omega
      have hil2 : (outl ++ [q]).length + (m.drop q.toNat).length ≤ l.length := by simp; omega
      obtain ⟨m2, hm2⟩ : ∃ m2, m.drop q.toNat = m2 := ⟨_, rfl⟩
      rw [hm2] at s1 s2 s3 hst hml hil2
      have HSt := Aside0.mk (And.intro hst hil2)
      have HS2 := Aside0.mk s2
      have HS3 := Aside0.mk s3
      have HQf := Aside0.mk hq
      have HIl := Aside0.mk hil
      clear hst hil2 s2 s3 hm2 hil
      go_wp2_with (first
        | (go_at_call 25; refine (ref_first_any a0 a1 a2 a3 A' c' m _ HCH.out (Kd.C_below HC.out HW.out)).mono ?_; rintro e w2 ⟨rfl, hB⟩; rw [HQf.out]; have HB2 := Aside0.mk hB; clear hB)
        | (at_builtin; refine Kd.R_append_rows (Kd.int .i64) (w0 := w) w.heap.size rfl (.tmp 24) (.tmp 26) 32 3 (.int .i64 0) 8 rfl Try.underlying32 info3 rfl (by decide) (by omega) (.slice Ao outl.length co) outl [q] _ _ _ (fun k => w.heap.size + 1 ≤ k) (fun _ => False) rfl rfl ?aO ?aC (fun _ _ h => h) (fun _ h => h.elim) ?aF ?aB ?aS ?aL ?_; (case aO => exact Kd.R_below (Kd.R_below HO.out HB2.out) (below_alloc (Below.refl _ _) _)); (case aC => exact C_row .i64 3 _ [q] #[.int .i64 q] _ rfl (by simp)); (case aF => intro k hk; have := HB2.out.size; have := blk_lt HBq.out; simp at hk; omega); (case aB => exact below_alloc (below_step HW.out HB2.out) _); (case aS => have := HB2.out.size; have := HW.out.size; simp; omega); (case aL => have := HIl.out; have := HL.out; simp; omega); intro v1 w3 hR1 hB1 hg1 _; obtain ⟨A3, c3, rfl⟩ := Kd.R_slice hR1; have HR3 := Aside0.mk hR1; have HB3 := Aside0.mk hB1; have HG3 := Aside0.mk hg1; clear hR1 hB1 hg1))
      go_roundw
      case rel =>
        have hb : w3.heap[w.heap.size]? = some (.cells #[.int .i64 a0, .int .i64 a1, .int .i64 a2, .int .u64 a3] 24 (0, 0)) :=
          (HG3.out.block w.heap.size (by have := HB2.out.size; have := blk_lt HBq.out; simp; omega) (fun e => by have := HO.out.1 _ e.symm; omega)).trans ((Below.heap_alloc _ _ _ (by have := HB2.out.size; have := blk_lt HBq.out; omega)).trans ((HB2.out.block _ (blk_lt HBq.out)).trans HBq.out))
        exact ⟨A2, c' - q.toNat, m2, outl ++ [q], rfl, HS3.out, ⟨HS2.out _ HC.out⟩, ⟨by simpa using HR3.out⟩, HSt, ⟨hb⟩, HB3⟩
      case measure => exact hml
    · have hg : decide (0 < (m.length : Int)) = false := decide_eq_false (by omega)
      have hm0 : m = [] := by cases m with | nil => rfl | cons _ _ => simp at hp
      have hT := HI.out.1
      rw [hm0, lens_nil, List.append_nil] at hT
      have HT2 := Aside0.mk hT
      clear hm0 hT
      go_wp2
      go_ret2
      rw [← HT2.out]
      exact ⟨_, rfl, Kd.R_mono HO.out (fun k hk => by omega), HW.out⟩

theorem ref_lengths_any (a0 a1 a2 a3 : Int) (A : Option Addr) (c : Nat) (l : List Int) (w : World) (hr : Kd.C (Kd.int .u8) w A l.length l) (hlc : l.length ≤ c) (hl : l.length ≤ 17592186044415) :
    Calls Try.prog 14 #[.agg #[.int .i64 a0, .int .i64 a1, .int .i64 a2, .int .u64 a3], .slice A l.length c] w fun e w' => ∃ v, e = .returned (.tuple #[v, .int .i64 (check a0 a1 a2)]) ∧ Kd.R (Kd.int .i64) 3 w' w.heap.size (fun k => w.heap.size ≤ k) v (lensV a0 a1 a2 a3 l) ∧ Below w.heap.size w w' := by
  by_cases hc : check a0 a1 a2 = 0
  · rw [hc, show lensV a0 a1 a2 a3 l = lens (firstV a0 a1 a2 a3) l.length l from if_pos hc]
    exact rlengths_good a0 a1 a2 a3 A c l w hc hr hlc hl
  · rw [show lensV a0 a1 a2 a3 l = [] from if_neg hc]
    have hu24 := Try.underlying24
    obtain ⟨E, hE⟩ : ∃ E, check a0 a1 a2 = E := ⟨_, rfl⟩
    rw [hE] at hc ⊢
    have he0 : (E != 0) = true := bne_iff_ne.mpr hc
    have HE := Aside0.mk hE
    clear hE hc hr hlc hl
    go_enter Try.func14, Try.ntmps14
    go_wp2_with (first | (go_at_call 12; refine (ref_check_any a0 a1 a2 a3 _).mono ?_; rintro e w1 ⟨rfl, hB⟩; rw [HE.out]; have HB := Aside0.mk (below_step (below_alloc (Below.refl _ _) _) hB); clear hB))
    go_ret2
    exact ⟨_, rfl, Kd.R_nil _ _ _ _ _, HB.out⟩
end Go.Proofs.Ytpadajjlakhnjaa.H
