/- deduplaw05.lives as a contract: it answers true. -/
import Derived.Test.YtpadajjlakhnjaaHb
import Derived.Test.YtpadajjlakhnjaaSm
import Derived.Lib.SlBytesConst
namespace Go.Proofs.Ytpadajjlakhnjaa.H
open Go.RowKit Go.Shelf Go.Proofs.YtpadajjlakhnjaaW.PrintWords Go.Proofs.YtpadajjlakhnjaaW.PrintLast Go.Proofs.YtpadajjlakhnjaaW.PrintMore
set_option linter.unusedVariables false
set_option linter.unusedSimpArgs false

set_option maxHeartbeats 1000000 in
theorem lengths_bad (e a0 a1 a2 a3 : Int) (v : Value) (he : e ≠ 0) (hch : check a0 a1 a2 = e) (w : World) :
    Calls Try.prog 13 #[.agg #[.int .i64 a0, .int .i64 a1, .int .i64 a2, .int .u64 a3], v] w fun e' w' => e' = .returned (.tuple #[.slice none 0 0, .int .i64 e]) ∧ Below w.heap.size w w' := by
  have hu24 := Try.underlying24
  have he0 : (e != 0) = true := bne_iff_ne.mpr he
  have HCH := Aside0.mk hch
  clear hch he
  go_enter Try.func13, Try.ntmps13
  go_wp2_with (go_at_call 11; refine (check_any a0 a1 a2 a3 _).mono ?_; rintro e w1 ⟨rfl, hB⟩; rw [HCH.out]; have HB := Aside0.mk hB; clear hB)
  go_ret2
  exact ⟨rfl, below_step (below_alloc (Below.refl _ _) _) HB.out⟩

theorem func_nil (c : Array Value) (W : World) : (binOp .eql 37 (.func (.func 27) #[] c) .nilFunc).run Try.prog W = .ok (.bool false) W := by kernel_rfl
theorem check_16 : check 16 16 16 = 0 := by decide
theorem first16 (m : List Int) : firstV 16 16 16 0 m = if m.length ≤ 16 then (m.length : Int) else 16 := by
  unfold firstV
  by_cases h : m.length ≤ 16
  · rw [if_pos (by omega), if_pos h]
  · rw [if_neg (by omega), if_neg h, show (min (m.length : Int) 16 - 16).toNat = 0 by omega]
    simp only [scan, Option.getD_none]
    omega
theorem fst_of {a0 a1 a2 : Int} (a3 : Int) (hc : check a0 a1 a2 = 0) (l : List Int) : Fst (firstV a0 a1 a2 a3) l := by
  intro m hm
  have := firstV_bound a3 hc (l.drop m)
  simp only [List.length_drop] at this
  omega
theorem cst_16 : cst (firstV 16 16 16 0) (List.replicate 40 0) 3 = ([(0, 16), (16, 16), (32, 8)], 40) := by decide +kernel
/-- The rounds after which all has come are one number. -/
theorem cst_inj {F : List Int → Int} {l : List Int} (h : Fst F l) {k j : Nat} {ys zs : List (Int × Int)} (hk : cst F l k = (ys, (l.length : Int))) (hj : cst F l j = (zs, (l.length : Int)))
    (hkl : ∀ i, i < k → (cst F l i).2 < l.length) (hjl : ∀ i, i < j → (cst F l i).2 < l.length) : ys = zs := by
  have : k = j := by
    rcases Nat.lt_trichotomy k j with h1 | h1 | h1
    · have := hjl k h1; rw [hk] at this; simp at this
    · exact h1
    · have := hkl j h1; rw [hj] at this; simp at this
  subst this
  rw [hk] at hj
  exact (Prod.mk.inj hj).1
theorem cst_16_lt : ∀ j : Fin 3, (cst (firstV 16 16 16 0) (List.replicate 40 0) j.val).2 < (40 : Int) := by decide +kernel

set_option maxRecDepth 100000 in
set_option maxHeartbeats 2000000 in
theorem lengths_16 (A : Option Addr) (w : World) (hr : Kd.C (Kd.int .u8) w A 40 (List.replicate 40 0)) :
    Calls Try.prog 13 #[.agg #[.int .i64 16, .int .i64 16, .int .i64 16, .int .u64 0], .slice A 40 40] w fun e w' => ∃ v, e = .returned (.tuple #[v, .int .i64 0]) ∧
      Kd.R (Kd.int .i64) 3 w' w.heap.size (fun k => w.heap.size ≤ k) v [16, 16, 8] ∧ Below w.heap.size w w' := by
  refine (lengths_good 16 16 16 0 (firstV 16 16 16 0) (List.replicate 40 0) A 40 (fst_of 0 check_16 _) (fun A c m w h => first_any 16 16 16 0 A c m w check_16 h) check_16 w hr (by simp)).mono ?_
  rintro e w' ⟨v, rfl, ys, ⟨k, hk, hkl⟩, hR, hB⟩
  have h3 := cst_16
  obtain rfl : ys = _ := cst_inj (fst_of 0 check_16 _) hk (j := 3) (by rw [h3]; rfl) hkl (fun i hi => by simpa using cst_16_lt ⟨i, hi⟩)
  exact ⟨v, rfl, hR, hB⟩

theorem C_row (k : IntKind) (e : Nat) (w : World) (l : List Int) (cs : Array Value) (fr : Nat × Nat) (hcs : cs = (l.map (Value.int k)).toArray) (hl : l.length ≤ 9223372036854775807) : Kd.C (Kd.int k) (w.alloc (.cells cs e fr)) (some ⟨w.heap.size, 0, none⟩) l.length l := by
  subst hcs
  refine ⟨rfl, hl, fun _ => ⟨_, rfl, fun j p hj => ⟨[.int k p], rfl, rfl, fun i u hu => ?_⟩⟩⟩
  cases i with
  | succ i => simp at hu
  | zero =>
    simp at hu
    subst hu
    have hz : (Kd.int k).sz = 1 := rfl
    have : (⟨w.heap.size, 0, none⟩ : Addr).add (j * (Kd.int k).sz + 0) = ⟨w.heap.size, j, none⟩ := by
      rw [hz, Nat.mul_one, Nat.add_zero]
      unfold Addr.add
      split
      · simp [*]
      · simp
    rw [this, World.cell?_alloc_mark]
    simp [hj]
theorem next_abc_calls (A : Option Addr) (w : World) (hr : Kd.C (Kd.int .u8) w A 3 [97, 98, 99]) : Calls Try.prog 8 #[.agg #[.int .i64 4, .int .i64 16, .int .i64 16, .int .u64 0], .slice A 3 3] w fun e w' => e = .returned (.tuple #[.int .i64 3, .int .i64 0]) ∧ Below w.heap.size w w' :=
  next_any 4 16 16 0 A 3 [97, 98, 99] w hr
theorem next_none_calls (w : World) : Calls Try.prog 8 #[.agg #[.int .i64 0, .int .i64 0, .int .i64 0, .int .u64 0], .slice none 0 0] w fun e w' => e = .returned (.tuple #[.int .i64 0, .int .i64 50]) ∧ Below w.heap.size w w' :=
  next_bad 0 0 0 0 _ w (by decide)
def zero40 : Array Value := ((List.replicate 40 (0 : Int)).map (Value.int .u8)).toArray
theorem make40 (w : World) : (Instr.makeSlice 25 (.int .i64 40) (.int .i64 40)).run Try.prog w = .ok (.slice (some ⟨w.heap.size, 0, none⟩) 40 40) (w.alloc (.cells zero40 5)) := by kernel_rfl
theorem same_yes_calls (A0 A1 : Option Addr) (c0 : Nat) (w : World) (hr0 : Kd.C (Kd.int .i64) w A0 3 [16, 16, 8]) (hc0 : 3 ≤ c0) (hr1 : Kd.C (Kd.int .i64) w A1 3 [16, 16, 8]) :
    Calls Try.prog 15 #[.slice A0 3 c0, .slice A1 3 3] w fun e w' => e = .returned (.bool true) ∧ Below w.heap.size w w' :=
  same_any A0 A1 c0 3 [16, 16, 8] w hr0 hc0 hr1 (by simp)
set_option maxRecDepth 100000 in
set_option maxHeartbeats 2000000 in
theorem lives_any (w : World) : Calls Try.prog 10 #[] w fun e w' => e = .returned (.bool true) ∧ Below w.heap.size w w' := by
  have hu24 := Try.underlying24
  have ef := func_nil
  have em := make40
  have ec := fun (w : World) (C : Array Value) (n c : Nat) => Lib.run_convert_bytes_const (P := Try.prog) w 25 5 C n c Try.underlying25 Try.underlying5
  have HB := Aside0.mk (Below.refl w.heap.size w)
  go_enter Try.func10, Try.ntmps10
  go_wp2_with (first | (go_at_call 16; refine (cuts_any 0 0 0 0 none [] 0 _ (Kd.C_nil _ _) (by simp)).mono ?_; rintro e w2 ⟨b1, b2, v, rfl, hb1, hb2, h1, h2, hR2, hB2⟩; have HB1 := Aside0.mk (below_step HB.out hB2); clear hb1 hb2 h1 h2 hR2 hB2) | (go_at_call 8; (with_reducible refine (next_abc_calls _ _ (C_row .u8 5 _ [97, 98, 99] #[.int .u8 97, .int .u8 98, .int .u8 99] _ rfl (by simp))).mono ?_); rintro e w3 ⟨rfl, hB2⟩; have HB2 := Aside0.mk (below_step (below_alloc HB1.out _) hB2); clear hB2) | (go_at_call 8; (with_reducible refine (next_none_calls _).mono ?_); rintro e w4 ⟨rfl, hB2⟩; have HB3 := Aside0.mk (below_step HB2.out hB2); clear hB2) | (go_at_call 13; (with_reducible refine (lengths_16 _ _ (C_row .u8 5 _ (List.replicate 40 0) zero40 _ rfl (by simp))).mono ?_); rintro e w5 ⟨v5, rfl, hR5, hB5⟩; obtain ⟨A5, c5, rfl⟩ := Kd.R_slice hR5; have HR5 := Aside0.mk (R_C hR5).2; have HB5 := Aside0.mk (below_step (below_alloc HB3.out _) hB5); clear hB5 hR5) | (go_at_call 15; (with_reducible refine (same_yes_calls _ _ _ _ (Kd.C_alloc HR5.out.2 _) HR5.out.1 (C_row .i64 3 _ [16, 16, 8] #[.int .i64 16, .int .i64 16, .int .i64 8] _ rfl (by simp))).mono ?_); rintro e w6 ⟨rfl, hD⟩; have HB6 := Aside0.mk (below_step (below_alloc HB5.out _) hD); clear hD))
  go_ret
  exact ⟨rfl, HB6.out⟩
end Go.Proofs.Ytpadajjlakhnjaa.H
