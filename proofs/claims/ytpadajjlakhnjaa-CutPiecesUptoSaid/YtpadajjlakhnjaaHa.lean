/- The iterator Cuts of package cut: slices.Clone, Cuts, its closure, as contracts. -/
import Derived.Test.YtpadajjlakhnjaaHq
import Derived.RangeFuncBox
import Derived.RangeFuncLeaves
import Derived.Shelf.Abstract
import Derived.OwnWalkIn
import Derived.TacticsInMore
import Derived.LoopNIn
import Derived.LoopIn
import Derived.WalkSpells
import Derived.StillTailTactics
namespace Go.Proofs.Ytpadajjlakhnjaa.H
open Go.RowKit Go.Shelf Go.Proofs.YtpadajjlakhnjaaW.PrintWords Go.Proofs.YtpadajjlakhnjaaW.PrintLast Go.Proofs.YtpadajjlakhnjaaW.PrintMore
set_option linter.unusedVariables false
set_option linter.unusedSimpArgs false

theorem info5 : (Try.prog.info? 5).map (fun i => (i.zero, i.size, i.bytes)) = some (some (.int .u8 0), 1, 1) := by kernel_rfl

set_option maxHeartbeats 1000000 in
theorem clone_nil (c : Nat) (w : World) :
    Calls Try.prog 26 #[.slice none 0 c] w fun e w' => e = .returned (.slice none 0 0) ∧ Drawn0 w w' := by
  have e1 := fun W => Lib.run_eql_slice_nil (P := Try.prog) (w := W)
  go_enter Try.func26, Try.ntmps26
  go_wp2
  go_ret
  exact ⟨rfl, Drawn0.refl _⟩

/-- An empty row that was just made. -/
theorem R_empty {α : Type} (d : Kd α) (e : Nat) (w : World) : d.R e (w.alloc (.cells #[] e)) w.heap.size (fun k => w.heap.size ≤ k) (.slice (some ⟨w.heap.size, 0, none⟩) 0 0) [] := by
  refine ⟨fun k hk => ?_, [], ?_, Reps.none _ _⟩
  · have : w.heap.size = k := by simpa [Value.ownBlock] using hk
    omega
  · have h2 := World.ownsRow_lit (base := w.heap.size) (e := e) (size := d.sz) w #[] 0 (Nat.le_refl _) (by simp [maxLen]) (by simp)
    simpa using h2

set_option maxHeartbeats 1000000 in
theorem clone_some (ad : Addr) (l : List Int) (c : Nat) (w : World) (hr : Kd.C (Kd.int .u8) w (some ad) l.length l) (hl : l.length ≤ 140737488355328) :
    Calls Try.prog 26 #[.slice (some ad) l.length c] w fun e w' => ∃ v, e = .returned v ∧ Kd.R (Kd.int .u8) 5 w' w.heap.size (fun k => w.heap.size ≤ k) v l ∧ Below w.heap.size w w' := by
  have e1 := fun W => Lib.run_eql_slice_nil (P := Try.prog) (w := W)
  have HR := Aside0.mk hr
  have HL := Aside0.mk hl
  clear hr hl
  go_enter Try.func26, Try.ntmps26
  go_wp2_with (at_builtin; go_must (refine Kd.R_append_rows (Kd.int .u8) (w0 := w) w.heap.size rfl (.tmp 5) (.tmp 6) 25 5 (.int .u8 0) 1 rfl Try.underlying25 info5 rfl (by decide) (by omega) (.slice (some ⟨w.heap.size, 0, none⟩) 0 0) [] l _ _ _ (fun k => w.heap.size ≤ k) (fun _ => False) rfl rfl ?aO ?aC (fun _ _ h => h) (fun _ h => h.elim) ?aF ?aB ?aS ?aL ?_); (case aF => intro k hk; simp at hk; omega); (case aO => exact R_empty _ _ _); (case aC => exact Kd.C_alloc HR.out _); (case aB => exact below_alloc (Below.refl _ _) _); (case aS => simp); (case aL => have := HL.out; simp; omega); intro v1 w1 hR1 hB1 _ _; have HR1 := Aside0.mk hR1; have HB1 := Aside0.mk hB1; clear hR1 hB1)
  go_ret
  exact ⟨_, rfl, by simpa using HR1.out, HB1.out⟩
theorem clone_any (A : Option Addr) (l : List Int) (c : Nat) (w : World) (hr : Kd.C (Kd.int .u8) w A l.length l) (hl : l.length ≤ 140737488355328) :
    Calls Try.prog 26 #[.slice A l.length c] w fun e w' => ∃ v, e = .returned v ∧ Kd.R (Kd.int .u8) 5 w' w.heap.size (fun k => w.heap.size ≤ k) v l ∧ Below w.heap.size w w' := by
  cases A with
  | none =>
    have h0 : l.length = 0 := by
      rcases Nat.eq_zero_or_pos l.length with h0 | h0
      · exact h0
      · obtain ⟨ad, h, _⟩ := hr.2.2 h0
        cases h
    obtain rfl := List.eq_nil_of_length_eq_zero h0
    refine (clone_nil c w).mono ?_
    rintro e w' ⟨rfl, hd⟩
    obtain ⟨n, rfl⟩ := hd.out
    exact ⟨_, rfl, Kd.R_nil _ _ _ _ _, pw_below_drewN (Below.refl _ _) _⟩
  | some ad => exact clone_some ad l c w hr hl

set_option maxHeartbeats 1000000 in
/-- Cuts: the shape and a copy of the bytes are boxed; the function value captures both boxes. -/
theorem cuts_any (a0 a1 a2 a3 : Int) (A : Option Addr) (l : List Int) (c : Nat) (w : World) (hr : Kd.C (Kd.int .u8) w A l.length l) (hl : l.length ≤ 140737488355328) :
    Calls Try.prog 16 #[.agg #[.int .i64 a0, .int .i64 a1, .int .i64 a2, .int .u64 a3], .slice A l.length c] w fun e w' =>
      ∃ b1 b2 v, e = .returned (.func (.func 27) #[] #[.pointer (some ⟨b1, 0, none⟩), .pointer (some ⟨b2, 0, none⟩)]) ∧ w.heap.size ≤ b1 ∧ w.heap.size ≤ b2 ∧
        w'.heap[b1]? = some (.cells #[.int .i64 a0, .int .i64 a1, .int .i64 a2, .int .u64 a3] 24 (0, 0)) ∧ w'.heap[b2]? = some (.cells #[v] 25 (0, 0)) ∧
        Kd.R (Kd.int .u8) 5 w' w.heap.size (fun k => w.heap.size ≤ k) v l ∧ Below w.heap.size w w' := by
  have HR := Aside0.mk hr
  have HL := Aside0.mk hl
  clear hr hl
  go_enter Try.func16, Try.ntmps16
  go_wp2_with (go_at_call 26; refine (clone_any A l c _ (Kd.C_alloc HR.out _) HL.out).mono ?_; rintro e w' ⟨v, rfl, hR, hB⟩; obtain ⟨A2, c2, rfl⟩ := Kd.R_slice hR; have HR1 := Aside0.mk hR; have HB1 := Aside0.mk hB; clear hR hB)
  go_ret
  have hB := HB1.out
  have hsz : w.heap.size + 1 ≤ w'.heap.size := by simpa using hB.size
  refine ⟨w.heap.size, w'.heap.size, .slice A2 l.length c2, rfl, Nat.le_refl _, by omega, ?_, ?_, ?_, ?_⟩
  · rw [Below.heap_alloc _ _ _ (by omega), hB.block _ (by simp)]
    exact World.alloc_heap_new w _
  · exact World.alloc_heap_new w' _
  · exact Kd.R_mono (Kd.R_lower (Kd.R_below HR1.out (below_alloc (Below.refl _ _) _)) (by simp)) (fun k hk => by simp at hk; omega)
  · exact below_alloc (below_step (below_alloc (Below.refl _ _) _) hB) _
/-! ### the pieces: what the iterator hands out -/
/-- One round: the piece at s.2. -/
def cstep (F : List Int → Int) (l : List Int) (s : List (Int × Int) × Int) : List (Int × Int) × Int := (s.1 ++ [(s.2, F (l.drop s.2.toNat))], s.2 + F (l.drop s.2.toNat))
def cst (F : List Int → Int) (l : List Int) : Nat → List (Int × Int) × Int
  | 0 => ([], 0)
  | k + 1 => cstep F l (cst F l k)
theorem cst_length (F : List Int → Int) (l : List Int) (k : Nat) : (cst F l k).1.length = k := by
  induction k with
  | zero => rfl
  | succ k ih => simp [cst, cstep, ih]
/-- F is a first cut: of what is not empty it is 1 to all of it. -/
def Fst (F : List Int → Int) (l : List Int) : Prop := ∀ m, m < l.length → 1 ≤ F (l.drop m) ∧ F (l.drop m) ≤ (l.length : Int) - m
theorem cst_at {F : List Int → Int} {l : List Int} (h : Fst F l) (k : Nat) : (∀ j, j < k → (cst F l j).2 < l.length) → (k : Int) ≤ (cst F l k).2 ∧ (cst F l k).2 ≤ l.length := by
  induction k with
  | zero => intro _; simp [cst]
  | succ k ih =>
    intro hj
    obtain ⟨h1, h2⟩ := ih (fun j hjk => hj j (by omega))
    have h3 := hj k (by omega)
    have := h (cst F l k).2.toNat (by omega)
    simp only [cst, cstep]
    omega
/-- What lies in these blocks lies as it lay. -/
def Keeps (S : Nat → Prop) (W W' : World) : Prop := ∀ k, S k → W'.heap[k]? = W.heap[k]?
theorem Keeps.t {S : Nat → Prop} {A B C : World} (h : Keeps S A B) (k : Keeps S B C) : Keeps S A C := fun i hi => (k i hi).trans (h i hi)
theorem Keeps.b {S : Nat → Prop} {w : World} (hS : ∀ k, S k → k < w.heap.size) (W : World) (l : Nat) (o o' : Obj) (hl : w.heap.size ≤ l) (_ : W.heap[l]? = some o) (_ : o.isCells = false) (_ : o.isWalk = false) : Keeps S W (W.putObj l o') := by
  intro k hk
  exact World.putObj_heap_other (by have := hS k hk; omega)

theorem grownBy_of_below {w w' : World} (h : Below w.heap.size w w') : w.grownBy w' none := ⟨h.os, h.tape, h.output, h.size, fun k hk _ => h.block k hk⟩
theorem Keeps.of_below {S : Nat → Prop} {w w' : World} (hS : ∀ k, S k → k < w.heap.size) (h : Below w.heap.size w w') : Keeps S w w' := fun k hk => h.block k (hS k hk)
theorem add_block (ad : Addr) (k : Nat) : (ad.add k).block = ad.block := by
  unfold Addr.add
  first | rfl | (split <;> rfl)
theorem Keeps.lt {S : Nat → Prop} {w w' : World} (h : Keeps S w w') (hS : ∀ k, S k → k < w.heap.size) : ∀ k, S k → k < w'.heap.size := by
  intro k hk
  have h1 := Array.getElem?_eq_getElem (hS k hk)
  exact (Array.getElem?_eq_some_iff.1 ((h k hk).trans h1)).1
theorem C_keeps {w w' : World} {k : IntKind} {A : Option Addr} {n : Nat} {l : List Int} (h : Kd.C (Kd.int k) w A n l) (hk : ∀ ad, A = some ad → w'.heap[ad.block]? = w.heap[ad.block]?) : Kd.C (Kd.int k) w' A n l := by
  refine ⟨h.1, h.2.1, fun hn => ?_⟩
  obtain ⟨ad, rfl, hc⟩ := h.2.2 hn
  refine ⟨ad, rfl, fun j p hj => ?_⟩
  obtain ⟨cs, h1, h2, h3⟩ := hc j p hj
  exact ⟨cs, h1, h2, fun i u hu => (World.cell?_of_block (a := ad.add (j * (Kd.int k).sz + i)) (by rw [show (ad.add (j * (Kd.int k).sz + i)).block = ad.block from add_block _ _]; exact hk ad rfl)).trans (h3 i u hu)⟩
/-- The blocks that the closure reads. -/
def Sk (b1 b2 : Nat) (A : Option Addr) (k : Nat) : Prop := k = b1 ∨ k = b2 ∨ ∃ ad, A = some ad ∧ k = ad.block
theorem drop_run (A : Option Addr) (c : Nat) (l : List Int) (j : Int) (h0 : 0 ≤ j) (hm : j ≤ l.length) (hc : l.length ≤ c) :
    ∃ A' : Option Addr, (∀ W : World, (Instr.slice 25 (.slice A l.length c) (some (.int .i64 j)) none none).run Try.prog W = .ok (.slice A' (l.drop j.toNat).length (c - j.toNat)) W) ∧
      (∀ w : World, Kd.C (Kd.int .u8) w A l.length l → Kd.C (Kd.int .u8) w A' (l.drop j.toNat).length (l.drop j.toNat)) ∧ (l.drop j.toNat).length ≤ c - j.toNat := by
  obtain ⟨i0, hi, hzz⟩ := Option.map_eq_some_iff.1 info5
  simp only [Prod.mk.injEq] at hzz
  obtain ⟨A', h1, h2, h3⟩ := print_drop_of (P := Try.prog) (Value.int .u8) (0 : Int) 25 5 .i64 Try.underlying25 hi hzz.2.1 A c l j h0 hm hc
  exact ⟨A', h1, fun w h => by have := h2 w (Kd.reads_of_C (d := (0 : Int)) h); exact Kd.C_of_reads this, h3⟩

set_option maxRecDepth 100000 in
set_option maxHeartbeats 2000000 in
theorem cuts1_any (n : Nat) (a0 a1 a2 a3 : Int) (F : List Int → Int) (l : List Int) (b1 b2 lp : Nat) (A : Option Addr) (c : Nat) (J Jx : List (Int × Int) → World → Prop)
    (hF : Fst F l) (hk : ∀ (A : Option Addr) (c : Nat) (m : List Int) (w : World), Kd.C (Kd.int .u8) w A m.length m → Calls Try.prog 24 #[.agg #[.int .i64 a0, .int .i64 a1, .int .i64 a2, .int .u64 a3], .slice A m.length c] w fun e w' => e = .returned (.int .i64 (F m)) ∧ Below w.heap.size w w') (hch : check a0 a1 a2 = 0)
    (hY : ∀ pre x W, J pre W → pre.length < l.length → YieldAt Fence.wide (n - 1) Try.prog lp #[.int .i64 x.1, .int .i64 x.2] W fun e W' =>
      (e = .returned (.bool true) ∧ J (pre ++ [x]) W' ∧ Keeps (Sk b1 b2 A) W W') ∨ (e = .returned (.bool false) ∧ Jx (pre ++ [x]) W'))
    (W : World) (h1 : W.heap[b1]? = some (.cells #[.int .i64 a0, .int .i64 a1, .int .i64 a2, .int .u64 a3] 24 (0, 0))) (h2 : W.heap[b2]? = some (.cells #[.slice A l.length c] 25 (0, 0)))
    (hR : Kd.C (Kd.int .u8) W A l.length l) (hc : l.length ≤ c) (h0 : J [] W) (hJ : AbidesFrom W.heap.size J) (hS : ∀ k, Sk b1 b2 A k → k < W.heap.size) :
    Calls Try.prog 27 #[.func (.yield lp) #[] #[], .pointer (some ⟨b1, 0, none⟩), .pointer (some ⟨b2, 0, none⟩)] W fun e W' => (∃ v, e = .returned v) ∧
      ((∃ ys, (∃ k, cst F l k = (ys, (l.length : Int)) ∧ ∀ j, j < k → (cst F l j).2 < l.length) ∧ J ys W') ∨ (∃ pre, (∃ k, k ≤ l.length ∧ (cst F l k).1 = pre ∧ (∀ j, j < k → (cst F l j).2 < l.length)) ∧ Jx pre W')) := by
  have hx1 : W.cell? ⟨b1, 0, none⟩ = some (.int .i64 a0) := (blk_cell h1 0).trans rfl
  have hx2 : W.cell? ⟨b1, 1, none⟩ = some (.int .i64 a1) := (blk_cell h1 1).trans rfl
  have hx3 : W.cell? ⟨b1, 2, none⟩ = some (.int .i64 a2) := (blk_cell h1 2).trans rfl
  have hx4 : W.cell? ⟨b1, 3, none⟩ = some (.int .u64 a3) := (blk_cell h1 3).trans rfl
  have hu24 := Try.underlying24
  have HF := Aside0.mk hF
  have HK := Aside0.mk hk
  have HCH := Aside0.mk hch
  have HY := Aside0.mk hY
  have HR := Aside0.mk hR
  have HC := Aside0.mk hc
  have H0 := Aside0.mk h0
  have HJ := Aside0.mk hJ
  have HS := Aside0.mk hS
  have H1 := Aside0.mk h1
  have H2 := Aside0.mk h2
  clear hF hk hch hY hR hc h0 hJ hS h1 h2
  go_enter Try.func27, Try.ntmps27
  go_wp2_with (go_at_call 11; refine (check_any a0 a1 a2 a3 _).mono ?_; rintro e w' ⟨rfl, hB⟩; rw [HCH.out]; have HB := Aside0.mk hB; clear hB)
  go_loopw [4] (fun at_ wr => ∃ (k : Nat) (pre : List (Int × Int)) (x : Int), at_ = .int .i64 x ∧ Aside0 (cst F l k = (pre, x) ∧ (∀ j, j < k → (cst F l j).2 < l.length)) ∧ Aside0 (J pre wr) ∧ Aside0 (Keeps (Sk b1 b2 A) W wr) ) (fun at_ _ => l.length - (intOf at_).toNat)
  case atStart => exact ⟨0, [], 0, rfl, ⟨rfl, fun j hj => absurd hj (Nat.not_lt_zero _)⟩, ⟨HJ.out _ _ _ none H0.out (grownBy_of_below HB.out) (fun r e => by cases e)⟩, ⟨Keeps.of_below HS.out HB.out⟩⟩
  case round =>
    obtain ⟨k, pre, x, rfl, HK1, HJ1, HP1⟩ := hrel
    clear HB
    have hb1 := (HP1.out b1 (.inl rfl)).trans H1.out
    have hb2 := (HP1.out b2 (.inr (.inl rfl))).trans H2.out
    have hy1 : wr.cell? ⟨b1, 0, none⟩ = some (.int .i64 a0) := (blk_cell hb1 0).trans rfl
    have hy2 : wr.cell? ⟨b1, 1, none⟩ = some (.int .i64 a1) := (blk_cell hb1 1).trans rfl
    have hy3 : wr.cell? ⟨b1, 2, none⟩ = some (.int .i64 a2) := (blk_cell hb1 2).trans rfl
    have hy4 : wr.cell? ⟨b1, 3, none⟩ = some (.int .u64 a3) := (blk_cell hb1 3).trans rfl
    have hy5 : wr.cell? ⟨b2, 0, none⟩ = some (.slice A l.length c) := (blk_cell hb2 0).trans rfl
    have HRr := Aside0.mk (C_keeps HR.out (fun ad e => HP1.out _ (.inr (.inr ⟨ad, e, rfl⟩))))
    clear hx1 hx2 hx3 hx4 hb1 hb2
    have hxx := cst_at HF.out k HK1.out.2
    rw [HK1.out.1] at hxx
    have hx0 : 0 ≤ x := by have := hxx.1; omega
    have hxk : (k : Int) ≤ x := hxx.1
    have hxl : x ≤ l.length := hxx.2
    clear hxx
    by_cases hlt : x < l.length
    · have hl1 : decide (x < (l.length : Int)) = true := decide_eq_true hlt
      obtain ⟨A', hsl, hcl, hle⟩ := drop_run A c l x hx0 hxl HC.out
      obtain ⟨m, hm⟩ : ∃ m, l.drop x.toNat = m := ⟨_, rfl⟩
      rw [hm] at hsl hcl hle
      have HM := Aside0.mk hm
      clear hm
      have HCL := Aside0.mk hcl
      have HLE := Aside0.mk hle
      clear hcl hle
      go_wp2
      go_still_tail 4, (by kernel_rfl)
      change wpList _ _ _ _ _ wr.drew
      go_upto_region 4 with (first | (go_at_call 24; with_reducible refine (HK.out A' _ m _ (Kd.C_drew (HCL.out _ HRr.out))).mono ?_; rintro e wf ⟨rfl, hB⟩; have HB := Aside0.mk hB; clear hB))
      have hJf : J pre wf := HJ.out _ _ _ none (HJ.out _ _ _ none HJ1.out (grownBy_of_below (below_drew (Below.refl _ wr))) (fun r e => by cases e)) (grownBy_of_below HB.out) (fun r e => by cases e)
      have hPf : Keeps (Sk b1 b2 A) W wf := HP1.out.t (Keeps.of_below (HP1.out.lt HS.out) (below_step (below_drew (Below.refl _ wr)) HB.out))
      have hlen := cst_length F l k
      rw [HK1.out.1] at hlen
      obtain ⟨fn, tmps, assign, body, hy, hRd⟩ := HY.out pre (x, F m) wf hJf (by have : pre.length = k := hlen; omega)
      dsimp only at hy
      have HPF := Aside0.mk hPf
      have HRD := Aside0.mk hRd
      clear hJf hPf hRd hlen
      have hFm := HF.out x.toNat (by omega)
      rw [HM.out] at hFm
      have hF1 : 1 ≤ F m := hFm.1
      have hF2 : x + F m ≤ l.length := by have := hFm.2; omega
      have hll : (l.length : Int) ≤ 9223372036854775807 := by have := HR.out.2.1; omega
      clear hFm
      refine (wpIn_wide (n := n)).1 ?_
      gi_wp2
      refine ⟨fun h => by simp [Fence.wide] at h, ?_⟩
      refine HRD.out.mono ?_
      rintro e W3 (⟨rfl, hJ3, hk3⟩ | ⟨rfl, hJx3⟩)
      · have HJ3 := Aside0.mk hJ3
        have HK3 := Aside0.mk hk3
        clear hJ3 hk3
        gi_wp2
        go_wp2
        go_roundw
        case rel => 
          refine ⟨k + 1, pre ++ [(x, F m)], x + F m, by go_num, ⟨?_, ?_⟩, HJ3, ⟨HPF.out.t HK3.out⟩⟩
          · simp only [cst, cstep, HK1.out.1, HM.out]
          · intro j hj
            rcases Nat.lt_succ_iff_lt_or_eq.1 hj with h | rfl
            · exact HK1.out.2 j h
            · rw [HK1.out.1]; exact hlt
        case measure => simp [intOf]; omega
      · have HJ3 := Aside0.mk hJx3
        clear hJx3
        gi_wp2
        go_wp2
        refine bodyPost_ret (results_none rfl _ _ _) rfl ?_
        refine ⟨⟨_, rfl⟩, .inr ⟨_, ⟨k + 1, by omega, ?_, ?_⟩, HJ3.out⟩⟩
        · simp only [cst, cstep, HK1.out.1, HM.out]
        · intro j hj
          rcases Nat.lt_succ_iff_lt_or_eq.1 hj with h | rfl
          · exact HK1.out.2 j h
          · rw [HK1.out.1]; exact hlt
    · obtain rfl : x = l.length := by omega
      go_wp2
      go_end0
      exact ⟨⟨_, rfl⟩, .inl ⟨pre, ⟨k, HK1.out⟩, HJ1.out⟩⟩
end Go.Proofs.Ytpadajjlakhnjaa.H
