/- deduplaw05.CutNobody as a contract: it answers true. -/
import Derived.Test.YtpadajjlakhnjaaHc
import Derived.RangeFuncNested
namespace Go.Proofs.Ytpadajjlakhnjaa.H
open Go.RowKit Go.Shelf Go.Proofs.YtpadajjlakhnjaaW.PrintWords Go.Proofs.YtpadajjlakhnjaaW.PrintLast Go.Proofs.YtpadajjlakhnjaaW.PrintMore
set_option linter.unusedVariables false
set_option linter.unusedSimpArgs false
attribute [local go_sem] Oper.semAt_some

theorem made_nil (w : World) : Calls Try.prog 28 #[.pointer none] w fun e w' => e = .returned (.bool false) ∧ Below w.heap.size w w' := by
  go_enter Try.func28, Try.ntmps28
  go_wp2
  go_ret
  exact ⟨rfl, Below.refl _ _⟩
theorem write_nil (v : Value) (w : World) : Calls Try.prog 19 #[.pointer none, v] w fun e w' => e = .returned (.slice none 0 0) ∧ Below w.heap.size w w' := by
  go_enter Try.func19, Try.ntmps19
  go_wp2_with (go_at_call 28; refine (made_nil _).mono ?_; rintro e w1 ⟨rfl, hB⟩; have HB := Aside0.mk hB; clear hB)
  go_ret
  exact ⟨rfl, HB.out⟩
theorem end_nil (w : World) : Calls Try.prog 20 #[.pointer none] w fun e w' => e = .returned (.slice none 0 0) ∧ Below w.heap.size w w' := by
  go_enter Try.func20, Try.ntmps20
  go_wp2_with (go_at_call 28; refine (made_nil _).mono ?_; rintro e w1 ⟨rfl, hB⟩; have HB := Aside0.mk hB; clear hB)
  go_ret
  exact ⟨rfl, HB.out⟩

set_option maxRecDepth 100000 in
set_option maxHeartbeats 2000000 in
theorem nobody_any (A : Option Addr) (c : Nat) (l : List Int) (w : World) (hr : Kd.C (Kd.int .u8) w A l.length l) (hlc : l.length ≤ c) (hl : l.length ≤ 140737488355328) :
    Calls Try.prog 6 #[.slice A l.length c] w fun e w' => e = .returned (.bool true) ∧ Below w.heap.size w w' := by
  have HR := Aside0.mk hr
  have HL := Aside0.mk hl
  clear hr hl
  refine callsIn_wide.1 (callsIn_of_wp_marks (n := 0) Try.func6 rfl trivial ?_ rfl)
  refine wpIn_wide.2 ?_
  simp only [Try.ntmps6, List.size_toArray, List.length_cons, List.length_nil, Nat.reduceAdd, Nat.reduceSub, Array.replicate_succ, Array.replicate_zero, List.push_toArray, List.append_toArray, List.nil_append, List.cons_append]
  go_wp2_with (first | (go_at_call 10; refine (lives_any _).mono ?_; rintro e w1 ⟨rfl, hB⟩; have HB := Aside0.mk (below_step (below_alloc (Below.refl _ _) _) hB); have hq := (hB.block w.heap.size (by simp)).trans (World.alloc_heap_new w _); have HQ := Aside0.mk hq; clear hB hq) | (go_at_call 16; refine (cuts_any 0 0 0 0 A l c _ (Kd.C_below HR.out HB.out) (HL.out)).mono ?_; rintro e w2 ⟨b1, b2, v, rfl, hb1, hb2, h1, h2, hR2, hB2⟩; obtain ⟨A2, c2, rfl⟩ := Kd.R_slice hR2; have HB1 := Aside0.mk hb1; have HB2 := Aside0.mk hb2; have H1 := Aside0.mk h1; have H2 := Aside0.mk h2; have HR2 := Aside0.mk hR2; have HBB := Aside0.mk hB2; clear hb1 hb2 h1 h2 hR2 hB2))
  have hRC := R_C HR2.out
  have hSt : Typed (Sk b1 b2 A2) [4] w2 := by
    rintro k (rfl | rfl | ⟨ad, e, rfl⟩)
    · exact ⟨_, _, H1.out, by simp⟩
    · exact ⟨_, _, H2.out, by simp⟩
    · obtain ⟨_, _, cs, hc⟩ := R_block HR2.out ad e
      exact ⟨cs, 5, hc, by simp⟩
  have hBx : Boxed w2 w.heap.size 4 (.bool false) := (HBB.out.block w.heap.size (blk_lt HQ.out)).trans HQ.out
  have hB0 : Below w.heap.size w w2 := below_step HB.out HBB.out
  refine (wpIn_wide (n := 3)).1 ?_
  refine wpIn_rangeFunc_ownG (F := Fence.wide) rfl (by decide) (gf := 27) (lb := #[.pointer (some ⟨b1, 0, none⟩), .pointer (some ⟨b2, 0, none⟩)]) rfl trivial (enters_of Try.func27 (by kernel_rfl) rfl)
    (cuts_stops 2 50 0 0 0 0 (fun _ => 0) l b1 b2 A2 c2 (fun h => by cases h) (fun h => by cases h) (by decide) w2 H1.out H2.out hRC.2.2 hRC.2.1 hSt.lt) Keeps.t (Keeps.b hSt.lt) (Below.refl _ _) (fun _ => rfl)
    (fun pre W => Boxed W w.heap.size 4 (.bool false) ∧ Below w.heap.size w W)
    (fun _ _ _ => True)
    (OwnFrom.and (Own.from (boxed_own _ _ _) _) (ownFrom_below (Nat.le_refl _) (by have := hB0.size; omega)))
    (fun _ _ _ _ _ hs _ _ => hs)
    ⟨hBx, hB0⟩
    (fun x => { tmps := #[.slice A l.length c, undef, .pointer (some ⟨w.heap.size, 0, none⟩), .pointer none, .bool true, .bool false, .agg #[.int .i64 0, .int .i64 0, .int .i64 0, .int .u64 0], .slice A l.length c, .func (.func 27) #[] #[.pointer (some ⟨b1, 0, none⟩), .pointer (some ⟨b2, 0, none⟩)], .int .i64 x.1, .int .i64 x.2, undef, undef, undef, undef, undef, undef, undef, undef, undef, undef, undef, undef, undef, undef], defers := [] }) ?assign ?body ?done ?stop
  case assign =>
    intro l x W K hK
    gi_wp2
    exact hK
  case body =>
    rintro lp pre x W ⟨hv, hB⟩ hlt
    have hc := hv.cell
    have hf := hv.frozen
    gi_wp2
    exact ⟨(KeepsOthers.setCell _ _ _).from _, trivial⟩
  case done =>
    rintro D ys W hD hS ⟨hv, hB⟩ hK
    have hW := Aside0.mk hB
    have HV := Aside0.mk hv
    have HKD := Aside0.mk hK
    have hDlt := blk_lt hK
    have hB5v : ∀ {w' : World}, Below W.heap.size W w' → Boxed w' w.heap.size 4 (.bool false) := fun h => (h.block _ (blk_lt HV.out)).trans HV.out
    clear hB hv hK hS
    go_wp2_with (first | (go_at_call 10; refine (lives_any _).mono ?_; rintro e w3 ⟨rfl, hB⟩; have HB3 := Aside0.mk hB; clear hB) | (go_at_call 19; refine (write_nil _ _).mono ?_; rintro e w4 ⟨rfl, hB⟩; have HB4 := Aside0.mk (below_step HB3.out hB); clear hB) | (go_at_call 20; refine (end_nil _).mono ?_; rintro e w5 ⟨rfl, hB⟩; have HB5 := Aside0.mk (below_step HB4.out hB); have hx5 := hB5v HB5.out; have hv5 := hx5.cell; have hf5 := hx5.frozen; clear hB))
    have hne : w.heap.size ≠ D := by have := hBx.lt; omega
    have hK5 : (w5.setCell ⟨w.heap.size, 0, none⟩ (.bool true)).heap[D]? = some (.deferred (some [])) := (Below.heap_setCell _ _ _ _ (by exact fun e => hne e.symm)).trans ((HB5.out.block D hDlt).trans HKD.out)
    have hx6 := hx5.set (.bool true)
    have hB6 : Below w.heap.size w (w5.setCell ⟨w.heap.size, 0, none⟩ (.bool true)) := (below_step hW.out HB5.out).setCell (p := ⟨w.heap.size, 0, none⟩) (Nat.le_refl _) _
    refine ⟨by simp, .inl ⟨_, _, rfl, run_takeDeferred hK5, ?_⟩⟩
    have hc5 := cell_kept hx6.cell (grownBy_putObj' _ D (.deferred none)) (fun r e => by cases e; exact ⟨_, hK5, rfl⟩)
    refine ⟨.bool true, ?_, rfl, hB6.trans (belowK_b (w := w) (Nat.le_refl _) _ D _ _ (by have := hB0.size; omega) hK5 rfl rfl)⟩
    simp [results, Try.f6, go_sem, hc5]
  case stop =>
    rintro D c pre W _ h _ _
    exact absurd h.1 (by decide)
end Go.Proofs.Ytpadajjlakhnjaa.H
