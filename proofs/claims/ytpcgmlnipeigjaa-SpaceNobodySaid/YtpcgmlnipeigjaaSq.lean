/- deduplaw06.SpaceNobody as a contract: it answers true. -/
import Derived.Test.YtpcgmlnipeigjaaSp
import Derived.LoopN
namespace Go.Proofs.Ytpcgmlnipeigjaa.H
open Go.RowKit Go.Shelf Go.Proofs.YtpcgmlnipeigjaaW.PrintWords Go.Proofs.YtpcgmlnipeigjaaW.PrintLast Go.Proofs.YtpcgmlnipeigjaaW.PrintMore
set_option linter.unusedVariables false
set_option linter.unusedSimpArgs false
attribute [local go_sem] Oper.semAt_some

set_option maxHeartbeats 1000000 in
theorem take_no (p : Option Addr) (n : Int) (w : World) (h : NotMade w p) : Calls Try.prog 11 #[.pointer p, .int .i64 n] w fun e w' => e = .returned (.tuple #[.int .i64 0, .int .i64 6]) ∧ Below w.heap.size w w' := by
  obtain ⟨V, hV⟩ : ∃ V, (((w.alloc (.cells #[.pointer p] 25)).alloc (.cells #[.int .i64 n] 3)).alloc (.cells #[.int .i64 0] 3)).alloc (.cells #[.int .i64 0] 34) = V := ⟨_, rfl⟩
  have hB : Below w.heap.size w V := by rw [← hV]; exact below_alloc (below_alloc (below_alloc (below_alloc (Below.refl _ _) _) _) _) _
  have h2 : Boxed V (w.heap.size + 1 + 1) 3 (.int .i64 0) := by rw [← hV]; exact (Below.heap_alloc _ _ _ (by simp)).trans (alloc_new' (by simp) _)
  have h3 : Boxed V (w.heap.size + 1 + 1 + 1) 34 (.int .i64 0) := by rw [← hV]; exact alloc_new' (by simp) _
  have HN := Aside0.mk (h.below hB)
  have HB0 := Aside0.mk hB
  have H2 := Aside0.mk h2
  have H3 := Aside0.mk h3
  have HV := Aside0.mk hV
  clear h hB h2 h3 hV
  refine callsIn_wide.1 (callsIn_of_wp_marks (n := 0) Try.func11 rfl trivial ?_ rfl)
  refine wpIn_wide.2 ?_
  simp only [Try.ntmps11, List.size_toArray, List.length_cons, List.length_nil, Nat.reduceAdd, Nat.reduceSub, Array.replicate_succ, Array.replicate_zero, List.push_toArray, List.append_toArray, List.nil_append, List.cons_append]
  go_wp2_with (go_at_call 32; rw [HV.out]; refine (made_no p _ HN.out).mono ?_; rintro e w1 ⟨rfl, hB⟩; have g2 : Boxed w1 (w.heap.size + 1 + 1) 3 (.int .i64 0) := (hB.block _ (blk_lt H2.out)).trans H2.out; have g3 : Boxed w1 (w.heap.size + 1 + 1 + 1) 34 (.int .i64 0) := (hB.block _ (blk_lt H3.out)).trans H3.out; have k2 := g2.cell; have k3 := g3.cell; have f2 := g2.frozen; have f3 := g3.frozen; have G2 := Aside0.mk g2; have G3 := Aside0.mk g3; have HB := Aside0.mk (below_step HB0.out hB); clear hB g2 g3)
  have e2 := ((G2.out.set (.int .i64 0)).other (show w.heap.size + 1 + 1 ≠ w.heap.size + 1 + 1 + 1 by omega) (.int .i64 6)).cell
  have e3 := ((G3.out.other (show w.heap.size + 1 + 1 + 1 ≠ w.heap.size + 1 + 1 by omega) (.int .i64 0)).set (.int .i64 6)).cell
  refine ⟨_, ?_, rfl, (HB.out.setCell (p := ⟨w.heap.size + 1 + 1, 0, none⟩) (by show w.heap.size ≤ w.heap.size + 1 + 1; omega) _).setCell (p := ⟨w.heap.size + 1 + 1 + 1, 0, none⟩) (by show w.heap.size ≤ w.heap.size + 1 + 1 + 1; omega) _⟩
  simp [results, Try.f11, go_sem, e2, e3]

/-- The closure that Runs gives of it hands out nothing. -/
theorem runs_no (n : Nat) (p : Option Addr) (b : Nat) (w : World) (hb : w.heap[b]? = some (.cells #[.pointer p] 25 (0, 0))) (h : NotMade w p) :
    SeqStopsK Fence.wide n Try.prog 37 #[.pointer (some ⟨b, 0, none⟩)] (fun x : Int × Int => #[.agg #[.int .i64 x.1, .int .i64 x.2]]) (fun _ _ => True) (fun ys => ys = []) (fun _ => False) 0 w := by
  intro lp J Jx W hW hJ hJx hY h0
  refine callsIn_wide.2 ?_
  have hbW := (hW.block b (blk_lt hb)).trans hb
  have ha1 := (Below.heap_alloc W (.cells #[.func (.yield lp) #[] #[]] 70) b (blk_lt hbW)).trans hbW
  have hc0 := (blk_cell ha1 0).trans rfl
  have HN := Aside0.mk ((h.below hW).below (below_alloc (Below.refl W.heap.size W) (.cells #[.func (.yield lp) #[] #[]] 70)))
  have HJ := Aside0.mk hJ
  have H0 := Aside0.mk h0
  clear hJ hJx hY h0 hbW ha1
  go_enter Try.func37, Try.ntmps37
  go_wp2_with (go_at_call 32; refine (made_no p _ HN.out).mono ?_; rintro e w1 ⟨rfl, hB⟩; have HB := Aside0.mk (below_step (below_alloc (Below.refl W.heap.size W) _) hB); clear hB)
  refine bodyPost_ret (results_none rfl _ _ _) rfl ?_
  exact ⟨⟨_, rfl⟩, .inl ⟨[], rfl, HJ.out _ _ _ none H0.out (grownBy_of_below HB.out) (fun r e => by cases e)⟩⟩

/-- The box of the call that came in. -/
def BxN (W : World) (b : Nat) (kd n a0 a1 : Int) : Prop := W.heap[b]? = some (.cells #[.int .i64 kd, .int .i64 n, .int .i64 a0, .int .i64 a1] 33 (0, 0))
theorem BxN.c1 {W : World} {b : Nat} {kd n a0 a1 : Int} (h : BxN W b kd n a0 a1) : W.cell? ⟨b, 1, none⟩ = some (.int .i64 n) := (blk_cell h 1).trans rfl
theorem BxN.c2 {W : World} {b : Nat} {kd n a0 a1 : Int} (h : BxN W b kd n a0 a1) : W.cell? ⟨b, 2, none⟩ = some (.int .i64 a0) := (blk_cell h 2).trans rfl
theorem BxN.c3 {W : World} {b : Nat} {kd n a0 a1 : Int} (h : BxN W b kd n a0 a1) : W.cell? ⟨b, 3, none⟩ = some (.int .i64 a1) := (blk_cell h 3).trans rfl
/-- How it stands between two calls. -/
structure NB (w : World) (X : Nat) (kd n a0 a1 : Int) (W : World) : Prop where
  bx : BxN W w.heap.size kd n a0 a1
  rs : Boxed W (w.heap.size + 1) 4 (.bool false)
  z : W.cell? ⟨X, 1, none⟩ = some (.slice none 0 0)
  r : W.heap[X + 1]? = some (.cells #[.pointer none, .pointer (some ⟨X, 0, none⟩)] 25 (0, 0))
  bel : Below w.heap.size w W
theorem NB.below {w W W' : World} {X : Nat} {kd n a0 a1 : Int} (h : NB w X kd n a0 a1 W) (hb : Below W.heap.size W W') : NB w X kd n a0 a1 W' :=
  ⟨(hb.block _ (blk_lt h.bx)).trans h.bx, (hb.block _ (blk_lt h.rs)).trans h.rs, cell_later hb h.z, (hb.block _ (blk_lt h.r)).trans h.r, h.bel.trans (hb.mono h.bel.size)⟩
theorem NB.nm {w W : World} {X : Nat} {kd n a0 a1 : Int} (h : NB w X kd n a0 a1 W) : NotMade W (some ⟨X, 0, none⟩) := .inr ⟨X, rfl, h.z⟩
/-- A range over a function that hands out nothing. -/
theorem range_none {α : Type} {g : Operand} {ps : Array Tmp} {body : Code} {Q : Exit → Act → World → Prop} {a : Act} {w : World} {gf : Nat} {lb : Array Value} {encs : α → Array Value}
    (hg : a.eval g = .func (.func gf) #[] lb) (eg : ∀ args w, (callFunc gf args).run Try.prog w = .ok (.enter gf args) w) (hseq : SeqStopsK Fence.wide 2 Try.prog gf lb encs (fun _ _ => True) (fun ys => ys = []) (fun _ => False) 0 w) (hps : ∀ x, (encs x).size = ps.size)
    (hdone : ∀ (D : Nat) (W : World), w.heap.size ≤ D → Below w.heap.size w W → W.heap[D]? = some (.deferred (some [])) → Q .normal { a with defers := { target := .collected D, args := #[] } :: a.defers } W) :
    (Code.rangeFunc g ps Code.skip body).wp Try.prog Q a w := by
  refine (wpIn_wide (n := 3)).1 ?_
  exact wpIn_rangeFunc_ownG (F := Fence.wide) rfl (by decide) hg trivial eg hseq (fun _ _ => trivial) (fun _ _ _ _ _ _ _ _ => trivial) (Below.refl _ _) hps
    (fun _ W => Below w.heap.size w W) (fun _ _ _ => False) (ownFrom_below (Nat.le_refl _) (Nat.le_refl _)) (fun _ _ _ _ _ h _ _ => h) (Below.refl _ _)
    (fun x => { tmps := (ps.zip (encs x)).foldl (fun t (p, v) => t.setIfInBounds p v) a.tmps, defers := [] })
    (fun l x W K hK => wpIn_skip hK) (fun l pre x W _ h => absurd h (by omega)) (fun D xs W hD _ hI hK => hdone D W hD hI hK) (fun D c pre W _ h => h.elim)
theorem below_put {n D : Nat} {W : World} {o : Obj} (h : n ≤ D) : Below n W (W.putObj D o) := ⟨rfl, rfl, rfl, by simp, fun k hk => World.putObj_heap_other (by omega)⟩
theorem nobody_end {w W : World} {X D1 D2 : Nat} {kd n a0 a1 : Int} {tmps : Array Value} (H : NB w X kd n a0 a1 W) (h1 : W.heap[D1]? = some (.deferred (some []))) (h2 : W.heap[D2]? = some (.deferred (some []))) (h12 : D1 ≠ D2) (g1 : w.heap.size ≤ D1) (g2 : w.heap.size ≤ D2)
    (ht : tmps[2]?.getD undef = .pointer (some ⟨w.heap.size + 1, 0, none⟩) := by rfl) :
    bodyPostM Fence.wide 0 Try.prog Try.f9 (fun e w' => e = .returned (.bool true) ∧ Below w.heap.size w w') Exit.ret { tmps := tmps, defers := [{ target := .collected D2, args := #[] }, { target := .collected D1, args := #[] }] } (W.setCell ⟨w.heap.size + 1, 0, none⟩ (.bool true)) := by
  have hs := H.rs.set (.bool true)
  have hB : Below w.heap.size w (W.setCell ⟨w.heap.size + 1, 0, none⟩ (.bool true)) := H.bel.setCell (p := ⟨w.heap.size + 1, 0, none⟩) (by show w.heap.size ≤ w.heap.size + 1; omega) _
  have u1 := (KeepsOthers.setCell W ⟨w.heap.size + 1, 0, none⟩ (.bool true)).same D1 _ h1 rfl
  have u2 := (KeepsOthers.setCell W ⟨w.heap.size + 1, 0, none⟩ (.bool true)).same D2 _ h2 rfl
  obtain ⟨U, hU⟩ : ∃ U, W.setCell ⟨w.heap.size + 1, 0, none⟩ (.bool true) = U := ⟨_, rfl⟩
  rw [hU] at hs hB u1 u2 ⊢
  have n1 : w.heap.size + 1 ≠ D1 := fun e => by
    have h : U.heap[w.heap.size + 1]? = _ := hs
    rw [e, u1] at h; cases h
  have n2 : w.heap.size + 1 ≠ D2 := fun e => by
    have h : U.heap[w.heap.size + 1]? = _ := hs
    rw [e, u2] at h; cases h
  have v1 : (U.putObj D2 (.deferred none)).heap[D1]? = some (.deferred (some [])) := (World.putObj_heap_other h12).trans u1
  have hc : ((U.putObj D2 (.deferred none)).putObj D1 (.deferred none)).cell? ⟨w.heap.size + 1, 0, none⟩ = some (.bool true) :=
    Boxed.cell (t := 4) ((World.putObj_heap_other n1).trans ((World.putObj_heap_other n2).trans hs))
  refine ⟨by simp, .inl ⟨_, _, rfl, run_takeDeferred u2, ⟨by simp, .inl ⟨_, _, rfl, run_takeDeferred v1, ?_⟩⟩⟩⟩
  refine ⟨.bool true, ?_, rfl, hB.trans ((below_put g2).trans (below_put g1))⟩
  simp [results, Try.f9, go_sem, ht, hc]

set_option maxRecDepth 100000 in
set_option maxHeartbeats 4000000 in
theorem nobody_any (kd n a0 a1 : Int) (w : World) : Calls Try.prog 9 #[.agg #[.int .i64 kd, .int .i64 n, .int .i64 a0, .int .i64 a1]] w fun e w' => e = .returned (.bool true) ∧ Below w.heap.size w w' := by
  have hu54 := Try.underlying54
  have hu31 := Try.underlying31
  have hu33 := Try.underlying33
  have HBx := Aside0.mk (show BxN ((w.alloc (.cells #[.int .i64 kd, .int .i64 n, .int .i64 a0, .int .i64 a1] 33)).alloc (.cells #[.bool false] 4)) w.heap.size kd n a0 a1 from (Below.heap_alloc _ _ _ (by simp)).trans (blk_new w _))
  have HR := Aside0.mk (show Boxed ((w.alloc (.cells #[.int .i64 kd, .int .i64 n, .int .i64 a0, .int .i64 a1] 33)).alloc (.cells #[.bool false] 4)) (w.heap.size + 1) 4 (.bool false) from alloc_new' (by simp) _)
  have HB := Aside0.mk (below_alloc (below_alloc (Below.refl w.heap.size w) (.cells #[.int .i64 kd, .int .i64 n, .int .i64 a0, .int .i64 a1] 33)) (.cells #[.bool false] 4))
  refine callsIn_wide.1 (callsIn_of_wp_marks (n := 0) Try.func9 rfl trivial ?_ rfl)
  refine wpIn_wide.2 ?_
  simp only [Try.ntmps9, List.size_toArray, List.length_cons, List.length_nil, Nat.reduceAdd, Nat.reduceSub, Array.replicate_succ, Array.replicate_zero, List.push_toArray, List.append_toArray, List.nil_append, List.cons_append]
  go_wp2_with (first
    | (go_at_call 27; refine (awake_any _).mono ?_; rintro e w1 ⟨rfl, hB⟩; have HBx1 := Aside0.mk (show BxN w1 w.heap.size kd n a0 a1 from (hB.block _ (blk_lt HBx.out)).trans HBx.out); have HR1 := Aside0.mk (show Boxed w1 (w.heap.size + 1) 4 (.bool false) from (hB.block _ (blk_lt HR.out)).trans HR.out); have HB1 := Aside0.mk (below_step HB.out hB); clear hB))
  obtain ⟨X, hX⟩ : ∃ X, w1.heap.size = X := ⟨_, rfl⟩
  obtain ⟨V, hV⟩ : ∃ V, (w1.alloc (.cells #[.int .i64 0, .slice none 0 0, .int .i64 0, .int .i64 0, .int .i64 0, .int .i64 0] 54)).alloc (.cells #[.pointer none, .pointer (some ⟨w1.heap.size, 0, none⟩)] 25) = V := ⟨_, rfl⟩
  rw [hV]
  have hV1 : V.heap[w1.heap.size + 1]? = some (.cells #[.pointer none, .pointer (some ⟨w1.heap.size, 0, none⟩)] 25 (0, 0)) := by rw [← hV]; exact alloc_new' (by simp) _
  have hV0 : V.heap[w1.heap.size]? = some (.cells #[.int .i64 0, .slice none 0 0, .int .i64 0, .int .i64 0, .int .i64 0, .int .i64 0] 54 (0, 0)) := by rw [← hV]; exact (Below.heap_alloc _ _ _ (by simp)).trans (blk_new w1 _)
  have hVB : Below w1.heap.size w1 V := by rw [← hV]; exact below_alloc (below_alloc (Below.refl _ _) _) _
  have hNB : NB w X kd n a0 a1 V := ⟨(hVB.block _ (blk_lt HBx1.out)).trans HBx1.out, (hVB.block _ (blk_lt HR1.out)).trans HR1.out, by rw [← hX]; exact (blk_cell hV0 1).trans rfl, by rw [← hX]; exact hV1, HB1.out.trans (hVB.mono HB1.out.size)⟩
  rw [hX]
  have H := Aside0.mk hNB
  clear hV hV1 hV0 hVB hNB HBx HR HB HBx1 HR1 HB1 hX
  have r0 : V.cell? ⟨X + 1, 0, none⟩ = some (.pointer none) := (blk_cell H.out.r 0).trans rfl
  have c1 := H.out.bx.c1
  have c2 := H.out.bx.c2
  have c3 := H.out.bx.c3
  refine wp_loop_rounds 3 ?_
  rw [rounds_succ]
  go_wp2_with (first
    | (go_at_call 11; refine (take_no none n _ (.inl rfl)).mono ?_; rintro e Wn ⟨rfl, hB⟩; replace H := Aside0.mk (H.out.below hB); clear c1 c2 c3 hB; have c1 := H.out.bx.c1; have c2 := H.out.bx.c2; have c3 := H.out.bx.c3)
    | (go_at_call 17; refine (mark_no none a0 a1 _ (.inl rfl)).mono ?_; rintro e Wn ⟨rfl, hB⟩; replace H := Aside0.mk (H.out.below hB); clear c1 c2 c3 hB; have c1 := H.out.bx.c1; have c2 := H.out.bx.c2; have c3 := H.out.bx.c3)
    | (go_at_call 12; refine (free_no none a0 a1 _ (.inl rfl)).mono ?_; rintro e Wn ⟨rfl, hB⟩; replace H := Aside0.mk (H.out.below hB); clear c1 c2 c3 hB; have c1 := H.out.bx.c1; have c2 := H.out.bx.c2; have c3 := H.out.bx.c3)
    | (go_at_call 13; refine (later_no none a0 a1 _ (.inl rfl)).mono ?_; rintro e Wn ⟨rfl, hB⟩; replace H := Aside0.mk (H.out.below hB); clear c1 c2 c3 hB; have c1 := H.out.bx.c1; have c2 := H.out.bx.c2; have c3 := H.out.bx.c3)
    | (go_at_call 15; refine (reserve_no none n _ (.inl rfl)).mono ?_; rintro e Wn ⟨rfl, hB⟩; replace H := Aside0.mk (H.out.below hB); clear c1 c2 c3 hB; have c1 := H.out.bx.c1; have c2 := H.out.bx.c2; have c3 := H.out.bx.c3)
    | (go_at_call 16; refine (release_no none n _ (.inl rfl)).mono ?_; rintro e Wn ⟨rfl, hB⟩; replace H := Aside0.mk (H.out.below hB); clear c1 c2 c3 hB; have c1 := H.out.bx.c1; have c2 := H.out.bx.c2; have c3 := H.out.bx.c3)
    | (go_at_call 14; refine (settle_no none  _ (.inl rfl)).mono ?_; rintro e Wn ⟨rfl, hB⟩; replace H := Aside0.mk (H.out.below hB); clear c1 c2 c3 hB; have c1 := H.out.bx.c1; have c2 := H.out.bx.c2; have c3 := H.out.bx.c3)
    | (go_at_call 21; refine (left_no none  _ (.inl rfl)).mono ?_; rintro e Wn ⟨rfl, hB⟩; replace H := Aside0.mk (H.out.below hB); clear c1 c2 c3 hB; have c1 := H.out.bx.c1; have c2 := H.out.bx.c2; have c3 := H.out.bx.c3)
    | (go_at_call 19; refine (used_no none  _ (.inl rfl)).mono ?_; rintro e Wn ⟨rfl, hB⟩; replace H := Aside0.mk (H.out.below hB); clear c1 c2 c3 hB; have c1 := H.out.bx.c1; have c2 := H.out.bx.c2; have c3 := H.out.bx.c3)
    | (go_at_call 20; refine (waiting_no none  _ (.inl rfl)).mono ?_; rintro e Wn ⟨rfl, hB⟩; replace H := Aside0.mk (H.out.below hB); clear c1 c2 c3 hB; have c1 := H.out.bx.c1; have c2 := H.out.bx.c2; have c3 := H.out.bx.c3)
    | (go_at_call 28; refine (has_no none n _ (.inl rfl)).mono ?_; rintro e Wn ⟨rfl, hB⟩; replace H := Aside0.mk (H.out.below hB); clear c1 c2 c3 hB; have c1 := H.out.bx.c1; have c2 := H.out.bx.c2; have c3 := H.out.bx.c3)
    | (go_at_call 29; refine (bits_no none  _ (.inl rfl)).mono ?_; rintro e Wn ⟨rfl, hB⟩; replace H := Aside0.mk (H.out.below hB); clear c1 c2 c3 hB; have c1 := H.out.bx.c1; have c2 := H.out.bx.c2; have c3 := H.out.bx.c3)
    | (go_at_call 24; refine (fork_no none  _ (.inl rfl)).mono ?_; rintro e Wn ⟨rfl, hB⟩; replace H := Aside0.mk (H.out.below hB); clear c1 c2 c3 hB; have c1 := H.out.bx.c1; have c2 := H.out.bx.c2; have c3 := H.out.bx.c3)
    | (go_at_call 18; refine (runsOf_any none _).mono ?_; rintro e Wn ⟨b, rfl, _, hb, hB⟩; replace H := Aside0.mk (H.out.below hB); have Hb := Aside0.mk hb; clear c1 c2 c3 hB hb))
  clear r0
  refine range_none rfl (enters_of Try.func37 (by kernel_rfl) rfl) (runs_no 2 none b _ Hb.out (.inl rfl)) (fun _ => rfl) ?_
  intro D1 Wa hD1 hBa hKa
  have HD := Aside0.mk (And.intro hKa (show w.heap.size ≤ D1 from Nat.le_trans H.out.bel.size hD1))
  replace H := Aside0.mk (H.out.below hBa)
  clear hBa hKa hD1 Hb
  have r1 : Wa.cell? ⟨X + 1, 1, none⟩ = some (.pointer (some ⟨X, 0, none⟩)) := (blk_cell H.out.r 1).trans rfl
  have c1 := H.out.bx.c1
  have c2 := H.out.bx.c2
  have c3 := H.out.bx.c3
  go_wp2
  rw [rounds_succ]
  go_wp2_with (first
    | (go_at_call 11; refine (take_no (some ⟨X, 0, none⟩) n _ H.out.nm).mono ?_; rintro e Wn ⟨rfl, hB⟩; replace H := Aside0.mk (H.out.below hB); replace HD := Aside0.mk (And.intro ((hB.block _ (blk_lt HD.out.1)).trans HD.out.1) HD.out.2); clear c1 c2 c3 hB; have c1 := H.out.bx.c1; have c2 := H.out.bx.c2; have c3 := H.out.bx.c3)
    | (go_at_call 17; refine (mark_no (some ⟨X, 0, none⟩) a0 a1 _ H.out.nm).mono ?_; rintro e Wn ⟨rfl, hB⟩; replace H := Aside0.mk (H.out.below hB); replace HD := Aside0.mk (And.intro ((hB.block _ (blk_lt HD.out.1)).trans HD.out.1) HD.out.2); clear c1 c2 c3 hB; have c1 := H.out.bx.c1; have c2 := H.out.bx.c2; have c3 := H.out.bx.c3)
    | (go_at_call 12; refine (free_no (some ⟨X, 0, none⟩) a0 a1 _ H.out.nm).mono ?_; rintro e Wn ⟨rfl, hB⟩; replace H := Aside0.mk (H.out.below hB); replace HD := Aside0.mk (And.intro ((hB.block _ (blk_lt HD.out.1)).trans HD.out.1) HD.out.2); clear c1 c2 c3 hB; have c1 := H.out.bx.c1; have c2 := H.out.bx.c2; have c3 := H.out.bx.c3)
    | (go_at_call 13; refine (later_no (some ⟨X, 0, none⟩) a0 a1 _ H.out.nm).mono ?_; rintro e Wn ⟨rfl, hB⟩; replace H := Aside0.mk (H.out.below hB); replace HD := Aside0.mk (And.intro ((hB.block _ (blk_lt HD.out.1)).trans HD.out.1) HD.out.2); clear c1 c2 c3 hB; have c1 := H.out.bx.c1; have c2 := H.out.bx.c2; have c3 := H.out.bx.c3)
    | (go_at_call 15; refine (reserve_no (some ⟨X, 0, none⟩) n _ H.out.nm).mono ?_; rintro e Wn ⟨rfl, hB⟩; replace H := Aside0.mk (H.out.below hB); replace HD := Aside0.mk (And.intro ((hB.block _ (blk_lt HD.out.1)).trans HD.out.1) HD.out.2); clear c1 c2 c3 hB; have c1 := H.out.bx.c1; have c2 := H.out.bx.c2; have c3 := H.out.bx.c3)
    | (go_at_call 16; refine (release_no (some ⟨X, 0, none⟩) n _ H.out.nm).mono ?_; rintro e Wn ⟨rfl, hB⟩; replace H := Aside0.mk (H.out.below hB); replace HD := Aside0.mk (And.intro ((hB.block _ (blk_lt HD.out.1)).trans HD.out.1) HD.out.2); clear c1 c2 c3 hB; have c1 := H.out.bx.c1; have c2 := H.out.bx.c2; have c3 := H.out.bx.c3)
    | (go_at_call 14; refine (settle_no (some ⟨X, 0, none⟩)  _ H.out.nm).mono ?_; rintro e Wn ⟨rfl, hB⟩; replace H := Aside0.mk (H.out.below hB); replace HD := Aside0.mk (And.intro ((hB.block _ (blk_lt HD.out.1)).trans HD.out.1) HD.out.2); clear c1 c2 c3 hB; have c1 := H.out.bx.c1; have c2 := H.out.bx.c2; have c3 := H.out.bx.c3)
    | (go_at_call 21; refine (left_no (some ⟨X, 0, none⟩)  _ H.out.nm).mono ?_; rintro e Wn ⟨rfl, hB⟩; replace H := Aside0.mk (H.out.below hB); replace HD := Aside0.mk (And.intro ((hB.block _ (blk_lt HD.out.1)).trans HD.out.1) HD.out.2); clear c1 c2 c3 hB; have c1 := H.out.bx.c1; have c2 := H.out.bx.c2; have c3 := H.out.bx.c3)
    | (go_at_call 19; refine (used_no (some ⟨X, 0, none⟩)  _ H.out.nm).mono ?_; rintro e Wn ⟨rfl, hB⟩; replace H := Aside0.mk (H.out.below hB); replace HD := Aside0.mk (And.intro ((hB.block _ (blk_lt HD.out.1)).trans HD.out.1) HD.out.2); clear c1 c2 c3 hB; have c1 := H.out.bx.c1; have c2 := H.out.bx.c2; have c3 := H.out.bx.c3)
    | (go_at_call 20; refine (waiting_no (some ⟨X, 0, none⟩)  _ H.out.nm).mono ?_; rintro e Wn ⟨rfl, hB⟩; replace H := Aside0.mk (H.out.below hB); replace HD := Aside0.mk (And.intro ((hB.block _ (blk_lt HD.out.1)).trans HD.out.1) HD.out.2); clear c1 c2 c3 hB; have c1 := H.out.bx.c1; have c2 := H.out.bx.c2; have c3 := H.out.bx.c3)
    | (go_at_call 28; refine (has_no (some ⟨X, 0, none⟩) n _ H.out.nm).mono ?_; rintro e Wn ⟨rfl, hB⟩; replace H := Aside0.mk (H.out.below hB); replace HD := Aside0.mk (And.intro ((hB.block _ (blk_lt HD.out.1)).trans HD.out.1) HD.out.2); clear c1 c2 c3 hB; have c1 := H.out.bx.c1; have c2 := H.out.bx.c2; have c3 := H.out.bx.c3)
    | (go_at_call 29; refine (bits_no (some ⟨X, 0, none⟩)  _ H.out.nm).mono ?_; rintro e Wn ⟨rfl, hB⟩; replace H := Aside0.mk (H.out.below hB); replace HD := Aside0.mk (And.intro ((hB.block _ (blk_lt HD.out.1)).trans HD.out.1) HD.out.2); clear c1 c2 c3 hB; have c1 := H.out.bx.c1; have c2 := H.out.bx.c2; have c3 := H.out.bx.c3)
    | (go_at_call 24; refine (fork_no (some ⟨X, 0, none⟩)  _ H.out.nm).mono ?_; rintro e Wn ⟨rfl, hB⟩; replace H := Aside0.mk (H.out.below hB); replace HD := Aside0.mk (And.intro ((hB.block _ (blk_lt HD.out.1)).trans HD.out.1) HD.out.2); clear c1 c2 c3 hB; have c1 := H.out.bx.c1; have c2 := H.out.bx.c2; have c3 := H.out.bx.c3)
    | (go_at_call 18; refine (runsOf_any (some ⟨X, 0, none⟩) _).mono ?_; rintro e Wn ⟨b, rfl, _, hb, hB⟩; replace H := Aside0.mk (H.out.below hB); replace HD := Aside0.mk (And.intro ((hB.block _ (blk_lt HD.out.1)).trans HD.out.1) HD.out.2); have Hb := Aside0.mk hb; clear c1 c2 c3 hB hb))
  clear r1
  refine range_none rfl (enters_of Try.func37 (by kernel_rfl) rfl) (runs_no 2 (some ⟨X, 0, none⟩) b _ Hb.out H.out.nm) (fun _ => rfl) ?_
  intro D2 Wb hD2 hBb hKb
  have HE := Aside0.mk (And.intro hKb (show w.heap.size ≤ D2 from Nat.le_trans H.out.bel.size hD2))
  have hlt1 := blk_lt HD.out.1
  have hD12 : D1 ≠ D2 := by omega
  replace HD := Aside0.mk (And.intro ((hBb.block _ (blk_lt HD.out.1)).trans HD.out.1) HD.out.2)
  replace H := Aside0.mk (H.out.below hBb)
  clear hBb hKb hD2 Hb
  go_wp2
  rw [rounds_succ]
  have f2 := H.out.rs.frozen
  have k2 := H.out.rs.cell
  go_wp2
  exact nobody_end H.out HD.out.1 HE.out.1 hD12 HD.out.2 HE.out.2
theorem nobody_law (kd n a0 a1 : Int) (w : World) {p q r s : Prop} (_ : p) (_ : q) (_ : r) (_ : s) : Calls Try.prog 9 #[.agg #[.int .i64 kd, .int .i64 n, .int .i64 a0, .int .i64 a1]] w fun e w' => e = .returned (.bool true) ∧ Below w.heap.size w w' := nobody_any kd n a0 a1 w
end Go.Proofs.Ytpcgmlnipeigjaa.H
