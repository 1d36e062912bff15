/- deduplaw06.SpaceAdds as a contract: it answers true. -/
import Derived.Test.YtpcgmlnipeigjaaSn
import Derived.Test.YtpcgmlnipeigjaaSr
import Derived.Test.YtpcgmlnipeigjaaSo
import Derived.Test.YtpcgmlnipeigjaaSt0
import Derived.Deep.Cut
namespace Go.Proofs.Ytpcgmlnipeigjaa.H
open Go.RowKit Go.Shelf Go.Proofs.YtpcgmlnipeigjaaW.PrintWords Go.Proofs.YtpcgmlnipeigjaaW.PrintLast Go.Proofs.YtpcgmlnipeigjaaW.PrintMore
set_option linter.unusedVariables false
set_option linter.unusedSimpArgs false
attribute [local go_sem] Oper.semAt_some

theorem SpAt.drewN {w : World} {X g : Nat} {first res : Int} {l : List Int} {c : Int → Int} (h : SpAt w X g first l c res) (n : Nat) : SpAt (w.drewN n) X g first l c res := h.below (pw_below_drewN (Below.refl _ _) n)
set_option maxHeartbeats 1000000 in
theorem made_q (X g : Nat) (first res : Int) (l : List Int) (c : Int → Int) (w : World) (hS : SpAt w X g first l c res) :
    Calls Try.prog 32 #[.pointer (some ⟨X, 0, none⟩)] w fun e w' => e = .returned (.bool true) ∧ w' = w := by
  have hu54 := Try.underlying54
  obtain ⟨K, _, hx1⟩ := hS.xk
  have e1 := fun W => run_neq_slice_nil (P := Try.prog) W 51 5 (some ⟨g, 0, none⟩) l.length K Try.underlying51
  clear hS
  go_enter Try.func32, Try.ntmps32
  go_wp2
  go_ret
  exact ⟨rfl, rfl⟩
set_option maxHeartbeats 1000000 in
theorem used_q (X g : Nat) (first res v : Int) (l : List Int) (c : Int → Int) (w : World) (hS : SpAt w X g first l c res) (hv : c 1 = v) :
    Calls Try.prog 19 #[.pointer (some ⟨X, 0, none⟩)] w fun e w' => e = .returned (.int .i64 v) ∧ w' = w := by
  subst hv
  have hu54 := Try.underlying54
  have hu52 := Try.underlying52
  have HS := Aside0.mk hS
  have hx3 := hS.x3
  clear hS
  go_enter Try.func19, Try.ntmps19
  go_wp2_with (go_at_call 32; refine (made_q X g first res l c _ HS.out).mono ?_; rintro e w1 ⟨rfl, rfl⟩)
  go_ret
  exact ⟨rfl, rfl⟩
set_option maxHeartbeats 1000000 in
theorem waiting_q (X g : Nat) (first res v : Int) (l : List Int) (c : Int → Int) (w : World) (hS : SpAt w X g first l c res) (hv : c 2 = v) :
    Calls Try.prog 20 #[.pointer (some ⟨X, 0, none⟩)] w fun e w' => e = .returned (.int .i64 v) ∧ w' = w := by
  subst hv
  have hu54 := Try.underlying54
  have hu52 := Try.underlying52
  have HS := Aside0.mk hS
  have hx4 := hS.x4
  clear hS
  go_enter Try.func20, Try.ntmps20
  go_wp2_with (go_at_call 32; refine (made_q X g first res l c _ HS.out).mono ?_; rintro e w1 ⟨rfl, rfl⟩)
  go_ret
  exact ⟨rfl, rfl⟩
set_option maxHeartbeats 1000000 in
theorem left_q (X g : Nat) (first res L : Int) (l : List Int) (c : Int → Int) (w : World) (hS : SpAt w X g first l c res) (h0 : 0 ≤ c 0 ∧ c 0 ≤ 4096) (hr : 0 ≤ res ∧ res ≤ 4096) (hL : c 0 - res = L) :
    Calls Try.prog 21 #[.pointer (some ⟨X, 0, none⟩)] w fun e w' => e = .returned (.int .i64 L) ∧ ∃ m, w' = w.drewN m := by
  have hu54 := Try.underlying54
  have hu52 := Try.underlying52
  have HS := Aside0.mk hS
  subst hL
  have e1 : wrap64 (c 0 - res) = c 0 - res := by unfold wrap64; omega
  have hx2 := hS.x2
  have hx5 := hS.x5
  clear hS
  go_enter Try.func21, Try.ntmps21
  go_wp2_with (go_at_call 32; refine (made_q X g first res l c _ HS.out).mono ?_; rintro e w1 ⟨rfl, rfl⟩)
  go_quiet (fail)
  go_wp2
  go_ret
  exact ⟨by first | rfl | rw [e1], _, rfl⟩

/-- Nothing that is no cells has been touched. -/
theorem mv_others {n0 X g : Nat} {first res : Int} {l : List Int} {c : Int → Int} {w w' : World} (hS : SpAt w X g first l c res) (h : Mv n0 X g w w') : KeepsOthers w w' := ⟨h.bel.size, fun k o hk ho => by
  refine (h.keep k (blk_lt hk) ?_ ?_).trans hk
  · rintro rfl
    obtain ⟨K, _, hb⟩ := hS.blk
    rw [hb] at hk; cases hk; cases ho
  · rintro rfl
    obtain ⟨cs, hr⟩ := hS.row.ty
    rw [hr] at hk; cases hk; cases ho⟩
/-- The blocks of the loops' deferred calls. -/
def Dfs (n0 : Nat) (ds : List Nat) (W : World) : Prop := ds.Nodup ∧ ∀ D ∈ ds, n0 ≤ D ∧ W.heap[D]? = some (.deferred (some []))
theorem Dfs.keep {n0 : Nat} {ds : List Nat} {W W' : World} (h : Dfs n0 ds W) (hk : KeepsOthers W W') : Dfs n0 ds W' := ⟨h.1, fun D hD => ⟨(h.2 D hD).1, hk.same D _ (h.2 D hD).2 rfl⟩⟩
theorem Dfs.below {n0 : Nat} {ds : List Nat} {W W' : World} (h : Dfs n0 ds W) (hk : Below W.heap.size W W') : Dfs n0 ds W' := h.keep ⟨hk.size, fun k o hk' _ => (hk.block k (blk_lt hk')).trans hk'⟩
theorem Dfs.cons {n0 D : Nat} {ds : List Nat} {W : World} (h : Dfs n0 ds W) (hD : W.heap[D]? = some (.deferred (some []))) (hn : n0 ≤ D) (hd : D ∉ ds) : Dfs n0 (D :: ds) W := ⟨List.nodup_cons.2 ⟨hd, h.1⟩, fun E hE => by
  rcases List.mem_cons.1 hE with rfl | hE
  · exact ⟨hn, hD⟩
  · exact h.2 E hE⟩
def coll (D : Nat) : Deferred := { target := .collected D, args := #[] }
theorem leaves_many {fn : Func} {tmps : Array Value} {R : Ending → World → Prop} {n0 : Nat} (ds : List Nat) : ∀ (W : World), Dfs n0 ds W → (∀ W', Below n0 W W' → (∀ k, k ∉ ds → W'.heap[k]? = W.heap[k]?) → LeavesInM Fence.wide 0 Try.prog fn tmps R [] .returning W') → LeavesInM Fence.wide 0 Try.prog fn tmps R (ds.map coll) .returning W := by
  induction ds with
  | nil => exact fun W _ h => h W (Below.refl _ _) (fun _ _ => rfl)
  | cons D ds ih =>
    intro W hd h
    have hD := hd.2 D (by simp)
    have hnd := List.nodup_cons.1 hd.1
    refine ⟨by simp, .inl ⟨D, _, rfl, run_takeDeferred hD.2, ?_⟩⟩
    have hp : Below n0 W (W.putObj D (.deferred none)) := ⟨rfl, rfl, rfl, by simp, fun k hk => World.putObj_heap_other (by omega)⟩
    refine ih _ ⟨hnd.2, fun E hE => ⟨(hd.2 E (by simp [hE])).1, (World.putObj_heap_other (fun (e : E = D) => hnd.1 (by rw [← e]; exact hE))).trans (hd.2 E (by simp [hE])).2⟩⟩ (fun W' hb hk => h W' (hp.trans hb) (fun k hk' => ?_))
    rw [List.mem_cons, not_or] at hk'
    exact (hk k hk'.2).trans (World.putObj_heap_other hk'.1)
/-- How it stands between two calls of the script. -/
structure AD (w : World) (X g : Nat) (first count : Int) (A : Option Addr) (m c : Nat) (ds : List Nat) (l : List Int) (res : Int) (W : World) : Prop where
  sp : SpAt W X g first l (cnt l) res
  sc : W.heap[w.heap.size]? = some (.cells #[.int .i64 first, .int .i64 count, .slice A m c] 24 (0, 0))
  rs : Boxed W (w.heap.size + 1) 4 (.bool false)
  df : Dfs w.heap.size ds W
  bel : Below w.heap.size w W
namespace AD
variable {w W W' : World} {X g m c : Nat} {first count res res' : Int} {A : Option Addr} {l l' : List Int} {ds : List Nat}
theorem mv (h : AD w X g first count A m c ds l res W) (ha : w.heap.size + 1 < X ∧ w.heap.size + 1 < g) (hS : SpAt W' X g first l' (cnt l') res') (hM : Mv w.heap.size X g W W') : AD w X g first count A m c ds l' res' W' :=
  ⟨hS, (hM.keep _ (blk_lt h.sc) (by omega) (by omega)).trans h.sc, (hM.keep _ (blk_lt h.rs) (by omega) (by omega)).trans h.rs, h.df.keep (mv_others h.sp hM), h.bel.trans hM.bel⟩
theorem below (h : AD w X g first count A m c ds l res W) (hb : Below W.heap.size W W') : AD w X g first count A m c ds l res W' :=
  ⟨h.sp.below hb, (hb.block _ (blk_lt h.sc)).trans h.sc, (hb.block _ (blk_lt h.rs)).trans h.rs, h.df.below hb, h.bel.trans (hb.mono h.bel.size)⟩
theorem fin {fn : Func} {tmps : Array Value} (h : AD w X g first count A m c ds l res W) (ht : tmps[2]?.getD undef = .pointer (some ⟨w.heap.size + 1, 0, none⟩)) (hr : fn.results = Try.f4.results) :
    LeavesInM Fence.wide 0 Try.prog fn tmps (fun e w' => e = .returned (.bool true) ∧ Below w.heap.size w w') (ds.map coll) .returning (W.setCell ⟨w.heap.size + 1, 0, none⟩ (.bool true)) := by
  have hs := h.rs.set (.bool true)
  have hB : Below w.heap.size w (W.setCell ⟨w.heap.size + 1, 0, none⟩ (.bool true)) := h.bel.setCell (p := ⟨w.heap.size + 1, 0, none⟩) (by show w.heap.size ≤ w.heap.size + 1; omega) _
  have hd := h.df.keep (KeepsOthers.setCell W ⟨w.heap.size + 1, 0, none⟩ (.bool true))
  refine leaves_many ds _ hd (fun W' hb hk => ?_)
  have hn : w.heap.size + 1 ∉ ds := fun hn => by
    have h1 := (hd.2 _ hn).2
    rw [show _ = _ from hs] at h1
    cases h1
  have hc : W'.cell? ⟨w.heap.size + 1, 0, none⟩ = some (.bool true) := Boxed.cell (t := 4) ((hk _ hn).trans hs)
  refine ⟨.bool true, ?_, rfl, hB.trans hb⟩
  simp [results, hr, Try.f4, go_sem, ht, hc]
theorem s1 (h : AD w X g first count A m c ds l res W) : W.cell? ⟨w.heap.size, 1, none⟩ = some (.int .i64 count) := (blk_cell h.sc 1).trans rfl
end AD

/-- How many have come. -/
def sumR {l : List Int} (pre : List (Run l)) : Int := (pre.map (fun x => x.1.2)).sum
theorem sumR_snoc {l : List Int} (pre : List (Run l)) (x : Run l) : sumR (pre ++ [x]) = sumR pre + x.1.2 := by unfold sumR; simp
theorem sumR_bound {l : List Int} (hl : l.length ≤ 4096) (pre : List (Run l)) : 0 ≤ sumR pre ∧ sumR pre ≤ 4096 * pre.length := by
  induction pre with
  | nil => simp [sumR]
  | cons x r ih =>
    obtain ⟨a, k, hak, hk, h1, _⟩ := runsL_good x.2
    have h2 : x.1.2 = k := by rw [hak]
    unfold sumR at ih ⊢
    rw [List.map_cons, List.sum_cons, List.length_cons]
    omega
theorem sumR_all {l : List Int} (ys : List (Run l)) (h : ys.map Subtype.val = runsL l) : sumR ys = cnt l 0 := by
  rw [← runsL_sum]
  refine Eq.trans ?_ (congrArg (fun q => (q.map Prod.snd).sum) h)
  unfold sumR
  simp [List.map_map, Function.comp_def]

theorem shape_ds {w : World} {X Y : Nat} {first count : Int} {A : Option Addr} {c : Nat} {ops : List Op4} {i res : Int} (t : Array Value) (h : t.size = 121) (hc : t.getD 0 undef = .agg #[.int .i64 first, .int .i64 count, .slice A ops.length c] ∧ t.getD 1 undef = .pointer (some ⟨w.heap.size, 0, none⟩) ∧ t.getD 2 undef = .pointer (some ⟨w.heap.size + 1, 0, none⟩) ∧ t.getD 3 undef = .pointer (some ⟨X, 0, none⟩) ∧ t.getD 4 undef = .pointer (some ⟨Y, 0, none⟩) ∧ t.getD 5 undef = .bool true ∧ t.getD 6 undef = .int .i64 res ∧ t.getD 7 undef = undef ∧ t.getD 11 undef = .tuple #[.pointer (some ⟨X, 0, none⟩), .pointer (some ⟨Y, 0, none⟩), .bool true] ∧ t.getD 12 undef = .agg #[.int .i64 first, .int .i64 count, .slice A ops.length c] ∧ t.getD 13 undef = .tuple #[.pointer (some ⟨X, 0, none⟩), .pointer (some ⟨Y, 0, none⟩), .bool true] ∧ t.getD 14 undef = .pointer (some ⟨X, 0, none⟩) ∧ t.getD 15 undef = .pointer (some ⟨Y, 0, none⟩) ∧ t.getD 16 undef = .bool true ∧ t.getD 17 undef = .bool true ∧ t.getD 18 undef = .bool false ∧ t.getD 19 undef = .bool false ∧ t.getD 20 undef = .pointer (some ⟨Y, 0, none⟩) ∧ t.getD 21 undef = .bool false ∧ t.getD 22 undef = .bool false ∧ t.getD 23 undef = undef ∧ t.getD 24 undef = .pointer (some ⟨w.heap.size, 2, none⟩) ∧ t.getD 25 undef = .slice A ops.length c ∧ t.getD 26 undef = .int .i64 (ops.length : Nat) ∧ t.getD 27 undef = .int .i64 i) : ∃ u : Nat → Value, t = #[.agg #[.int .i64 first, .int .i64 count, .slice A ops.length c], .pointer (some ⟨w.heap.size, 0, none⟩), .pointer (some ⟨w.heap.size + 1, 0, none⟩), .pointer (some ⟨X, 0, none⟩), .pointer (some ⟨Y, 0, none⟩), .bool true, .int .i64 res, undef, u 8, u 9, u 10, .tuple #[.pointer (some ⟨X, 0, none⟩), .pointer (some ⟨Y, 0, none⟩), .bool true], .agg #[.int .i64 first, .int .i64 count, .slice A ops.length c], .tuple #[.pointer (some ⟨X, 0, none⟩), .pointer (some ⟨Y, 0, none⟩), .bool true], .pointer (some ⟨X, 0, none⟩), .pointer (some ⟨Y, 0, none⟩), .bool true, .bool true, .bool false, .bool false, .pointer (some ⟨Y, 0, none⟩), .bool false, .bool false, undef, .pointer (some ⟨w.heap.size, 2, none⟩), .slice A ops.length c, .int .i64 (ops.length : Nat), .int .i64 i, u 28, u 29, u 30, u 31, u 32, u 33, u 34, u 35, u 36, u 37, u 38, u 39, u 40, u 41, u 42, u 43, u 44, u 45, u 46, u 47, u 48, u 49, u 50, u 51, u 52, u 53, u 54, u 55, u 56, u 57, u 58, u 59, u 60, u 61, u 62, u 63, u 64, u 65, u 66, u 67, u 68, u 69, u 70, u 71, u 72, u 73, u 74, u 75, u 76, u 77, u 78, u 79, u 80, u 81, u 82, u 83, u 84, u 85, u 86, u 87, u 88, u 89, u 90, u 91, u 92, u 93, u 94, u 95, u 96, u 97, u 98, u 99, u 100, u 101, u 102, u 103, u 104, u 105, u 106, u 107, u 108, u 109, u 110, u 111, u 112, u 113, u 114, u 115, u 116, u 117, u 118, u 119, u 120] := by
  obtain ⟨h0, h1, h2, h3, h4, h5, h6, h7, h11, h12, h13, h14, h15, h16, h17, h18, h19, h20, h21, h22, h23, h24, h25, h26, h27⟩ := hc
  refine ⟨fun k => t.getD k undef, (arr121 t h).trans ?_⟩
  rw [h0, h1, h2, h3, h4, h5, h6, h7, h11, h12, h13, h14, h15, h16, h17, h18, h19, h20, h21, h22, h23, h24, h25, h26, h27]

theorem shape_ax {w : World} {X Y bf Bx : Nat} {first count : Int} {A : Option Addr} {c : Nat} {ops : List Op4} {i res : Int} (t : Array Value) (h : t.size = 121) (hc : t.getD 0 undef = .agg #[.int .i64 first, .int .i64 count, .slice A ops.length c] ∧ t.getD 1 undef = .pointer (some ⟨w.heap.size, 0, none⟩) ∧ t.getD 2 undef = .pointer (some ⟨w.heap.size + 1, 0, none⟩) ∧ t.getD 3 undef = .pointer (some ⟨X, 0, none⟩) ∧ t.getD 4 undef = .pointer (some ⟨Y, 0, none⟩) ∧ t.getD 5 undef = .bool true ∧ t.getD 6 undef = .int .i64 res ∧ t.getD 7 undef = undef ∧ t.getD 9 undef = .pointer (some ⟨bf, 0, none⟩) ∧ t.getD 10 undef = .pointer (some ⟨Bx, 0, none⟩) ∧ t.getD 11 undef = .tuple #[.pointer (some ⟨X, 0, none⟩), .pointer (some ⟨Y, 0, none⟩), .bool true] ∧ t.getD 12 undef = .agg #[.int .i64 first, .int .i64 count, .slice A ops.length c] ∧ t.getD 13 undef = .tuple #[.pointer (some ⟨X, 0, none⟩), .pointer (some ⟨Y, 0, none⟩), .bool true] ∧ t.getD 14 undef = .pointer (some ⟨X, 0, none⟩) ∧ t.getD 15 undef = .pointer (some ⟨Y, 0, none⟩) ∧ t.getD 16 undef = .bool true ∧ t.getD 17 undef = .bool true ∧ t.getD 18 undef = .bool false ∧ t.getD 19 undef = .bool false ∧ t.getD 20 undef = .pointer (some ⟨Y, 0, none⟩) ∧ t.getD 21 undef = .bool false ∧ t.getD 22 undef = .bool false ∧ t.getD 23 undef = undef ∧ t.getD 24 undef = .pointer (some ⟨w.heap.size, 2, none⟩) ∧ t.getD 25 undef = .slice A ops.length c ∧ t.getD 26 undef = .int .i64 (ops.length : Nat) ∧ t.getD 27 undef = .int .i64 i) : ∃ u : Nat → Value, (Act.mk t []) = { tmps := #[.agg #[.int .i64 first, .int .i64 count, .slice A ops.length c], .pointer (some ⟨w.heap.size, 0, none⟩), .pointer (some ⟨w.heap.size + 1, 0, none⟩), .pointer (some ⟨X, 0, none⟩), .pointer (some ⟨Y, 0, none⟩), .bool true, .int .i64 res, undef, u 8, .pointer (some ⟨bf, 0, none⟩), .pointer (some ⟨Bx, 0, none⟩), .tuple #[.pointer (some ⟨X, 0, none⟩), .pointer (some ⟨Y, 0, none⟩), .bool true], .agg #[.int .i64 first, .int .i64 count, .slice A ops.length c], .tuple #[.pointer (some ⟨X, 0, none⟩), .pointer (some ⟨Y, 0, none⟩), .bool true], .pointer (some ⟨X, 0, none⟩), .pointer (some ⟨Y, 0, none⟩), .bool true, .bool true, .bool false, .bool false, .pointer (some ⟨Y, 0, none⟩), .bool false, .bool false, undef, .pointer (some ⟨w.heap.size, 2, none⟩), .slice A ops.length c, .int .i64 (ops.length : Nat), .int .i64 i, u 28, u 29, u 30, u 31, u 32, u 33, u 34, u 35, u 36, u 37, u 38, u 39, u 40, u 41, u 42, u 43, u 44, u 45, u 46, u 47, u 48, u 49, u 50, u 51, u 52, u 53, u 54, u 55, u 56, u 57, u 58, u 59, u 60, u 61, u 62, u 63, u 64, u 65, u 66, u 67, u 68, u 69, u 70, u 71, u 72, u 73, u 74, u 75, u 76, u 77, u 78, u 79, u 80, u 81, u 82, u 83, u 84, u 85, u 86, u 87, u 88, u 89, u 90, u 91, u 92, u 93, u 94, u 95, u 96, u 97, u 98, u 99, u 100, u 101, u 102, u 103, u 104, u 105, u 106, u 107, u 108, u 109, u 110, u 111, u 112, u 113, u 114, u 115, u 116, u 117, u 118, u 119, u 120], defers := [] } := by
  obtain ⟨h0, h1, h2, h3, h4, h5, h6, h7, h9, h10, h11, h12, h13, h14, h15, h16, h17, h18, h19, h20, h21, h22, h23, h24, h25, h26, h27⟩ := hc
  refine ⟨fun k => t.getD k undef, congrArg (fun t => Act.mk t []) ((arr121 t h).trans ?_)⟩
  rw [h0, h1, h2, h3, h4, h5, h6, h7, h9, h10, h11, h12, h13, h14, h15, h16, h17, h18, h19, h20, h21, h22, h23, h24, h25, h26, h27]

theorem shape_loop {w : World} {X Y : Nat} {first count : Int} {A : Option Addr} {c : Nat} {ops : List Op4} {i res : Int} {d d' : List Deferred} {P : Prop} (t : Array Value) (h : t.size = 121) (hc : t.getD 0 undef = .agg #[.int .i64 first, .int .i64 count, .slice A ops.length c] ∧ t.getD 1 undef = .pointer (some ⟨w.heap.size, 0, none⟩) ∧ t.getD 2 undef = .pointer (some ⟨w.heap.size + 1, 0, none⟩) ∧ t.getD 3 undef = .pointer (some ⟨X, 0, none⟩) ∧ t.getD 4 undef = .pointer (some ⟨Y, 0, none⟩) ∧ t.getD 5 undef = .bool true ∧ t.getD 6 undef = .int .i64 res ∧ t.getD 7 undef = undef ∧ t.getD 11 undef = .tuple #[.pointer (some ⟨X, 0, none⟩), .pointer (some ⟨Y, 0, none⟩), .bool true] ∧ t.getD 12 undef = .agg #[.int .i64 first, .int .i64 count, .slice A ops.length c] ∧ t.getD 13 undef = .tuple #[.pointer (some ⟨X, 0, none⟩), .pointer (some ⟨Y, 0, none⟩), .bool true] ∧ t.getD 14 undef = .pointer (some ⟨X, 0, none⟩) ∧ t.getD 15 undef = .pointer (some ⟨Y, 0, none⟩) ∧ t.getD 16 undef = .bool true ∧ t.getD 17 undef = .bool true ∧ t.getD 18 undef = .bool false ∧ t.getD 19 undef = .bool false ∧ t.getD 20 undef = .pointer (some ⟨Y, 0, none⟩) ∧ t.getD 21 undef = .bool false ∧ t.getD 22 undef = .bool false ∧ t.getD 23 undef = undef ∧ t.getD 24 undef = .pointer (some ⟨w.heap.size, 2, none⟩) ∧ t.getD 25 undef = .slice A ops.length c ∧ t.getD 26 undef = .int .i64 (ops.length : Nat) ∧ t.getD 27 undef = .int .i64 i) (hd : d = d') (hP : P) : ∃ u : Nat → Value, (Act.mk t d) = { tmps := #[.agg #[.int .i64 first, .int .i64 count, .slice A ops.length c], .pointer (some ⟨w.heap.size, 0, none⟩), .pointer (some ⟨w.heap.size + 1, 0, none⟩), .pointer (some ⟨X, 0, none⟩), .pointer (some ⟨Y, 0, none⟩), .bool true, .int .i64 res, undef, u 8, u 9, u 10, .tuple #[.pointer (some ⟨X, 0, none⟩), .pointer (some ⟨Y, 0, none⟩), .bool true], .agg #[.int .i64 first, .int .i64 count, .slice A ops.length c], .tuple #[.pointer (some ⟨X, 0, none⟩), .pointer (some ⟨Y, 0, none⟩), .bool true], .pointer (some ⟨X, 0, none⟩), .pointer (some ⟨Y, 0, none⟩), .bool true, .bool true, .bool false, .bool false, .pointer (some ⟨Y, 0, none⟩), .bool false, .bool false, undef, .pointer (some ⟨w.heap.size, 2, none⟩), .slice A ops.length c, .int .i64 (ops.length : Nat), .int .i64 i, u 28, u 29, u 30, u 31, u 32, u 33, u 34, u 35, u 36, u 37, u 38, u 39, u 40, u 41, u 42, u 43, u 44, u 45, u 46, u 47, u 48, u 49, u 50, u 51, u 52, u 53, u 54, u 55, u 56, u 57, u 58, u 59, u 60, u 61, u 62, u 63, u 64, u 65, u 66, u 67, u 68, u 69, u 70, u 71, u 72, u 73, u 74, u 75, u 76, u 77, u 78, u 79, u 80, u 81, u 82, u 83, u 84, u 85, u 86, u 87, u 88, u 89, u 90, u 91, u 92, u 93, u 94, u 95, u 96, u 97, u 98, u 99, u 100, u 101, u 102, u 103, u 104, u 105, u 106, u 107, u 108, u 109, u 110, u 111, u 112, u 113, u 114, u 115, u 116, u 117, u 118, u 119, u 120], defers := d' } ∧ P := by
  obtain ⟨u, hu⟩ := shape_ds t h hc
  exact ⟨u, by rw [hu, hd], hP⟩

set_option maxRecDepth 100000 in
set_option maxHeartbeats 4000000 in
theorem adds_good (first count : Int) (A : Option Addr) (c : Nat) (ops : List Op4) (w : World) (hb : okN first count = true) (ho : OpsAt w A ops) (hol : ops.length ≤ 9223372036854775807) :
    Calls Try.prog 4 #[.agg #[.int .i64 first, .int .i64 count, .slice A ops.length c]] w fun e w' => e = .returned (.bool true) ∧ Below w.heap.size w w' := by
  have hu24 := Try.underlying24
  have hu33 := Try.underlying33
  have hu31 := Try.underlying31
  have HO := Aside0.mk ho
  have HB := Aside0.mk hb
  have HQ := Aside0.mk (show ((w.alloc (.cells #[.int .i64 first, .int .i64 count, .slice A ops.length c] 24)).alloc (.cells #[.bool false] 4)).heap[w.heap.size]? = some (.cells #[.int .i64 first, .int .i64 count, .slice A ops.length c] 24 (0, 0)) from (Below.heap_alloc _ _ _ (by simp)).trans (blk_new w _))
  have HR := Aside0.mk (show Boxed ((w.alloc (.cells #[.int .i64 first, .int .i64 count, .slice A ops.length c] 24)).alloc (.cells #[.bool false] 4)) (w.heap.size + 1) 4 (.bool false) from alloc_new' (by simp) _)
  have HBb := Aside0.mk (below_alloc (below_alloc (Below.refl w.heap.size w) (.cells #[.int .i64 first, .int .i64 count, .slice A ops.length c] 24)) (.cells #[.bool false] 4))
  clear hb ho
  refine callsIn_wide.1 (callsIn_of_wp_marks (n := 0) Try.func4 rfl trivial ?_ rfl)
  refine wpIn_wide.2 ?_
  simp only [Try.ntmps4, List.size_toArray, List.length_cons, List.length_nil, Nat.reduceAdd, Nat.reduceSub, Array.replicate_succ, Array.replicate_zero, List.push_toArray, List.append_toArray, List.nil_append, List.cons_append]
  go_wp2_with (first
    | (go_at_call 10; refine (begin_good first count A ops.length c _ HB.out).mono ?_; intro e w1 hP; obtain ⟨X, g, Y, h, rfl, hX, hg, hY, hh, n1, n2, n3, n4, hS, hR, hBl⟩ := hP.out; have hq := (hBl.block w.heap.size (blk_lt HQ.out)).trans HQ.out; have hq2 := (blk_cell hq 2).trans rfl; have HQ1 := Aside0.mk hq; have HR1 := Aside0.mk (show Boxed w1 (w.heap.size + 1) 4 (.bool false) from (hBl.block _ (blk_lt HR.out)).trans HR.out); have HXg := Aside0.mk (And.intro hX hg); have HS1 := Aside0.mk hS; have HB1 := Aside0.mk (below_step HBb.out hBl); clear hP hX hg hY hh n1 n2 n3 n4 hS hR hBl hq))
  have hbd := HB.out
  unfold okN at hbd
  simp at hbd
  obtain ⟨l0, hl0⟩ : ∃ l0, List.replicate count.toNat (0 : Int) = l0 := ⟨_, rfl⟩
  have hS1 := HS1.out
  rw [hl0] at hS1
  have hXg : w.heap.size + 1 < X ∧ w.heap.size + 1 < g := by have h1 := HXg.out; simp at h1; omega
  have hl0l : (l0.length : Int) = count := by rw [← hl0, List.length_replicate]; omega
  have hsane : Sane first l0 0 := ⟨by omega, by omega, fun x hx => by rw [← hl0] at hx; exact .inl (List.eq_of_mem_replicate hx), by omega, (cnt_nn _ _).1⟩
  have HA := Aside0.mk (AD.mk (count := count) (m := ops.length) (c := c) (A := A) (ds := []) hS1 HQ1.out HR1.out ⟨List.nodup_nil, fun D hD => by cases hD⟩ HB1.out)
  have HSn := Aside0.mk hsane
  clear hS1 hsane hl0 hq2
  refine wp_loop (fun a W => ∃ (i res : Int) (l : List Int) (ds : List Nat) (u : Nat → Value), a = { tmps := #[.agg #[.int .i64 first, .int .i64 count, .slice A ops.length c], .pointer (some ⟨w.heap.size, 0, none⟩), .pointer (some ⟨w.heap.size + 1, 0, none⟩), .pointer (some ⟨X, 0, none⟩), .pointer (some ⟨Y, 0, none⟩), .bool true, .int .i64 res, undef, u 8, u 9, u 10, .tuple #[.pointer (some ⟨X, 0, none⟩), .pointer (some ⟨Y, 0, none⟩), .bool true], .agg #[.int .i64 first, .int .i64 count, .slice A ops.length c], .tuple #[.pointer (some ⟨X, 0, none⟩), .pointer (some ⟨Y, 0, none⟩), .bool true], .pointer (some ⟨X, 0, none⟩), .pointer (some ⟨Y, 0, none⟩), .bool true, .bool true, .bool false, .bool false, .pointer (some ⟨Y, 0, none⟩), .bool false, .bool false, undef, .pointer (some ⟨w.heap.size, 2, none⟩), .slice A ops.length c, .int .i64 (ops.length : Nat), .int .i64 i, u 28, u 29, u 30, u 31, u 32, u 33, u 34, u 35, u 36, u 37, u 38, u 39, u 40, u 41, u 42, u 43, u 44, u 45, u 46, u 47, u 48, u 49, u 50, u 51, u 52, u 53, u 54, u 55, u 56, u 57, u 58, u 59, u 60, u 61, u 62, u 63, u 64, u 65, u 66, u 67, u 68, u 69, u 70, u 71, u 72, u 73, u 74, u 75, u 76, u 77, u 78, u 79, u 80, u 81, u 82, u 83, u 84, u 85, u 86, u 87, u 88, u 89, u 90, u 91, u 92, u 93, u 94, u 95, u 96, u 97, u 98, u 99, u 100, u 101, u 102, u 103, u 104, u 105, u 106, u 107, u 108, u 109, u 110, u 111, u 112, u 113, u 114, u 115, u 116, u 117, u 118, u 119, u 120], defers := ds.map coll } ∧ 0 ≤ i ∧ i ≤ ops.length ∧ (l.length : Int) = count ∧ Aside0 (AD w X g first count A ops.length c ds l res W) ∧ Aside0 (Sane first l res)) (fun a W => (ops.length - intOf (a.tmps.getD 27 undef)).toNat)
    ⟨0, 0, l0, [], fun _ => undef, rfl, Int.le_refl _, by omega, hl0l, HA, HSn⟩ ?_
  clear HA HSn hl0l
  rintro a W ⟨i, res, l, ds, u, rfl, i0, i1, hlc, HAr, HSa⟩
  by_cases hlt : i < (ops.length : Int)
  · have w9 : wrap64 (i + 1) = i + 1 := by unfold wrap64; omega
    have hlt1 : decide (i < (ops.length : Int)) = true := decide_eq_true hlt
    obtain ⟨⟨kd, n, a0, a1⟩, hop⟩ : ∃ o, ops[i.toNat]? = some o := ⟨_, List.getElem?_eq_getElem (by omega)⟩
    obtain ⟨b1, b2, b3, b4, ad, rfl, c0, c1, c2, c3⟩ := HO.out i.toNat _ hop
    have c0 := cell_later HAr.out.bel c0
    have c1 := cell_later HAr.out.bel c1
    have c2 := cell_later HAr.out.bel c2
    have c3 := cell_later HAr.out.bel c3
    dsimp only at b1 b2 b3 b4 c0 c1 c2 c3
    have HXg' := Aside0.mk hXg
    have HAb := Aside0.mk (HAr.out.below (below_alloc (Below.refl W.heap.size W) (.cells #[.int .i64 kd, .int .i64 n, .int .i64 a0, .int .i64 a1] 33)))
    have Hb3 := Aside0.mk b3
    have HSd := Aside0.mk hlc
    clear b1 b2 b3 b4 hop
    go_upto_region 9 with (fail)
    rename_i K1 hK1 K0 hK0
    have tail : ∀ (t : Array Value) (res' : Int) (l' : List Int) (W' : World), (∃ u : Nat → Value, t = #[.agg #[.int .i64 first, .int .i64 count, .slice (some ad) ops.length c], .pointer (some ⟨w.heap.size, 0, none⟩), .pointer (some ⟨w.heap.size + 1, 0, none⟩), .pointer (some ⟨X, 0, none⟩), .pointer (some ⟨Y, 0, none⟩), .bool true, .int .i64 res', undef, u 8, u 9, u 10, .tuple #[.pointer (some ⟨X, 0, none⟩), .pointer (some ⟨Y, 0, none⟩), .bool true], .agg #[.int .i64 first, .int .i64 count, .slice (some ad) ops.length c], .tuple #[.pointer (some ⟨X, 0, none⟩), .pointer (some ⟨Y, 0, none⟩), .bool true], .pointer (some ⟨X, 0, none⟩), .pointer (some ⟨Y, 0, none⟩), .bool true, .bool true, .bool false, .bool false, .pointer (some ⟨Y, 0, none⟩), .bool false, .bool false, undef, .pointer (some ⟨w.heap.size, 2, none⟩), .slice (some ad) ops.length c, .int .i64 (ops.length : Nat), .int .i64 i, u 28, u 29, u 30, u 31, u 32, u 33, u 34, u 35, u 36, u 37, u 38, u 39, u 40, u 41, u 42, u 43, u 44, u 45, u 46, u 47, u 48, u 49, u 50, u 51, u 52, u 53, u 54, u 55, u 56, u 57, u 58, u 59, u 60, u 61, u 62, u 63, u 64, u 65, u 66, u 67, u 68, u 69, u 70, u 71, u 72, u 73, u 74, u 75, u 76, u 77, u 78, u 79, u 80, u 81, u 82, u 83, u 84, u 85, u 86, u 87, u 88, u 89, u 90, u 91, u 92, u 93, u 94, u 95, u 96, u 97, u 98, u 99, u 100, u 101, u 102, u 103, u 104, u 105, u 106, u 107, u 108, u 109, u 110, u 111, u 112, u 113, u 114, u 115, u 116, u 117, u 118, u 119, u 120]) → AD w X g first count (some ad) ops.length c ds l' res' W' → (l'.length : Int) = count → Sane first l' res' → K1 { tmps := t, defers := ds.map coll } W' := by
      rintro t res' l' W' ⟨u', rfl⟩ hA hl' hs
      refine hK1 _ _ ?_
      clear hK1
      have HA2 := Aside0.mk hA
      have HS2 := Aside0.mk hs
      have HL2 := Aside0.mk hl'
      clear hA hs hl' HAr HAb HSa HSd Hb3 hK0
      go_wp2_with (go_at_call 18; refine (runsOf_any _ _).mono ?_; rintro e Wr ⟨b, rfl, hb0, hb, hB⟩; have HBr := Aside0.mk hB; have HBb := Aside0.mk (And.intro hb0 hb); clear hB hb0 hb)
      rename_i K2 hK2
      have hbl := HBr.out.size
      have hb0 := HBb.out.1
      have hbb := blk_lt HBb.out.2
      rw [World.size_alloc] at hbl hb0
      have hAr := (HA2.out.below (below_alloc (Below.refl W'.heap.size W') (.cells #[.int .i64 0] 3))).below HBr.out
      have hBf : Boxed Wr W'.heap.size 3 (.int .i64 0) := (HBr.out.block _ (by simp)).trans (blk_new W' _)
      have hlen : l'.length ≤ 4096 := HS2.out.len
      have hpos : 0 < l'.length := by have := HL2.out; omega
      have hff : 0 ≤ first ∧ first + l'.length ≤ 4096 := ⟨HS2.out.f0, HS2.out.fl⟩
      have hXl := HA2.out.sp.ltX
      have hws := HA2.out.bel.size
      obtain ⟨bf, hbf⟩ : ∃ bf, W'.heap.size = bf := ⟨_, rfl⟩
      rw [hbf] at hBf hbl hb0 hXl hws ⊢
      have hWrx : ∀ Wx, Keeps (fun k => k < Wr.heap.size ∧ k ≠ bf) Wr Wx → Wr.heap.size ≤ Wx.heap.size := fun Wx h2 => by
        have hk' := h2 (Wr.heap.size - 1) ⟨by omega, by omega⟩
        rw [Array.getElem?_eq_getElem (by omega : Wr.heap.size - 1 < Wr.heap.size)] at hk'
        have := blk_lt hk'
        omega
      refine (wpIn_wide (n := 3)).1 ?_
      refine range_own (gf := 37) (lb := #[.pointer (some ⟨b, 0, none⟩)]) rfl (enters_of Try.func37 (by kernel_rfl) rfl) (runsA_stops X g b first res' l' (cnt l') Wr hff hpos HBb.out.2 hAr.sp) (fun _ => rfl)
        Kc.t (fun W o o' h ho => Kc.p W o o' h ho)
        (fun pre Wx => Boxed Wx bf 3 (.int .i64 (sumR pre)) ∧ (Keeps (fun k => k < Wr.heap.size ∧ k ≠ bf) Wr Wx ∧ Below w.heap.size w Wx))
        (fun _ _ _ => False)
        (OwnFrom.and (Own.from (boxed_own bf 3 (fun pre : List (Run l') => .int .i64 (sumR pre))) _) (OwnFrom.and (keeps_from (fun k h => h.1) (fun k h => h.1)) (ownFrom_below (Nat.le_refl _) (by omega))))
        (fun _ _ _ _ _ h _ _ => h) ⟨hBf, fun _ _ => rfl, hAr.bel⟩
        (fun x a' Wx => ∃ Bx, Wr.heap.size ≤ Bx ∧ Wx.heap[Bx]? = some (.cells #[.int .i64 (first + x.1.1), .int .i64 x.1.2] 31 (0, 0)) ∧ ∃ u : Nat → Value, a' = { tmps := #[.agg #[.int .i64 first, .int .i64 count, .slice (some ad) ops.length c], .pointer (some ⟨w.heap.size, 0, none⟩), .pointer (some ⟨w.heap.size + 1, 0, none⟩), .pointer (some ⟨X, 0, none⟩), .pointer (some ⟨Y, 0, none⟩), .bool true, .int .i64 res', undef, u 8, .pointer (some ⟨bf, 0, none⟩), .pointer (some ⟨Bx, 0, none⟩), .tuple #[.pointer (some ⟨X, 0, none⟩), .pointer (some ⟨Y, 0, none⟩), .bool true], .agg #[.int .i64 first, .int .i64 count, .slice (some ad) ops.length c], .tuple #[.pointer (some ⟨X, 0, none⟩), .pointer (some ⟨Y, 0, none⟩), .bool true], .pointer (some ⟨X, 0, none⟩), .pointer (some ⟨Y, 0, none⟩), .bool true, .bool true, .bool false, .bool false, .pointer (some ⟨Y, 0, none⟩), .bool false, .bool false, undef, .pointer (some ⟨w.heap.size, 2, none⟩), .slice (some ad) ops.length c, .int .i64 (ops.length : Nat), .int .i64 i, u 28, u 29, u 30, u 31, u 32, u 33, u 34, u 35, u 36, u 37, u 38, u 39, u 40, u 41, u 42, u 43, u 44, u 45, u 46, u 47, u 48, u 49, u 50, u 51, u 52, u 53, u 54, u 55, u 56, u 57, u 58, u 59, u 60, u 61, u 62, u 63, u 64, u 65, u 66, u 67, u 68, u 69, u 70, u 71, u 72, u 73, u 74, u 75, u 76, u 77, u 78, u 79, u 80, u 81, u 82, u 83, u 84, u 85, u 86, u 87, u 88, u 89, u 90, u 91, u 92, u 93, u 94, u 95, u 96, u 97, u 98, u 99, u 100, u 101, u 102, u 103, u 104, u 105, u 106, u 107, u 108, u 109, u 110, u 111, u 112, u 113, u 114, u 115, u 116, u 117, u 118, u 119, u 120], defers := [] })
        (fun x a' s P Q row h hg hr => ?ax) ?assign ?body ?done (fun D c' pre Wd _ _ h _ => h.elim)
      case ax =>
        obtain ⟨Bx, h1, h2, h3⟩ := h
        refine ⟨Bx, h1, (hg.block Bx (blk_lt h2) (fun e => ?_)).trans h2, h3⟩
        obtain ⟨_, o', ho', hc⟩ := hr Bx e.symm
        rw [h2] at ho'
        cases ho'
        cases hc
      case assign =>
        rintro l pre x Wx K ⟨h1, h2, h3⟩ hK
        gi_wp2
        refine hK _ _ ((KeepsOthers.alloc _ _).from _) (Kc.of_below (below_alloc (Below.refl _ _) _)) ⟨h1.alloc _, h2.t (fun k hk => ?_), below_alloc h3 _⟩ ⟨Wx.heap.size, ?_, blk_new Wx _, ?_⟩
        · have hk' := h2 k hk
          rw [Array.getElem?_eq_getElem hk.1] at hk'
          exact Below.heap_alloc _ _ _ (blk_lt hk')
        · exact hWrx Wx h2
        · exact shape_ax _ rfl ⟨rfl, rfl, rfl, rfl, rfl, rfl, rfl, rfl, rfl, rfl, rfl, rfl, rfl, rfl, rfl, rfl, rfl, rfl, rfl, rfl, rfl, rfl, rfl, rfl, rfl, rfl, rfl⟩
      case body =>
        rintro li pre x a' Wx ⟨h1, h2, h3⟩ ⟨Bx, hBx, hBc, u, rfl⟩ hlt
        obtain ⟨xa, xk, hak, hxk, hx1, _⟩ := runsL_good x.2
        have hx2 : x.1.2 = xk := by rw [hak]
        have hx3 : x.1.1 = xa := by rw [hak]
        have hsb := sumR_bound hlen pre
        have hsn' := sumR_snoc pre x
        have c1 : Wx.cell? ⟨Bx, 1, none⟩ = some (.int .i64 x.1.2) := (blk_cell hBc 1).trans rfl
        have d1 : decide (x.1.2 < 1) = false := decide_eq_false (by omega)
        have hw : wrap64 (sumR pre + x.1.2) = sumR (pre ++ [x]) := by rw [hsn']; unfold wrap64; omega
        have f1 := h1.frozen
        have k1 := h1.cell
        clear hak hx2 hx3
        gi_wp2
        refine ⟨(KeepsOthers.setCell _ _ _).from _, fun k o hk ho h => (Below.heap_setCell _ _ _ _ (show k ≠ bf by omega)).trans h, ?_, fun k hk => (Below.heap_setCell _ _ _ _ (show k ≠ bf from hk.2)).trans (h2 k hk), below_set h3 hws⟩
        show Boxed _ bf 3 (.int .i64 (sumR (pre ++ [x])))
        rw [hsn']
        exact h1.set _
      case done =>
        rintro D ys Wd hD hS' ⟨h1, h2, h3⟩ hK
        have hb2 := HA2.out.bel
        have hbd2 : Below W'.heap.size W' Wd := ⟨h3.1.trans hb2.1.symm, h3.2.trans hb2.2.symm, h3.3.trans hb2.3.symm, by have := hWrx Wd h2; omega, fun k hk' => by
          rw [h2 k ⟨by omega, by omega⟩, HBr.out.block k (by rw [World.size_alloc]; omega)]
          exact Below.heap_alloc _ _ _ hk'⟩
        have HA3 := Aside0.mk (HA2.out.below hbd2)
        have hDn : D ∉ ds := fun h => by
          have := blk_lt (HA2.out.df.2 D h).2
          omega
        have hall := sumR_all ys hS'
        rw [hall] at h1
        have f1 := h1.frozen
        have k1 := h1.cell
        refine hK2 _ _ ?_
        dsimp only
        clear hAr HA2 hK2 h2
        have hT := tri_sum l' HS2.out.tri
        have hT2 : cnt l' 1 + cnt l' 2 + cnt l' 0 = count := by have := HL2.out; omega
        have n0 := HS2.out.c4 0
        have n1 := HS2.out.c4 1
        have n2 := HS2.out.c4 2
        have nr : 0 ≤ res' ∧ res' ≤ 4096 := ⟨HS2.out.r0, HS2.out.r4⟩
        have nl := HS2.out.rl
        have s1 := HA3.out.s1
        obtain ⟨p0, hp0⟩ : ∃ p, cnt l' 0 = p := ⟨_, rfl⟩
        obtain ⟨p1, hp1⟩ : ∃ p, cnt l' 1 = p := ⟨_, rfl⟩
        obtain ⟨p2, hp2⟩ : ∃ p, cnt l' 2 = p := ⟨_, rfl⟩
        obtain ⟨pl, hpl⟩ : ∃ p, p0 - res' = p := ⟨_, rfl⟩
        rw [hp0] at k1 n0 nl
        rw [hp1] at n1
        rw [hp2] at n2
        rw [hp0, hp1, hp2] at hT2
        have HP := Aside0.mk (And.intro hp0 (And.intro hp1 hp2))
        have HPl := Aside0.mk (show cnt l' 0 - res' = pl by rw [hp0]; exact hpl)
        have w12 : IntKind.i64.wrap (p1 + p2) = p1 + p2 := by rw [IntWalk.i64_left]; unfold wrap64; omega
        have w120 : IntKind.i64.wrap (p1 + p2 + p0) = count := by rw [IntWalk.i64_left]; unfold wrap64; omega
        have w0r : IntKind.i64.wrap (p0 - res') = pl := by rw [IntWalk.i64_left]; unfold wrap64; omega
        have q1 : (IntKind.i64.wrap (IntKind.i64.wrap (p1 + p2) + p0) != count) = false := by rw [w12, w120]; simp
        have q3 : (pl != IntKind.i64.wrap (p0 - res')) = false := by rw [w0r]; simp
        clear w12 w120 w0r
        have q4 : decide (pl < 0) = false := decide_eq_false (by omega)
        have q5 : decide (res' < 0) = false := decide_eq_false (by omega)
        clear hp0 hp1 hp2 hT2 hT hpl h1 hall n1 n2 nl
        go_upto_region 31 with (fail)
        rename_i K3 hK3
        go_quiet ((first
          | (go_at_call 19; exact Calls.quiet_of_same (used_q X g first res' p1 l' (cnt l') _ (HA3.out.sp.drewN _) HP.out.2.1))
          | (go_at_call 20; exact Calls.quiet_of_same (waiting_q X g first res' p2 l' (cnt l') _ (HA3.out.sp.drewN _) HP.out.2.2))
          | (go_at_call 21; exact Calls.quiet_of (left_q X g first res' pl l' (cnt l') _ (HA3.out.sp.drewN _) (HS2.out.c4 0) nr HPl.out))))
        refine hK3 _ _ ?_
        clear q1 q3 q4 q5 hK3
        go_wp2
        refine ⟨⟨i + 1, res', l', D :: ds, shape_loop _ rfl ⟨rfl, rfl, rfl, rfl, rfl, rfl, rfl, rfl, rfl, rfl, rfl, rfl, rfl, rfl, rfl, rfl, rfl, rfl, rfl, rfl, rfl, rfl, rfl, rfl, rfl⟩ rfl ⟨by omega, by omega, HL2.out, Aside0.mk ?_, HS2⟩⟩, ?_⟩
        · have HA4 := HA3.out.below (pw_below_drewN (Below.refl Wd.heap.size Wd) nq)
          exact { HA4 with df := HA4.df.cons ((show (Wd.drewN nq).heap = Wd.heap from rfl) ▸ hK) (by omega) hDn }
        · show ((ops.length : Int) - (i + 1)).toNat < ((ops.length : Int) - i).toNat
          omega
    have HTail := Aside0.mk tail
    clear tail hK1
    by_cases k0 : kd = 0
    · subst k0
      go_wp2_with (go_at_call 11; refine (take_any w.heap.size X g first res n l _ HAb.out.sp HSa.out (by have := HXg'.out; omega) (by have := HXg'.out; omega)).mono ?_; intro e' wt hP; obtain ⟨rfl, hS, hM⟩ := hP.out; have HAt := Aside0.mk (HAb.out.mv HXg'.out hS hM); clear hP hS hM)
      have hsn : Sane first ((takeL first l n res).2) res ∧ ((takeL first l n res).2).length = l.length := takeL_sane HSa.out
      exact HTail.out _ res ((takeL first l n res).2) _ (shape_ds _ rfl ⟨rfl, rfl, rfl, rfl, rfl, rfl, rfl, rfl, rfl, rfl, rfl, rfl, rfl, rfl, rfl, rfl, rfl, rfl, rfl, rfl, rfl, rfl, rfl, rfl, rfl⟩) HAt.out (by rw [hsn.2]; exact HSd.out) hsn.1
    have k0' : (kd == 0) = false := by simpa using k0
    by_cases k1 : kd = 1
    · subst k1
      go_wp2_with (go_at_call 17; refine (mark_any w.heap.size X g first res a0 a1 l _ HAb.out.sp HSa.out Hb3.out.2 (by have := HXg'.out; omega) (by have := HXg'.out; omega)).mono ?_; intro e' wt hP; obtain ⟨rfl, hS, hM⟩ := hP.out; have HAt := Aside0.mk (HAb.out.mv HXg'.out hS hM); clear hP hS hM)
      have hsn : Sane first ((markL first l a0 a1 res).2) res ∧ ((markL first l a0 a1 res).2).length = l.length := markL_sane HSa.out
      exact HTail.out _ res ((markL first l a0 a1 res).2) _ (shape_ds _ rfl ⟨rfl, rfl, rfl, rfl, rfl, rfl, rfl, rfl, rfl, rfl, rfl, rfl, rfl, rfl, rfl, rfl, rfl, rfl, rfl, rfl, rfl, rfl, rfl, rfl, rfl⟩) HAt.out (by rw [hsn.2]; exact HSd.out) hsn.1
    have k1' : (kd == 1) = false := by simpa using k1
    by_cases k2 : kd = 2
    · subst k2
      go_wp2_with (go_at_call 12; refine (free_any w.heap.size X g first res a0 a1 l _ HAb.out.sp HSa.out Hb3.out.2 (by have := HXg'.out; omega) (by have := HXg'.out; omega)).mono ?_; intro e' wt hP; obtain ⟨rfl, hS, hM⟩ := hP.out; have HAt := Aside0.mk (HAb.out.mv HXg'.out hS hM); clear hP hS hM)
      have hsn : Sane first ((backL first l a0 a1 0).2) res ∧ ((backL first l a0 a1 0).2).length = l.length := ⟨backL_sane HSa.out (by omega), backL_length⟩
      exact HTail.out _ res ((backL first l a0 a1 0).2) _ (shape_ds _ rfl ⟨rfl, rfl, rfl, rfl, rfl, rfl, rfl, rfl, rfl, rfl, rfl, rfl, rfl, rfl, rfl, rfl, rfl, rfl, rfl, rfl, rfl, rfl, rfl, rfl, rfl⟩) HAt.out (by rw [hsn.2]; exact HSd.out) hsn.1
    have k2' : (kd == 2) = false := by simpa using k2
    by_cases k3 : kd = 3
    · subst k3
      go_wp2_with (go_at_call 13; refine (later_any w.heap.size X g first res a0 a1 l _ HAb.out.sp HSa.out Hb3.out.2 (by have := HXg'.out; omega) (by have := HXg'.out; omega)).mono ?_; intro e' wt hP; obtain ⟨rfl, hS, hM⟩ := hP.out; have HAt := Aside0.mk (HAb.out.mv HXg'.out hS hM); clear hP hS hM)
      have hsn : Sane first ((backL first l a0 a1 2).2) res ∧ ((backL first l a0 a1 2).2).length = l.length := ⟨backL_sane HSa.out (by omega), backL_length⟩
      exact HTail.out _ res ((backL first l a0 a1 2).2) _ (shape_ds _ rfl ⟨rfl, rfl, rfl, rfl, rfl, rfl, rfl, rfl, rfl, rfl, rfl, rfl, rfl, rfl, rfl, rfl, rfl, rfl, rfl, rfl, rfl, rfl, rfl, rfl, rfl⟩) HAt.out (by rw [hsn.2]; exact HSd.out) hsn.1
    have k3' : (kd == 3) = false := by simpa using k3
    by_cases k4 : kd = 4
    · subst k4
      go_wp2_with (go_at_call 14; refine (settle_any w.heap.size X g first res l _ HAb.out.sp HSa.out (by have := HXg'.out; omega) (by have := HXg'.out; omega)).mono ?_; intro e' wt hP; obtain ⟨rfl, hS, hM⟩ := hP.out; have HAt := Aside0.mk (HAb.out.mv HXg'.out hS hM); clear hP hS hM)
      have hsn : Sane first (settleL l) res ∧ (settleL l).length = l.length := settle_sane HSa.out
      exact HTail.out _ res (settleL l) _ (shape_ds _ rfl ⟨rfl, rfl, rfl, rfl, rfl, rfl, rfl, rfl, rfl, rfl, rfl, rfl, rfl, rfl, rfl, rfl, rfl, rfl, rfl, rfl, rfl, rfl, rfl, rfl, rfl⟩) HAt.out (by rw [hsn.2]; exact HSd.out) hsn.1
    have k4' : (kd == 4) = false := by simpa using k4
    by_cases k5 : kd = 5
    · subst k5
      obtain ⟨V, R, hv⟩ : ∃ V R, resL l n res = (V, R) := ⟨_, _, rfl⟩
      have hsn := resL_sane (n := n) HSa.out
      rw [hv] at hsn
      have hXW := HAr.out.sp.ltX
      have hgW := HAr.out.sp.ltg
      have HV := Aside0.mk hv
      have HSs := Aside0.mk hsn
      have hr4 := hsn.1.r4
      have hr0 := hsn.1.r0
      obtain ⟨B, hB⟩ : ∃ B, (V == 0) = B := ⟨_, rfl⟩
      cases B with
      | true =>
        have hV0 : V = 0 := by simpa using hB
        have hR : R = res + n := by have := hsn.2; rw [if_pos hV0] at this; exact this
        have w5 : wrap64 (res + n) = R := by rw [← hR]; unfold wrap64; omega
        clear hv hsn hV0 hR
        go_wp2_with (go_at_call 15; refine (reserve_any w.heap.size X g first res n l _ HAb.out.sp HSa.out (by have := HXg'.out; omega)).mono ?_; intro e' wt hP; rw [HV.out] at hP; obtain ⟨rfl, hS, hM⟩ := hP.out; have HAt := Aside0.mk (HAb.out.mv HXg'.out hS hM); have hbt := (hM.keep W.heap.size (by simp) (by omega) (by omega)).trans (blk_new W _); have hb1 := (blk_cell hbt 1).trans rfl; clear hP hS hM hbt)
        exact HTail.out _ R l _ (shape_ds _ rfl ⟨rfl, rfl, rfl, rfl, rfl, rfl, (by show Value.int .i64 (wrap64 (res + n)) = _; rw [w5]), rfl, rfl, rfl, rfl, rfl, rfl, rfl, rfl, rfl, rfl, rfl, rfl, rfl, rfl, rfl, rfl, rfl, rfl⟩) HAt.out HSd.out HSs.out.1
      | false =>
        have hV0 : V ≠ 0 := by simpa using hB
        have hR : R = res := by have := hsn.2; rw [if_neg hV0] at this; exact this
        subst hR
        clear hv hsn hV0
        go_wp2_with (go_at_call 15; refine (reserve_any w.heap.size X g first _ n l _ HAb.out.sp HSa.out (by have := HXg'.out; omega)).mono ?_; intro e' wt hP; rw [HV.out] at hP; obtain ⟨rfl, hS, hM⟩ := hP.out; have HAt := Aside0.mk (HAb.out.mv HXg'.out hS hM); clear hP hS hM)
        exact HTail.out _ _ l _ (shape_ds _ rfl ⟨rfl, rfl, rfl, rfl, rfl, rfl, rfl, rfl, rfl, rfl, rfl, rfl, rfl, rfl, rfl, rfl, rfl, rfl, rfl, rfl, rfl, rfl, rfl, rfl, rfl⟩) HAt.out HSd.out HSs.out.1
    have k5' : (kd == 5) = false := by simpa using k5
    by_cases k6 : kd = 6
    · subst k6
      obtain ⟨V, R, hv⟩ : ∃ V R, relL n res = (V, R) := ⟨_, _, rfl⟩
      have hsn := relL_sane (n := n) HSa.out
      rw [hv] at hsn
      have hXW := HAr.out.sp.ltX
      have hgW := HAr.out.sp.ltg
      have HV := Aside0.mk hv
      have HSs := Aside0.mk hsn
      have hr4 := hsn.1.r4
      have hr0 := hsn.1.r0
      obtain ⟨B, hB⟩ : ∃ B, (V == 0) = B := ⟨_, rfl⟩
      cases B with
      | true =>
        have hV0 : V = 0 := by simpa using hB
        have hR : R = res - n := by have := hsn.2; rw [if_pos hV0] at this; exact this
        have w5 : wrap64 (res - n) = R := by rw [← hR]; unfold wrap64; omega
        clear hv hsn hV0 hR
        go_wp2_with (go_at_call 16; refine (release_any w.heap.size X g first res n l _ HAb.out.sp HSa.out (by have := HXg'.out; omega)).mono ?_; intro e' wt hP; rw [HV.out] at hP; obtain ⟨rfl, hS, hM⟩ := hP.out; have HAt := Aside0.mk (HAb.out.mv HXg'.out hS hM); have hbt := (hM.keep W.heap.size (by simp) (by omega) (by omega)).trans (blk_new W _); have hb1 := (blk_cell hbt 1).trans rfl; clear hP hS hM hbt)
        exact HTail.out _ R l _ (shape_ds _ rfl ⟨rfl, rfl, rfl, rfl, rfl, rfl, (by show Value.int .i64 (wrap64 (res - n)) = _; rw [w5]), rfl, rfl, rfl, rfl, rfl, rfl, rfl, rfl, rfl, rfl, rfl, rfl, rfl, rfl, rfl, rfl, rfl, rfl⟩) HAt.out HSd.out HSs.out.1
      | false =>
        have hV0 : V ≠ 0 := by simpa using hB
        have hR : R = res := by have := hsn.2; rw [if_neg hV0] at this; exact this
        subst hR
        clear hv hsn hV0
        go_wp2_with (go_at_call 16; refine (release_any w.heap.size X g first _ n l _ HAb.out.sp HSa.out (by have := HXg'.out; omega)).mono ?_; intro e' wt hP; rw [HV.out] at hP; obtain ⟨rfl, hS, hM⟩ := hP.out; have HAt := Aside0.mk (HAb.out.mv HXg'.out hS hM); clear hP hS hM)
        exact HTail.out _ _ l _ (shape_ds _ rfl ⟨rfl, rfl, rfl, rfl, rfl, rfl, rfl, rfl, rfl, rfl, rfl, rfl, rfl, rfl, rfl, rfl, rfl, rfl, rfl, rfl, rfl, rfl, rfl, rfl, rfl⟩) HAt.out HSd.out HSs.out.1
    have k6' : (kd == 6) = false := by simpa using k6
    clear k0 k1 k2 k3 k4 k5 k6
    go_wp2
    exact HTail.out _ res l _ (shape_ds _ rfl ⟨rfl, rfl, rfl, rfl, rfl, rfl, rfl, rfl, rfl, rfl, rfl, rfl, rfl, rfl, rfl, rfl, rfl, rfl, rfl, rfl, rfl, rfl, rfl, rfl, rfl⟩) HAb.out HSd.out HSa.out
  · have hlt1 : decide (i < (ops.length : Int)) = false := decide_eq_false hlt
    have f2 := HAr.out.rs.frozen
    have k2 := HAr.out.rs.cell
    go_wp2
    exact HAr.out.fin rfl rfl
end Go.Proofs.Ytpcgmlnipeigjaa.H
