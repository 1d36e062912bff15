/- Paths: PathParts as a contract. -/
import Derived.Test.YtankbofabdjleaaDoorPu
import Derived.RangeFuncNested
import Derived.Sort.BigQuietIn
import Derived.LoopN
import Derived.Stop.RegionWithIn
namespace Go.Proofs.YtankbofabdjleaaDoor.H
open Go.RowKit Go.Shelf Go.Proofs.YtankbofabdjleaaDoorW.PrintWords Go.Proofs.YtankbofabdjleaaDoorW.PrintLast Go.Proofs.YtankbofabdjleaaDoorW.PrintMore
set_option linter.unusedVariables false
set_option linter.unusedSimpArgs false
attribute [local go_sem] Oper.semAt_some

theorem Keeps.b {S : Nat → Prop} {w : World} (hS : ∀ k, S k → k < w.heap.size) (W : World) (l : Nat) (o o' : Obj) (hl : w.heap.size ≤ l) (_ : W.heap[l]? = some o) (_ : o.isCells = false) (_ : o.isWalk = false) : Keeps S W (W.putObj l o') := by
  intro k hk
  exact World.putObj_heap_other (by have := hS k hk; omega)
theorem Keeps.lt {S : Nat → Prop} {w w' : World} (h : Keeps S w w') (hS : ∀ k, S k → k < w.heap.size) : ∀ k, S k → k < w'.heap.size := by
  intro k hk
  have h1 := Array.getElem?_eq_getElem (hS k hk)
  exact (Array.getElem?_eq_some_iff.1 ((h k hk).trans h1)).1
theorem keeps_from {β : Type} {B : Nat} {S : Nat → Prop} {w0 : World} (hS : ∀ k, S k → k < B) : (hS0 : ∀ k, S k → k < w0.heap.size) → OwnFrom B (fun (_ : β) W => Keeps S w0 W) := fun hS0 s W W' row hs hg hr k hk => by
  refine (hg.block k (hs.lt hS0 k hk) (fun e => ?_)).trans (hs k hk)
  have := (hr k e.symm).1
  have := hS k hk
  omega
theorem cell_lt' {w : World} {a : Addr} {v : Value} (h : w.cell? a = some v) : a.block < w.heap.size := by
  by_cases hh : a.block < w.heap.size
  · exact hh
  · have : w.heap[a.block]? = none := Array.getElem?_eq_none (by omega)
    simp [World.cell?, this] at h
/-- The blocks of the loops' deferred calls. -/
def Dfs (n0 : Nat) (ds : List Nat) (W : World) : Prop := ds.Nodup ∧ ∀ D ∈ ds, n0 ≤ D ∧ W.heap[D]? = some (.deferred (some []))
theorem Dfs.keep {n0 : Nat} {ds : List Nat} {W W' : World} (h : Dfs n0 ds W) (hk : KeepsOthers W W') : Dfs n0 ds W' := ⟨h.1, fun D hD => ⟨(h.2 D hD).1, hk.same D _ (h.2 D hD).2 rfl⟩⟩
theorem Dfs.below {n0 : Nat} {ds : List Nat} {W W' : World} (h : Dfs n0 ds W) (hk : Below W.heap.size W W') : Dfs n0 ds W' := h.keep ⟨hk.size, fun k o hk' _ => (hk.block k (blk_lt hk')).trans hk'⟩
theorem Dfs.cons {n0 D : Nat} {ds : List Nat} {W : World} (h : Dfs n0 ds W) (hD : W.heap[D]? = some (.deferred (some []))) (hn : n0 ≤ D) (hd : D ∉ ds) : Dfs n0 (D :: ds) W := ⟨List.nodup_cons.2 ⟨hd, h.1⟩, fun E hE => by
  rcases List.mem_cons.1 hE with rfl | hE
  · exact ⟨hn, hD⟩
  · exact h.2 E hE⟩
def coll (D : Nat) : Deferred := { target := .collected D, args := #[] }
theorem leaves_many {fn : Func} {tmps : Array Value} {R : Ending → World → Prop} {n0 : Nat} (ds : List Nat) : ∀ (W : World), Dfs n0 ds W → (∀ W', Below n0 W W' → (∀ k, k ∉ ds → W'.heap[k]? = W.heap[k]?) → LeavesInM Fence.wide 0 Tryd.prog fn tmps R [] .returning W') → LeavesInM Fence.wide 0 Tryd.prog fn tmps R (ds.map coll) .returning W := by
  induction ds with
  | nil => exact fun W _ h => h W (Below.refl _ _) (fun _ _ => rfl)
  | cons D ds ih =>
    intro W hd h
    have hD := hd.2 D (by simp)
    have hnd := List.nodup_cons.1 hd.1
    refine ⟨by simp, .inl ⟨D, _, rfl, run_takeDeferred hD.2, ?_⟩⟩
    have hp : Below n0 W (W.putObj D (.deferred none)) := ⟨rfl, rfl, rfl, by simp, fun k hk => World.putObj_heap_other (by omega)⟩
    refine ih _ ⟨hnd.2, fun E hE => ⟨(hd.2 E (by simp [hE])).1, (World.putObj_heap_other (fun (e : E = D) => hnd.1 (by rw [← e]; exact hE))).trans (hd.2 E (by simp [hE])).2⟩⟩ (fun W' hb hk => h W' (hp.trans hb) (fun k hk' => ?_))
    rw [List.mem_cons, not_or] at hk'
    exact (hk k hk'.2).trans (World.putObj_heap_other hk'.1)
theorem arr_map (t : Array Value) (n : Nat) (h : t.size = n) : t = ((List.range n).map (fun k => t.getD k undef)).toArray := by
  refine Array.ext (by simp [h]) (fun i h1 h2 => ?_)
  simp [h1]
theorem arr68 (t : Array Value) (h : t.size = 68) : ∃ u : Nat → Value, t = #[u 0, u 1, u 2, u 3, u 4, u 5, u 6, u 7, u 8, u 9, u 10, u 11, u 12, u 13, u 14, u 15, u 16, u 17, u 18, u 19, u 20, u 21, u 22, u 23, u 24, u 25, u 26, u 27, u 28, u 29, u 30, u 31, u 32, u 33, u 34, u 35, u 36, u 37, u 38, u 39, u 40, u 41, u 42, u 43, u 44, u 45, u 46, u 47, u 48, u 49, u 50, u 51, u 52, u 53, u 54, u 55, u 56, u 57, u 58, u 59, u 60, u 61, u 62, u 63, u 64, u 65, u 66, u 67] :=
  ⟨fun k => t.getD k undef, (arr_map t 68 h).trans rfl⟩
/-- A region that draws its order, in a round: as it goes outside (no operation of it is a defer). -/
theorem ops_in_round {n : Nat} {ops : Array Oper} {Q : Exit → Act → World → Prop} {li : Nat} (hd : ∀ (i : Nat) (o : Oper), ops[i]? = some o → ∀ c, o.op ≠ .defer c) (is : List Nat) : ∀ (a : Act) (w : World), wpOpsIn Fence.wide n Tryd.prog ops Q is a w → wpOpsIn (Fence.wide.inRound li) n Tryd.prog ops Q is a w := by
  induction is with
  | nil => exact fun a w h => h
  | cons i rest ih =>
    intro a w h
    unfold wpOpsIn at h ⊢
    cases ho : ops[i]? with
    | none => rw [ho] at h; exact ih _ _ h
    | some o =>
      rw [ho] at h
      dsimp only at h ⊢
      by_cases hw : Region.wanted o (yielded ops a.tmps) = true
      · rw [if_pos hw] at h ⊢
        refine ⟨h.1, ?_⟩
        have e : Oper.semAt (Fence.wide.inRound li).round a.eval o = Oper.semAt Fence.wide.round a.eval o := (Oper.semAt_some li a.eval o (hd i o ho)).trans (Oper.semAt_none a.eval o).symm
        rw [e]
        exact (Oper.wpIn_mono (F := Fence.wide) (fun a w h => ih a w h) h).2
      · rw [if_neg hw] at h ⊢
        exact ⟨h.1, ih _ _ h.2⟩
theorem region_in_round {id n : Nat} {ops : Array Oper} {Q : Exit → Act → World → Prop} {li : Nat} {a : Act} {w : World} (hm : Tryd.prog.follows .mixedOrders = true) (hd : ∀ (i : Nat) (o : Oper), ops[i]? = some o → ∀ c, o.op ≠ .defer c)
    (h : wpAnyIn Fence.wide n Tryd.prog .any ops Q ops.size (Array.replicate ops.size false) a w.drew) : (Code.region id ops true).wpIn (Fence.wide.inRound li) n Tryd.prog Q a w :=
  wpIn_region_draw fun t => by
    refine ops_in_round hd _ _ _ ?_
    simp only [Region.schedule, hm, Bool.true_or, if_true]
    exact wpAnyIn_sound ops.size t _ a _ h
theorem alloc_new' {w : World} {k : Nat} (h : w.heap.size = k) (o : Obj) : (w.alloc o).heap[k]? = some o := by
  subst h
  exact blk_new w o
/-- A region that only reads, in a round: one walk, in the order of the text. -/
theorem region_quiet_in_round {id n : Nat} {l : List Oper} {Q : Exit → Act → World → Prop} {li : Nat} {a : Act} {w : World} (hm : Tryd.prog.follows .mixedOrders = true) (hB : Region.lexB .any l.toArray = true)
    (hd : ∀ (i : Nat) (o : Oper), l[i]? = some o → ∀ c, o.op ≠ .defer c)
    (h : wpQuietIn Fence.wide n Tryd.prog l.toArray (fun w' => ∃ n, w' = w.drewN n) (fun a' => ∀ w', (∃ n, w' = w.drewN n) → Q .normal a' w') l a) : (Code.region id l.toArray true).wpIn (Fence.wide.inRound li) n Tryd.prog Q a w := by
  simp only [Region.lexB, Bool.and_eq_true] at hB
  refine region_in_round hm (fun i o ho => hd i o (by simpa using ho)) ?_
  refine wpAnyIn_of_quiet (C := fun w' => ∃ n, w' = w.drewN n) (Q := fun a' => ∀ w', (∃ n, w' = w.drewN n) → Q .normal a' w') rfl (fun _ w' hw' h => h w' hw') _ _ _ _ ⟨1, rfl⟩ ?_
  have := wpAnyQIn_lex (F := Fence.wide) (n := n) (C := fun w' => ∃ n, w' = w.drewN n) (md := .any) hB.1 l.toArray.toList 0 (Array.replicate l.toArray.size false) a (by simp) (by simpa using hB.2) h
  simpa using this
/-- What a box that is pointed at holds. -/
def boxInt (W : World) (v : Value) : Int := match v with
  | .pointer (some p) => intOf ((W.cell? p).getD undef)
  | _ => 0
theorem boxInt_eq {W : World} {b t : Nat} {v : Int} (h : Boxed W b t (.int .i64 v)) : boxInt W (.pointer (some ⟨b, 0, none⟩)) = v := by
  show intOf ((W.cell? ⟨b, 0, none⟩).getD undef) = v
  rw [h.cell]
  rfl

set_option maxRecDepth 100000 in
set_option maxHeartbeats 4000000 in
theorem parts_law (m : Int) (s : ByteArray) (stop : Int) (w : World) (hs : s.size ≤ 9223372036854775807) (hm : w.cell? ⟨0, 0, none⟩ = some (.int .i64 m)) :
    Calls Tryd.prog 3 #[.string s, .int .i64 stop] w fun e w' => e = .returned (.bool true) ∧ Below w.heap.size w w' := by
  have hu23 := Tryd.underlying23
  obtain ⟨xs, hxs⟩ : ∃ xs, splitL s.data.toList = xs := ⟨_, rfl⟩
  obtain ⟨N, hN⟩ : ∃ N, xs.length = N := ⟨_, rfl⟩
  have hBd : Below w.heap.size w ((w.alloc (.cells #[.int .i64 stop] 3)).alloc (.cells #[.bool false] 4)) := below_alloc (below_alloc (Below.refl w.heap.size w) _) _
  have HB := Aside0.mk hBd
  have HSt := Aside0.mk (show Boxed ((w.alloc (.cells #[.int .i64 stop] 3)).alloc (.cells #[.bool false] 4)) w.heap.size 3 (.int .i64 stop) from (Below.heap_alloc _ _ _ (by simp)).trans (blk_new w _))
  have HRs := Aside0.mk (show Boxed ((w.alloc (.cells #[.int .i64 stop] 3)).alloc (.cells #[.bool false] 4)) (w.heap.size + 1) 4 (.bool false) from alloc_new' (by simp) _)
  have HM := Aside0.mk (cell_later hBd hm)
  have HN := Aside0.mk (And.intro hN (And.intro hxs hs))
  clear hBd hN hm hxs hs
  refine callsIn_wide.1 (callsIn_of_wp_marks (n := 0) Tryd.func3 rfl trivial ?_ rfl)
  refine wpIn_wide.2 ?_
  simp only [Tryd.ntmps3, List.size_toArray, List.length_cons, List.length_nil, Nat.reduceAdd, Nat.reduceSub, Array.replicate_succ, Array.replicate_zero, List.push_toArray, List.append_toArray, List.nil_append, List.cons_append]
  go_wp2_with (first
    | (go_at_call 10; refine (awake_any m _ HM.out).mono ?_; rintro e w1 ⟨rfl, hA⟩; have HA := Aside0.mk hA; clear hA)
    | (go_at_call 11; refine (rsplit_any s _ HN.out.2.2).mono ?_; intro e w2 hP; obtain ⟨v, rfl, hO, hB⟩ := hP.out; rw [HN.out.2.1] at hO; obtain ⟨A, cp, rfl⟩ := own_slice hO; rw [HN.out.1] at hO ⊢; have HO1 := Aside0.mk (RdS.of_own hO); have HB1 := Aside0.mk hB; clear hP hO hB)
    | (go_at_call 12; refine (parts_any s m _ HN.out.2.2 ?hmm).mono ?_; (case hmm => exact cell_later (below_step HB1.out (below_alloc (Below.refl _ _) _)) HA.out.cell); intro e w3 hP; obtain ⟨b, A2, n2, c2, rfl, hb0, hb, hR2, hB2⟩ := hP.out; have HB2 := Aside0.mk hB2; have HBb := Aside0.mk (And.intro hb0 (And.intro hb hR2)); clear hP hb0 hb hB2 hR2))
  have hB1 := HB1.out
  have hz0 : ((w.alloc (.cells #[.int .i64 stop] 3)).alloc (.cells #[.bool false] 4)).heap.size = w.heap.size + 2 := by simp
  have hsA := HA.out.below.size
  rw [hz0] at hsA
  have hsz2 := hB1.size
  have hsz3 := HB2.out.size
  rw [World.size_alloc] at hsz3
  have hb3 := blk_lt HBb.out.2.1
  have hb0 := HBb.out.1
  rw [World.size_alloc] at hb0
  have HA3 := Aside0.mk (show Below w1.heap.size w1 w3 from below_step (below_step hB1 (below_alloc (Below.refl _ _) _)) HB2.out)
  have mid : ∀ (k : Nat) (o : Obj), ((w.alloc (.cells #[.int .i64 stop] 3)).alloc (.cells #[.bool false] 4)).heap[k]? = some o → w3.heap[k]? = some o := fun k o hk => by
    have h1 := (HA.out.below.block k (blk_lt hk)).trans hk
    exact (HA3.out.block k (blk_lt h1)).trans h1
  have HSt3 := Aside0.mk (show Boxed w3 w.heap.size 3 (.int .i64 stop) from mid _ _ HSt.out)
  have HRs3 := Aside0.mk (show Boxed w3 (w.heap.size + 1) 4 (.bool false) from mid _ _ HRs.out)
  have HWt3 := Aside0.mk (show Boxed w3 w2.heap.size 23 (.slice A N cp) from (HB2.out.block _ (by simp)).trans (blk_new w2 _))
  have HO3 := Aside0.mk ((HO1.out.below (below_alloc (Below.refl w2.heap.size w2) (.cells #[.slice A N cp] 23))).below HB2.out)
  have hR3 := HBb.out.2.2
  rw [HN.out.2.1] at hR3
  have hn2 : n2 = N := by rw [← hR3.len]; exact HN.out.1
  subst hn2
  have HR3 := Aside0.mk hR3
  have HBw3 := Aside0.mk (show Below w.heap.size w w3 from below_step (below_step HB.out HA.out.below) HA3.out)
  have hN9 := hR3.max
  clear hB1 mid hz0 hR3
  refine wp_loop (fun a W => ∃ (r : Int) (bR : Nat) (ds : List Nat), a.defers = ds.map coll ∧ a.tmps.size = 68 ∧ a.tmps.getD 3 undef = .pointer (some ⟨w.heap.size, 0, none⟩) ∧ a.tmps.getD 4 undef = .pointer (some ⟨w.heap.size + 1, 0, none⟩) ∧ a.tmps.getD 5 undef = .pointer (some ⟨w2.heap.size, 0, none⟩) ∧ a.tmps.getD 7 undef = .func (.func 29) #[] #[.pointer (some ⟨b, 0, none⟩)] ∧ a.tmps.getD 8 undef = .pointer (some ⟨bR, 0, none⟩) ∧
    0 ≤ r ∧ r ≤ 2 ∧ w3.heap.size ≤ bR ∧ Aside0 (Below w3.heap.size w3 W) ∧ Aside0 (Boxed W bR 3 (.int .i64 r)) ∧ Aside0 (Dfs w3.heap.size ds W)) (fun a W => (2 - boxInt W (a.tmps.getD 8 undef)).toNat)
    ⟨0, w3.heap.size, [], rfl, rfl, rfl, rfl, rfl, rfl, rfl, by omega, by omega, Nat.le_refl _, ⟨below_alloc (Below.refl _ _) _⟩, ⟨blk_new w3 _⟩, ⟨List.nodup_nil, fun D hD => by cases hD⟩⟩ ?_
  rintro ⟨t, d⟩ W ⟨r, bR, ds, hd, ht, h3, h4, h5, h7, h8, r0, r2, hbR, HW, HBx, HDf⟩
  obtain ⟨u, rfl⟩ := arr68 t ht
  have h3 : u 3 = .pointer (some ⟨w.heap.size, 0, none⟩) := h3
  have h4 : u 4 = .pointer (some ⟨w.heap.size + 1, 0, none⟩) := h4
  have h5 : u 5 = .pointer (some ⟨w2.heap.size, 0, none⟩) := h5
  have h7 : u 7 = .func (.func 29) #[] #[.pointer (some ⟨b, 0, none⟩)] := h7
  have h8 : u 8 = .pointer (some ⟨bR, 0, none⟩) := h8
  have hd : d = ds.map coll := hd
  rw [h3, h4, h5, h7, h8, hd]
  clear h3 h4 h5 h7 h8 hd ht
  have hrc := HBx.out.cell
  have hrf := HBx.out.frozen
  have hWz := HW.out.size
  by_cases hr : r < 2
  · have hr1 : decide (r < 2) = true := decide_eq_true hr
    go_wp2
    rename_i K1 hK1 K2 hK2
    obtain ⟨V, hV⟩ : ∃ V, W.alloc (.cells #[.int .i64 0] 3) = V := ⟨_, rfl⟩
    rw [hV]
    have hVB : Below w3.heap.size w3 V := by rw [← hV]; exact below_alloc HW.out _
    have hbi : Boxed V W.heap.size 3 (.int .i64 0) := by rw [← hV]; exact blk_new W _
    have hVz : V.heap.size = W.heap.size + 1 := by rw [← hV]; simp
    have hrV : Boxed V bR 3 (.int .i64 r) := by rw [← hV]; exact (Below.heap_alloc _ _ _ (blk_lt HBx.out)).trans HBx.out
    have hdV : Dfs w3.heap.size ds V := by rw [← hV]; exact HDf.out.below (below_alloc (Below.refl _ _) _)
    obtain ⟨bi, hbie⟩ : ∃ bi, W.heap.size = bi := ⟨_, rfl⟩
    have hRlt := blk_lt HBx.out
    rw [hbie] at hbi hVz hRlt hWz ⊢
    have hVz1 : bi < V.heap.size := by omega
    have hVz2 : V.heap.size ≤ bi + 1 := by omega
    clear hV hbie hrc hrf hVz
    have hV0 : Below w.heap.size w V := below_then HBw3.out HBw3.out.size hVB
    have hSq : ∀ k, Sq b n2 A2 k → k < V.heap.size := by
      rintro k (rfl | ⟨h0, ad, rfl, rfl⟩)
      · omega
      · obtain ⟨x0, hx0⟩ : ∃ x0, xs[0]? = some x0 := ⟨_, List.getElem?_eq_getElem (by have := HN.out.1; omega)⟩
        obtain ⟨ad', had, h⟩ := HR3.out.at_ 0 x0 hx0
        cases had
        have h9 := cell_lt' h
        have e : (ad.add 0).block = ad.block := by unfold Addr.add; split <;> rfl
        rw [e] at h9
        omega
    have HOwn := Aside0.mk (show OwnFrom V.heap.size (fun (pre : List (Nat × Bs)) Wx => Boxed Wx bi 3 (.int .i64 (pre.length : Nat)) ∧ (Keeps (fun k => k < V.heap.size ∧ k ≠ bi) V Wx ∧ Below w.heap.size w Wx)) from
      OwnFrom.and (Own.from (boxed_own bi 3 (fun pre : List (Nat × Bs) => .int .i64 (pre.length : Nat))) _) (OwnFrom.and (keeps_from (fun k h => h.1) (fun k h => h.1)) (ownFrom_below (Nat.le_refl _) (by have := HBw3.out.size; omega))))
    have tail : ∀ (cnt : Int) (D : Nat) (Wd : World) (t : Array Value), t.size = 68 → t.getD 3 undef = .pointer (some ⟨w.heap.size, 0, none⟩) → t.getD 4 undef = .pointer (some ⟨w.heap.size + 1, 0, none⟩) → t.getD 5 undef = .pointer (some ⟨w2.heap.size, 0, none⟩) → t.getD 7 undef = .func (.func 29) #[] #[.pointer (some ⟨b, 0, none⟩)] → t.getD 8 undef = .pointer (some ⟨bR, 0, none⟩) → t.getD 9 undef = .pointer (some ⟨bi, 0, none⟩) →
        Boxed Wd bi 3 (.int .i64 cnt) → Keeps (fun k => k < V.heap.size ∧ k ≠ bi) V Wd → Below w.heap.size w Wd → V.heap.size ≤ D → Wd.heap[D]? = some (.deferred (some [])) → (cnt = n2 ∨ (r = 0 ∧ cnt = stop)) → K2 { tmps := t, defers := coll D :: ds.map coll } Wd := by
      intro cnt D Wd t ht h3 h4 h5 h7 h8 h9 hc hk hb hD hKD hcn
      have hDlt := blk_lt hKD
      have hbd3 : Below w3.heap.size w3 Wd := ⟨hb.1.trans HBw3.out.1.symm, hb.2.trans HBw3.out.2.symm, hb.3.trans HBw3.out.3.symm, by omega, fun k hk' => (hk k ⟨by omega, by omega⟩).trans (hVB.block k hk')⟩
      have hrd : Boxed Wd bR 3 (.int .i64 r) := (hk bR ⟨by omega, by omega⟩).trans hrV
      have hdd : Dfs w3.heap.size ds Wd := ⟨hdV.1, fun E hE => ⟨(hdV.2 E hE).1, (hk E ⟨blk_lt (hdV.2 E hE).2, fun e => by
        have h1 := (hdV.2 E hE).2
        rw [e, show V.heap[bi]? = _ from hbi] at h1
        cases h1⟩).trans (hdV.2 E hE).2⟩⟩
      have hDn : D ∉ ds := fun hn => by
        have := blk_lt (hdV.2 D hn).2
        omega
      have c3 : Wd.cell? ⟨w.heap.size, 0, none⟩ = some (.int .i64 stop) := cell_later hbd3 HSt3.out.cell
      have c5 : Wd.cell? ⟨w2.heap.size, 0, none⟩ = some (.slice A n2 cp) := cell_later hbd3 HWt3.out.cell
      have c8 := hrd.cell
      have c9 := hc.cell
      obtain ⟨u, rfl⟩ := arr68 t ht
      have h3 : u 3 = .pointer (some ⟨w.heap.size, 0, none⟩) := h3
      have h4 : u 4 = .pointer (some ⟨w.heap.size + 1, 0, none⟩) := h4
      have h5 : u 5 = .pointer (some ⟨w2.heap.size, 0, none⟩) := h5
      have h7 : u 7 = .func (.func 29) #[] #[.pointer (some ⟨b, 0, none⟩)] := h7
      have h8 : u 8 = .pointer (some ⟨bR, 0, none⟩) := h8
      have h9 : u 9 = .pointer (some ⟨bi, 0, none⟩) := h9
      rw [h3, h4, h5, h7, h8, h9]
      have HD3 := Aside0.mk hbd3
      have HDd := Aside0.mk (hdd.cons hKD (by omega) hDn)
      clear h3 h4 h5 h7 h8 h9 ht hc hk hb hKD hbd3 hdd hrd
      refine hK2 _ _ ?_
      clear hK2
      have hm := boxInt_eq HBx.out
      have nxt : ∀ v, v = r + 1 → boxInt (Wd.alloc (.cells #[.int .i64 v] 3)) (.pointer (some ⟨Wd.heap.size, 0, none⟩)) = v := fun v _ => boxInt_eq (blk_new Wd _)
      have HMx := Aside0.mk (And.intro hm nxt)
      clear hm nxt
      rcases hcn with rfl | ⟨rfl, rfl⟩
      · go_wp2
        refine ⟨⟨r + 1, Wd.heap.size, D :: ds, rfl, rfl, by omega, by omega, by omega, ⟨below_then HD3.out HD3.out.size (below_alloc (Below.refl _ _) _)⟩, ⟨blk_new Wd _⟩, ⟨HDd.out.below (below_alloc (Below.refl _ _) _)⟩⟩, ?_⟩
        rw [HMx.out.1, HMx.out.2 _ rfl]
        omega
      · by_cases e : cnt = n2
        · have e1 : (cnt != (n2 : Int)) = false := by simp [e]
          go_wp2
          refine ⟨⟨1, Wd.heap.size, D :: ds, rfl, rfl, by omega, by omega, by omega, ⟨below_then HD3.out HD3.out.size (below_alloc (Below.refl _ _) _)⟩, ⟨blk_new Wd _⟩, ⟨HDd.out.below (below_alloc (Below.refl _ _) _)⟩⟩, ?_⟩
          rw [HMx.out.1, HMx.out.2 1 (by omega)]
          omega
        · have e1 : (cnt != (n2 : Int)) = true := by simp [e]
          go_wp2
          refine ⟨⟨1, Wd.heap.size, D :: ds, rfl, rfl, by omega, by omega, by omega, ⟨below_then HD3.out HD3.out.size (below_alloc (Below.refl _ _) _)⟩, ⟨blk_new Wd _⟩, ⟨HDd.out.below (below_alloc (Below.refl _ _) _)⟩⟩, ?_⟩
          rw [HMx.out.1, HMx.out.2 1 (by omega)]
          omega
    have HTl := Aside0.mk tail
    clear tail hK2 hK1
    refine (wpIn_wide (n := 3)).1 ?_
    refine wpIn_rangeFunc_ownG (F := Fence.wide) rfl (by decide) (gf := 29) (lb := #[.pointer (some ⟨b, 0, none⟩)]) rfl trivial (enters_of Tryd.func29 (by kernel_rfl) rfl)
      (parts_stops 2 b A2 n2 c2 xs V ((hVB.block b hb3).trans HBb.out.2.1) (HR3.out.below hVB)) Keeps.t (Keeps.b hSq) (Below.refl _ _) (fun _ => rfl)
      (fun pre Wx => (Boxed Wx bi 3 (.int .i64 (pre.length : Nat)) ∧ (Keeps (fun k => k < V.heap.size ∧ k ≠ bi) V Wx ∧ Below w.heap.size w Wx)) ∧ pre <+: en xs)
      (fun c pre Wx => ((Boxed Wx bi 3 (.int .i64 (pre.length : Nat)) ∧ (Keeps (fun k => k < V.heap.size ∧ k ≠ bi) V Wx ∧ Below w.heap.size w Wx)) ∧ (c = .exit 2 ∧ r = 0 ∧ (pre.length : Int) = stop)) ∨ (c = .ret ∧ ¬ pre <+: en xs))
      (OwnFrom.and HOwn.out (ownFrom_pure _ _))
      (fun c s A B row hs hg' hr => ?ownx) ⟨⟨hbi, fun _ _ => rfl, hV0⟩, by simp⟩
      (fun x => { tmps := #[u 0, u 1, u 2, .pointer (some ⟨w.heap.size, 0, none⟩), .pointer (some ⟨w.heap.size + 1, 0, none⟩), .pointer (some ⟨w2.heap.size, 0, none⟩), u 6, .func (.func 29) #[] #[.pointer (some ⟨b, 0, none⟩)], .pointer (some ⟨bR, 0, none⟩), .pointer (some ⟨bi, 0, none⟩), .int .i64 x.1, .string (sB x.2), u 12, u 13, u 14, u 15, u 16, u 17, u 18, u 19, u 20, .int .i64 r, .bool true, u 23, u 24, .func (.func 29) #[] #[.pointer (some ⟨b, 0, none⟩)], .int .i64 x.1, .string (sB x.2), u 28, u 29, u 30, u 31, u 32, u 33, u 34, u 35, u 36, u 37, u 38, u 39, u 40, u 41, u 42, u 43, u 44, u 45, u 46, u 47, u 48, u 49, u 50, u 51, u 52, u 53, u 54, u 55, u 56, u 57, u 58, u 59, u 60, u 61, u 62, u 63, u 64, u 65, u 66, u 67], defers := [] }) ?assign ?body ?done ?stop
    case ownx =>
      rcases hs with ⟨hs1, hs2⟩ | hs
      · exact .inl ⟨HOwn.out s A B row hs1 hg' hr, hs2⟩
      · exact .inr hs
    case assign =>
      intro lp x Wx K hK
      gi_wp2
      exact hK
    case body =>
      rintro li pre ⟨x1, x2⟩ Wx ⟨⟨h1, h2, hb3'⟩, hpre⟩ hlt
      dsimp only
      have hbd3 : Below w3.heap.size w3 Wx := ⟨hb3'.1.trans HBw3.out.1.symm, hb3'.2.trans HBw3.out.2.symm, hb3'.3.trans HBw3.out.3.symm, by have := blk_lt h1; omega, fun k hk' => (h2 k ⟨by omega, by omega⟩).trans (hVB.block k hk')⟩
      have c3 : Wx.cell? ⟨w.heap.size, 0, none⟩ = some (.int .i64 stop) := cell_later hbd3 HSt3.out.cell
      have c4 : Wx.cell? ⟨w.heap.size + 1, 0, none⟩ = some (.bool false) := cell_later hbd3 HRs3.out.cell
      have f4 : Wx.frozen? ⟨w.heap.size + 1, 0, none⟩ = false := blk_frozen ((hbd3.block _ (by omega)).trans HRs3.out) 0
      have c5 : Wx.cell? ⟨w2.heap.size, 0, none⟩ = some (.slice A n2 cp) := cell_later hbd3 HWt3.out.cell
      have c8 : Wx.cell? ⟨bR, 0, none⟩ = some (.int .i64 r) := Boxed.cell (t := 3) ((h2 bR ⟨by omega, by omega⟩).trans hrV)
      obtain ⟨n, hn⟩ : ∃ n : Int, (pre.length : Int) = n := ⟨_, rfl⟩
      have n0 : 0 ≤ n := by omega
      rw [hn] at h1
      have c9 := h1.cell
      have f9 := h1.frozen
      have hn4 : n < n2 := by rw [← hn]; omega
      obtain ⟨y, hy⟩ : ∃ y, xs[n.toNat]? = some y := ⟨_, List.getElem?_eq_getElem (by have := HN.out.1; omega)⟩
      obtain ⟨ad, rfl, cy⟩ := (HO3.out.below hbd3).at_ _ _ hy
      obtain ⟨ty, hty⟩ : ∃ t, sB y = t := ⟨_, rfl⟩
      obtain ⟨tx, htx⟩ : ∃ t, sB x2 = t := ⟨_, rfl⟩
      rw [hty] at cy
      rw [htx]
      have d1 : decide ((n2 : Int) ≤ n) = false := decide_eq_false (by omega)
      have HP := Aside0.mk (And.intro hn (And.intro hpre (And.intro h1 (And.intro h2 hb3'))))
      have HY := Aside0.mk (And.intro hy (And.intro hty htx))
      have HB9 := Aside0.mk hbd3
      clear hn hpre h1 h2 hb3' hlt hbd3 hy hty htx
      by_cases hm : (x1 : Int) = n ∧ x2 = y
      · obtain ⟨hm1, hm2⟩ := hm
        have e1 : ((x1 : Int) != n) = false := by simp [hm1]
        have e2 : (tx.toList == ty.toList) = true := by
          rw [← HY.out.2.1, ← HY.out.2.2, hm2]; simp
        have HM2 := Aside0.mk (And.intro hm1 hm2)
        have w4 : wrap64 (n + 1) = n + 1 := by unfold wrap64; omega
        have fin : (KeepsFrom V.heap.size Wx (Wx.setCell ⟨bi, 0, none⟩ (.int .i64 (n + 1))) ∧ Keeps (Sq b n2 A2) Wx (Wx.setCell ⟨bi, 0, none⟩ (.int .i64 (n + 1)))) ∧
            (Boxed (Wx.setCell ⟨bi, 0, none⟩ (.int .i64 (n + 1))) bi 3 (.int .i64 ((pre ++ [(x1, x2)]).length : Nat)) ∧ (Keeps (fun k => k < V.heap.size ∧ k ≠ bi) V (Wx.setCell ⟨bi, 0, none⟩ (.int .i64 (n + 1))) ∧ Below w.heap.size w (Wx.setCell ⟨bi, 0, none⟩ (.int .i64 (n + 1))))) ∧
            (pre ++ [(x1, x2)]) <+: en xs := by
          obtain ⟨hn, hpre, h1, h2, h3⟩ := HP.out
          have hSb : ∀ k, Sq b n2 A2 k → k ≠ bi := by
            rintro k (rfl | ⟨h0, ad', rfl, rfl⟩)
            · omega
            · obtain ⟨x0, hx0⟩ : ∃ x0, xs[0]? = some x0 := ⟨_, List.getElem?_eq_getElem (by have := HN.out.1; omega)⟩
              obtain ⟨ad', had, h⟩ := HR3.out.at_ 0 x0 hx0
              cases had
              have h9 := cell_lt' h
              have e : (ad'.add 0).block = ad'.block := by unfold Addr.add; split <;> rfl
              rw [e] at h9
              omega
          refine ⟨⟨(KeepsOthers.setCell _ _ _).from _, fun k hk => Below.heap_setCell _ _ _ _ (hSb k hk)⟩, ⟨?_, fun k hk => (Below.heap_setCell _ _ _ _ (show k ≠ bi from hk.2)).trans (h2 k hk), ?_⟩, ?_⟩
          · rw [List.length_append, List.length_singleton, Int.natCast_add, hn]
            exact h1.set (.int .i64 (n + 1))
          · exact h3.setCell (p := ⟨bi, 0, none⟩) (by show w.heap.size ≤ bi; have := HBw3.out.size; omega) _
          · obtain ⟨tl, htl⟩ := hpre
            have hg := en_get HY.out.1
            have hml : pre.length = n.toNat := by omega
            rw [← htl, List.getElem?_append_right (Nat.le_of_eq hml), hml, Nat.sub_self] at hg
            cases tl with
            | nil => simp at hg
            | cons q tl =>
              simp at hg
              have hx1 : x1 = n.toNat := by omega
              rw [hm2, hx1, ← hg]
              exact ⟨tl, by simpa using htl⟩
        have hlen : ((pre ++ [(x1, x2)]).length : Int) = n + 1 := by rw [List.length_append, List.length_singleton, Int.natCast_add, HP.out.1]; rfl
        have HF := Aside0.mk (And.intro fin hlen)
        clear fin hlen
        have q8 : (Wx.setCell ⟨bi, 0, none⟩ (.int .i64 (n + 1))).cell? ⟨bR, 0, none⟩ = some (.int .i64 r) := Boxed.cell (t := 3) ((Below.heap_setCell _ _ _ _ (show bR ≠ bi by omega)).trans ((HP.out.2.2.2.1 bR ⟨by omega, by omega⟩).trans hrV))
        have q3 : (Wx.setCell ⟨bi, 0, none⟩ (.int .i64 (n + 1))).cell? ⟨w.heap.size, 0, none⟩ = some (.int .i64 stop) := Boxed.cell (t := 3) ((Below.heap_setCell _ _ _ _ (show w.heap.size ≠ bi by omega)).trans ((HB9.out.block w.heap.size (by omega)).trans HSt3.out))
        have q9 : (Wx.setCell ⟨bi, 0, none⟩ (.int .i64 (n + 1))).cell? ⟨bi, 0, none⟩ = some (.int .i64 (n + 1)) := Boxed.cell (t := 3) (Boxed.set (.int .i64 (n + 1)) HP.out.2.2.1)
        clear hm1 hm2
        by_cases hr0 : r = 0
        · by_cases hst : n + 1 = stop
          · have s1 : (n + 1 == stop) = true := by simp [hst]
            have HX := Aside0.mk (And.intro hr0 hst)
            subst hr0
            clear hst
            gi_wp2
            exact ⟨HF.out.1.1.1, .inl ⟨HF.out.1.2.1, rfl, by rw [HF.out.2]; exact HX.out.2⟩⟩
          · have s1 : (n + 1 == stop) = false := by simp [hst]
            subst hr0
            gi_wp2
            exact ⟨HF.out.1.1.1, HF.out.1.1.2, HF.out.1.2⟩
        · have s0 : (r == 0) = false := by simp [hr0]
          gi_wp2
          exact ⟨HF.out.1.1.1, HF.out.1.1.2, HF.out.1.2⟩
      · have bad : KeepsFrom V.heap.size Wx (Wx.setCell ⟨w.heap.size + 1, 0, none⟩ (.bool false)) ∧ ¬ (pre ++ [(x1, x2)]) <+: en xs := by
          obtain ⟨hn, hpre, h1, h2, h3⟩ := HP.out
          refine ⟨(KeepsOthers.setCell _ _ _).from _, ?_⟩
          rintro ⟨tl, htl⟩
          have hg := en_get HY.out.1
          have hml : pre.length = n.toNat := by omega
          rw [← htl, List.append_assoc, List.getElem?_append_right (Nat.le_of_eq hml), hml, Nat.sub_self] at hg
          simp at hg
          exact hm ⟨by omega, hg.2⟩
        have HBd := Aside0.mk bad
        clear bad
        by_cases h1 : (x1 : Int) = n
        · have e1 : ((x1 : Int) != n) = false := by simp [h1]
          have e2 : (tx.toList == ty.toList) = false := by
            simp only [beq_eq_false_iff_ne, ne_eq]
            intro h
            apply hm
            refine ⟨h1, ?_⟩
            have h9 := HY.out
            rw [Lib.toList_data, Lib.toList_data, ← h9.2.1, ← h9.2.2, sB_data, sB_data] at h
            exact h
          clear hm h1
          gi_wp2
          exact ⟨HBd.out.1, .inr ⟨rfl, HBd.out.2⟩⟩
        · have e1 : ((x1 : Int) != n) = true := by simp [h1]
          clear hm h1
          gi_wp2
          exact ⟨HBd.out.1, .inr ⟨rfl, HBd.out.2⟩⟩
    case done =>
      rintro D ys Wd hD hS' ⟨⟨h1, h2, h3⟩, h4⟩ hK
      have hyl : (ys.length : Int) = n2 := by rw [hS', en_length, HN.out.1]
      exact HTl.out _ D Wd _ rfl rfl rfl rfl rfl rfl rfl h1 h2 h3 hD hK (.inl hyl)
    case stop =>
      rintro D c pre Wd hD hSp hIx hK
      rcases hIx with ⟨⟨h1, h2, h3⟩, rfl, hr0, hst⟩ | ⟨_, hn⟩
      · gi_wp2
        exact HTl.out _ D Wd _ rfl rfl rfl rfl rfl rfl rfl h1 h2 h3 hD hK (.inr ⟨hr0, hst⟩)
      · exact absurd hSp hn
  · have hr1 : decide (r < 2) = false := decide_eq_false hr
    have hrs2 : Boxed W (w.heap.size + 1) 4 (.bool false) := (HW.out.block (w.heap.size + 1) (by omega)).trans HRs3.out
    have k2 := hrs2.cell
    have f2 := hrs2.frozen
    have HRW := Aside0.mk hrs2
    clear hrs2
    go_wp2
    have hs := HRW.out.set (.bool true)
    have hBw := below_then HBw3.out HBw3.out.size HW.out
    have hB : Below w.heap.size w (W.setCell ⟨w.heap.size + 1, 0, none⟩ (.bool true)) := hBw.setCell (p := ⟨w.heap.size + 1, 0, none⟩) (by show w.heap.size ≤ w.heap.size + 1; omega) _
    have hd : Dfs w.heap.size ds (W.setCell ⟨w.heap.size + 1, 0, none⟩ (.bool true)) := ⟨HDf.out.1, fun D hD => ⟨by have := (HDf.out.2 D hD).1; omega, by
      have h1 := (HDf.out.2 D hD).1
      exact (Below.heap_setCell _ _ _ _ (show D ≠ w.heap.size + 1 by omega)).trans (HDf.out.2 D hD).2⟩⟩
    refine leaves_many ds _ hd (fun W' hb hk => ?_)
    have hn : w.heap.size + 1 ∉ ds := fun hn => by have := (HDf.out.2 _ hn).1; omega
    have hc : W'.cell? ⟨w.heap.size + 1, 0, none⟩ = some (.bool true) := Boxed.cell (t := 4) ((hk _ hn).trans hs)
    refine ⟨.bool true, ?_, rfl, hB.trans hb⟩
    simp [results, Tryd.f3, go_sem, hc]
end Go.Proofs.YtankbofabdjleaaDoor.H
