/- The law's runs as a contract: it answers true. -/
import Derived.Test.YtpcgmlnipeigjaaUi
import Derived.Test.YtpcgmlnipeigjaaSs
import Derived.Sort.BigQuietIn
import Derived.LoopN
import Derived.Test.YtpcgmlnipeigjaaSt0
namespace Go.Proofs.Ytpcgmlnipeigjaa.H
open Go.RowKit Go.Shelf Go.Proofs.YtpcgmlnipeigjaaW.PrintWords Go.Proofs.YtpcgmlnipeigjaaW.PrintLast Go.Proofs.YtpcgmlnipeigjaaW.PrintMore
set_option linter.unusedVariables false
set_option linter.unusedSimpArgs false
attribute [local go_sem] Oper.semAt_some

/-- A region that only reads, in a round: one walk, in the order of the text. -/
theorem region_quiet_in_round {id n : Nat} {l : List Oper} {Q : Exit → Act → World → Prop} {li : Nat} {a : Act} {w : World} (hm : Try.prog.follows .mixedOrders = true) (hB : Region.lexB .any l.toArray = true)
    (hd : ∀ (i : Nat) (o : Oper), l[i]? = some o → ∀ c, o.op ≠ .defer c)
    (h : wpQuietIn Fence.wide n Try.prog l.toArray (fun w' => ∃ n, w' = w.drewN n) (fun a' => ∀ w', (∃ n, w' = w.drewN n) → Q .normal a' w') l a) : (Code.region id l.toArray true).wpIn (Fence.wide.inRound li) n Try.prog Q a w := by
  simp only [Region.lexB, Bool.and_eq_true] at hB
  refine region_in_round hm (fun i o ho => hd i o (by simpa using ho)) ?_
  refine wpAnyIn_of_quiet (C := fun w' => ∃ n, w' = w.drewN n) (Q := fun a' => ∀ w', (∃ n, w' = w.drewN n) → Q .normal a' w') rfl (fun _ w' hw' h => h w' hw') _ _ _ _ ⟨1, rfl⟩ ?_
  have := wpAnyQIn_lex (F := Fence.wide) (n := n) (C := fun w' => ∃ n, w' = w.drewN n) (md := .any) hB.1 l.toArray.toList 0 (Array.replicate l.toArray.size false) a (by simp) (by simpa using hB.2) h
  simpa using this

/-- What a box that is pointed at holds. -/
def boxInt (W : World) (v : Value) : Int := match v with
  | .pointer (some p) => intOf ((W.cell? p).getD undef)
  | _ => 0
theorem boxInt_eq {W : World} {b t : Nat} {v : Int} (h : Boxed W b t (.int .i64 v)) : boxInt W (.pointer (some ⟨b, 0, none⟩)) = v := by
  show intOf ((W.cell? ⟨b, 0, none⟩).getD undef) = v
  rw [h.cell]
  rfl
/-- An array of 57 slots, slot by slot. -/
theorem arr57 (t : Array Value) (h : t.size = 57) : ∃ u : Nat → Value, t = #[u 0, u 1, u 2, u 3, u 4, u 5, u 6, u 7, u 8, u 9, u 10, u 11, u 12, u 13, u 14, u 15, u 16, u 17, u 18, u 19, u 20, u 21, u 22, u 23, u 24, u 25, u 26, u 27, u 28, u 29, u 30, u 31, u 32, u 33, u 34, u 35, u 36, u 37, u 38, u 39, u 40, u 41, u 42, u 43, u 44, u 45, u 46, u 47, u 48, u 49, u 50, u 51, u 52, u 53, u 54, u 55, u 56] :=
  ⟨fun k => t.getD k undef, (arr_map t 57 h).trans rfl⟩

set_option maxRecDepth 100000 in
set_option maxHeartbeats 4000000 in
theorem lruns_any (X g Y h : Nat) (first res res' stop : Int) (l : List Int) (c : Int → Int) (w : World) (hS : SpAt w X g first l c res) (hR : RfAt w Y h first l res') (hf : 0 ≤ first ∧ first + l.length ≤ 4096) (hp : 0 < l.length) :
    Calls Try.prog 47 #[.pointer (some ⟨X, 0, none⟩), .pointer (some ⟨Y, 0, none⟩), .int .i64 stop] w fun e w' => e = .returned (.bool true) ∧ Below w.heap.size w w' := by
  have hu79 := Try.underlying79
  have hu31 := Try.underlying31
  have hl : l.length ≤ 4096 := by omega
  have hff : 0 ≤ first ∧ first ≤ 4096 := by omega
  obtain ⟨N, hN⟩ : ∃ N, (runsL l).length = N := ⟨_, rfl⟩
  have hN4 : N ≤ 4096 := by have := runsL_len l; omega
  have hBd : Below w.heap.size w ((w.alloc (.cells #[.int .i64 stop] 3)).alloc (.cells #[.bool false] 4)) := below_alloc (below_alloc (Below.refl w.heap.size w) _) _
  have HB := Aside0.mk hBd
  have HSt := Aside0.mk (show Boxed ((w.alloc (.cells #[.int .i64 stop] 3)).alloc (.cells #[.bool false] 4)) w.heap.size 3 (.int .i64 stop) from (Below.heap_alloc _ _ _ (by simp)).trans (blk_new w _))
  have HRs := Aside0.mk (show Boxed ((w.alloc (.cells #[.int .i64 stop] 3)).alloc (.cells #[.bool false] 4)) (w.heap.size + 1) 4 (.bool false) from alloc_new' (by simp) _)
  have HS := Aside0.mk (hS.below hBd)
  have HR := Aside0.mk (hR.below hBd)
  have HN := Aside0.mk hN
  clear hS hR hBd hN
  refine callsIn_wide.1 (callsIn_of_wp_marks (n := 0) Try.func47 rfl trivial ?_ rfl)
  refine wpIn_wide.2 ?_
  simp only [Try.ntmps47, List.size_toArray, List.length_cons, List.length_nil, Nat.reduceAdd, Nat.reduceSub, Array.replicate_succ, Array.replicate_zero, List.push_toArray, List.append_toArray, List.nil_append, List.cons_append]
  go_wp2_with (first
    | (go_at_call 55; refine (rruns_any Y h first res' l _ HR.out hff hl).mono ?_; rw [HN.out]; rintro e w1 ⟨A, cp, rfl, ho, hB⟩; have HO1 := Aside0.mk ho; have HB1 := Aside0.mk hB; clear ho hB)
    | (go_at_call 18; refine (runsOf_any _ _).mono ?_; rintro e w2 ⟨b, rfl, hb0, hb, hB⟩; have HB2 := Aside0.mk hB; have HBb := Aside0.mk (And.intro hb0 hb); clear hB hb0 hb))
  have hB1 := HB1.out
  have hz0 : ((w.alloc (.cells #[.int .i64 stop] 3)).alloc (.cells #[.bool false] 4)).heap.size = w.heap.size + 2 := by simp
  have hsz1 := hB1.size
  rw [hz0] at hsz1
  have hsz2 := HB2.out.size
  rw [World.size_alloc] at hsz2
  have hb2 := blk_lt HBb.out.2
  have hb0 := HBb.out.1
  rw [World.size_alloc] at hb0
  have mid : ∀ (k : Nat) (o : Obj), ((w.alloc (.cells #[.int .i64 stop] 3)).alloc (.cells #[.bool false] 4)).heap[k]? = some o → w2.heap[k]? = some o := fun k o hk => by
    have hk0 := blk_lt hk
    have h1 := (hB1.block k hk0).trans hk
    have hk1 := blk_lt h1
    rw [hz0] at hk0
    exact (HB2.out.block k (by rw [World.size_alloc]; omega)).trans ((Below.heap_alloc _ _ _ hk1).trans h1)
  have HSt2 := Aside0.mk (show Boxed w2 w.heap.size 3 (.int .i64 stop) from mid _ _ HSt.out)
  have HRs2 := Aside0.mk (show Boxed w2 (w.heap.size + 1) 4 (.bool false) from mid _ _ HRs.out)
  have HWt2 := Aside0.mk (show Boxed w2 w1.heap.size 79 (.slice A N cp) from (HB2.out.block _ (by simp)).trans (blk_new w1 _))
  have HO2 := Aside0.mk (pw_own_below (pw_own_below HO1.out (below_alloc (Below.refl _ _) (.cells #[.slice A N cp] 79))) HB2.out)
  have HS2 := Aside0.mk (((HS.out.below hB1).below (below_alloc (Below.refl _ _) (.cells #[.slice A N cp] 79))).below HB2.out)
  have HBw2 := Aside0.mk (show Below w.heap.size w w2 from below_step (below_alloc (below_step HB.out hB1) _) HB2.out)
  clear hB1 mid hz0
  refine wp_loop (fun a W => ∃ (r : Int) (bR : Nat) (ds : List Nat), a.defers = ds.map coll ∧ a.tmps.size = 57 ∧ a.tmps.getD 5 undef = .pointer (some ⟨w.heap.size, 0, none⟩) ∧ a.tmps.getD 6 undef = .pointer (some ⟨w.heap.size + 1, 0, none⟩) ∧ a.tmps.getD 7 undef = .pointer (some ⟨w1.heap.size, 0, none⟩) ∧ a.tmps.getD 8 undef = .func (.func 37) #[] #[.pointer (some ⟨b, 0, none⟩)] ∧ a.tmps.getD 9 undef = .pointer (some ⟨bR, 0, none⟩) ∧
    0 ≤ r ∧ r ≤ 2 ∧ w2.heap.size ≤ bR ∧ Aside0 (Below w2.heap.size w2 W) ∧ Aside0 (Boxed W bR 3 (.int .i64 r)) ∧ Aside0 (Dfs w2.heap.size ds W)) (fun a W => (2 - boxInt W (a.tmps.getD 9 undef)).toNat)
    ⟨0, w2.heap.size, [], rfl, rfl, rfl, rfl, rfl, rfl, rfl, by omega, by omega, Nat.le_refl _, ⟨below_alloc (Below.refl _ _) _⟩, ⟨blk_new w2 _⟩, ⟨List.nodup_nil, fun D hD => by cases hD⟩⟩ ?_
  rintro ⟨t, d⟩ W ⟨r, bR, ds, hd, ht, h5, h6, h7, h8, h9, r0, r2, hbR, HW, HBx, HDf⟩
  obtain ⟨u, rfl⟩ := arr57 t ht
  have h5 : u 5 = .pointer (some ⟨w.heap.size, 0, none⟩) := h5
  have h6 : u 6 = .pointer (some ⟨w.heap.size + 1, 0, none⟩) := h6
  have h7 : u 7 = .pointer (some ⟨w1.heap.size, 0, none⟩) := h7
  have h8 : u 8 = .func (.func 37) #[] #[.pointer (some ⟨b, 0, none⟩)] := h8
  have h9 : u 9 = .pointer (some ⟨bR, 0, none⟩) := h9
  have hd : d = ds.map coll := hd
  rw [h5, h6, h7, h8, h9, hd]
  clear h5 h6 h7 h8 h9 hd ht
  have hrc := HBx.out.cell
  have hrf := HBx.out.frozen
  have hWz := HW.out.size
  by_cases hr : r < 2
  · have hr1 : decide (r < 2) = true := decide_eq_true hr
    go_wp2
    rename_i K1 hK1 K2 hK2
    obtain ⟨V, hV⟩ : ∃ V, W.alloc (.cells #[.int .i64 0] 3) = V := ⟨_, rfl⟩
    rw [hV]
    have hVB : Below w2.heap.size w2 V := by rw [← hV]; exact below_alloc HW.out _
    have hbi : Boxed V W.heap.size 3 (.int .i64 0) := by rw [← hV]; exact blk_new W _
    have hVz : V.heap.size = W.heap.size + 1 := by rw [← hV]; simp
    have hrV : Boxed V bR 3 (.int .i64 r) := by rw [← hV]; exact (Below.heap_alloc _ _ _ (blk_lt HBx.out)).trans HBx.out
    have hdV : Dfs w2.heap.size ds V := by rw [← hV]; exact HDf.out.below (below_alloc (Below.refl _ _) _)
    obtain ⟨bi, hbie⟩ : ∃ bi, W.heap.size = bi := ⟨_, rfl⟩
    have hRlt := blk_lt HBx.out
    rw [hbie] at hbi hVz hRlt hWz ⊢
    have hVz1 : bi < V.heap.size := by omega
    have hVz2 : V.heap.size ≤ bi + 1 := by omega
    clear hV hbie hrc hrf hVz
    have hSV := HS2.out.below hVB
    have hX2 := HS2.out.ltX
    have hg2 := HS2.out.ltg
    have hV0 : Below w.heap.size w V := below_then HBw2.out HBw2.out.size hVB
    have hOwn : OwnFrom V.heap.size (fun (pre : List (Run l)) Wx => Boxed Wx bi 3 (.int .i64 (pre.length : Nat)) ∧ (Keeps (fun k => k < V.heap.size ∧ k ≠ bi) V Wx ∧ Below w.heap.size w Wx)) :=
      OwnFrom.and (Own.from (boxed_own bi 3 (fun pre : List (Run l) => .int .i64 (pre.length : Nat))) _) (OwnFrom.and (keeps_from (fun k h => h.1) (fun k h => h.1)) (ownFrom_below (Nat.le_refl _) (by have := HBw2.out.size; omega)))
    have tail : ∀ (cnt : Int) (D : Nat) (Wd : World) (t : Array Value), t.size = 57 → t.getD 5 undef = .pointer (some ⟨w.heap.size, 0, none⟩) → t.getD 6 undef = .pointer (some ⟨w.heap.size + 1, 0, none⟩) → t.getD 7 undef = .pointer (some ⟨w1.heap.size, 0, none⟩) → t.getD 8 undef = .func (.func 37) #[] #[.pointer (some ⟨b, 0, none⟩)] → t.getD 9 undef = .pointer (some ⟨bR, 0, none⟩) → t.getD 10 undef = .pointer (some ⟨bi, 0, none⟩) →
        Boxed Wd bi 3 (.int .i64 cnt) → Keeps (fun k => k < V.heap.size ∧ k ≠ bi) V Wd → Below w.heap.size w Wd → V.heap.size ≤ D → Wd.heap[D]? = some (.deferred (some [])) → (cnt = N ∨ (r = 0 ∧ cnt = stop)) → K2 { tmps := t, defers := coll D :: ds.map coll } Wd := by
      intro cnt D Wd t ht h5 h6 h7 h8 h9 h10 hc hk hb hD hKD hcn
      have hDlt := blk_lt hKD
      have hbd2 : Below w2.heap.size w2 Wd := ⟨hb.1.trans HBw2.out.1.symm, hb.2.trans HBw2.out.2.symm, hb.3.trans HBw2.out.3.symm, by omega, fun k hk' => (hk k ⟨by omega, by omega⟩).trans (hVB.block k hk')⟩
      have hrd : Boxed Wd bR 3 (.int .i64 r) := (hk bR ⟨by omega, by omega⟩).trans hrV
      have hdd : Dfs w2.heap.size ds Wd := ⟨hdV.1, fun E hE => ⟨(hdV.2 E hE).1, (hk E ⟨blk_lt (hdV.2 E hE).2, fun e => by
        have h1 := (hdV.2 E hE).2
        rw [e, show V.heap[bi]? = _ from hbi] at h1
        cases h1⟩).trans (hdV.2 E hE).2⟩⟩
      have hDn : D ∉ ds := fun hn => by
        have := blk_lt (hdV.2 D hn).2
        omega
      have c5 : Wd.cell? ⟨w.heap.size, 0, none⟩ = some (.int .i64 stop) := cell_later hbd2 HSt2.out.cell
      have c7 : Wd.cell? ⟨w1.heap.size, 0, none⟩ = some (.slice A N cp) := cell_later hbd2 HWt2.out.cell
      have c9 := hrd.cell
      have c10 := hc.cell
      obtain ⟨u, rfl⟩ := arr57 t ht
      have h5 : u 5 = .pointer (some ⟨w.heap.size, 0, none⟩) := h5
      have h6 : u 6 = .pointer (some ⟨w.heap.size + 1, 0, none⟩) := h6
      have h7 : u 7 = .pointer (some ⟨w1.heap.size, 0, none⟩) := h7
      have h8 : u 8 = .func (.func 37) #[] #[.pointer (some ⟨b, 0, none⟩)] := h8
      have h9 : u 9 = .pointer (some ⟨bR, 0, none⟩) := h9
      have h10 : u 10 = .pointer (some ⟨bi, 0, none⟩) := h10
      rw [h5, h6, h7, h8, h9, h10]
      have HD2 := Aside0.mk hbd2
      have HDd := Aside0.mk (hdd.cons hKD (by omega) hDn)
      clear h5 h6 h7 h8 h9 h10 ht hc hk hb hKD hbd2 hdd hrd
      refine hK2 _ _ ?_
      clear hK2
      have hm := boxInt_eq HBx.out
      have nxt : ∀ v, v = r + 1 → boxInt (Wd.alloc (.cells #[.int .i64 v] 3)) (.pointer (some ⟨Wd.heap.size, 0, none⟩)) = v := fun v _ => boxInt_eq (blk_new Wd _)
      have HM := Aside0.mk (And.intro hm nxt)
      clear hm nxt
      rcases hcn with rfl | ⟨rfl, rfl⟩
      · go_wp2
        refine ⟨⟨r + 1, Wd.heap.size, D :: ds, rfl, rfl, by omega, by omega, by omega, ⟨below_then HD2.out HD2.out.size (below_alloc (Below.refl _ _) _)⟩, ⟨blk_new Wd _⟩, ⟨HDd.out.below (below_alloc (Below.refl _ _) _)⟩⟩, ?_⟩
        rw [HM.out.1, HM.out.2 _ rfl]
        omega
      · by_cases e : cnt = N
        · have e1 : (cnt != (N : Int)) = false := by simp [e]
          go_wp2
          refine ⟨⟨1, Wd.heap.size, D :: ds, rfl, rfl, by omega, by omega, by omega, ⟨below_then HD2.out HD2.out.size (below_alloc (Below.refl _ _) _)⟩, ⟨blk_new Wd _⟩, ⟨HDd.out.below (below_alloc (Below.refl _ _) _)⟩⟩, ?_⟩
          rw [HM.out.1, HM.out.2 1 (by omega)]
          omega
        · have e1 : (cnt != (N : Int)) = true := by simp [e]
          go_wp2
          refine ⟨⟨1, Wd.heap.size, D :: ds, rfl, rfl, by omega, by omega, by omega, ⟨below_then HD2.out HD2.out.size (below_alloc (Below.refl _ _) _)⟩, ⟨blk_new Wd _⟩, ⟨HDd.out.below (below_alloc (Below.refl _ _) _)⟩⟩, ?_⟩
          rw [HM.out.1, HM.out.2 1 (by omega)]
          omega
    have HTl := Aside0.mk tail
    clear tail hK2 hK1
    refine (wpIn_wide (n := 3)).1 ?_
    refine range_own (gf := 37) (lb := #[.pointer (some ⟨b, 0, none⟩)]) rfl (enters_of Try.func37 (by kernel_rfl) rfl) (runsA_stops X g b first res l c V hf hp ((hVB.block b hb2).trans HBb.out.2) hSV) (fun _ => rfl)
      Kc.t (fun W o o' h ho => Kc.p W o o' h ho)
      (fun pre Wx => (Boxed Wx bi 3 (.int .i64 (pre.length : Nat)) ∧ (Keeps (fun k => k < V.heap.size ∧ k ≠ bi) V Wx ∧ Below w.heap.size w Wx)) ∧ pre.map Subtype.val <+: runsL l)
      (fun c pre Wx => ((Boxed Wx bi 3 (.int .i64 (pre.length : Nat)) ∧ (Keeps (fun k => k < V.heap.size ∧ k ≠ bi) V Wx ∧ Below w.heap.size w Wx)) ∧ (c = .exit 2 ∧ r = 0 ∧ (pre.length : Int) = stop)) ∨ (c = .ret ∧ ¬ pre.map Subtype.val <+: runsL l))
      (OwnFrom.and hOwn (ownFrom_pure _ _))
      (fun c s A B row hs hg' hr => ?ownx) ⟨⟨hbi, fun _ _ => rfl, hV0⟩, by simp⟩
      (fun x a' Wx => ∃ Bx, V.heap.size ≤ Bx ∧ Wx.heap[Bx]? = some (.cells #[.int .i64 (first + x.1.1), .int .i64 x.1.2] 31 (0, 0)) ∧ a'.defers = [] ∧ a'.tmps.size = 57 ∧ a'.tmps.getD 5 undef = .pointer (some ⟨w.heap.size, 0, none⟩) ∧ a'.tmps.getD 6 undef = .pointer (some ⟨w.heap.size + 1, 0, none⟩) ∧ a'.tmps.getD 7 undef = .pointer (some ⟨w1.heap.size, 0, none⟩) ∧ a'.tmps.getD 9 undef = .pointer (some ⟨bR, 0, none⟩) ∧ a'.tmps.getD 10 undef = .pointer (some ⟨bi, 0, none⟩) ∧ a'.tmps.getD 11 undef = .pointer (some ⟨Bx, 0, none⟩))
      (fun x a' s P Q row h hg hr => ?ax) ?assign ?body ?done ?stop
    case ax =>
      obtain ⟨Bx, h1, h2, h3⟩ := h
      refine ⟨Bx, h1, (hg.block Bx (blk_lt h2) (fun e => ?_)).trans h2, h3⟩
      obtain ⟨_, o', ho', hc⟩ := hr Bx e.symm
      rw [h2] at ho'
      cases ho'
      cases hc
    case ownx =>
      rcases hs with ⟨hs1, hs2⟩ | hs
      · exact .inl ⟨hOwn s A B row hs1 hg' hr, hs2⟩
      · exact .inr hs
    case assign =>
      rintro lp pre x Wx K ⟨⟨h1, h2, h3⟩, h4⟩ hK
      gi_wp2
      refine hK _ _ ((KeepsOthers.alloc _ _).from _) (Kc.of_below (below_alloc (Below.refl _ _) _)) ⟨⟨h1.alloc _, h2.t (fun k hk => ?_), below_alloc h3 _⟩, h4⟩ ⟨Wx.heap.size, ?_, blk_new Wx _, rfl, rfl, rfl, rfl, rfl, rfl, rfl, rfl⟩
      · have hk' := h2 k hk
        rw [Array.getElem?_eq_getElem hk.1] at hk'
        exact Below.heap_alloc _ _ _ (blk_lt hk')
      · have := blk_lt h1
        omega
    case body =>
      rintro li pre x ⟨t, d⟩ Wx ⟨⟨h1, h2, h3⟩, hpre⟩ ⟨Bx, hBx, hBc, hd, ht, h5, h6, h7, h9, h10, h11⟩ hlt
      obtain ⟨u, rfl⟩ := arr57 t ht
      have h5 : u 5 = .pointer (some ⟨w.heap.size, 0, none⟩) := h5
      have h6 : u 6 = .pointer (some ⟨w.heap.size + 1, 0, none⟩) := h6
      have h7 : u 7 = .pointer (some ⟨w1.heap.size, 0, none⟩) := h7
      have h9 : u 9 = .pointer (some ⟨bR, 0, none⟩) := h9
      have h10 : u 10 = .pointer (some ⟨bi, 0, none⟩) := h10
      have h11 : u 11 = .pointer (some ⟨Bx, 0, none⟩) := h11
      have hd : d = [] := hd
      rw [h5, h6, h7, h9, h10, h11, hd]
      clear h5 h6 h7 h9 h10 h11 hd ht
      have hBxl := blk_lt hBc
      have hbd2 : Below w2.heap.size w2 Wx := ⟨h3.1.trans HBw2.out.1.symm, h3.2.trans HBw2.out.2.symm, h3.3.trans HBw2.out.3.symm, by omega, fun k hk' => (h2 k ⟨by omega, by omega⟩).trans (hVB.block k hk')⟩
      have c5 : Wx.cell? ⟨w.heap.size, 0, none⟩ = some (.int .i64 stop) := cell_later hbd2 HSt2.out.cell
      have c6 : Wx.cell? ⟨w.heap.size + 1, 0, none⟩ = some (.bool false) := cell_later hbd2 HRs2.out.cell
      have f6 : Wx.frozen? ⟨w.heap.size + 1, 0, none⟩ = false := blk_frozen ((hbd2.block _ (by omega)).trans HRs2.out) 0
      have c7 : Wx.cell? ⟨w1.heap.size, 0, none⟩ = some (.slice A N cp) := cell_later hbd2 HWt2.out.cell
      have c9 : Wx.cell? ⟨bR, 0, none⟩ = some (.int .i64 r) := Boxed.cell (t := 3) ((h2 bR ⟨by omega, by omega⟩).trans hrV)
      obtain ⟨n, hn⟩ : ∃ n : Int, (pre.length : Int) = n := ⟨_, rfl⟩
      have n0 : 0 ≤ n := by omega
      obtain ⟨⟨a, k⟩, hx⟩ := x
      dsimp only at hBc
      rw [hn] at h1
      have c10 := h1.cell
      have f10 := h1.frozen
      have c11a : Wx.cell? ⟨Bx, 0, none⟩ = some (.int .i64 (first + a)) := (blk_cell hBc 0).trans rfl
      have c11b : Wx.cell? ⟨Bx, 1, none⟩ = some (.int .i64 k) := (blk_cell hBc 1).trans rfl
      have hn4 : n < l.length := by rw [← hn]; omega
      have HP := Aside0.mk (And.intro hn (And.intro hpre (And.intro h1 (And.intro h2 h3))))
      clear hn hpre h1 h2 h3 hBc hlt
      by_cases hm : (runsL l)[n.toNat]? = some (a, k)
      · obtain ⟨g2, hA, hb2', e0, e1⟩ := row_at (pw_own_below HO2.out hbd2) hm
        have hnN : n < N := by rw [← HN.out]; have := (List.getElem?_eq_some_iff.1 hm).1; omega
        have d1 : decide ((N : Int) ≤ n) = false := decide_eq_false (by omega)
        subst hA
        have HM := Aside0.mk hm
        have HB9 := Aside0.mk hbd2
        clear hm hbd2 hb2'
        gi_wp2
        refine region_quiet_in_round (by kernel_rfl) (by kernel_rfl) ?_ ?_
        · intro i o ho c
          match i, ho with
          | 0, ho | 1, ho | 2, ho | 3, ho | 4, ho | 5, ho | 6, ho | 7, ho | 8, ho | 9, ho | 10, ho | 11, ho => cases ho; intro h; cases h
        repeat (gi_big_quiet_step (fail))
        refine wpQuietIn_nil ?_
        intro _ hw'
        obtain ⟨nq, hw''⟩ := hw'
        subst hw''
        have w4 : wrap64 (n + 1) = n + 1 := by unfold wrap64; omega
        have fin : (KeepsFrom V.heap.size Wx ((Wx.drewN nq).setCell ⟨bi, 0, none⟩ (.int .i64 (n + 1))) ∧ Kc b X V.heap.size Wx ((Wx.drewN nq).setCell ⟨bi, 0, none⟩ (.int .i64 (n + 1)))) ∧
            (Boxed ((Wx.drewN nq).setCell ⟨bi, 0, none⟩ (.int .i64 (n + 1))) bi 3 (.int .i64 ((pre ++ [(⟨(a, k), hx⟩ : Run l)]).length : Nat)) ∧ (Keeps (fun k => k < V.heap.size ∧ k ≠ bi) V ((Wx.drewN nq).setCell ⟨bi, 0, none⟩ (.int .i64 (n + 1))) ∧ Below w.heap.size w ((Wx.drewN nq).setCell ⟨bi, 0, none⟩ (.int .i64 (n + 1))))) ∧
            (pre ++ [(⟨(a, k), hx⟩ : Run l)]).map Subtype.val <+: runsL l := by
          obtain ⟨hn, hpre, h1, h2, h3⟩ := HP.out
          have hkd : KeepsOthers Wx (Wx.drewN nq) := ⟨Nat.le_refl _, fun k o h _ => h⟩
          refine ⟨⟨(hkd.trans (KeepsOthers.setCell _ _ _)).from _, fun k o hk ho h => (Below.heap_setCell _ _ _ _ (show k ≠ bi by omega)).trans h⟩, ⟨?_, fun k hk => (Below.heap_setCell _ _ _ _ (show k ≠ bi from hk.2)).trans (h2 k hk), ?_⟩, ?_⟩
          · rw [List.length_append, List.length_singleton, Int.natCast_add, hn]
            have := Boxed.set (W := Wx.drewN nq) (.int .i64 (n + 1)) (show Boxed (Wx.drewN nq) bi 3 (.int .i64 n) from h1)
            exact this
          · exact (pw_below_drewN h3 nq).setCell (p := ⟨bi, 0, none⟩) (by show w.heap.size ≤ bi; have := HBw2.out.size; omega) _
          · rw [List.map_append, List.map_singleton]
            obtain ⟨tl, htl⟩ := hpre
            have hml : (pre.map Subtype.val).length = n.toNat := by rw [List.length_map]; omega
            have h9 := HM.out
            rw [← htl, List.getElem?_append_right (Nat.le_of_eq hml), hml, Nat.sub_self] at h9
            cases tl with
            | nil => simp at h9
            | cons y tl =>
              simp at h9
              subst h9
              exact ⟨tl, by simpa using htl⟩
        have hlen : ((pre ++ [(⟨(a, k), hx⟩ : Run l)]).length : Int) = n + 1 := by rw [List.length_append, List.length_singleton, Int.natCast_add, HP.out.1]; rfl
        have HF := Aside0.mk (And.intro fin hlen)
        clear fin hlen
        have q9 : ((Wx.drewN nq).setCell ⟨bi, 0, none⟩ (.int .i64 (n + 1))).cell? ⟨bR, 0, none⟩ = some (.int .i64 r) := Boxed.cell (t := 3) ((Below.heap_setCell _ _ _ _ (show bR ≠ bi by omega)).trans ((HP.out.2.2.2.1 bR ⟨by omega, by omega⟩).trans hrV))
        have q5 : ((Wx.drewN nq).setCell ⟨bi, 0, none⟩ (.int .i64 (n + 1))).cell? ⟨w.heap.size, 0, none⟩ = some (.int .i64 stop) := Boxed.cell (t := 3) ((Below.heap_setCell _ _ _ _ (show w.heap.size ≠ bi by omega)).trans ((HB9.out.block w.heap.size (by omega)).trans HSt2.out))
        have q10 : ((Wx.drewN nq).setCell ⟨bi, 0, none⟩ (.int .i64 (n + 1))).cell? ⟨bi, 0, none⟩ = some (.int .i64 (n + 1)) := Boxed.cell (t := 3) (Boxed.set (W := Wx.drewN nq) (.int .i64 (n + 1)) (show Boxed (Wx.drewN nq) bi 3 (.int .i64 n) from HP.out.2.2.1))
        by_cases hr0 : r = 0
        · by_cases hst : n + 1 = stop
          · have s1 : (n + 1 == stop) = true := by simp [hst]
            have HX := Aside0.mk (And.intro hr0 hst)
            subst hr0
            clear hst
            gi_wp2
            exact ⟨HF.out.1.1.1, HF.out.1.1.2, .inl ⟨HF.out.1.2.1, rfl, by rw [HF.out.2]; exact HX.out.2⟩⟩
          · have s1 : (n + 1 == stop) = false := by simp [hst]
            subst hr0
            gi_wp2
            exact ⟨HF.out.1.1.1, HF.out.1.1.2, HF.out.1.2⟩
        · have s0 : (r == 0) = false := by simp [hr0]
          gi_wp2
          exact ⟨HF.out.1.1.1, HF.out.1.1.2, HF.out.1.2⟩
      · have bad : ∀ nq, KeepsFrom V.heap.size Wx ((Wx.drewN nq).setCell ⟨w.heap.size + 1, 0, none⟩ (.bool false)) ∧ Kc b X V.heap.size Wx ((Wx.drewN nq).setCell ⟨w.heap.size + 1, 0, none⟩ (.bool false)) ∧ ¬ (pre ++ [(⟨(a, k), hx⟩ : Run l)]).map Subtype.val <+: runsL l := fun nq => by
          obtain ⟨hn, hpre, h1, h2, h3⟩ := HP.out
          have hkd : KeepsOthers Wx (Wx.drewN nq) := ⟨Nat.le_refl _, fun k o h _ => h⟩
          refine ⟨(hkd.trans (KeepsOthers.setCell _ _ _)).from _, fun k o hk ho h => (Below.heap_setCell _ _ _ _ (show k ≠ w.heap.size + 1 from ?_)).trans h, ?_⟩
          · have hXn : w.heap.size + 1 ≠ X := fun e => by
              obtain ⟨K, _, hbk⟩ := HS2.out.blk
              rw [← e, show w2.heap[w.heap.size + 1]? = _ from HRs2.out] at hbk
              cases hbk
            omega
          · rintro ⟨tl, htl⟩
            apply hm
            rw [← htl, List.map_append, List.map_singleton, List.append_assoc, List.getElem?_append_right (by rw [List.length_map]; omega)]
            have : n.toNat - pre.length = 0 := by omega
            simp [this]
        have HBd := Aside0.mk bad
        clear bad
        by_cases hnN : n < N
        · obtain ⟨⟨a2, k2⟩, hm2⟩ : ∃ q, (runsL l)[n.toNat]? = some q := ⟨_, List.getElem?_eq_getElem (by rw [HN.out]; omega)⟩
          obtain ⟨g2, hA, hb2', e0, e1⟩ := row_at (pw_own_below HO2.out hbd2) hm2
          have d1 : decide ((N : Int) ≤ n) = false := decide_eq_false (by omega)
          have hne : a ≠ a2 ∨ k ≠ k2 := by
            by_cases h : a = a2
            · exact .inr fun h' => hm (by rw [hm2, h, h'])
            · exact .inl h
          subst hA
          clear hm hm2 hbd2 hb2'
          by_cases ea : first + a = first + a2
          · have ek : (k == k2) = false := by simp; omega
            have ea2 : a = a2 := by omega
            subst ea2
            clear hne ea
            gi_wp2
            refine region_quiet_in_round (by kernel_rfl) (by kernel_rfl) ?_ ?_
            · intro i o ho c
              match i, ho with
              | 0, ho | 1, ho | 2, ho | 3, ho | 4, ho | 5, ho | 6, ho | 7, ho | 8, ho | 9, ho | 10, ho | 11, ho => cases ho; intro h; cases h
            repeat (gi_big_quiet_step (fail))
            refine wpQuietIn_nil ?_
            intro _ hw'
            obtain ⟨nq, hw''⟩ := hw'
            subst hw''
            gi_wp2
            exact ⟨(HBd.out nq).1, (HBd.out nq).2.1, .inr ⟨rfl, (HBd.out nq).2.2⟩⟩
          · have ek : (first + a == first + a2) = false := by simpa using ea
            clear hne ea
            gi_wp2
            refine region_quiet_in_round (by kernel_rfl) (by kernel_rfl) ?_ ?_
            · intro i o ho c
              match i, ho with
              | 0, ho | 1, ho | 2, ho | 3, ho | 4, ho | 5, ho | 6, ho | 7, ho | 8, ho | 9, ho | 10, ho | 11, ho => cases ho; intro h; cases h
            repeat (gi_big_quiet_step (fail))
            refine wpQuietIn_nil ?_
            intro _ hw'
            obtain ⟨nq, hw''⟩ := hw'
            subst hw''
            gi_wp2
            exact ⟨(HBd.out nq).1, (HBd.out nq).2.1, .inr ⟨rfl, (HBd.out nq).2.2⟩⟩
        · have d1 : decide ((N : Int) ≤ n) = true := decide_eq_true (by omega)
          clear hm hbd2
          gi_wp2
          refine region_quiet_in_round (by kernel_rfl) (by kernel_rfl) ?_ ?_
          · intro i o ho c
            match i, ho with
            | 0, ho | 1, ho | 2, ho | 3, ho | 4, ho | 5, ho | 6, ho | 7, ho | 8, ho | 9, ho | 10, ho | 11, ho => cases ho; intro h; cases h
          repeat (gi_big_quiet_step (fail))
          refine wpQuietIn_nil ?_
          intro _ hw'
          obtain ⟨nq, hw''⟩ := hw'
          subst hw''
          gi_wp2
          exact ⟨(HBd.out nq).1, (HBd.out nq).2.1, .inr ⟨rfl, (HBd.out nq).2.2⟩⟩
    case done =>
      rintro D ys Wd hD hS' ⟨⟨h1, h2, h3⟩, h4⟩ hK
      have hyl : (ys.length : Int) = N := by rw [← HN.out, ← hS', List.length_map]
      exact HTl.out _ D Wd _ rfl rfl rfl rfl rfl rfl rfl h1 h2 h3 hD hK (.inl hyl)
    case stop =>
      rintro D c pre Wd hD hSp hIx hK
      rcases hIx with ⟨⟨h1, h2, h3⟩, rfl, hr0, hst⟩ | ⟨_, hn⟩
      · gi_wp2
        exact HTl.out _ D Wd _ rfl rfl rfl rfl rfl rfl rfl h1 h2 h3 hD hK (.inr ⟨hr0, hst⟩)
      · exact absurd hSp hn
  · have hr1 : decide (r < 2) = false := decide_eq_false hr
    have hrs2 : Boxed W (w.heap.size + 1) 4 (.bool false) := (HW.out.block (w.heap.size + 1) (by omega)).trans HRs2.out
    have k2 := hrs2.cell
    have f2 := hrs2.frozen
    have HRW := Aside0.mk hrs2
    clear hrs2
    go_wp2
    have hs := HRW.out.set (.bool true)
    have hBw := below_then HBw2.out HBw2.out.size HW.out
    have hB : Below w.heap.size w (W.setCell ⟨w.heap.size + 1, 0, none⟩ (.bool true)) := hBw.setCell (p := ⟨w.heap.size + 1, 0, none⟩) (by show w.heap.size ≤ w.heap.size + 1; omega) _
    have hd : Dfs w.heap.size ds (W.setCell ⟨w.heap.size + 1, 0, none⟩ (.bool true)) := ⟨HDf.out.1, fun D hD => ⟨by have := (HDf.out.2 D hD).1; omega, by
      have h1 := (HDf.out.2 D hD).1
      exact (Below.heap_setCell _ _ _ _ (show D ≠ w.heap.size + 1 by omega)).trans (HDf.out.2 D hD).2⟩⟩
    refine leaves_many ds _ hd (fun W' hb hk => ?_)
    have hn : w.heap.size + 1 ∉ ds := fun hn => by have := (HDf.out.2 _ hn).1; omega
    have hc : W'.cell? ⟨w.heap.size + 1, 0, none⟩ = some (.bool true) := Boxed.cell (t := 4) ((hk _ hn).trans hs)
    refine ⟨.bool true, ?_, rfl, hB.trans hb⟩
    simp [results, Try.f47, go_sem, hc]
end Go.Proofs.Ytpcgmlnipeigjaa.H
