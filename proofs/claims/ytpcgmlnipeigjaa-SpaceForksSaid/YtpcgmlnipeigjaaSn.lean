/- Package space: Runs' closure as a contract: it ranges over the runs of a fork, and hands each on as an area. -/
import Derived.Test.YtpcgmlnipeigjaaSm
import Derived.Stop.RegionWithIn
namespace Go.Proofs.Ytpcgmlnipeigjaa.H
open Go.RowKit Go.Shelf Go.Proofs.YtpcgmlnipeigjaaW.PrintWords Go.Proofs.YtpcgmlnipeigjaaW.PrintLast Go.Proofs.YtpcgmlnipeigjaaW.PrintMore
set_option linter.unusedVariables false
set_option linter.unusedSimpArgs false
attribute [local go_sem] Oper.semAt_some

/-- What a round keeps: the cells of these blocks, and of all from n0 on; from n0 + 2 on whatever it is. -/
def Kc (b X n0 : Nat) (W W' : World) : Prop := ∀ (k : Nat) (o : Obj), (k = b ∨ k = X ∨ n0 ≤ k) → (o.isCells = true ∨ n0 + 2 ≤ k) → W.heap[k]? = some o → W'.heap[k]? = some o
theorem Kc.t {b X n0 : Nat} {A B C : World} (h : Kc b X n0 A B) (k : Kc b X n0 B C) : Kc b X n0 A C := fun i o hi ho hA => k i o hi ho (h i o hi ho hA)
theorem Kc.p {b X n0 : Nat} (W : World) (o o' : Obj) (hl : W.heap[n0 + 1]? = some o) (ho : o.isCells = false) : Kc b X n0 W (W.putObj (n0 + 1) o') := fun k q hk hq hW => by
  by_cases e : k = n0 + 1
  · subst e
    rw [hl] at hW
    cases hW
    rcases hq with hq | hq
    · rw [ho] at hq; cases hq
    · omega
  · exact (World.putObj_heap_other e).trans hW
theorem Kc.of_below {b X n0 : Nat} {W W' : World} (h : Below W.heap.size W W') : Kc b X n0 W W' := fun k o _ _ hW => (h.block k (blk_lt hW)).trans hW
/-- The same of the cells alone. -/
def Kd' (b X n0 : Nat) (W W' : World) : Prop := ∀ (k : Nat) (o : Obj), (k = b ∨ k = X ∨ n0 ≤ k) → o.isCells = true → W.heap[k]? = some o → W'.heap[k]? = some o
theorem kd_from {β : Type} {B b X n0 : Nat} {w0 : World} : OwnFrom B (fun (_ : β) W => Kd' b X n0 w0 W) := fun s W W' row h hg hr k o hk ho hA => by
  have hW := h k o hk ho hA
  refine (hg.block k (blk_lt hW) (fun e => ?_)).trans hW
  obtain ⟨_, o', ho', hc⟩ := hr k e.symm
  rw [hW] at ho'
  cases ho'
  rw [ho] at hc
  cases hc
theorem Kc.size {b X n0 : Nat} {W W' : World} (h : Kc b X n0 W W') (hs : n0 + 2 < W.heap.size) : W.heap.size ≤ W'.heap.size := by
  have h1 := h (W.heap.size - 1) _ (.inr (.inr (by omega))) (.inr (by omega)) (Array.getElem?_eq_getElem (by omega))
  have := blk_lt h1
  omega

/-- A region that draws its order, in a round: as it goes outside (no operation of it is a defer). -/
theorem ops_in_round {n : Nat} {ops : Array Oper} {Q : Exit → Act → World → Prop} {li : Nat} (hd : ∀ (i : Nat) (o : Oper), ops[i]? = some o → ∀ c, o.op ≠ .defer c) (is : List Nat) : ∀ (a : Act) (w : World), wpOpsIn Fence.wide n Try.prog ops Q is a w → wpOpsIn (Fence.wide.inRound li) n Try.prog ops Q is a w := by
  induction is with
  | nil => exact fun a w h => h
  | cons i rest ih =>
    intro a w h
    unfold wpOpsIn at h ⊢
    cases ho : ops[i]? with
    | none => rw [ho] at h; exact ih _ _ h
    | some o =>
      rw [ho] at h
      dsimp only at h ⊢
      by_cases hw : Region.wanted o (yielded ops a.tmps) = true
      · rw [if_pos hw] at h ⊢
        refine ⟨h.1, ?_⟩
        have e : Oper.semAt (Fence.wide.inRound li).round a.eval o = Oper.semAt Fence.wide.round a.eval o := (Oper.semAt_some li a.eval o (hd i o ho)).trans (Oper.semAt_none a.eval o).symm
        rw [e]
        exact (Oper.wpIn_mono (F := Fence.wide) (fun a w h => ih a w h) h).2
      · rw [if_neg hw] at h ⊢
        exact ⟨h.1, ih _ _ h.2⟩
theorem region_in_round {id n : Nat} {ops : Array Oper} {Q : Exit → Act → World → Prop} {li : Nat} {a : Act} {w : World} (hm : Try.prog.follows .mixedOrders = true) (hd : ∀ (i : Nat) (o : Oper), ops[i]? = some o → ∀ c, o.op ≠ .defer c)
    (h : wpAnyIn Fence.wide n Try.prog .any ops Q ops.size (Array.replicate ops.size false) a w.drew) : (Code.region id ops true).wpIn (Fence.wide.inRound li) n Try.prog Q a w :=
  wpIn_region_draw fun t => by
    refine ops_in_round hd _ _ _ ?_
    simp only [Region.schedule, hm, Bool.true_or, if_true]
    exact wpAnyIn_sound ops.size t _ a _ h

set_option maxRecDepth 100000 in
set_option maxHeartbeats 4000000 in
theorem runsA_stops (X g b : Nat) (first res : Int) (l : List Int) (c : Int → Int) (w : World) (hf : 0 ≤ first ∧ first + l.length ≤ 4096) (hp : 0 < l.length)
    (hb : w.heap[b]? = some (.cells #[.pointer (some ⟨X, 0, none⟩)] 25 (0, 0))) (hSp : SpAt w X g first l c res) :
    SeqO 2 37 #[.pointer (some ⟨b, 0, none⟩)] (fun x : Run l => #[.agg #[.int .i64 (first + x.1.1), .int .i64 x.1.2]]) (Kc b X w.heap.size) (fun ys => ys.map Subtype.val = runsL l) (fun pre => pre.map Subtype.val <+: runsL l) l.length w := by
  intro lp J Jx W hW hJ hJx hY h0
  have hl : l.length ≤ 4096 := by omega
  have hu54 := Try.underlying54
  have hu31 := Try.underlying31
  have hbW := (hW.block b (blk_lt hb)).trans hb
  have HS := Aside0.mk (hSp.below hW)
  have HY := Aside0.mk hY
  have HBt := Aside0.mk (hbW)
  have HA := Aside0.mk (And.intro hW (And.intro (blk_lt hb) hSp.ltX))
  have HJ := Aside0.mk (And.intro hJ hJx)
  have H0 := Aside0.mk h0
  have hbb := (hW.block b (blk_lt hb)).trans hb
  have ha1 := (Below.heap_alloc W (.cells #[.func (.yield lp) #[] #[]] 70) b (blk_lt hbW)).trans hbW
  have hc0 := (blk_cell ha1 0).trans rfl
  clear hW hJ hJx hY h0 hb hSp hbW hbb ha1
  refine callsIn_of_wp_marks (n := 2) Try.func37 rfl trivial ?_ rfl
  refine wpIn_wide.2 ?_
  simp only [Try.ntmps37, List.size_toArray, List.length_cons, List.length_nil, Nat.reduceAdd, Nat.reduceSub, Array.replicate_succ, Array.replicate_zero, List.push_toArray, List.append_toArray, List.nil_append, List.cons_append]
  go_wp2_with (first
    | (go_at_call 33; refine (runs_any _ _).mono ?_; rintro e w3 ⟨b', rfl, hb0, hb1, hB⟩; have HB3 := Aside0.mk hB; have HBb := Aside0.mk (And.intro hb0 hb1); clear hB hb0 hb1)
    | (go_at_call 24; refine (fork_any X g first res l c _ HS1.out hp hl).mono ?_; rintro e w2 ⟨X', g', rfl, hX', hg', hS2, hB⟩; have HX' := Aside0.mk (And.intro hX' hg'); have HS2 := Aside0.mk hS2; have HB2 := Aside0.mk hB; clear hB hX' hg' hS2)
    | (go_at_call 32; refine (made_yes X g first res l c _ (HS.out.below (below_alloc (Below.refl W.heap.size W) _))).mono ?_; rintro e w1 ⟨rfl, hB⟩; have h1 := (HS.out.below (below_alloc (Below.refl W.heap.size W) (.cells #[.func (.yield lp) #[] #[]] 70))).below hB; have hq := (hB.block b (by have := blk_lt HBt.out; simp; omega)).trans ((Below.heap_alloc W (.cells #[.func (.yield lp) #[] #[]] 70) b (blk_lt HBt.out)).trans HBt.out); have hq0 := (blk_cell hq 0).trans rfl; have hy := (hB.block W.heap.size (by simp)).trans (blk_new W (.cells #[.func (.yield lp) #[] #[]] 70)); have HS1 := Aside0.mk h1; have HB1 := Aside0.mk hB; have HQ1 := Aside0.mk hq; have HYb := Aside0.mk hy; clear hB h1 hq hy))
  have hA := HA.out
  have hsz1 := HB1.out.size
  have hsz2 := HB2.out.size
  have hsz3 := HB3.out.size
  have hWs := hA.1.size
  rw [World.size_alloc] at hsz1
  have hX' := HX'.out
  have hX'l := HS2.out.ltX
  have hg'l := HS2.out.ltg
  have hb' := HBb.out.1
  have hb'l := blk_lt HBb.out.2
  have hne' := HS2.out.ne
  have hb3 : w.heap.size + 4 ≤ w3.heap.size := by omega
  have hS3 := HS2.out.below HB3.out
  have hJ3 : OwnFrom w3.heap.size J := fun s P Q row hs hg hr => HJ.out.1 s P Q row hs hg (fun r e => ⟨by have := (hr r e).1; omega, (hr r e).2⟩)
  have hJx3 : OwnFrom w3.heap.size Jx := fun s P Q row hs hg hr => HJ.out.2 s P Q row hs hg (fun r e => ⟨by have := (hr r e).1; omega, (hr r e).2⟩)
  have hJ0 : J [] w3 := by
    have h1 : ∀ {P Q : World}, Below P.heap.size P Q → J [] P → J [] Q := fun hb h => HJ.out.1 _ _ _ none h (grownBy_of_below hb) (fun r e => by cases e)
    exact h1 HB3.out (h1 HB2.out (h1 HB1.out (h1 (below_alloc (Below.refl _ _) _) H0.out)))
  have hq3 : w3.heap[b]? = some (.cells #[.pointer (some ⟨X, 0, none⟩)] 25 (0, 0)) := (HB3.out.block b (by have := blk_lt HQ1.out; omega)).trans ((HB2.out.block b (blk_lt HQ1.out)).trans HQ1.out)
  have hy3 : w3.heap[W.heap.size]? = some (.cells #[.func (.yield lp) #[] #[]] 70 (0, 0)) := (HB3.out.block _ (by have := blk_lt HYb.out; omega)).trans ((HB2.out.block _ (blk_lt HYb.out)).trans HYb.out)
  have hSX : SpAt w3 X g first l c res := (HS1.out.below HB2.out).below HB3.out
  have hRs := runs_stops 3 X' g' b' first res l c hl w3 HBb.out.2 hS3
  have hSk : ∀ k, Sk b' X' g' k → k < w3.heap.size := by
    rintro k (rfl | rfl | rfl) <;> omega
  refine (wpIn_wide (n := 4)).1 ?_
  refine wpIn_rangeFunc_ownG (F := Fence.wide) rfl (by decide) (gf := 52) (lb := #[.pointer (some ⟨b', 0, none⟩)]) rfl trivial (enters_of Try.func52 (by kernel_rfl) rfl)
    hRs Keeps.t (Keeps.b hSk) (Below.refl _ _) (fun _ => rfl)
    (fun pre Wx => J pre Wx ∧ Kd' b X w.heap.size w3 Wx)
    (fun c' pre Wx => Jx pre Wx ∧ c' = .ret)
    (OwnFrom.and hJ3 kd_from) (fun c' => OwnFrom.and hJx3 (fun _ _ _ _ h _ _ => h)) ⟨hJ0, fun _ _ _ _ h => h⟩
    (fun x => { tmps := #[.func (.yield lp) #[] #[], .pointer (some ⟨b, 0, none⟩), .pointer (some ⟨W.heap.size, 0, none⟩), .int .i64 x.1.1, .int .i64 x.1.2, .pointer (some ⟨X, 0, none⟩), .bool true, .bool false, .pointer (some ⟨X, 0, none⟩), .pointer (some ⟨X', 0, none⟩), .func (.func 52) #[] #[.pointer (some ⟨b', 0, none⟩)], .int .i64 x.1.1, .int .i64 x.1.2, undef, undef, undef, undef, undef, undef, undef, undef, undef, undef, undef], defers := [] }) ?assign ?body ?done ?stop
  case assign =>
    intro l x W K hK
    gi_wp2
    exact hK
  case body =>
    rintro li pre x Wx ⟨hj, hk⟩ hlt
    have hqb := (blk_cell (hk b _ (.inl rfl) rfl hq3) 0).trans rfl
    have hqy := (blk_cell (hk W.heap.size _ (.inr (.inr (by omega))) rfl hy3) 0).trans rfl
    obtain ⟨Kx, _, hXb⟩ := hSX.blk
    have hqx := (blk_cell (hk X _ (.inr (.inl rfl)) rfl hXb) 0).trans rfl
    have hjd : J pre Wx.drew := HJ.out.1 _ _ _ none hj (grownBy_of_below (below_drew (Below.refl _ _))) (fun r e => by cases e)
    obtain ⟨fn, tmps, assign, body, hy, hRd0⟩ := HY.out pre x Wx.drew hjd hlt
    have hRd : RoundIn Fence.wide (2 - 1) Try.prog lp fn tmps assign body Wx.drew fun e W' => ∃ B, e = .returned (.bool B) ∧ ((B = true ∧ J (pre ++ [x]) W' ∧ Kc b X w.heap.size Wx.drew W') ∨ (B = false ∧ Jx (pre ++ [x]) W' ∧ Kc b X w.heap.size Wx.drew W')) := hRd0.mono (fun e W' h => by
      rcases h with ⟨rfl, h1, h2⟩ | ⟨rfl, h1, h2⟩
      · exact ⟨true, rfl, .inl ⟨rfl, h1, h2⟩⟩
      · exact ⟨false, rfl, .inr ⟨rfl, h1, h2⟩⟩)
    clear hRd0
    have hgood := runsL_good x.2
    obtain ⟨x1, hx1⟩ : ∃ a, x.1.1 = a := ⟨_, rfl⟩
    obtain ⟨x2, hx2⟩ : ∃ a, x.1.2 = a := ⟨_, rfl⟩
    have hxb : 0 ≤ x1 ∧ x1 ≤ l.length := by
      obtain ⟨a, k, hak, hk0, hak1, _⟩ := hgood
      have : x1 = a := by rw [← hx1, hak]
      omega
    obtain ⟨pre', hp'⟩ : ∃ p, pre ++ [x] = p := ⟨_, rfl⟩
    rw [hx1, hx2] at hy ⊢
    rw [hp'] at hRd ⊢
    have w9 : IntKind.i64.wrap (first + x1) = first + x1 := by rw [IntWalk.i64_left]; unfold wrap64; omega
    have hbx := hk b' _ (.inr (.inr (by omega))) rfl HBb.out.2
    obtain ⟨Kx', _, hX3⟩ := hS3.blk
    obtain ⟨cg, hg3⟩ := hS3.row.ty
    have hXx := hk X' _ (.inr (.inr (by omega))) rfl hX3
    have hgx := hk g' _ (.inr (.inr (by omega))) rfl hg3
    have nxt : ∀ W3, Kc b X w.heap.size Wx.drew W3 → KeepsFrom w3.heap.size Wx W3 ∧ Keeps (Sk b' X' g') Wx W3 ∧ Kd' b X w.heap.size w3 W3 := fun W3 h2 => by
      have hsz := Kc.size h2 (by have := blk_lt hbx; show w.heap.size + 2 < Wx.heap.size; omega)
      refine ⟨⟨hsz, fun k o hB hko _ => h2 k o (.inr (.inr (by omega))) (.inr (by omega)) hko⟩, ?_, fun k o hk' ho hA => h2 k o hk' (.inl ho) (hk k o hk' ho hA)⟩
      rintro k (rfl | rfl | rfl)
      · exact (h2 _ _ (.inr (.inr (by omega))) (.inl rfl) hbx).trans hbx.symm
      · exact (h2 _ _ (.inr (.inr (by omega))) (.inl rfl) hXx).trans hXx.symm
      · exact (h2 _ _ (.inr (.inr (by omega))) (.inl rfl) hgx).trans hgx.symm
    have HNx := Aside0.mk nxt
    clear nxt hbx hX3 hg3 hXx hgx
    have HRD := Aside0.mk (show RoundIn Fence.wide 1 Try.prog lp fn tmps assign body Wx.drew _ from hRd)
    have HK := Aside0.mk hk
    have HG := Aside0.mk hgood
    clear hRd hk hgood
    gi_wp2
    clear hy3 hq3 hJ3 hJx3 hJ0 hSX hRs hSk hS3 hXb
    refine region_in_round (by kernel_rfl) ?_ ?_
    · intro i o ho c
      match i, ho with
      | 0, ho | 1, ho | 2, ho | 3, ho | 4, ho | 5, ho | 6, ho | 7, ho | 8, ho | 9, ho | 10, ho => cases ho; intro h; cases h
    (refine wpAnyIn_take (i := 5) (v := ?v1) rfl rfl (by kernel_rfl) (by kernel_rfl) (by kernel_rfl) (fun _ _ _ h => h) ⟨Or.inl ⟨by rfl, ?hyy1⟩, fun _ => rfl⟩ ?rst1; case hyy1 => (intro w; go_simp; first | done | with_reducible rfl))
    (refine wpAnyIn_take (i := 7) (v := ?v2) rfl rfl (by kernel_rfl) (by kernel_rfl) (by kernel_rfl) (fun _ _ _ h => h) ⟨Or.inl ⟨by rfl, ?hyy2⟩, fun _ => rfl⟩ ?rst2; case hyy2 => (intro w; go_simp; first | done | with_reducible rfl))
    refine wpAnyIn_ready (rs := [0, 1]) (by kernel_rfl) (by simp) ?_; refine (AllReadyIn.cons rfl (fun K hK => ?_) (AllReadyIn.cons rfl (fun K hK => ?_) AllReadyIn.nil))
    · (go_simp; refine hK _ _ ?_; clear hK K)
      refine wpAnyIn_ready (rs := [1]) (by kernel_rfl) (by simp) ?_; refine (AllReadyIn.cons rfl (fun K hK => ?_) AllReadyIn.nil)
      (go_simp; refine hK _ _ ?_; clear hK K)
      (refine wpAnyIn_take (i := 2) (v := ?v3) rfl rfl (by kernel_rfl) (by kernel_rfl) (by kernel_rfl) (fun _ _ _ h => h) ⟨Or.inl ⟨by rfl, ?hyy3⟩, fun _ => rfl⟩ ?rst3; case hyy3 => (intro w; go_simp; first | done | with_reducible rfl))
      (refine wpAnyIn_take (i := 3) (v := ?v4) rfl rfl (by kernel_rfl) (by kernel_rfl) (by kernel_rfl) (fun _ _ _ h => h) ⟨Or.inl ⟨by rfl, ?hyy4⟩, fun _ => rfl⟩ ?rst4; case hyy4 => (intro w; go_simp; first | done | with_reducible rfl))
      refine wpAnyIn_ready (rs := [4]) (by kernel_rfl) (by simp) ?_; refine (AllReadyIn.cons rfl (fun K hK => ?_) AllReadyIn.nil)
      (go_simp; refine hK _ _ ?_; clear hK K)
      (refine wpAnyIn_take (i := 6) (v := ?v5) rfl rfl (by kernel_rfl) (by kernel_rfl) (by kernel_rfl) (fun _ _ _ h => h) ⟨Or.inl ⟨by rfl, ?hyy5⟩, fun _ => rfl⟩ ?rst5; case hyy5 => (intro w; go_simp; first | done | with_reducible rfl))
      (refine wpAnyIn_take (i := 8) (v := ?v6) rfl rfl (by kernel_rfl) (by kernel_rfl) (by kernel_rfl) (fun _ _ _ h => h) ⟨Or.inl ⟨by rfl, ?hyy6⟩, fun _ => rfl⟩ ?rst6; case hyy6 => (intro w; go_simp; first | done | with_reducible rfl))
      refine wpAnyIn_ready (rs := [9]) (by kernel_rfl) (by simp) ?_; refine (AllReadyIn.cons rfl (fun K hK => ?_) AllReadyIn.nil)
      (go_simp; refine RoundIn.mono HRD.out ?_; rintro e W3 ⟨B, rfl, hB⟩; refine hK _ _ ?_; clear hK K)
      (refine wpAnyIn_take (i := 10) (v := ?v7) rfl rfl (by kernel_rfl) (by kernel_rfl) (by kernel_rfl) (fun _ _ _ h => h) ⟨Or.inl ⟨by rfl, ?hyy7⟩, fun _ => rfl⟩ ?rst7; case hyy7 => (intro w; go_simp; first | done | with_reducible rfl))
      refine wpAnyIn_done (by kernel_rfl) ?_ _
      rcases hB with ⟨rfl, h1, h2⟩ | ⟨rfl, h1, h2⟩
      · have HN := HNx.out W3 h2
        have H1 := Aside0.mk h1
        have HN' := Aside0.mk HN
        clear h1 h2 HN
        gi_wp2
        exact ⟨HN'.out.1, HN'.out.2.1, H1.out, HN'.out.2.2⟩
      · have HN := HNx.out W3 h2
        have H1 := Aside0.mk h1
        have HN' := Aside0.mk HN
        clear h1 h2 HN
        gi_wp2
        exact ⟨HN'.out.1, H1.out, rfl⟩
    · (go_simp; refine hK _ _ ?_; clear hK K)
      (refine wpAnyIn_take (i := 2) (v := ?v8) rfl rfl (by kernel_rfl) (by kernel_rfl) (by kernel_rfl) (fun _ _ _ h => h) ⟨Or.inl ⟨by rfl, ?hyy8⟩, fun _ => rfl⟩ ?rst8; case hyy8 => (intro w; go_simp; first | done | with_reducible rfl))
      (refine wpAnyIn_take (i := 3) (v := ?v9) rfl rfl (by kernel_rfl) (by kernel_rfl) (by kernel_rfl) (fun _ _ _ h => h) ⟨Or.inl ⟨by rfl, ?hyy9⟩, fun _ => rfl⟩ ?rst9; case hyy9 => (intro w; go_simp; first | done | with_reducible rfl))
      refine wpAnyIn_ready (rs := [0, 4]) (by kernel_rfl) (by simp) ?_; refine (AllReadyIn.cons rfl (fun K hK => ?_) (AllReadyIn.cons rfl (fun K hK => ?_) AllReadyIn.nil))
      · (go_simp; refine hK _ _ ?_; clear hK K)
        refine wpAnyIn_ready (rs := [4]) (by kernel_rfl) (by simp) ?_; refine (AllReadyIn.cons rfl (fun K hK => ?_) AllReadyIn.nil)
        (go_simp; refine hK _ _ ?_; clear hK K)
        (refine wpAnyIn_take (i := 6) (v := ?v10) rfl rfl (by kernel_rfl) (by kernel_rfl) (by kernel_rfl) (fun _ _ _ h => h) ⟨Or.inl ⟨by rfl, ?hyy10⟩, fun _ => rfl⟩ ?rst10; case hyy10 => (intro w; go_simp; first | done | with_reducible rfl))
        (refine wpAnyIn_take (i := 8) (v := ?v11) rfl rfl (by kernel_rfl) (by kernel_rfl) (by kernel_rfl) (fun _ _ _ h => h) ⟨Or.inl ⟨by rfl, ?hyy11⟩, fun _ => rfl⟩ ?rst11; case hyy11 => (intro w; go_simp; first | done | with_reducible rfl))
        refine wpAnyIn_ready (rs := [9]) (by kernel_rfl) (by simp) ?_; refine (AllReadyIn.cons rfl (fun K hK => ?_) AllReadyIn.nil)
        (go_simp; refine RoundIn.mono HRD.out ?_; rintro e W3 ⟨B, rfl, hB⟩; refine hK _ _ ?_; clear hK K)
        (refine wpAnyIn_take (i := 10) (v := ?v12) rfl rfl (by kernel_rfl) (by kernel_rfl) (by kernel_rfl) (fun _ _ _ h => h) ⟨Or.inl ⟨by rfl, ?hyy12⟩, fun _ => rfl⟩ ?rst12; case hyy12 => (intro w; go_simp; first | done | with_reducible rfl))
        refine wpAnyIn_done (by kernel_rfl) ?_ _
        rcases hB with ⟨rfl, h1, h2⟩ | ⟨rfl, h1, h2⟩
        · have HN := HNx.out W3 h2
          have H1 := Aside0.mk h1
          have HN' := Aside0.mk HN
          clear h1 h2 HN
          gi_wp2
          exact ⟨HN'.out.1, HN'.out.2.1, H1.out, HN'.out.2.2⟩
        · have HN := HNx.out W3 h2
          have H1 := Aside0.mk h1
          have HN' := Aside0.mk HN
          clear h1 h2 HN
          gi_wp2
          exact ⟨HN'.out.1, H1.out, rfl⟩
      · (go_simp; refine hK _ _ ?_; clear hK K)
        (refine wpAnyIn_take (i := 6) (v := ?v13) rfl rfl (by kernel_rfl) (by kernel_rfl) (by kernel_rfl) (fun _ _ _ h => h) ⟨Or.inl ⟨by rfl, ?hyy13⟩, fun _ => rfl⟩ ?rst13; case hyy13 => (intro w; go_simp; first | done | with_reducible rfl))
        (refine wpAnyIn_take (i := 8) (v := ?v14) rfl rfl (by kernel_rfl) (by kernel_rfl) (by kernel_rfl) (fun _ _ _ h => h) ⟨Or.inl ⟨by rfl, ?hyy14⟩, fun _ => rfl⟩ ?rst14; case hyy14 => (intro w; go_simp; first | done | with_reducible rfl))
        refine wpAnyIn_ready (rs := [0]) (by kernel_rfl) (by simp) ?_; refine (AllReadyIn.cons rfl (fun K hK => ?_) AllReadyIn.nil)
        (go_simp; refine hK _ _ ?_; clear hK K)
        refine wpAnyIn_ready (rs := [9]) (by kernel_rfl) (by simp) ?_; refine (AllReadyIn.cons rfl (fun K hK => ?_) AllReadyIn.nil)
        (go_simp; refine RoundIn.mono HRD.out ?_; rintro e W3 ⟨B, rfl, hB⟩; refine hK _ _ ?_; clear hK K)
        (refine wpAnyIn_take (i := 10) (v := ?v15) rfl rfl (by kernel_rfl) (by kernel_rfl) (by kernel_rfl) (fun _ _ _ h => h) ⟨Or.inl ⟨by rfl, ?hyy15⟩, fun _ => rfl⟩ ?rst15; case hyy15 => (intro w; go_simp; first | done | with_reducible rfl))
        refine wpAnyIn_done (by kernel_rfl) ?_ _
        rcases hB with ⟨rfl, h1, h2⟩ | ⟨rfl, h1, h2⟩
        · have HN := HNx.out W3 h2
          have H1 := Aside0.mk h1
          have HN' := Aside0.mk HN
          clear h1 h2 HN
          gi_wp2
          exact ⟨HN'.out.1, HN'.out.2.1, H1.out, HN'.out.2.2⟩
        · have HN := HNx.out W3 h2
          have H1 := Aside0.mk h1
          have HN' := Aside0.mk HN
          clear h1 h2 HN
          gi_wp2
          exact ⟨HN'.out.1, H1.out, rfl⟩
  case done =>
    rintro D ys Wd hD hS' ⟨hj, hk⟩ hK
    gi_wp2
    refine ⟨by simp, .inl ⟨_, _, rfl, run_takeDeferred hK, ?_⟩⟩
    refine ⟨_, results_none rfl _ _ _, ⟨_, rfl⟩, .inl ⟨ys, hS', ?_⟩⟩
    exact hJ3.putObj _ hj hD hK rfl
  case stop =>
    rintro D c' pre Wd hD hSp ⟨hj, rfl⟩ hK
    gi_wp2
    refine ⟨by simp, .inl ⟨_, _, rfl, run_takeDeferred hK, ?_⟩⟩
    refine ⟨_, results_none rfl _ _ _, ⟨_, rfl⟩, .inr ⟨pre, hSp, ?_⟩⟩
    exact hJx3.putObj _ hj hD hK rfl
end Go.Proofs.Ytpcgmlnipeigjaa.H
