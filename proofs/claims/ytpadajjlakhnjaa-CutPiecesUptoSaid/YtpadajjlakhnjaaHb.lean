/- cut.Lengths as a contract: it collects what the iterator hands out. -/
import Derived.Test.YtpadajjlakhnjaaHa
import Derived.Maps.AppendAt
namespace Go.Proofs.Ytpadajjlakhnjaa.H
open Go.RowKit Go.Shelf Go.Proofs.YtpadajjlakhnjaaW.PrintWords Go.Proofs.YtpadajjlakhnjaaW.PrintLast Go.Proofs.YtpadajjlakhnjaaW.PrintMore
set_option linter.unusedVariables false
set_option linter.unusedSimpArgs false
attribute [local go_sem] Oper.semAt_some

theorem info3 : (Try.prog.info? 3).map (fun i => (i.zero, i.size, i.bytes)) = some (some (.int .i64 0), 1, 8) := by kernel_rfl

def Snone (e : Int) (F : List Int → Int) (l : List Int) (ys : List (Int × Int)) : Prop := if e = 0 then ∃ k, cst F l k = (ys, (l.length : Int)) ∧ ∀ j, j < k → (cst F l j).2 < l.length else ys = []
def Spart (e : Int) (F : List Int → Int) (l : List Int) (pre : List (Int × Int)) : Prop := e = 0 ∧ ∃ k, k ≤ l.length ∧ (cst F l k).1 = pre ∧ (∀ j, j < k → (cst F l j).2 < l.length)

set_option maxHeartbeats 1000000 in
theorem cuts1_none (e : Int) (he : e ≠ 0) (a0 a1 a2 a3 : Int) (b1 b2 lp : Nat) (J : List (Int × Int) → World → Prop) (hch : check a0 a1 a2 = e)
    (W : World) (h1 : W.heap[b1]? = some (.cells #[.int .i64 a0, .int .i64 a1, .int .i64 a2, .int .u64 a3] 24 (0, 0))) (h0 : J [] W) (hJ : AbidesFrom W.heap.size J) :
    Calls Try.prog 27 #[.func (.yield lp) #[] #[], .pointer (some ⟨b1, 0, none⟩), .pointer (some ⟨b2, 0, none⟩)] W fun e W' => (∃ v, e = .returned v) ∧ J [] W' := by
  have hx1 : W.cell? ⟨b1, 0, none⟩ = some (.int .i64 a0) := (blk_cell h1 0).trans rfl
  have hx2 : W.cell? ⟨b1, 1, none⟩ = some (.int .i64 a1) := (blk_cell h1 1).trans rfl
  have hx3 : W.cell? ⟨b1, 2, none⟩ = some (.int .i64 a2) := (blk_cell h1 2).trans rfl
  have hx4 : W.cell? ⟨b1, 3, none⟩ = some (.int .u64 a3) := (blk_cell h1 3).trans rfl
  have hu24 := Try.underlying24
  have he0 : (e != 0) = true := bne_iff_ne.mpr he
  have HCH := Aside0.mk hch
  have H0 := Aside0.mk h0
  have HJ := Aside0.mk hJ
  clear hch h0 hJ h1 he
  go_enter Try.func27, Try.ntmps27
  go_wp2_with (go_at_call 11; refine (check_any a0 a1 a2 a3 _).mono ?_; rintro e w' ⟨rfl, hB⟩; rw [HCH.out]; have HB := Aside0.mk hB; clear hB)
  refine bodyPost_ret (results_none rfl _ _ _) rfl ?_
  exact ⟨⟨_, rfl⟩, HJ.out _ _ _ none H0.out (grownBy_of_below HB.out) (fun r e => by cases e)⟩

/-- The closure's contract, whatever Check says. -/
theorem cuts_stops (n : Nat) (e a0 a1 a2 a3 : Int) (F : List Int → Int) (l : List Int) (b1 b2 : Nat) (A : Option Addr) (c : Nat)
    (hF : e = 0 → Fst F l) (hk : e = 0 → ∀ (A : Option Addr) (c : Nat) (m : List Int) (w : World), Kd.C (Kd.int .u8) w A m.length m → Calls Try.prog 24 #[.agg #[.int .i64 a0, .int .i64 a1, .int .i64 a2, .int .u64 a3], .slice A m.length c] w fun e w' => e = .returned (.int .i64 (F m)) ∧ Below w.heap.size w w') (hch : check a0 a1 a2 = e)
    (w : World) (h1 : w.heap[b1]? = some (.cells #[.int .i64 a0, .int .i64 a1, .int .i64 a2, .int .u64 a3] 24 (0, 0))) (h2 : w.heap[b2]? = some (.cells #[.slice A l.length c] 25 (0, 0)))
    (hR : Kd.C (Kd.int .u8) w A l.length l) (hc : l.length ≤ c) (hS : ∀ k, Sk b1 b2 A k → k < w.heap.size) :
    SeqStopsK Fence.wide n Try.prog 27 #[.pointer (some ⟨b1, 0, none⟩), .pointer (some ⟨b2, 0, none⟩)] (fun x : Int × Int => #[.int .i64 x.1, .int .i64 x.2]) (Keeps (Sk b1 b2 A)) (Snone e F l) (Spart e F l) l.length w := by
  intro lp J Jx W hW hJ hJx hY h0
  have hlt : ∀ k, Sk b1 b2 A k → W.heap[k]? = w.heap[k]? := fun k hk => hW.block k (hS k hk)
  have hS' : ∀ k, Sk b1 b2 A k → k < W.heap.size := fun k hk => Nat.lt_of_lt_of_le (hS k hk) hW.size
  have h1' := (hlt b1 (.inl rfl)).trans h1
  have h2' := (hlt b2 (.inr (.inl rfl))).trans h2
  refine callsIn_wide.2 ?_
  by_cases he : e = 0
  · subst he
    refine (cuts1_any n a0 a1 a2 a3 F l b1 b2 lp A c J Jx (hF rfl) (hk rfl) hch hY W h1' h2' (C_keeps hR (fun ad e => hlt _ (.inr (.inr ⟨ad, e, rfl⟩)))) hc h0 hJ hS').mono ?_
    rintro e W' ⟨hv, ⟨ys, hy, hj⟩ | ⟨pre, hp, hj⟩⟩
    · exact ⟨hv, .inl ⟨ys, by simpa [Snone] using hy, hj⟩⟩
    · exact ⟨hv, .inr ⟨pre, ⟨rfl, hp⟩, hj⟩⟩
  · refine (cuts1_none e he a0 a1 a2 a3 b1 b2 lp J hch W h1' h0 hJ).mono ?_
    rintro e' W' ⟨hv, hj⟩
    exact ⟨hv, .inl ⟨[], by simp [Snone, he], hj⟩⟩

/-- Each of these blocks is a row of a type that is none of the given ones. -/
def Typed (S : Nat → Prop) (ts : List Nat) (W : World) : Prop := ∀ k, S k → ∃ cs t, W.heap[k]? = some (.cells cs t (0, 0)) ∧ t ∉ ts
theorem Typed.keeps {S : Nat → Prop} {ts : List Nat} {W W' : World} (h : Typed S ts W) (hk : Keeps S W W') : Typed S ts W' := fun k hs => by
  obtain ⟨cs, t, h1, h2⟩ := h k hs
  exact ⟨cs, t, (hk k hs).trans h1, h2⟩
theorem Typed.lt {S : Nat → Prop} {ts : List Nat} {W : World} (h : Typed S ts W) : ∀ k, S k → k < W.heap.size := fun k hs => by
  obtain ⟨cs, t, h1, _⟩ := h k hs
  exact (Array.getElem?_eq_some_iff.1 h1).1
theorem ownFrom_keeps {β : Type} {S : Nat → Prop} {w w0 : World} (hS : ∀ k, S k → k < w.heap.size) (hS0 : ∀ k, S k → k < w0.heap.size) : OwnFrom w.heap.size (fun (_ : β) W => Keeps S w0 W) := by
  intro s W W' row hs hg hr k hk
  have h1 := hs.lt hS0 k hk
  refine (hg.block k h1 (fun e => ?_)).trans (hs k hk)
  have := (hr k e.symm).1
  have := hS k hk
  omega
theorem ne_box {S : Nat → Prop} {ts : List Nat} {W : World} (h : Typed S ts W) {B t : Nat} {v : Value} (hb : Boxed W B t v) (ht : t ∈ ts) : ∀ k, S k → k ≠ B := by
  rintro k hs rfl
  obtain ⟨cs, t', h1, h2⟩ := h k hs
  have := h1.symm.trans (show W.heap[k]? = _ from hb)
  simp at this
  exact h2 (this.2 ▸ ht)
theorem ne_own {S : Nat → Prop} {ts : List Nat} {W : World} (h : Typed S ts W) {base e size n : Nat} {v : Value} {xs : List Value} (ho : W.ownsRow base e size v n xs) (ht : e ∈ ts) : ∀ k, S k → some k ≠ v.ownBlock := by
  intro k hs he
  obtain ⟨cs, t', h1, h2⟩ := h k hs
  obtain ⟨cells, hc⟩ := own_typed ho k he.symm
  have := h1.symm.trans hc
  simp at this
  exact h2 (this.2 ▸ ht)
/-- Behind 'out = append(out, ..)' these blocks lie as they lay. -/
theorem keeps_appended {S : Nat → Prop} {ts : List Nat} {W w1 : World} {tmp : Obj} {B t e base size n : Nat} {u v v' : Value} {xs : List Value} (h : Typed S ts W) (hb : Boxed W B t u) (ht : t ∈ ts)
    (ho : W.ownsRow base e size v n xs) (he : e ∈ ts) (hgrow : (W.alloc tmp).grownBy w1 v.ownBlock) : Keeps S W (w1.setCell ⟨B, 0, none⟩ v') := by
  intro k hk
  have hlt := h.lt k hk
  rw [Below.heap_setCell _ _ _ _ (ne_box h hb ht k hk), hgrow.block k (by simp; omega) (ne_own h ho he k hk), Below.heap_alloc _ _ _ hlt]
theorem R_block {α : Type} {d : Kd α} {e : Nat} {w : World} {base : Nat} {ok : Nat → Prop} {A : Option Addr} {n c : Nat} {xs : List α} (h : d.R e w base ok (.slice A n c) xs) : ∀ ad, A = some ad → base ≤ ad.block ∧ ok ad.block ∧ ∃ cs, w.heap[ad.block]? = some (.cells cs e (0, 0)) := by
  rintro ad rfl
  obtain ⟨h0, inner, ho, _⟩ := h
  rcases ho.2 with ⟨h1, _⟩ | ⟨g, cap, cur, h1, hg, hh, _⟩
  · cases h1
  · cases h1
    exact ⟨hg, h0 _ (by simp [Value.ownBlock]), cur, hh⟩
theorem R_C {α : Type} {d : Kd α} {e : Nat} {w : World} {base : Nat} {ok : Nat → Prop} {A : Option Addr} {n c : Nat} {xs : List α} (h : d.R e w base ok (.slice A n c) xs) : n = xs.length ∧ xs.length ≤ c ∧ d.C w A xs.length xs := by
  obtain ⟨A', c', h1, h2, h3⟩ := Kd.R_reads h
  cases h1
  exact ⟨rfl, h2, h3⟩

set_option maxRecDepth 100000 in
set_option maxHeartbeats 2000000 in
theorem lengths_good (a0 a1 a2 a3 : Int) (F : List Int → Int) (l : List Int) (A : Option Addr) (c : Nat)
    (hF : Fst F l) (hk : ∀ (A : Option Addr) (c : Nat) (m : List Int) (w : World), Kd.C (Kd.int .u8) w A m.length m → Calls Try.prog 24 #[.agg #[.int .i64 a0, .int .i64 a1, .int .i64 a2, .int .u64 a3], .slice A m.length c] w fun e w' => e = .returned (.int .i64 (F m)) ∧ Below w.heap.size w w') (hch : check a0 a1 a2 = 0)
    (w : World) (hr : Kd.C (Kd.int .u8) w A l.length l) (hl : l.length ≤ 17592186044415) :
    Calls Try.prog 13 #[.agg #[.int .i64 a0, .int .i64 a1, .int .i64 a2, .int .u64 a3], .slice A l.length c] w fun e w' => ∃ v, e = .returned (.tuple #[v, .int .i64 0]) ∧ ∃ ys, (∃ k, cst F l k = (ys, (l.length : Int)) ∧ ∀ j, j < k → (cst F l j).2 < l.length) ∧
      Kd.R (Kd.int .i64) 3 w' w.heap.size (fun k => w.heap.size ≤ k) v (ys.map Prod.snd) ∧ Below w.heap.size w w' := by
  have hu24 := Try.underlying24
  obtain ⟨i0, hi, hz0, hz1, hz2⟩ := info_parts info3
  have HF := Aside0.mk hF
  have HK := Aside0.mk hk
  have HCH := Aside0.mk hch
  have HR := Aside0.mk hr
  have HL := Aside0.mk hl
  clear hF hk hch hr hl
  refine callsIn_wide.1 (callsIn_of_wp_marks (n := 0) Try.func13 rfl trivial ?_ rfl)
  refine wpIn_wide.2 ?_
  simp only [Try.ntmps13, List.size_toArray, List.length_cons, List.length_nil, Nat.reduceAdd, Nat.reduceSub, Array.replicate_succ, Array.replicate_zero, List.push_toArray, List.append_toArray, List.nil_append, List.cons_append]
  go_wp2_with (first | (go_at_call 11; go_must (refine (check_any a0 a1 a2 a3 _).mono ?_; rintro e w1 ⟨rfl, hB⟩; rw [HCH.out]; have hq := (hB.block w.heap.size (by simp)).trans (World.alloc_heap_new w _); have hq1 := blk_cell hq 0; have hq2 := blk_cell hq 1; have hq3 := blk_cell hq 2; have hq4 := blk_cell hq 3; have hz : w.heap.size + 1 ≤ w1.heap.size := (by simpa using hB.size); have hne : w.heap.size < w1.heap.size := (by omega); simp only [List.getElem?_toArray, List.getElem?_cons_zero, List.getElem?_cons_succ] at hq1 hq2 hq3 hq4; have HB := Aside0.mk hB; clear hB hq)) | (go_at_call 16; refine (cuts_any a0 a1 a2 a3 A l c _ (Kd.C_alloc (Kd.C_below (Kd.C_alloc HR.out _) HB.out) _) (by have := HL.out; omega)).mono ?_; rintro e w2 ⟨b1, b2, v, rfl, hb1, hb2, h1, h2, hR2, hB2⟩; obtain ⟨A2, c2, rfl⟩ := Kd.R_slice hR2; have HB1 := Aside0.mk hb1; have HB2 := Aside0.mk hb2; have H1 := Aside0.mk h1; have H2 := Aside0.mk h2; have HR2 := Aside0.mk hR2; have HBB := Aside0.mk hB2; clear hb1 hb2 h1 h2 hR2 hB2))
  rename_i wq
  have hRC := R_C HR2.out
  have hSt : Typed (Sk b1 b2 A2) [3, 32] w2 := by
    rintro k (rfl | rfl | ⟨ad, e, rfl⟩)
    · exact ⟨_, _, H1.out, by simp⟩
    · exact ⟨_, _, H2.out, by simp⟩
    · obtain ⟨_, _, cs, hc⟩ := R_block HR2.out ad e
      exact ⟨cs, 5, hc, by simp⟩
  have hBx : Boxed w2 w1.heap.size 32 (.slice none 0 0) := (HBB.out.block w1.heap.size (by simp)).trans (World.alloc_heap_new w1 _)
  have hB0 : Below w.heap.size w w2 := below_step (below_alloc (below_step (below_alloc (Below.refl _ _) _) HB.out) _) HBB.out
  refine (wpIn_wide (n := 3)).1 ?_
  refine wpIn_rangeFunc_ownG (F := Fence.wide) rfl (by decide) (gf := 27) (lb := #[.pointer (some ⟨b1, 0, none⟩), .pointer (some ⟨b2, 0, none⟩)]) rfl trivial (enters_of Try.func27 (by kernel_rfl) rfl)
    (cuts_stops 2 0 a0 a1 a2 a3 F l b1 b2 A2 c2 (fun _ => HF.out) (fun _ => HK.out) HCH.out w2 H1.out H2.out hRC.2.2 hRC.2.1 hSt.lt) Keeps.t (Keeps.b hSt.lt) (Below.refl _ _) (fun _ => rfl)
    (fun pre W => ((∃ v, Boxed W w1.heap.size 32 v ∧ W.ownsRow w.heap.size 3 1 v pre.length (encs (Value.int .i64) (pre.map Prod.snd)) ∧ True) ∧ Keeps (Sk b1 b2 A2) w2 W) ∧ Below w.heap.size w W)
    (fun _ _ _ => False)
    (OwnFrom.and (OwnFrom.and (Own.from (holdsRow_own w.heap.size w1.heap.size 32 3 1 (fun pre : List (Int × Int) => pre.length) (fun pre => encs (Value.int .i64) (pre.map Prod.snd)) (fun _ _ => True)) _) (ownFrom_keeps hSt.lt hSt.lt)) (ownFrom_below (Nat.le_refl _) (by have := hB0.size; omega)))
    (fun _ _ _ _ _ hs _ _ => hs)
    ⟨⟨⟨_, hBx, World.ownsRow_nil _ _ _ _, trivial⟩, fun _ _ => rfl⟩, hB0⟩
    (fun x => { tmps := #[.agg #[.int .i64 a0, .int .i64 a1, .int .i64 a2, .int .u64 a3], .slice A l.length c, .pointer (some ⟨w.heap.size, 0, none⟩), undef, .slice none 0 0, .int .i64 0, .int .i64 0, .pointer (some ⟨w1.heap.size, 0, none⟩), undef, .int .i64 x.2, .agg #[.int .i64 a0, .int .i64 a1, .int .i64 a2, .int .u64 a3], .int .i64 0, .int .i64 0, .bool false, undef, .agg #[.int .i64 a0, .int .i64 a1, .int .i64 a2, .int .u64 a3], .slice A l.length c, .func (.func 27) #[] #[.pointer (some ⟨b1, 0, none⟩), .pointer (some ⟨b2, 0, none⟩)], .int .i64 x.1, .int .i64 x.2, undef, undef, undef, undef, undef], defers := [] }) ?assign ?body ?done ?stop
  case assign =>
    intro l x W K hK
    gi_wp2
    exact hK
  case body =>
    rintro lp pre x W ⟨⟨⟨v, hv, hrow, _⟩, hkp⟩, hB⟩ hlt
    have hc := hv.cell
    have hl := HL.out
    have hlt' : pre.length < l.length := hlt
    have hb1 : pre.length + 1 ≤ maxLen := by unfold maxLen; omega
    have hb2 : (pre.length + 1) * 8 ≤ 140737488355328 := by omega
    have hb3 : w.heap.size ≤ (W.alloc (.cells #[.int .i64 x.2] 3)).heap.size := by have := hB.size; simp; omega
    have hw1 : w.heap.size ≤ w1.heap.size := by omega
    have HT := Aside0.mk (hSt.keeps hkp)
    have HKP := Aside0.mk hkp
    clear hl hlt hlt' hkp
    gi_wp2_with (gi_at_builtin; refine wpListIn_append_own _ rfl _ _ 32 rfl w.heap.size 3 i0 (.int .i64 0) 1 8 Try.underlying32 hi hz0 hz1 hz2 rfl (by decide) _ _ _ rfl (hrow.alloc _) ⟨W.heap.size, 0, none⟩ 1 1 [.int .i64 x.2] rfl rfl (cell_one_new _ _ _) (by simp [Value.oneCell']) hb1 hb2 hb3 ?_; intro v' w1' hown' hgrow _; obtain ⟨g', cap', rfl⟩ := ownsRow_succ hown'; obtain ⟨hv1, hv2, hr2, hk2, hb2⟩ := hv.appended (by decide) hrow hB.size hw1 hown' hgrow; have hkk := keeps_appended (v' := .slice (some ⟨g', 0, none⟩) (pre.length + 1) cap') HT.out hv (by simp) hrow (by simp) hgrow; have hc1 := hv1.cell; have hf1 := hv1.frozen)
    have e1 : (pre ++ [x]).length = pre.length + 1 := by simp
    have e2 : encs (Value.int .i64) ((pre ++ [x]).map Prod.snd) = encs (Value.int .i64) (pre.map Prod.snd) ++ [.int .i64 x.2] := by simp [encs]
    exact ⟨hk2.from _, hkk, ⟨⟨_, hv2, by rw [e1, e2]; exact hr2⟩, HKP.out.t hkk⟩, hB.trans hb2⟩
  case done =>
    rintro D ys W hD hS ⟨⟨⟨v, hv, hrow, _⟩, hkp⟩, hB⟩ hK
    have hc := hv.cell
    clear hkp
    go_wp2
    refine ⟨by simp, .inl ⟨_, _, rfl, run_takeDeferred hK, ?_⟩⟩
    refine ⟨_, results_tmp2 rfl _ _ _, v, rfl, ys, by simpa [Snone] using hS, ?_, hB.trans (belowK_b (w := w) (Nat.le_refl _) W D _ _ (by have := hB0.size; omega) hK rfl rfl)⟩
    exact Kd.R_of_own (by rw [List.length_map]; exact ownsRow_putObj hrow _ hK rfl) (fun k hk => own_base hrow k hk)
  case stop =>
    rintro D c pre W _ _ h _
    exact h.elim
end Go.Proofs.Ytpadajjlakhnjaa.H
