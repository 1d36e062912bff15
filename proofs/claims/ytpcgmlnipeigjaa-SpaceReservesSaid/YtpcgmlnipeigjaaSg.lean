/- Package space: Take as a contract. -/
import Derived.Test.YtpcgmlnipeigjaaSf
import Derived.RangeFuncNested
import Derived.RangeFuncCalls
namespace Go.Proofs.Ytpcgmlnipeigjaa.H
open Go.RowKit Go.Shelf Go.Proofs.YtpcgmlnipeigjaaW.PrintWords Go.Proofs.YtpcgmlnipeigjaaW.PrintLast Go.Proofs.YtpcgmlnipeigjaaW.PrintMore
set_option linter.unusedVariables false
set_option linter.unusedSimpArgs false
attribute [local go_sem] Oper.semAt_some

/-- Take's answer, and the sectors. -/
def takeL (first : Int) (l : List Int) (n res : Int) : (Int × Int) × List Int :=
  if n < 1 then ((0, 1), l) else if cnt l 0 - res < n then ((0, 2), l) else
    match (runsL l).find? (fun x => decide (n ≤ x.2)) with
    | some x => ((first + x.1, 0), upd 1 n.toNat x.1.toNat l)
    | none => ((0, 2), l)

/-- Take's boxes. -/
structure Tk (b : Nat) (W : World) (X : Nat) (n v e : Int) : Prop where
  b0 : Boxed W b 25 (.pointer (some ⟨X, 0, none⟩))
  b1 : Boxed W (b + 1) 3 (.int .i64 n)
  b2 : Boxed W (b + 1 + 1) 3 (.int .i64 v)
  b3 : Boxed W (b + 1 + 1 + 1) 34 (.int .i64 e)
theorem Tk.below {b X : Nat} {W W' : World} {n v e : Int} (h : Tk b W X n v e) (hb : Below W.heap.size W W') : Tk b W' X n v e :=
  ⟨(hb.block _ (blk_lt h.b0)).trans h.b0, (hb.block _ (blk_lt h.b1)).trans h.b1, (hb.block _ (blk_lt h.b2)).trans h.b2, (hb.block _ (blk_lt h.b3)).trans h.b3⟩
theorem Tk.keep {b X : Nat} {W W' : World} {n v e : Int} (h : Tk b W X n v e) (hb : ∀ k, b ≤ k → k < b + 4 → W'.heap[k]? = W.heap[k]?) : Tk b W' X n v e :=
  ⟨(hb _ (by omega) (by omega)).trans h.b0, (hb _ (by omega) (by omega)).trans h.b1, (hb _ (by omega) (by omega)).trans h.b2, (hb _ (by omega) (by omega)).trans h.b3⟩
theorem Tk.set {b X : Nat} {W : World} {n v e : Int} (h : Tk b W X n v e) (v' e' : Int) : Tk b ((W.setCell ⟨b + 1 + 1, 0, none⟩ (.int .i64 v')).setCell ⟨b + 1 + 1 + 1, 0, none⟩ (.int .i64 e')) X n v' e' :=
  ⟨(h.b0.other (by omega) _).other (by omega) _, (h.b1.other (by omega) _).other (by omega) _, (h.b2.set _).other (by omega) _, (h.b3.other (by omega) _).set _⟩
theorem Tk.new (w : World) (X : Nat) (n : Int) : Tk w.heap.size ((((w.alloc (.cells #[.pointer (some ⟨X, 0, none⟩)] 25)).alloc (.cells #[.int .i64 n] 3)).alloc (.cells #[.int .i64 0] 3)).alloc (.cells #[.int .i64 0] 34)) X n 0 0 := by
  refine ⟨?_, ?_, ?_, ?_⟩
  · exact (Below.heap_alloc _ _ _ (by simp; omega)).trans ((Below.heap_alloc _ _ _ (by simp; omega)).trans ((Below.heap_alloc _ _ _ (by simp)).trans (blk_new _ _)))
  · exact (Below.heap_alloc _ _ _ (by simp)).trans ((Below.heap_alloc _ _ _ (by simp)).trans (alloc_new' (by simp) _))
  · exact (Below.heap_alloc _ _ _ (by simp)).trans (alloc_new' (by simp) _)
  · exact alloc_new' (by simp) _

theorem Mv.box {n0 X g b : Nat} {w w1 : World} {v e : Value} (h : Mv n0 X g w w1) (hb : w.heap.size ≤ b) (hn : n0 ≤ b) : Mv n0 X g w ((w1.setCell ⟨b + 1 + 1, 0, none⟩ v).setCell ⟨b + 1 + 1 + 1, 0, none⟩ e) :=
  ⟨fun k hk h1 h2 => by rw [Below.heap_setCell _ _ _ _ (show k ≠ b + 1 + 1 + 1 by omega), Below.heap_setCell _ _ _ _ (show k ≠ b + 1 + 1 by omega)]; exact h.keep k hk h1 h2,
   (h.bel.setCell (p := ⟨b + 1 + 1, 0, none⟩) (by show n0 ≤ b + 1 + 1; omega) _).setCell (p := ⟨b + 1 + 1 + 1, 0, none⟩) (by show n0 ≤ b + 1 + 1 + 1; omega) _⟩
theorem SpAt.box {X g : Nat} {first res : Int} {l : List Int} {c : Int → Int} {w : World} (h : SpAt w X g first l c res) (b : Nat) (v e : Int) (hX : X < b) (hg : g < b) : SpAt ((w.setCell ⟨b + 1 + 1, 0, none⟩ (.int .i64 v)).setCell ⟨b + 1 + 1 + 1, 0, none⟩ (.int .i64 e)) X g first l c res :=
  h.keep (by rw [Below.heap_setCell _ _ _ _ (show X ≠ b + 1 + 1 + 1 by omega), Below.heap_setCell _ _ _ _ (show X ≠ b + 1 + 1 by omega)]) (by rw [Below.heap_setCell _ _ _ _ (show g ≠ b + 1 + 1 + 1 by omega), Below.heap_setCell _ _ _ _ (show g ≠ b + 1 + 1 by omega)])

theorem keeps_from {β : Type} {B : Nat} {S : Nat → Prop} {w0 : World} (hS : ∀ k, S k → k < B) : (hS0 : ∀ k, S k → k < w0.heap.size) → OwnFrom B (fun (_ : β) W => Keeps S w0 W) := fun hS0 s W W' row hs hg hr k hk => by
  refine (hg.block k (hs.lt hS0 k hk) (fun e => ?_)).trans (hs k hk)
  have := (hr k e.symm).1
  have := hS k hk
  omega
theorem find_hit {α : Type} (p : α → Bool) (a : List α) (x : α) (t : List α) (ha : ∀ y ∈ a, p y = false) (hx : p x = true) : (a ++ [x] ++ t).find? p = some x := by
  rw [List.append_assoc, List.find?_append, List.find?_eq_none.2 (fun y hy => by rw [ha y hy]; simp)]
  simp [hx]
theorem keepsFrom_of_mv {B n0 X g : Nat} {W W' : World} (h : Mv n0 X g W W') (hX : X < B) (hg : g < B) : KeepsFrom B W W' :=
  ⟨h.bel.size, fun k o hB hk ho => (h.keep k (blk_lt hk) (by omega) (by omega)).trans hk⟩
/-- The last place that was handed out. -/
def lastAt {l : List Int} (pre : List (Run l)) : Int := ((pre.getLast?).map (fun x => x.1.1)).getD 0
theorem lastAt_snoc {l : List Int} (pre : List (Run l)) (x : Run l) : lastAt (pre ++ [x]) = x.1.1 := by unfold lastAt; simp
/-- None of these will do. -/
def AllLt {l : List Int} (n : Int) (pre : List (Run l)) : Prop := ∀ y ∈ pre, y.1.2 < n
/-- How it stands when Take has found its place. -/
structure Found (n0 X g : Nat) (first res n : Int) (l : List Int) (w : World) (at_ : Int) (W : World) : Prop where
  sp : SpAt W X g first (upd 1 n.toNat at_.toNat l) (cnt (upd 1 n.toNat at_.toNat l)) res
  tk : Tk w.heap.size W X n (first + at_) 0
  mv : Mv n0 X g w W
theorem found_from {n0 X g B : Nat} {first res n : Int} {l : List Int} {w : World} (hX : X < B) (hg : g < B) (hb : w.heap.size + 4 ≤ B) (h0 : n0 ≤ w.heap.size) : OwnFrom B (fun (pre : List (Run l)) W => Found n0 X g first res n l w (lastAt pre) W) := by
  intro s W W' row h hG hr
  have hk : ∀ k, k < B → ∀ o, W.heap[k]? = some o → W'.heap[k]? = W.heap[k]? := fun k h1 o ho => hG.block k (blk_lt ho) (fun e => by have := (hr k e.symm).1; omega)
  have hk2 : ∀ k, k < W.heap.size → k < B → W'.heap[k]? = W.heap[k]? := fun k h2 h1 => hG.block k h2 (fun e => by have := (hr k e.symm).1; omega)
  refine ⟨h.sp.keep (hk2 _ h.sp.ltX hX) (hk2 _ h.sp.ltg hg), h.tk.keep (fun k h1 h2 => hk2 k (by have := blk_lt h.tk.b3; omega) (by omega)), ⟨fun k h1 h2 h3 => (hk2 k (Nat.lt_of_lt_of_le h1 h.mv.bel.size) (by omega)).trans (h.mv.keep k h1 h2 h3), ?_⟩⟩
  exact h.mv.bel.grown hG (Nat.le_trans h0 h.mv.bel.size) (fun k e => by have := (hr k e).1; omega)

theorem take_end {n0 X g B D : Nat} {first res n v e : Int} {l' : List Int} {w W : World} {tmps : Array Value} (hD : B ≤ D) (hK : W.heap[D]? = some (.deferred (some []))) (hT : Tk w.heap.size W X n v e) (hS : SpAt W X g first l' (cnt l') res) (hM : Mv n0 X g w W)
    (hX : X < B) (hg : g < B) (hb : w.heap.size + 4 ≤ B) (h0 : n0 ≤ B) (ht4 : tmps[4]?.getD undef = .pointer (some ⟨w.heap.size + 1 + 1, 0, none⟩) := by rfl) (ht5 : tmps[5]?.getD undef = .pointer (some ⟨w.heap.size + 1 + 1 + 1, 0, none⟩) := by rfl) :
    bodyPostM Fence.wide 0 Try.prog Try.f11 (fun e' w' => StP n0 X g first l' res (.tuple #[.int .i64 v, .int .i64 e]) w e' w') Exit.ret { tmps := tmps, defers := [{ target := .collected D, args := #[] }] } W := by
  refine ⟨by simp, .inl ⟨_, _, rfl, run_takeDeferred hK, ?_⟩⟩
  have hk : ∀ k, k ≠ D → (W.putObj D (.deferred none)).heap[k]? = W.heap[k]? := fun k h => World.putObj_heap_other h
  have hT2 := hT.keep (W' := W.putObj D (.deferred none)) (fun k h1 h2 => hk k (by omega))
  have hc2 := hT2.b2.cell
  have hc3 := hT2.b3.cell
  refine ⟨.tuple #[.int .i64 v, .int .i64 e], ?_, rfl, hS.keep (hk _ (by omega)) (hk _ (by omega)), ⟨fun k h1 h2 h3 => (hk k (by omega)).trans (hM.keep k h1 h2 h3), ?_⟩⟩
  · simp [results, Try.f11, go_sem, ht4, ht5, hc2, hc3]
  · exact hM.bel.trans ⟨rfl, rfl, rfl, by rw [World.putObj]; simp, fun k hk' => hk k (by omega)⟩

set_option maxRecDepth 100000 in
set_option maxHeartbeats 4000000 in
theorem take_any (n0 X g : Nat) (first res n : Int) (l : List Int) (w : World) (hS : SpAt w X g first l (cnt l) res) (hs : Sane first l res) (hX : n0 ≤ X) (hg : n0 ≤ g) :
    Calls Try.prog 11 #[.pointer (some ⟨X, 0, none⟩), .int .i64 n] w fun e w' => StP n0 X g first (takeL first l n res).2 res (.tuple #[.int .i64 (takeL first l n res).1.1, .int .i64 (takeL first l n res).1.2]) w e w' := by
  have hu54 := Try.underlying54
  have HS := Aside0.mk hS
  have HSn := Aside0.mk hs
  have hlt := hS.ltX
  have hltg := hS.ltg
  have hn0 : n0 ≤ w.heap.size := by omega
  clear hS hs
  refine callsIn_wide.1 (callsIn_of_wp_marks (n := 0) Try.func11 rfl trivial ?_ rfl)
  refine wpIn_wide.2 ?_
  simp only [Try.ntmps11, List.size_toArray, List.length_cons, List.length_nil, Nat.reduceAdd, Nat.reduceSub, Array.replicate_succ, Array.replicate_zero, List.push_toArray, List.append_toArray, List.nil_append, List.cons_append]
  have HBx := Aside0.mk (show Below w.heap.size w ((((w.alloc (.cells #[.pointer (some ⟨X, 0, none⟩)] 25)).alloc (.cells #[.int .i64 n] 3)).alloc (.cells #[.int .i64 0] 3)).alloc (.cells #[.int .i64 0] 34)) from below_alloc (below_alloc (below_alloc (below_alloc (Below.refl _ _) _) _) _) _)
  have HTk := Aside0.mk (Tk.new w X n)
  by_cases h1 : n < 1
  · have d1 : decide (n < 1) = true := decide_eq_true h1
    have htk : takeL first l n res = ((0, 1), l) := if_pos h1
    rw [htk]
    go_wp2_with (first
      | (go_at_call 32; refine (made_yes X g first res l _ _ (HS.out.below HBx.out)).mono ?_; rintro e w1 ⟨rfl, hB⟩; have hT := HTk.out.below hB; have ht0 := hT.b0.cell; have ht1 := hT.b1.cell; have ht2 := hT.b2.cell; have ht3 := hT.b3.cell; have hf2 := hT.b2.frozen; have hf3 := hT.b3.frozen; have HT1 := Aside0.mk hT; have HB1 := Aside0.mk (below_step HBx.out hB); clear hB hT))
    have hT2 := HT1.out.set 0 1
    have hM2 : Mv n0 X g w ((w1.setCell ⟨w.heap.size + 1 + 1, 0, none⟩ (.int .i64 0)).setCell ⟨w.heap.size + 1 + 1 + 1, 0, none⟩ (.int .i64 1)) := (Mv.of_below HB1.out hn0).box (by omega) (by omega)
    have hS2 := (HS.out.below HB1.out).box w.heap.size 0 1 (by omega) (by omega)
    have hc2 := hT2.b2.cell
    have hc3 := hT2.b3.cell
    refine ⟨_, ?_, rfl, hS2, hM2⟩
    simp [results, Try.f11, go_sem, hc2, hc3]
  have d1 : decide (n < 1) = false := decide_eq_false h1
  obtain ⟨L, hL⟩ : ∃ L, cnt l 0 - res = L := ⟨_, rfl⟩
  have HL := Aside0.mk hL
  have hl9 := HSn.out.c4 0
  have hr9 := HSn.out.r4
  have hr0 := HSn.out.r0
  by_cases h2 : L < n
  · have d2 : decide (L < n) = true := decide_eq_true h2
    have htk : takeL first l n res = ((0, 2), l) := by unfold takeL; rw [if_neg h1, hL, if_pos h2]
    rw [htk]
    clear hL
    go_wp2_with (first
      | (go_at_call 32; refine (made_yes X g first res l _ _ (HS.out.below HBx.out)).mono ?_; rintro e w1 ⟨rfl, hB⟩; have hT := HTk.out.below hB; have ht0 := hT.b0.cell; have ht1 := hT.b1.cell; have hBw := below_step HBx.out hB; have HT1 := Aside0.mk hT; have HB1 := Aside0.mk hBw; clear hB hT hBw))
    go_region_held3 (fun w' => w'.cell? ⟨w.heap.size, 0, none⟩ = some (.pointer (some ⟨X, 0, none⟩)) ∧ w'.cell? ⟨w.heap.size + 1, 0, none⟩ = some (.int .i64 n) ∧ Tk w.heap.size w' X n 0 0 ∧ Below w.heap.size w w') (first | exact ⟨ht0, ht1, HT1.out.below (below_drew (Below.refl _ _)), below_drew HB1.out⟩ | exact ⟨cell_later hBn ht0, cell_later hBn ht1, HT1.out.below (below_step (below_drew (Below.refl _ _)) hBn), below_step (below_drew HB1.out) hBn⟩) (first
      | (go_at_call 21; refine (left_any X g first res l _ _ ((HS.out.below HB1.out).below (below_drew (Below.refl w1.heap.size w1))) hl9 ⟨hr0, hr9⟩).mono ?_; rintro e w' ⟨rfl, hBn⟩; rw [HL.out]))
    rename_i hSx
    have hT2 := hSx.2.2.1
    have hB2 := hSx.2.2.2
    have ht2 := hT2.b2.cell
    have ht3 := hT2.b3.cell
    have hf2 := hT2.b2.frozen
    have hf3 := hT2.b3.frozen
    have HT2 := Aside0.mk hT2
    have HB2 := Aside0.mk hB2
    clear hSx hT2 hB2 hBn ht0 ht1
    go_wp2
    have hT3 := HT2.out.set 0 2
    have hM3 : Mv n0 X g w ((w'.setCell ⟨w.heap.size + 1 + 1, 0, none⟩ (.int .i64 0)).setCell ⟨w.heap.size + 1 + 1 + 1, 0, none⟩ (.int .i64 2)) := (Mv.of_below HB2.out hn0).box (by omega) (by omega)
    have hS3 := (HS.out.below HB2.out).box w.heap.size 0 2 (by omega) (by omega)
    have hc2 := hT3.b2.cell
    have hc3 := hT3.b3.cell
    refine ⟨_, ?_, rfl, hS3, hM3⟩
    simp [results, Try.f11, go_sem, hc2, hc3]
  have d2 : decide (L < n) = false := decide_eq_false h2
  have htk : takeL first l n res = match (runsL l).find? (fun x => decide (n ≤ x.2)) with
    | some x => ((first + x.1, 0), upd 1 n.toNat x.1.toNat l)
    | none => ((0, 2), l) := by unfold takeL; rw [if_neg h1, hL, if_neg h2]
  obtain ⟨V, E, l', hv⟩ : ∃ V E l', takeL first l n res = ((V, E), l') := ⟨_, _, _, rfl⟩
  rw [hv]
  rw [hv] at htk
  have HV := Aside0.mk htk
  clear hL htk hv
  go_wp2_with (first
    | (go_at_call 32; refine (made_yes X g first res l _ _ (HS.out.below HBx.out)).mono ?_; rintro e w1 ⟨rfl, hB⟩; have hT := HTk.out.below hB; have ht0 := hT.b0.cell; have ht1 := hT.b1.cell; have hBw := below_step HBx.out hB; have HT1 := Aside0.mk hT; have HB1 := Aside0.mk hBw; clear hB hT hBw))
  go_region_held3 (fun w' => w'.cell? ⟨w.heap.size, 0, none⟩ = some (.pointer (some ⟨X, 0, none⟩)) ∧ w'.cell? ⟨w.heap.size + 1, 0, none⟩ = some (.int .i64 n) ∧ Tk w.heap.size w' X n 0 0 ∧ Below w.heap.size w w') (first | exact ⟨ht0, ht1, HT1.out.below (below_drew (Below.refl _ _)), below_drew HB1.out⟩ | exact ⟨cell_later hBn ht0, cell_later hBn ht1, HT1.out.below (below_step (below_drew (Below.refl _ _)) hBn), below_step (below_drew HB1.out) hBn⟩) (first
    | (go_at_call 21; refine (left_any X g first res l _ _ ((HS.out.below HB1.out).below (below_drew (Below.refl w1.heap.size w1))) hl9 ⟨hr0, hr9⟩).mono ?_; rintro e w' ⟨rfl, hBn⟩; rw [HL.out]))
  rename_i hSx
  have HT2 := Aside0.mk hSx.2.2.1
  have HB2 := Aside0.mk hSx.2.2.2
  have ht0' := hSx.1
  clear ht0 ht1 hSx hBn
  have ht0 := ht0'
  clear ht0'
  go_wp2_with (first
    | (go_at_call 33; refine (runs_any X _).mono ?_; rintro e w5 ⟨b, rfl, hb0, hb, hB⟩; have HT5 := Aside0.mk (HT2.out.below hB); have HB5 := Aside0.mk (below_step HB2.out hB); have HBb := Aside0.mk (And.intro hb0 hb); clear hB hb0 hb ht0))
  rename_i Kn hKn
  have hz5 : w.heap.size + 4 ≤ w5.heap.size := by have := blk_lt HT5.out.b3; omega
  have hX5 : X < w5.heap.size := by omega
  have hg5 : g < w5.heap.size := by omega
  have hb5 := blk_lt HBb.out.2
  have hS5 := HS.out.below HB5.out
  have hRl : l.length ≤ 4096 := HSn.out.len
  have hSk : ∀ k, Sk b X g k → k < w5.heap.size := by
    rintro k (rfl | rfl | rfl)
    · exact hb5
    · exact hX5
    · exact hg5
  have hRs := runs_stops 2 X g b first res l (cnt l) hRl w5 HBb.out.2 hS5
  refine (wpIn_wide (n := 3)).1 ?_
  refine wpIn_rangeFunc_ownG (F := Fence.wide) rfl (by decide) (gf := 52) (lb := #[.pointer (some ⟨b, 0, none⟩)]) rfl trivial (enters_of Try.func52 (by kernel_rfl) rfl)
    hRs Keeps.t (Keeps.b hSk) (Below.refl _ _) (fun _ => rfl)
    (fun pre W => (Keeps (fun k => k < w5.heap.size) w5 W ∧ Below w.heap.size w W) ∧ AllLt n pre)
    (fun c pre W => Found n0 X g first res n l w (lastAt pre) W ∧ (c = .ret ∧ ∃ pre0 x, pre = pre0 ++ [x] ∧ AllLt n pre0 ∧ n ≤ x.1.2))
    (OwnFrom.and (OwnFrom.and (keeps_from (fun k h => h) (fun k h => h)) (ownFrom_below (Nat.le_refl _) (by omega))) (ownFrom_pure _ _))
    (fun c => OwnFrom.and (found_from hX5 hg5 hz5 hn0) (ownFrom_pure _ _))
    ⟨⟨fun _ _ => rfl, HB5.out⟩, fun y hy => by cases hy⟩
    (fun x => { tmps := #[.pointer (some ⟨X, 0, none⟩), .int .i64 n, .pointer (some ⟨w.heap.size, 0, none⟩), .pointer (some ⟨w.heap.size + 1, 0, none⟩), .pointer (some ⟨w.heap.size + 1 + 1, 0, none⟩), .pointer (some ⟨w.heap.size + 1 + 1 + 1, 0, none⟩), .int .i64 x.1.1, .int .i64 x.1.2, .bool false, .pointer (some ⟨X, 0, none⟩), .bool true, .bool false, .bool false, .int .i64 n, .bool false, .bool false, .int .i64 n, .pointer (some ⟨X, 0, none⟩), .int .i64 L, .bool false, .pointer (some ⟨X, 0, none⟩), .func (.func 52) #[] #[.pointer (some ⟨b, 0, none⟩)], .int .i64 x.1.1, .int .i64 x.1.2, undef, undef, undef, undef, undef, undef, undef, undef, undef, undef, undef, undef, undef], defers := [] }) ?assign ?body ?done ?stop
  case assign =>
    intro l x W K hK
    gi_wp2
    exact hK
  case body =>
    rintro lp pre x W ⟨⟨hk, hB⟩, hpre⟩ hlt
    have hT := HT5.out.keep (W' := W) (fun k h1 h2 => hk k (by omega))
    have ht0 := hT.b0.cell
    have ht1 := hT.b1.cell
    have HT := Aside0.mk hT
    have HK := Aside0.mk hk
    have HBW := Aside0.mk hB
    have HPre := Aside0.mk hpre
    obtain ⟨pre', hp'⟩ : ∃ p, pre ++ [x] = p := ⟨_, rfl⟩
    have hla : lastAt pre' = x.1.1 := by rw [← hp', lastAt_snoc]
    have hex : n ≤ x.1.2 → ∃ (pre0 : List (Run l)) (y : Run l), pre' = pre0 ++ [y] ∧ AllLt n pre0 ∧ n ≤ y.1.2 := fun h => ⟨pre, x, hp'.symm, hpre, h⟩
    have hal : x.1.2 < n → AllLt n pre' := fun h y hy => by
      rw [← hp'] at hy
      rcases List.mem_append.1 hy with h' | h'
      · exact hpre y h'
      · rw [List.mem_singleton.1 h']; exact h
    rw [hp']
    have hgood := runsL_good x.2
    obtain ⟨x1, hx1⟩ : ∃ a, x.1.1 = a := ⟨_, rfl⟩
    obtain ⟨x2, hx2⟩ : ∃ a, x.1.2 = a := ⟨_, rfl⟩
    rw [hx1, hx2]
    rw [hx1] at hla
    rw [hx2] at hex hal
    obtain ⟨a, k, hak, hk0, hak1, hz⟩ := hgood
    have ha1 : x1 = a := by rw [← hx1, hak]
    have hk1 : x2 = k := by rw [← hx2, hak]
    have hp0 : 0 ≤ x1 := by omega
    have hpk : x1 + x2 ≤ l.length := by omega
    have HEx := Aside0.mk hex
    have HAl := Aside0.mk hal
    have HLa := Aside0.mk hla
    have HSk := Aside0.mk hSk
    have hSW := hS5.keep (hk X hX5) (hk g hg5)
    have HSW := Aside0.mk hSW
    have hW5 : w5.heap.size ≤ W.heap.size := by
      rcases Nat.lt_or_ge W.heap.size w5.heap.size with h | h
      · have h2 := Array.getElem?_eq_getElem h
        have := hk W.heap.size h
        rw [h2] at this
        have := (Array.getElem?_eq_some_iff.1 this).1
        omega
      · exact h
    have HPr := Aside0.mk hz
    clear hT hk hB hpre hlt hRs hSk hS5 hex hal hla hp' hx1 hx2 hz hSW hak hk1 ha1
    by_cases hc : n ≤ x2
    · have hc1 : decide (n ≤ x2) = true := decide_eq_true hc
      have w9 : wrap64 (first + x1) = first + x1 := by have := HSn.out.f0; have := HSn.out.fl; unfold wrap64; omega
      gi_wp2
      refine ⟨trivial, (CallsIn.inRound lp (callsIn_wide.2 (set_any n0 X g first res l x1 n 1 W HSW.out hp0 (by omega) (by omega) hRl HSn.out.tri (by omega) hX hg))).mono ?_⟩
      (intro e W2 hP; obtain ⟨⟨v, rfl⟩, hS2, hM2⟩ := hP.out; have hT2 := HT.out.keep (W' := W2) (fun k h1 h2 => hM2.keep k (by omega) (by omega) (by omega)); have hx0 := hS2.x0; clear ht0 ht1; have ht0 := hT2.b0.cell; have ht2 := hT2.b2.cell; have ht3 := hT2.b3.cell; have hf2 := hT2.b2.frozen; have hf3 := hT2.b3.frozen; have HS2 := Aside0.mk hS2; have HM2 := Aside0.mk hM2; have HT2' := Aside0.mk hT2; clear hP hS2 hM2 hT2)
      gi_wp2
      have hMW : Mv n0 X g w W := ⟨fun k h1 h2 h3 => (HBW.out.block k h1), HBW.out.mono hn0⟩
      refine ⟨(keepsFrom_of_mv HM2.out hX5 hg5).trans (((KeepsOthers.setCell _ _ _).trans (KeepsOthers.setCell _ _ _)).from _), ⟨?_, ?_, ?_⟩, rfl, HEx.out hc⟩
      · rw [HLa.out]; exact HS2.out.box w.heap.size _ _ (by omega) (by omega)
      · rw [HLa.out]; exact HT2'.out.set _ _
      · exact (hMW.trans HM2.out).box (by omega) (by omega)
    · have hc1 : decide (n ≤ x2) = false := decide_eq_false hc
      gi_wp2
      exact ⟨KeepsFrom.refl _ _, fun _ _ => rfl, ⟨HK.out, HBW.out⟩, HAl.out (by omega)⟩
  case done =>
    rintro D ys W hD hS' ⟨⟨hk, hB⟩, hpre⟩ hK
    have hfi : (runsL l).find? (fun x => decide (n ≤ x.2)) = none := by
      refine (congrArg (List.find? _) hS'.symm).trans (List.find?_eq_none.2 (fun y hy => ?_))
      obtain ⟨z, hz, rfl⟩ := List.mem_map.1 hy
      have := hpre z hz
      simp; omega
    have hve := HV.out
    rw [hfi] at hve
    obtain ⟨⟨rfl, rfl⟩, rfl⟩ : (V = 0 ∧ E = 2) ∧ l' = l := by simpa using hve
    have hT := HT5.out.keep (W' := W) (fun k h1 h2 => hk k (by omega))
    have ht2 := hT.b2.cell
    have ht3 := hT.b3.cell
    have hf2 := hT.b2.frozen
    have hf3 := hT.b3.frozen
    have hSW := hS5.keep (hk X hX5) (hk g hg5)
    have HT := Aside0.mk hT
    have HSW := Aside0.mk hSW
    have HKk := Aside0.mk hK
    have HBW := Aside0.mk hB
    clear hT hSW hk hB hpre hRs hS' hfi hK hS5 hSk
    refine hKn _ _ ?_
    clear hKn
    go_wp2
    have hWs : w5.heap.size ≤ W.heap.size := by
      have := hD; have := blk_lt HKk.out; omega
    have hT3 := HT.out.set 0 2
    have hM3 : Mv n0 X g w ((W.setCell ⟨w.heap.size + 1 + 1, 0, none⟩ (.int .i64 0)).setCell ⟨w.heap.size + 1 + 1 + 1, 0, none⟩ (.int .i64 2)) := (Mv.of_below HBW.out hn0).box (by omega) (by omega)
    have hS3 := HSW.out.box w.heap.size 0 2 (by omega) (by omega)
    have hK3 : ((W.setCell ⟨w.heap.size + 1 + 1, 0, none⟩ (.int .i64 0)).setCell ⟨w.heap.size + 1 + 1 + 1, 0, none⟩ (.int .i64 2)).heap[D]? = some (.deferred (some [])) := by
      rw [Below.heap_setCell _ _ _ _ (show D ≠ w.heap.size + 1 + 1 + 1 by omega), Below.heap_setCell _ _ _ _ (show D ≠ w.heap.size + 1 + 1 by omega)]; exact HKk.out
    exact take_end hD hK3 hT3 hS3 hM3 hX5 hg5 hz5 (by omega)
  case stop =>
    rintro D c pre W hD hSp ⟨hF, rfl, pre0, x, rfl, hp0, hx⟩ hK
    rw [lastAt_snoc] at hF
    have hfi : (runsL l).find? (fun x => decide (n ≤ x.2)) = some x.1 := by
      obtain ⟨t, ht⟩ := hSp
      have e : pre0.map Subtype.val ++ [x.1] ++ t = runsL l := by rw [List.map_append, List.map_singleton] at ht; exact ht
      refine (congrArg (List.find? _) e.symm).trans (find_hit _ _ _ _ (fun y hy => ?_) (decide_eq_true hx))
      obtain ⟨z, hz, rfl⟩ := List.mem_map.1 hy
      have := hp0 z hz
      exact decide_eq_false (by omega)
    have hve := HV.out
    rw [hfi] at hve
    obtain ⟨⟨rfl, rfl⟩, rfl⟩ : (V = first + x.1.1 ∧ E = 0) ∧ l' = upd 1 n.toNat x.1.1.toNat l := by simpa using hve
    gi_wp2
    exact take_end hD hK hF.tk hF.sp hF.mv hX5 hg5 hz5 (by omega)
end Go.Proofs.Ytpcgmlnipeigjaa.H
