/- deduplaw06.SpaceApart as a contract: it answers true. -/
import Derived.Test.YtpcgmlnipeigjaaSh
namespace Go.Proofs.Ytpcgmlnipeigjaa.H
open Go.RowKit Go.Shelf Go.Proofs.YtpcgmlnipeigjaaW.PrintWords Go.Proofs.YtpcgmlnipeigjaaW.PrintLast Go.Proofs.YtpcgmlnipeigjaaW.PrintMore
set_option linter.unusedVariables false
set_option linter.unusedSimpArgs false

/-- A call of the script: kind, n, area. -/
abbrev Op4 := Int × Int × Int × Int
def I64 (n : Int) : Prop := -9223372036854775808 ≤ n ∧ n ≤ 9223372036854775807
/-- The calls, as they lie. -/
def OpsAt (w : World) (A : Option Addr) (ops : List Op4) : Prop := ∀ (i : Nat) (o : Op4), ops[i]? = some o → I64 o.1 ∧ I64 o.2.1 ∧ I64 o.2.2.1 ∧ I64 o.2.2.2 ∧ ∃ ad, A = some ad ∧
  w.cell? (ad.add (i * 4)) = some (.int .i64 o.1) ∧ w.cell? ⟨(ad.add (i * 4)).block, (ad.add (i * 4)).off + 1, none⟩ = some (.int .i64 o.2.1) ∧ w.cell? ⟨(ad.add (i * 4)).block, (ad.add (i * 4)).off + 2, none⟩ = some (.int .i64 o.2.2.1) ∧ w.cell? ⟨(ad.add (i * 4)).block, (ad.add (i * 4)).off + 3, none⟩ = some (.int .i64 o.2.2.2)

/-- What a sector is, by its number; outside: free. -/
def st (first : Int) (l : List Int) (k : Int) : Int := if first ≤ k then (l[(k - first).toNat]?).getD 0 else 0
/-- The owners fit the sectors. -/
def Own (first : Int) (l ow : List Int) : Prop := ow.length = 4096 ∧ ∀ (k : Nat) (v : Int), ow[k]? = some v → (st first l k = 0 ∧ v = 0) ∨ (st first l k = 1 ∧ 1 ≤ v) ∨ (st first l k = 2 ∧ v = -1)

theorem st_in {first : Int} {l : List Int} {k : Int} (h0 : first ≤ k) {x : Int} (hx : l[(k - first).toNat]? = some x) : st first l k = x := by unfold st; rw [if_pos h0, hx]; rfl
theorem own_at {first : Int} {l ow : List Int} (h : Own first l ow) {k : Int} (h0 : 0 ≤ k) (h1 : k < 4096) : ∃ v, ow[k.toNat]? = some v ∧ ((st first l k = 0 ∧ v = 0) ∨ (st first l k = 1 ∧ 1 ≤ v) ∨ (st first l k = 2 ∧ v = -1)) := by
  have hl := h.1
  refine ⟨_, List.getElem?_eq_getElem (by omega), ?_⟩
  have := h.2 k.toNat _ (List.getElem?_eq_getElem (by omega))
  rwa [show ((k.toNat : Nat) : Int) = k by omega] at this
theorem upd_snoc (v : Int) (n : Nat) : ∀ (i : Nat) (l : List Int), (upd v n i l).set (i + n) v = upd v (n + 1) i l := by
  induction n with
  | zero => intro i l; rfl
  | succ n ih => intro i l; simp only [upd]; rw [show i + (n + 1) = i + 1 + n by omega, ih (i + 1) (l.set i v)]; rfl
theorem own_upd {first : Int} {l ow : List Int} {v what : Int} (h : Own first l ow) (hs : Sane first l 0) (p n : Nat) (hp : p + n ≤ l.length) (hv : (what = 0 ∧ v = 0) ∨ (what = 1 ∧ 1 ≤ v) ∨ (what = 2 ∧ v = -1)) :
    Own first (upd what n p l) (upd v n (first + p).toNat ow) := by
  have hf := hs.f0
  have hl := hs.fl
  refine ⟨by rw [upd_length]; exact h.1, fun k x hx => ?_⟩
  have hk : k < ow.length := by
    rcases Nat.lt_or_ge k ow.length with h1 | h1
    · exact h1
    · rw [List.getElem?_eq_none (by rw [upd_length]; exact h1)] at hx; cases hx
  rw [upd_get v n _ ow k hk] at hx
  by_cases hin : (first + p).toNat ≤ k ∧ k < (first + p).toNat + n
  · rw [if_pos hin] at hx
    obtain rfl := Option.some.inj hx
    have hst : st first (upd what n p l) k = what := by
      refine st_in (by omega) ?_
      rw [upd_get what n p l _ (by omega), if_pos (by omega)]
    rw [hst]; exact hv
  · rw [if_neg hin] at hx
    have hst : st first (upd what n p l) k = st first l k := by
      unfold st
      by_cases hfk : first ≤ (k : Int)
      · rw [if_pos hfk, if_pos hfk]
        by_cases hlt : ((k : Int) - first).toNat < l.length
        · rw [upd_get what n p l _ hlt, if_neg (by omega)]
        · rw [List.getElem?_eq_none (by rw [upd_length]; omega), List.getElem?_eq_none (by omega)]
      · rw [if_neg hfk, if_neg hfk]
    rw [hst]; exact h.2 k x hx
/-- How it stands between two calls of the script. -/
structure AS (w : World) (X g o : Nat) (first count : Int) (A : Option Addr) (m c : Nat) (l ow : List Int) (W : World) : Prop where
  sp : SpAt W X g first l (cnt l) 0
  ow : W.heap[o]? = some (.cells (rowOf .i64 ow) 3 (0, 0))
  sc : W.heap[w.heap.size]? = some (.cells #[.int .i64 first, .int .i64 count, .slice A m c] 24 (0, 0))
  bel : Below w.heap.size w W
/-- The blocks lie apart. -/
def Ap (w : World) (X g o : Nat) : Prop := X ≠ o ∧ g ≠ o ∧ w.heap.size ≠ o ∧ w.heap.size ≤ o ∧ w.heap.size < X ∧ w.heap.size < g
namespace AS
variable {w W W' : World} {X g o m c : Nat} {first count : Int} {A : Option Addr} {l l' ow : List Int}
theorem mv (h : AS w X g o first count A m c l ow W) (ha : Ap w X g o) (hS : SpAt W' X g first l' (cnt l') 0) (hM : Mv w.heap.size X g W W') : AS w X g o first count A m c l' ow W' := by
  obtain ⟨h1, h2, h3, h4, h5, h6⟩ := ha
  exact ⟨hS, (hM.keep o (blk_lt h.ow) (Ne.symm h1) (Ne.symm h2)).trans h.ow, (hM.keep _ (blk_lt h.sc) (by omega) (by omega)).trans h.sc, h.bel.trans hM.bel⟩
theorem below (h : AS w X g o first count A m c l ow W) (hb : Below W.heap.size W W') : AS w X g o first count A m c l ow W' :=
  ⟨h.sp.below hb, (hb.block _ (blk_lt h.ow)).trans h.ow, (hb.block _ (blk_lt h.sc)).trans h.sc, h.bel.trans (hb.mono h.bel.size)⟩
theorem seto (h : AS w X g o first count A m c l ow W) (ha : Ap w X g o) (i : Nat) (v : Int) : AS w X g o first count A m c l (ow.set i v) (W.setCell ⟨o, i, none⟩ (.int .i64 v)) := by
  obtain ⟨h1, h2, h3, h4, h5, h6⟩ := ha
  refine ⟨h.sp.keep (Below.heap_setCell _ _ _ _ h1) (Below.heap_setCell _ _ _ _ h2), ?_, (Below.heap_setCell _ _ _ _ h3).trans h.sc, h.bel.setCell (p := ⟨o, i, none⟩) h4 _⟩
  rw [setCell_row h.ow, rowOf_set]
theorem s0 (h : AS w X g o first count A m c l ow W) : W.cell? ⟨w.heap.size, 0, none⟩ = some (.int .i64 first) := (blk_cell h.sc 0).trans rfl
theorem s1 (h : AS w X g o first count A m c l ow W) : W.cell? ⟨w.heap.size, 1, none⟩ = some (.int .i64 count) := (blk_cell h.sc 1).trans rfl
theorem oc (h : AS w X g o first count A m c l ow W) {i : Nat} {v : Int} (hv : ow[i]? = some v) : W.cell? ⟨o, i, none⟩ = some (.int .i64 v) := (blk_cell h.ow i).trans (rowOf_get _ _ _ hv)
theorem fo (h : AS w X g o first count A m c l ow W) (i : Nat) : W.frozen? ⟨o, i, none⟩ = false := blk_frozen h.ow i
end AS
/-- The box of a call. -/
def BxAt (W : World) (b : Nat) (kd n a0 a1 : Int) : Prop := W.heap[b]? = some (.cells #[.int .i64 kd, .int .i64 n, .int .i64 a0, .int .i64 a1] 33 (0, 0))
theorem BxAt.c1 {W : World} {b : Nat} {kd n a0 a1 : Int} (h : BxAt W b kd n a0 a1) : W.cell? ⟨b, 1, none⟩ = some (.int .i64 n) := (blk_cell h 1).trans rfl
theorem BxAt.c0 {W : World} {b : Nat} {kd n a0 a1 : Int} (h : BxAt W b kd n a0 a1) : W.cell? ⟨b, 0, none⟩ = some (.int .i64 kd) := (blk_cell h 0).trans rfl
theorem BxAt.c2 {W : World} {b : Nat} {kd n a0 a1 : Int} (h : BxAt W b kd n a0 a1) : W.cell? ⟨b, 2, none⟩ = some (.int .i64 a0) := (blk_cell h 2).trans rfl
theorem BxAt.c3 {W : World} {b : Nat} {kd n a0 a1 : Int} (h : BxAt W b kd n a0 a1) : W.cell? ⟨b, 3, none⟩ = some (.int .i64 a1) := (blk_cell h 3).trans rfl
theorem takeL_cases (first : Int) (l : List Int) (n : Int) : (∃ e, e ≠ 0 ∧ takeL first l n 0 = ((0, e), l)) ∨ (∃ p : Nat, 1 ≤ n ∧ p + n ≤ l.length ∧ (∀ j, p ≤ j → j < p + n.toNat → l[j]? = some 0) ∧ takeL first l n 0 = ((first + p, 0), upd 1 n.toNat p l)) := by
  unfold takeL
  by_cases h1 : n < 1
  · exact .inl ⟨1, by omega, if_pos h1⟩
  rw [if_neg h1]
  by_cases h2 : cnt l 0 - 0 < n
  · exact .inl ⟨2, by omega, if_pos h2⟩
  rw [if_neg h2]
  cases hf : (runsL l).find? (fun x => decide (n ≤ x.2)) with
  | none => exact .inl ⟨2, by omega, rfl⟩
  | some x =>
    obtain ⟨a, k, rfl, hk, hak, hz⟩ := runsL_good (List.mem_of_find?_eq_some hf)
    have hn := List.find?_some hf
    simp at hn
    exact .inr ⟨a, by omega, by omega, fun j h3 h4 => hz j h3 (by omega), by simp⟩
/-- What fits becomes 0. -/
def gz (p : Int → Bool) (l : List Int) : List Int := l.map fun x => if p x then 0 else x
theorem gz_step {p : Int → Bool} {l : List Int} {i : Nat} {q : Int} (h : l[i]? = some q) : gz p (l.take (i + 1)) ++ l.drop (i + 1) = (gz p (l.take i) ++ l.drop i).set i (if p q then 0 else q) := by
  obtain ⟨hi, hq⟩ := List.getElem?_eq_some_iff.1 h
  have hlen : (gz p (l.take i)).length = i := by simp [gz]; omega
  rw [List.set_append_right _ _ (by omega), hlen, Nat.sub_self, List.take_add_one, h, List.drop_eq_getElem_cons hi]
  simp [gz, hq]
theorem gz_at {p : Int → Bool} {l : List Int} {i : Nat} {q : Int} (h : l[i]? = some q) : (gz p (l.take i) ++ l.drop i)[i]? = some q := by
  obtain ⟨hi, hq⟩ := List.getElem?_eq_some_iff.1 h
  have hlen : (gz p (l.take i)).length = i := by simp [gz]; omega
  rw [List.getElem?_append_right (by omega), hlen, Nat.sub_self, List.getElem?_drop]
  simpa using h
theorem gz_cnt {p : Int → Bool} {l : List Int} {i : Nat} {q : Int} (h : l[i]? = some q) : ((l.take (i + 1)).countP p : Int) = (l.take i).countP p + (if p q then 1 else 0) := by
  rw [List.take_add_one, h, List.countP_append]
  cases hp : p q <;> simp [hp]
def neg (x : Int) : Bool := decide (x < 0)
theorem st_settle (first : Int) (l : List Int) (k : Int) : st first (settleL l) k = if st first l k = 2 then 0 else st first l k := by
  unfold st settleL
  split
  · rw [List.getElem?_map]
    cases l[(k - first).toNat]? with
    | none => rfl
    | some x => rfl
  · rfl
theorem own_settle {first : Int} {l ow : List Int} (h : Own first l ow) : Own first (settleL l) (gz neg ow) := by
  refine ⟨by simp [gz, h.1], fun k v hv => ?_⟩
  unfold gz at hv
  rw [List.getElem?_map] at hv
  obtain ⟨v0, h0, rfl⟩ := Option.map_eq_some_iff.1 hv
  rw [st_settle]
  rcases h.2 k v0 h0 with ⟨e, e'⟩ | ⟨e, e'⟩ | ⟨e, e'⟩
  · rw [e, e']; exact .inl ⟨rfl, rfl⟩
  · rw [e]; refine .inr (.inl ⟨rfl, ?_⟩); unfold neg; rw [if_neg (by simp; omega)]; exact e'
  · rw [e, e']; exact .inl ⟨rfl, rfl⟩
theorem own_count {first : Int} {l ow : List Int} (h : Own first l ow) (hs : Sane first l 0) : (ow.countP neg : Int) = cnt l 2 := by
  have hf := hs.f0
  have hl := hs.fl
  have hm : ow.map neg = List.replicate first.toNat false ++ (l.map (· == 2) ++ List.replicate (4096 - first.toNat - l.length) false) := by
    refine List.ext_getElem? (fun k => ?_)
    rw [List.getElem?_map]
    by_cases hk : k < 4096
    · obtain ⟨v, hv⟩ : ∃ v, ow[k]? = some v := ⟨_, List.getElem?_eq_getElem (by rw [h.1]; exact hk)⟩
      have hc := h.2 k v hv
      rw [hv, Option.map_some]
      by_cases h1 : k < first.toNat
      · have hst : st first l k = 0 := by unfold st; rw [if_neg (by omega)]
        rw [hst] at hc
        rw [List.getElem?_append_left (by simpa using h1), List.getElem?_replicate, if_pos h1]
        congr 1
        unfold neg
        exact decide_eq_false (by omega)
      · rw [List.getElem?_append_right (by simpa using (by omega : first.toNat ≤ k)), List.length_replicate]
        by_cases h2 : k - first.toNat < l.length
        · obtain ⟨x, hx⟩ : ∃ x, l[k - first.toNat]? = some x := ⟨_, List.getElem?_eq_getElem h2⟩
          have hst : st first l k = x := st_in (by omega) (by rw [show ((k : Int) - first).toNat = k - first.toNat by omega]; exact hx)
          rw [hst] at hc
          rw [List.getElem?_append_left (by simpa using h2), List.getElem?_map, hx, Option.map_some]
          congr 1
          unfold neg
          rcases hc with ⟨e, e'⟩ | ⟨e, e'⟩ | ⟨e, e'⟩
          · rw [e, e']; rfl
          · rw [e]; rw [decide_eq_false (by omega)]; rfl
          · rw [e, e']; rfl
        · have hst : st first l k = 0 := by
            unfold st
            rw [if_pos (by omega), List.getElem?_eq_none (by omega)]
            rfl
          rw [hst] at hc
          rw [List.getElem?_append_right (by simpa using (by omega : l.length ≤ k - first.toNat)), List.length_map, List.getElem?_replicate, if_pos (by omega)]
          congr 1
          unfold neg
          exact decide_eq_false (by omega)
    · rw [List.getElem?_eq_none (by rw [h.1]; omega), List.getElem?_eq_none (by simp; omega)]
      rfl
  have hc := congrArg (List.countP id) hm
  rw [List.countP_map, List.countP_append, List.countP_append, List.countP_map] at hc
  have e1 : List.countP (id ∘ neg) ow = ow.countP neg := rfl
  have e2 : List.countP (id ∘ (· == (2 : Int))) l = l.count 2 := rfl
  have e3 : ∀ n, (List.replicate n false).countP id = 0 := fun n => by simp [List.countP_replicate]
  rw [e1, e2, e3, e3] at hc
  unfold cnt
  omega
theorem make_own : ∃ ow0 : List Int, (ow0.length = 4096 ∧ ∀ (k : Nat) (v : Int), ow0[k]? = some v → v = 0) ∧ ∀ W : World, (Instr.makeSlice 29 (.int .i64 4096) (.int .i64 4096)).run Try.prog W = .ok (.slice (some ⟨W.heap.size, 0, none⟩) 4096 4096) (W.alloc (.cells (rowOf .i64 ow0) 3)) := by
  obtain ⟨N, hN⟩ : ∃ N : Nat, N = 4096 := ⟨_, rfl⟩
  have hmk := run_make_row' (P := Try.prog) 29 3 (.int .i64 0) 8 Try.underlying29 info3 rfl .i64 .i64 N (by omega) (by omega)
  refine ⟨List.replicate N 0, ⟨by rw [List.length_replicate, hN], fun k v h => ?_⟩, fun W => ?_⟩
  · exact List.eq_of_mem_replicate (List.mem_of_getElem? h)
  · have h := hmk W
    rw [made_row] at h
    have e : ((N : Nat) : Int) = 4096 := by rw [hN]; rfl
    rw [e] at h
    rw [h, hN]

set_option maxRecDepth 100000 in
set_option maxHeartbeats 4000000 in
theorem apart_good (first count : Int) (A : Option Addr) (c : Nat) (ops : List Op4) (w : World) (hb : okN first count = true) (ho : OpsAt w A ops) (hol : ops.length ≤ 9223372036854775807) :
    Calls Try.prog 3 #[.agg #[.int .i64 first, .int .i64 count, .slice A ops.length c]] w fun e w' => e = .returned (.bool true) ∧ Below w.heap.size w w' := by
  have hu24 := Try.underlying24
  have hu33 := Try.underlying33
  have hu31 := Try.underlying31
  have HO := Aside0.mk ho
  have HB := Aside0.mk hb
  have HQ := Aside0.mk (blk_new w (.cells #[.int .i64 first, .int .i64 count, .slice A ops.length c] 24))
  obtain ⟨ow0, how0, hmk⟩ := make_own
  clear hb ho
  go_enter Try.func3, Try.ntmps3
  go_wp2_with (first
    | (go_at_call 10; refine (begin_good first count A ops.length c _ HB.out).mono ?_; intro e w1 hP; obtain ⟨X, g, Y, h, rfl, hX, hg, hY, hh, n1, n2, n3, n4, hS, hR, hBl⟩ := hP.out; have hq := (hBl.block w.heap.size (blk_lt HQ.out)).trans HQ.out; have hqa := (Below.heap_alloc w1 (.cells (rowOf .i64 ow0) 3) _ (blk_lt hq)).trans hq; have hq2 := (blk_cell hqa 2).trans rfl; have HQ1 := Aside0.mk hqa; clear hqa; have HXg := Aside0.mk (And.intro hX hg); have HS1 := Aside0.mk hS; have HB1 := Aside0.mk (below_step (below_alloc (Below.refl w.heap.size w) _) hBl); clear hP hX hg hY hh n1 n2 n3 n4 hS hR hBl hq))
  obtain ⟨w2, hw2⟩ : ∃ w2, w1.alloc (.cells (rowOf .i64 ow0) 3) = w2 := ⟨_, rfl⟩
  obtain ⟨o, ho⟩ : ∃ o, w1.heap.size = o := ⟨_, rfl⟩
  have hOw : w2.heap[o]? = some (.cells (rowOf .i64 ow0) 3 (0, 0)) := by rw [← hw2, ← ho]; exact blk_new w1 _
  have hS2 := HS1.out.below (w' := w2) (by rw [← hw2]; exact below_alloc (Below.refl _ _) _)
  have hB2 : Below w.heap.size w w2 := by rw [← hw2]; exact below_alloc HB1.out _
  have hoX : X ≠ o ∧ g ≠ o ∧ w.heap.size ≠ o ∧ w.heap.size ≤ o ∧ w.heap.size < X ∧ w.heap.size < g ∧ w.heap.size ≠ X := by
    have := HS1.out.ltX; have := HS1.out.ltg; have h1 := HXg.out; simp at h1; omega
  rw [hw2] at HQ1 hq2 ⊢
  rw [ho]
  have hbd := HB.out
  unfold okN at hbd
  simp at hbd
  obtain ⟨l0, hl0⟩ : ∃ l0, List.replicate count.toNat (0 : Int) = l0 := ⟨_, rfl⟩
  rw [hl0] at hS2
  have hl0l : (l0.length : Int) = count := by rw [← hl0, List.length_replicate]; omega
  have hsane : Sane first l0 0 := ⟨by omega, by omega, fun x hx => by rw [← hl0] at hx; exact .inl (List.eq_of_mem_replicate hx), by omega, (cnt_nn _ _).1⟩
  have hown : Own first l0 ow0 := ⟨how0.1, fun k v h => .inl ⟨by
    unfold st
    split
    · rw [← hl0, List.getElem?_replicate]; split <;> rfl
    · rfl, how0.2 k v h⟩⟩
  have hap : Ap w X g o := ⟨hoX.1, hoX.2.1, hoX.2.2.1, hoX.2.2.2.1, hoX.2.2.2.2.1, hoX.2.2.2.2.2.1⟩
  have HA := Aside0.mk (AS.mk (count := count) (m := ops.length) (c := c) (A := A) hS2 hOw HQ1.out hB2)
  have HSn := Aside0.mk hsane
  have HOn := Aside0.mk hown
  have HAp := Aside0.mk hap
  have w8 : wrap64 (first + count) = first + count := by unfold wrap64; omega
  clear hS2 hOw hB2 hsane hown hoX hap hw2 ho hl0 how0 hmk
  go_wp2
  clear hq2
  go_loopw [34] (fun iv wr => ∃ (i : Int) (l ow : List Int), iv = .int .i64 i ∧ 0 ≤ i ∧ i ≤ ops.length ∧ (l.length : Int) = count ∧ Aside0 (AS w X g o first count A ops.length c l ow wr) ∧ Aside0 (Sane first l 0) ∧ Aside0 (Own first l ow)) (fun iv _ => (ops.length - intOf iv).toNat)
  case atStart => exact ⟨0, l0, ow0, rfl, Int.le_refl _, by omega, hl0l, HA, HSn, HOn⟩
  case round =>
    obtain ⟨i, l, ow, rfl, i0, i1, hlc, HAr, HSa, HOn'⟩ := hrel
    by_cases hlt : i < (ops.length : Int)
    · have w9 : wrap64 (i + 1) = i + 1 := by unfold wrap64; omega
      have hlt1 : decide (i < (ops.length : Int)) = true := decide_eq_true hlt
      obtain ⟨⟨kd, n, a0, a1⟩, hop⟩ : ∃ o, ops[i.toNat]? = some o := ⟨_, List.getElem?_eq_getElem (by omega)⟩
      obtain ⟨b1, b2, b3, b4, ad, rfl, c0, c1, c2, c3⟩ := HO.out i.toNat _ hop
      have c0 := cell_later HAr.out.bel c0
      have c1 := cell_later HAr.out.bel c1
      have c2 := cell_later HAr.out.bel c2
      have c3 := cell_later HAr.out.bel c3
      dsimp only at b1 b2 b3 b4 c0 c1 c2 c3
      have HBox := Aside0.mk (show BxAt (wr.alloc (.cells #[.int .i64 kd, .int .i64 n, .int .i64 a0, .int .i64 a1] 33)) wr.heap.size kd n a0 a1 from blk_new wr _)
      have HAb := Aside0.mk (HAr.out.below (below_alloc (Below.refl wr.heap.size wr) (.cells #[.int .i64 kd, .int .i64 n, .int .i64 a0, .int .i64 a1] 33)))
      have HXr := Aside0.mk (show X < wr.heap.size ∧ g < wr.heap.size ∧ o < wr.heap.size from ⟨HAr.out.sp.ltX, HAr.out.sp.ltg, blk_lt HAr.out.ow⟩)
      have Hb3 := Aside0.mk (And.intro b2 (And.intro b3 b4))
      clear hop b1 b2 b3 b4
      by_cases k0 : kd = 0
      · subst k0
        rcases takeL_cases first l n with ⟨e, he, ht⟩ | ⟨p, hn1, hpn, hz, ht⟩
        · have he1 : (e != 0) = true := by simpa using he
          have HT := Aside0.mk ht
          clear he ht
          go_wp2_with (go_at_call 11; refine (take_any w.heap.size X g first 0 n l _ HAb.out.sp HSa.out (Nat.le_of_lt HAp.out.2.2.2.2.1) (Nat.le_of_lt HAp.out.2.2.2.2.2)).mono ?_; intro e' wt hP; rw [HT.out] at hP; obtain ⟨rfl, hS, hM⟩ := hP.out; have HAt := Aside0.mk (HAb.out.mv HAp.out hS hM); clear hP hS hM)
          exact ⟨⟨i + 1, l, ow, rfl, by omega, by omega, hlc, HAt, HSa, HOn'⟩, by simp [intOf]; omega⟩
        · obtain ⟨a, hab⟩ : ∃ a, first + (p : Int) = a := ⟨_, rfl⟩
          rw [hab] at ht
          have hfs := HSa.out.f0
          have hfl := HSa.out.fl
          have ha0 : 0 ≤ a := by omega
          have haf : first ≤ a := by omega
          have han : a + n ≤ first + count := by omega
          have han4 : a + n ≤ 4096 := by omega
          have w7 : wrap64 (a + n) = a + n := by unfold wrap64; omega
          have HT := Aside0.mk ht
          have HZz := Aside0.mk hz
          have HAb' := Aside0.mk hab
          clear ht hz hab
          go_wp2_with (go_at_call 11; refine (take_any w.heap.size X g first 0 n l _ HAb.out.sp HSa.out (Nat.le_of_lt HAp.out.2.2.2.2.1) (Nat.le_of_lt HAp.out.2.2.2.2.2)).mono ?_; intro e' wt hP; rw [HT.out] at hP; obtain ⟨rfl, hS, hM⟩ := hP.out; have HAt := Aside0.mk (HAb.out.mv HAp.out hS hM); have HBt := Aside0.mk (show BxAt wt wr.heap.size 0 n a0 a1 from (hM.keep _ (blk_lt HBox.out) (by have := HXr.out; omega) (by have := HXr.out; omega)).trans HBox.out); clear hP hS hM)
          obtain ⟨b, hb⟩ : ∃ b, wr.heap.size = b := ⟨_, rfl⟩
          have hbx : b ≠ o ∧ b ≠ X ∧ b ≠ g := by have := HXr.out; omega
          rw [hb] at HBt ⊢
          have HBx := Aside0.mk hbx
          clear hb hbx c0 c1 c2 c3
          go_loopw [11] (fun kv wk => ∃ (k : Int), kv = .int .i64 k ∧ a ≤ k ∧ k ≤ a + n ∧ Aside0 (AS w X g o first count (some ad) ops.length c (upd 1 n.toNat p l) (upd (i + 1) (k - a).toNat a.toNat ow) wk) ∧ Aside0 (BxAt wk b 0 n a0 a1)) (fun kv _ => (a + n - intOf kv).toNat)
          case atStart => exact ⟨a, rfl, by omega, by omega, by rw [show (a - a).toNat = 0 by omega]; exact HAt, HBt⟩
          case round =>
            obtain ⟨k, rfl, k0, k1, HAk, HBk⟩ := hrel
            have hs0 := HAk.out.s0
            have hs1 := HAk.out.s1
            have hbx1 := HBk.out.c1
            by_cases hka : k < a + n
            · have hka1 : decide (k < a + n) = true := decide_eq_true hka
              have hkf : decide (k < first) = false := decide_eq_false (by omega)
              have hkc : decide (first + count ≤ k) = false := decide_eq_false (by omega)
              have hk00 : 0 ≤ k := by omega
              have hk44 : k < 4096 := by omega
              have hv : (upd (i + 1) (k - a).toNat a.toNat ow)[k.toNat]? = some 0 := by
                rw [upd_get _ _ _ _ _ (by rw [HOn'.out.1]; omega), if_neg (by omega)]
                obtain ⟨v, hv, hc⟩ := own_at HOn'.out hk00 hk44
                have hst : st first l k = 0 := st_in (by omega) (HZz.out _ (by have := HAb'.out; omega) (by have := HAb'.out; omega))
                rw [hst] at hc
                rw [hv]
                congr 1
                omega
              have hoc := HAk.out.oc hv
              have hof := HAk.out.fo k.toNat
              have w6 : wrap64 (k + 1) = k + 1 := by unfold wrap64; omega
              clear hv
              go_wp2
              refine ⟨⟨k + 1, rfl, by omega, by omega, ?_, ?_⟩, by simp [intOf]; omega⟩
              · have h := HAk.out.seto HAp.out k.toNat (i + 1)
                rw [show k.toNat = a.toNat + (k - a).toNat by omega, upd_snoc, show (k - a).toNat + 1 = (k + 1 - a).toNat by omega, show a.toNat + (k - a).toNat = k.toNat by omega] at h
                exact ⟨h⟩
              · exact ⟨(Below.heap_setCell _ _ _ _ (show b ≠ o from HBx.out.1)).trans HBk.out⟩
            · have hka1 : decide (k < a + n) = false := decide_eq_false hka
              go_wp2
              have hke : (k - a).toNat = n.toNat := by omega
              have hA := HAk.out
              rw [hke] at hA
              have hOw : Own first (upd 1 n.toNat p l) (upd (i + 1) n.toNat a.toNat ow) := by
                have h := own_upd (v := i + 1) (what := 1) HOn'.out HSa.out p n.toNat (by omega) (.inr (.inl ⟨rfl, by omega⟩))
                rw [HAb'.out] at h
                exact h
              have hSa' : Sane first (upd 1 n.toNat p l) 0 := ⟨hfs, by rw [upd_length]; exact hfl, Tri.upd (by omega) _ _ _ HSa.out.tri, by omega, (cnt_nn _ _).1⟩
              exact ⟨⟨i + 1, _, _, rfl, by omega, by omega, by rw [upd_length]; exact hlc, ⟨hA⟩, ⟨hSa'⟩, ⟨hOw⟩⟩, by simp [intOf]; omega⟩
      · have k0' : (kd == 0) = false := by simpa using k0
        by_cases k2 : kd = 2
        · subst k2
          clear k0 k0'
          have hck : (∃ e, e ≠ 0 ∧ backL first l a0 a1 0 = (e, l)) ∨ (inA first l a0 a1 = true ∧ allIs 1 l (a0 - first).toNat a1.toNat = true ∧ backL first l a0 a1 0 = (0, upd 0 a1.toNat (a0 - first).toNat l)) := by
            unfold backL
            by_cases h : inA first l a0 a1 = true ∧ allIs 1 l (a0 - first).toNat a1.toNat = true
            · rw [if_pos h]; exact .inr ⟨h.1, h.2, rfl⟩
            · rw [if_neg h]; exact .inl ⟨60, by omega, rfl⟩
          have hbx1 := HBox.out.c0
          have hbx2 := HBox.out.c2
          have hbx3 := HBox.out.c3
          rcases hck with ⟨e, he, ht⟩ | ⟨hin, hall, ht⟩
          · have he1 : (e != 0) = true := by simpa using he
            have HT := Aside0.mk ht
            clear he ht
            go_wp2_with (go_at_call 12; refine (free_any w.heap.size X g first 0 a0 a1 l _ HAb.out.sp HSa.out Hb3.out.2.1.2 (Nat.le_of_lt HAp.out.2.2.2.2.1) (Nat.le_of_lt HAp.out.2.2.2.2.2)).mono ?_; intro e' wt hP; rw [HT.out] at hP; obtain ⟨rfl, hS, hM⟩ := hP.out; have HAt := Aside0.mk (HAb.out.mv HAp.out hS hM); clear hP hS hM)
            exact ⟨⟨i + 1, l, ow, rfl, by omega, by omega, hlc, HAt, HSa, HOn'⟩, by simp [intOf]; omega⟩
          · obtain ⟨g1, g2, g3, g4⟩ := inA_iff.1 hin
            have hfs := HSa.out.f0
            have hfl := HSa.out.fl
            obtain ⟨p, hp⟩ : ∃ p : Nat, a0 - first = p := ⟨(a0 - first).toNat, by omega⟩
            have hpt : (a0 - first).toNat = p := by omega
            rw [hpt] at ht hall
            have hz := (allIs_iff (by omega)).1 hall
            have ha0 : 0 ≤ a0 := by omega
            have han4 : a0 + a1 ≤ 4096 := by omega
            have w7 : wrap64 (a0 + a1) = a0 + a1 := by unfold wrap64; omega
            have HT := Aside0.mk ht
            have HZz := Aside0.mk hz
            have HP := Aside0.mk hp
            have hpl : p + a1.toNat ≤ l.length := by omega
            clear ht hz hp hin hall hpt g3 g4
            go_wp2_with (go_at_call 12; refine (free_any w.heap.size X g first 0 a0 a1 l _ HAb.out.sp HSa.out Hb3.out.2.1.2 (Nat.le_of_lt HAp.out.2.2.2.2.1) (Nat.le_of_lt HAp.out.2.2.2.2.2)).mono ?_; intro e' wt hP; rw [HT.out] at hP; obtain ⟨rfl, hS, hM⟩ := hP.out; have HAt := Aside0.mk (HAb.out.mv HAp.out hS hM); have hBt : BxAt wt wr.heap.size 2 n a0 a1 := (hM.keep _ (blk_lt HBox.out) (by have := HXr.out; omega) (by have := HXr.out; omega)).trans HBox.out; clear hbx1 hbx2 hbx3; have hbx2 := hBt.c2; have HBt := Aside0.mk hBt; clear hP hS hM hBt)
            clear hbx2
            obtain ⟨b, hb⟩ : ∃ b, wr.heap.size = b := ⟨_, rfl⟩
            have hbx : b ≠ o ∧ b ≠ X ∧ b ≠ g := by have := HXr.out; omega
            rw [hb] at HBt ⊢
            have HBx := Aside0.mk hbx
            clear hb hbx c0 c1 c2 c3
            go_loopw [14] (fun kv wk => ∃ (k : Int), kv = .int .i64 k ∧ a0 ≤ k ∧ k ≤ a0 + a1 ∧ Aside0 (AS w X g o first count (some ad) ops.length c (upd 0 a1.toNat p l) (upd (0) (k - a0).toNat a0.toNat ow) wk) ∧ Aside0 (BxAt wk b 2 n a0 a1)) (fun kv _ => (a0 + a1 - intOf kv).toNat)
            case atStart => exact ⟨a0, rfl, by omega, by omega, by rw [show (a0 - a0).toNat = 0 by omega]; exact HAt, HBt⟩
            case round =>
              obtain ⟨k, rfl, k0, k1, HAk, HBk⟩ := hrel
              have hbx2 := HBk.out.c2
              have hbx3 := HBk.out.c3
              by_cases hka : k < a0 + a1
              · have hka1 : decide (k < a0 + a1) = true := decide_eq_true hka
                have hkf : decide (k < 0) = false := decide_eq_false (by omega)
                have hkc : decide (4096 ≤ k) = false := decide_eq_false (by omega)
                have hk00 : 0 ≤ k := by omega
                have hk44 : k < 4096 := by omega
                obtain ⟨v, hv, hv1⟩ : ∃ v, (upd (0) (k - a0).toNat a0.toNat ow)[k.toNat]? = some v ∧ decide (v < 1) = false := by
                  rw [upd_get _ _ _ _ _ (by rw [HOn'.out.1]; omega), if_neg (by omega)]
                  obtain ⟨v, hv, hc⟩ := own_at HOn'.out hk00 hk44
                  have hst : st first l k = 1 := st_in (by omega) (HZz.out _ (by have := HP.out; omega) (by have := HP.out; omega))
                  rw [hst] at hc
                  exact ⟨v, hv, decide_eq_false (by omega)⟩
                have hoc := HAk.out.oc hv
                have hof := HAk.out.fo k.toNat
                have w6 : wrap64 (k + 1) = k + 1 := by unfold wrap64; omega
                clear hv
                go_wp2
                refine ⟨⟨k + 1, rfl, by omega, by omega, ?_, ?_⟩, by simp [intOf]; omega⟩
                · have h := HAk.out.seto HAp.out k.toNat (0)
                  rw [show k.toNat = a0.toNat + (k - a0).toNat by omega, upd_snoc, show (k - a0).toNat + 1 = (k + 1 - a0).toNat by omega, show a0.toNat + (k - a0).toNat = k.toNat by omega] at h
                  exact ⟨h⟩
                · exact ⟨(Below.heap_setCell _ _ _ _ (show b ≠ o from HBx.out.1)).trans HBk.out⟩
              · have hka1 : decide (k < a0 + a1) = false := decide_eq_false hka
                go_wp2
                have hke : (k - a0).toNat = a1.toNat := by omega
                have hA := HAk.out
                rw [hke] at hA
                have hOw : Own first (upd 0 a1.toNat p l) (upd (0) a1.toNat a0.toNat ow) := by
                  have h := own_upd (v := 0) (what := 0) HOn'.out HSa.out p a1.toNat (by omega) (by omega)
                  rw [show first + (p : Int) = a0 by have := HP.out; omega] at h
                  exact h
                have hSa' : Sane first (upd 0 a1.toNat p l) 0 := ⟨hfs, by rw [upd_length]; exact hfl, Tri.upd (by omega) _ _ _ HSa.out.tri, by omega, (cnt_nn _ _).1⟩
                exact ⟨⟨i + 1, _, _, rfl, by omega, by omega, by rw [upd_length]; exact hlc, ⟨hA⟩, ⟨hSa'⟩, ⟨hOw⟩⟩, by simp [intOf]; omega⟩
        · have k2' : (kd == 2) = false := by simpa using k2
          by_cases k3 : kd = 3
          · subst k3
            clear k0 k0' k2 k2'
            have hck : (∃ e, e ≠ 0 ∧ backL first l a0 a1 2 = (e, l)) ∨ (inA first l a0 a1 = true ∧ allIs 1 l (a0 - first).toNat a1.toNat = true ∧ backL first l a0 a1 2 = (0, upd 2 a1.toNat (a0 - first).toNat l)) := by
              unfold backL
              by_cases h : inA first l a0 a1 = true ∧ allIs 1 l (a0 - first).toNat a1.toNat = true
              · rw [if_pos h]; exact .inr ⟨h.1, h.2, rfl⟩
              · rw [if_neg h]; exact .inl ⟨60, by omega, rfl⟩
            have hbx1 := HBox.out.c0
            have hbx2 := HBox.out.c2
            have hbx3 := HBox.out.c3
            rcases hck with ⟨e, he, ht⟩ | ⟨hin, hall, ht⟩
            · have he1 : (e != 0) = true := by simpa using he
              have HT := Aside0.mk ht
              clear he ht
              go_wp2_with (go_at_call 13; refine (later_any w.heap.size X g first 0 a0 a1 l _ HAb.out.sp HSa.out Hb3.out.2.1.2 (Nat.le_of_lt HAp.out.2.2.2.2.1) (Nat.le_of_lt HAp.out.2.2.2.2.2)).mono ?_; intro e' wt hP; rw [HT.out] at hP; obtain ⟨rfl, hS, hM⟩ := hP.out; have HAt := Aside0.mk (HAb.out.mv HAp.out hS hM); clear hP hS hM)
              exact ⟨⟨i + 1, l, ow, rfl, by omega, by omega, hlc, HAt, HSa, HOn'⟩, by simp [intOf]; omega⟩
            · obtain ⟨g1, g2, g3, g4⟩ := inA_iff.1 hin
              have hfs := HSa.out.f0
              have hfl := HSa.out.fl
              obtain ⟨p, hp⟩ : ∃ p : Nat, a0 - first = p := ⟨(a0 - first).toNat, by omega⟩
              have hpt : (a0 - first).toNat = p := by omega
              rw [hpt] at ht hall
              have hz := (allIs_iff (by omega)).1 hall
              have ha0 : 0 ≤ a0 := by omega
              have han4 : a0 + a1 ≤ 4096 := by omega
              have w7 : wrap64 (a0 + a1) = a0 + a1 := by unfold wrap64; omega
              have HT := Aside0.mk ht
              have HZz := Aside0.mk hz
              have HP := Aside0.mk hp
              have hpl : p + a1.toNat ≤ l.length := by omega
              clear ht hz hp hin hall hpt g3 g4
              go_wp2_with (go_at_call 13; refine (later_any w.heap.size X g first 0 a0 a1 l _ HAb.out.sp HSa.out Hb3.out.2.1.2 (Nat.le_of_lt HAp.out.2.2.2.2.1) (Nat.le_of_lt HAp.out.2.2.2.2.2)).mono ?_; intro e' wt hP; rw [HT.out] at hP; obtain ⟨rfl, hS, hM⟩ := hP.out; have HAt := Aside0.mk (HAb.out.mv HAp.out hS hM); have hBt : BxAt wt wr.heap.size 3 n a0 a1 := (hM.keep _ (blk_lt HBox.out) (by have := HXr.out; omega) (by have := HXr.out; omega)).trans HBox.out; clear hbx1 hbx2 hbx3; have hbx2 := hBt.c2; have HBt := Aside0.mk hBt; clear hP hS hM hBt)
              clear hbx2
              obtain ⟨b, hb⟩ : ∃ b, wr.heap.size = b := ⟨_, rfl⟩
              have hbx : b ≠ o ∧ b ≠ X ∧ b ≠ g := by have := HXr.out; omega
              rw [hb] at HBt ⊢
              have HBx := Aside0.mk hbx
              clear hb hbx c0 c1 c2 c3
              go_loopw [14] (fun kv wk => ∃ (k : Int), kv = .int .i64 k ∧ a0 ≤ k ∧ k ≤ a0 + a1 ∧ Aside0 (AS w X g o first count (some ad) ops.length c (upd 2 a1.toNat p l) (upd (-1) (k - a0).toNat a0.toNat ow) wk) ∧ Aside0 (BxAt wk b 3 n a0 a1)) (fun kv _ => (a0 + a1 - intOf kv).toNat)
              case atStart => exact ⟨a0, rfl, by omega, by omega, by rw [show (a0 - a0).toNat = 0 by omega]; exact HAt, HBt⟩
              case round =>
                obtain ⟨k, rfl, k0, k1, HAk, HBk⟩ := hrel
                have hbx2 := HBk.out.c2
                have hbx3 := HBk.out.c3
                by_cases hka : k < a0 + a1
                · have hka1 : decide (k < a0 + a1) = true := decide_eq_true hka
                  have hkf : decide (k < 0) = false := decide_eq_false (by omega)
                  have hkc : decide (4096 ≤ k) = false := decide_eq_false (by omega)
                  have hk00 : 0 ≤ k := by omega
                  have hk44 : k < 4096 := by omega
                  obtain ⟨v, hv, hv1⟩ : ∃ v, (upd (-1) (k - a0).toNat a0.toNat ow)[k.toNat]? = some v ∧ decide (v < 1) = false := by
                    rw [upd_get _ _ _ _ _ (by rw [HOn'.out.1]; omega), if_neg (by omega)]
                    obtain ⟨v, hv, hc⟩ := own_at HOn'.out hk00 hk44
                    have hst : st first l k = 1 := st_in (by omega) (HZz.out _ (by have := HP.out; omega) (by have := HP.out; omega))
                    rw [hst] at hc
                    exact ⟨v, hv, decide_eq_false (by omega)⟩
                  have hoc := HAk.out.oc hv
                  have hof := HAk.out.fo k.toNat
                  have w6 : wrap64 (k + 1) = k + 1 := by unfold wrap64; omega
                  clear hv
                  go_wp2
                  refine ⟨⟨k + 1, rfl, by omega, by omega, ?_, ?_⟩, by simp [intOf]; omega⟩
                  · have h := HAk.out.seto HAp.out k.toNat (-1)
                    rw [show k.toNat = a0.toNat + (k - a0).toNat by omega, upd_snoc, show (k - a0).toNat + 1 = (k + 1 - a0).toNat by omega, show a0.toNat + (k - a0).toNat = k.toNat by omega] at h
                    exact ⟨h⟩
                  · exact ⟨(Below.heap_setCell _ _ _ _ (show b ≠ o from HBx.out.1)).trans HBk.out⟩
                · have hka1 : decide (k < a0 + a1) = false := decide_eq_false hka
                  go_wp2
                  have hke : (k - a0).toNat = a1.toNat := by omega
                  have hA := HAk.out
                  rw [hke] at hA
                  have hOw : Own first (upd 2 a1.toNat p l) (upd (-1) a1.toNat a0.toNat ow) := by
                    have h := own_upd (v := -1) (what := 2) HOn'.out HSa.out p a1.toNat (by omega) (by omega)
                    rw [show first + (p : Int) = a0 by have := HP.out; omega] at h
                    exact h
                  have hSa' : Sane first (upd 2 a1.toNat p l) 0 := ⟨hfs, by rw [upd_length]; exact hfl, Tri.upd (by omega) _ _ _ HSa.out.tri, by omega, (cnt_nn _ _).1⟩
                  exact ⟨⟨i + 1, _, _, rfl, by omega, by omega, by rw [upd_length]; exact hlc, ⟨hA⟩, ⟨hSa'⟩, ⟨hOw⟩⟩, by simp [intOf]; omega⟩
          · have k3' : (kd == 3) = false := by simpa using k3
            by_cases k4 : kd = 4
            · subst k4
              clear k0 k0' k2 k2' k3 k3'
              have hlen := HOn'.out.1
              have hcnt := own_count HOn'.out HSa.out
              have HC := Aside0.mk hcnt
              clear hcnt
              go_wp2
              clear c0 c1 c2 c3
              go_loopw [15, 139] (fun nv kv wk => ∃ (m k : Int), nv = .int .i64 m ∧ kv = .int .i64 k ∧ 0 ≤ k ∧ k ≤ 4096 ∧ Aside0 (m = (ow.take k.toNat).countP neg) ∧ Aside0 (AS w X g o first count (some ad) ops.length c l (gz neg (ow.take k.toNat) ++ ow.drop k.toNat) wk)) (fun _ kv _ => (4096 - intOf kv).toNat)
              case atStart => exact ⟨0, 0, rfl, rfl, by omega, by omega, ⟨by simp⟩, by simpa [gz] using HAb⟩
              case round =>
                obtain ⟨m, k, rfl, rfl, k0, k1, HM, HAk⟩ := hrel
                by_cases hka : k < 4096
                · have hka1 : decide (k < 4096) = true := decide_eq_true hka
                  obtain ⟨v, hv⟩ : ∃ v, ow[k.toNat]? = some v := ⟨_, List.getElem?_eq_getElem (by omega)⟩
                  have hoc := HAk.out.oc (gz_at (p := neg) hv)
                  have hof := HAk.out.fo k.toNat
                  have hstep := gz_step (p := neg) hv
                  have hcs := gz_cnt (p := neg) hv
                  have hk1 : (k + 1).toNat = k.toNat + 1 := by omega
                  have w6 : wrap64 (k + 1) = k + 1 := by unfold wrap64; omega
                  have hm9 : 0 ≤ m ∧ m ≤ 4096 := by
                    have h1 := List.countP_le_length (p := neg) (l := ow.take k.toNat)
                    rw [List.length_take] at h1
                    have := HM.out
                    omega
                  have w7 : wrap64 (m + 1) = m + 1 := by unfold wrap64; omega
                  obtain ⟨B, hB⟩ : ∃ B, neg v = B := ⟨_, rfl⟩
                  rw [hB] at hstep hcs
                  have HStep := Aside0.mk hstep
                  have HCs := Aside0.mk hcs
                  have HV := Aside0.mk hv
                  cases B with
                  | true =>
                    have hvd : decide (v < 0) = true := hB
                    clear hstep hcs hv hB
                    go_wp2
                    refine ⟨⟨m + 1, k + 1, rfl, rfl, by omega, by omega, ⟨?_⟩, ⟨?_⟩⟩, by simp [intOf]; omega⟩
                    · rw [hk1, HCs.out, HM.out]; rfl
                    · rw [hk1, HStep.out]
                      exact HAk.out.seto HAp.out k.toNat 0
                  | false =>
                    have hvd : decide (v < 0) = false := hB
                    clear hstep hcs hv hB
                    go_wp2
                    refine ⟨⟨m, k + 1, rfl, rfl, by omega, by omega, ⟨?_⟩, ⟨?_⟩⟩, by simp [intOf]; omega⟩
                    · rw [hk1, HCs.out, HM.out]; simp
                    · have hsame : (gz neg (ow.take k.toNat) ++ ow.drop k.toNat).set k.toNat v = gz neg (ow.take k.toNat) ++ ow.drop k.toNat := by
                        obtain ⟨h1, h2⟩ := List.getElem?_eq_some_iff.1 (gz_at (p := neg) HV.out)
                        rw [← h2, List.set_getElem_self]
                      rw [hk1, HStep.out]
                      show AS w X g o first count (some ad) ops.length c l ((gz neg (ow.take k.toNat) ++ ow.drop k.toNat).set k.toNat v) _
                      rw [hsame]
                      exact HAk.out
                · have hka1 : decide (k < 4096) = false := decide_eq_false hka
                  have hke : k.toNat = 4096 := by omega
                  have hA := HAk.out
                  have hm := HM.out
                  rw [hke, ← hlen, List.take_length] at hm
                  rw [hke, ← hlen, List.take_length, List.drop_length, List.append_nil] at hA
                  rw [HC.out] at hm
                  have hmm : (cnt l 2 != m) = false := by simp [hm]
                  have HA' := Aside0.mk hA
                  clear hA hm
                  go_wp2_with (go_at_call 14; refine (settle_any w.heap.size X g first 0 l _ HA'.out.sp HSa.out (Nat.le_of_lt HAp.out.2.2.2.2.1) (Nat.le_of_lt HAp.out.2.2.2.2.2)).mono ?_; intro e' wt hP; obtain ⟨rfl, hS, hM⟩ := hP.out; have HAt := Aside0.mk (HA'.out.mv HAp.out hS hM); clear hP hS hM)
                  have hSa' : Sane first (settleL l) 0 := ⟨HSa.out.f0, by rw [show (settleL l).length = l.length by simp [settleL]]; exact HSa.out.fl, by have := settle_tri HSa.out.tri l.length; rwa [settle_end] at this, by omega, (cnt_nn _ _).1⟩
                  exact ⟨⟨i + 1, _, _, rfl, by omega, by omega, by rw [show (settleL l).length = l.length by simp [settleL]]; exact hlc, HAt, ⟨hSa'⟩, ⟨own_settle HOn'.out⟩⟩, by simp [intOf]; omega⟩
            · have k4' : (kd == 4) = false := by simpa using k4
              clear k0 k2 k3 k4
              go_wp2
              exact ⟨⟨i + 1, l, ow, rfl, by omega, by omega, hlc, HAb, HSa, HOn'⟩, by simp [intOf]; omega⟩
    · have hlt1 : decide (i < (ops.length : Int)) = false := decide_eq_false hlt
      go_wp2
      go_ret
      exact ⟨rfl, HAr.out.bel⟩
end Go.Proofs.Ytpcgmlnipeigjaa.H
