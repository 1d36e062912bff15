/- strings.Builder: what stays; lifeText of the program. -/
import Derived.Test.YteglbmindbfkeaaGreatDoorCd
namespace Go.Proofs.YteglbmindbfkeaaGreatDoor.H
open Go.RowKit Go.Proofs.YteglbmindbfkeaaGreatDoorW.PrintWords
set_option linter.unusedVariables false
set_option linter.unusedSimpArgs false
theorem body_mem {o : OpV} {f : Fld} : ∀ {fs : List Fld}, f ∈ fs → (render o f).length ≤ (body o fs).length := by
  intro fs
  induction fs with
  | nil => intro h; simp at h
  | cons g r ih =>
    intro h
    have e : body o (g :: r) = (32 :: render o g) ++ body o r := by unfold body; rw [List.flatMap_cons]
    rw [e, List.length_append, List.length_cons]
    rcases List.mem_cons.1 h with rfl | h
    · omega
    · have := ih h
      omega
theorem printL_ok {o : OpV} {l : Bs} (h : printL o = some l) : OpOk l.length o := by
  unfold printL at h
  split at h
  · next wd fs hk =>
    split at h
    · next hc =>
      obtain ⟨hf, hcp⟩ := hc
      have hl := Option.some.inj h
      obtain ⟨j, hj, hm⟩ := kindOf_mem hk
      have hj2 : 1 ≤ j ∧ j ≤ 19 := by
        have : ∀ e ∈ kinds, 1 ≤ e.1 ∧ e.1 ≤ 19 := by decide
        exact this _ hm
      have hoth : ∀ g, g ∉ fs → o.txt g = [] ∧ o.num g = 0 := fun g hg => by
        have h1 := copyAll_other (o := o) (t := { kind := o.kind }) hg
        rw [hcp] at h1
        refine ⟨h1.1.trans ?_, h1.2.trans ?_⟩
        · cases g <;> rfl
        · cases g <;> rfl
      refine ⟨by omega, fun g => ?_, fun g => ?_⟩
      · by_cases hg : g ∈ fs
        · unfold fewF at hf
          rw [List.all_eq_true] at hf
          have h2 := hf g hg
          by_cases ht : g.isText = true
          · have : o.num g = 0 := by cases g <;> first | rfl | cases ht
            omega
          · simp only [ht, Bool.false_or, decide_eq_true_eq, Bool.or_eq_true, false_or, Bool.false_eq_true] at h2
            unfold fewD at h2
            omega
        · rw [(hoth g hg).2]; omega
      · by_cases hg : g ∈ fs
        · by_cases ht : g.isText = true
          · have h2 := body_mem (o := o) hg
            unfold render at h2
            rw [if_pos ht] at h2
            have h3 := esc_len (o.txt g)
            unfold quoteL at h2
            rw [List.length_cons, List.length_append] at h2
            rw [← hl, List.length_append]
            omega
          · have : o.txt g = [] := by cases g <;> first | rfl | exact absurd rfl ht
            rw [this]; exact Nat.zero_le _
        · rw [(hoth g hg).1]; exact Nat.zero_le _
    · cases h
  · cases h
theorem OpOk.mono {K L : Nat} {o : OpV} (h : OpOk K o) (hl : K ≤ L) : OpOk L o := ⟨h.1, h.2, fun f => Nat.le_trans (h.3 f) hl⟩
theorem BldAt.below {B b : Nat} {p : Value} {bs : List Value} {w w' : World} (h : Lib.BuilderAt 47 5 B b p bs w) (hb : Below w.heap.size w w') : Lib.BuilderAt 47 5 B b p bs w' := by
  obtain ⟨h1, v, h2, h3, h4⟩ := h
  exact ⟨h1, v, blk_below h2 hb, pw_own_below h3 hb, h4⟩
theorem Bld.below {B b : Nat} {l : Bs} {w w' : World} (h : Bld B b l w) (hb : Below w.heap.size w w') : Bld B b l w' := by
  rcases h with h | h
  · exact .inl (BldAt.below h hb)
  · exact .inr (BldAt.below h hb)
theorem Below.others {w w' : World} (b : Option Nat) (h : Below w.heap.size w w') : Lib.OthersKept 5 b w w' := fun k o hk _ _ => (h.block k (blk_lt hk)).trans hk
theorem copyCheck_k (B b : Nat) (bs : List Value) (w : World) (h : Lib.IsBuilder 47 5 B b bs w) :
    Calls Tryz.prog 44 #[.pointer (some ⟨b, 0, none⟩)] w fun e w' => e = .returned (.tuple #[]) ∧ (Lib.BuilderAt 47 5 B b (.pointer (some ⟨b, 0, none⟩)) bs w' ∧ Below B w w' ∧ Lib.OthersKept 5 (some b) w w') := by
  rcases h with h | h
  · refine (copyCheck_fresh b w h.cell0 h.shape h.frozen0).mono ?_
    rintro e w' ⟨rfl, rfl⟩
    exact ⟨rfl, h.used _, (Below.refl B w).setCell (p := ⟨b, 0, none⟩) h.1 _, (Lib.OthersKept.refl _ (some b) _).setCell ⟨b, 0, none⟩ rfl _⟩
  · refine (copyCheck_used b w h.cell0).mono ?_
    rintro e w' ⟨rfl, rfl⟩
    exact ⟨rfl, h, Below.refl B _, Lib.OthersKept.refl _ _ _⟩
theorem ownsRow_kind {w : World} {B n : Nat} {e : TypeId} {v : Value} {xs : List Value} (h : w.ownsRow B e 1 v n xs) : ∀ g, v.ownBlock = some g → ∃ c fz, w.heap[g]? = some (.cells c e fz) := by
  intro g hg
  rcases h.2 with ⟨rfl, _⟩ | ⟨g', cap, cur, rfl, _, hh, _⟩
  · simp [Value.ownBlock] at hg
  · have : g' = g := by simpa [Value.ownBlock] using hg
    subst this
    exact ⟨cur, _, hh⟩
set_option maxHeartbeats 2000000 in
set_option maxRecDepth 100000 in
theorem writeString_k (B b : Nat) (l : Bs) (s : ByteArray) (w : World) (h : Bld B b l w) (hlen : l.length + s.size ≤ 140737488355328) (hBw : B ≤ w.heap.size) :
    Calls Tryz.prog 15 #[.pointer (some ⟨b, 0, none⟩), .string s] w fun e w' => e = .returned (.tuple #[.int .i64 s.size, .nilIface]) ∧ Bld B b (l ++ s.data.toList) w' ∧ Below B w w' ∧ Lib.OthersKept 5 (some b) w w' := by
  obtain ⟨i0, hi, hz0, hz1, hz2⟩ := info_parts infoByte
  obtain ⟨bs, hbs⟩ : ∃ bs, Lib.byteCells l = bs := ⟨_, rfl⟩
  have hbl : bs.length = l.length := by rw [← hbs, Lib.byteCells_length]
  have hfin : Lib.byteCells (l ++ s.data.toList) = bs ++ Lib.strCells s := by rw [← hbs, strCells_byte]; simp [Lib.byteCells]
  have h : Lib.IsBuilder 47 5 B b bs w := by rw [← hbs]; exact h
  unfold Bld
  rw [hfin]
  rw [← hbl] at hlen
  clear hbs hfin hbl
  go_enter Tryz.func15, Tryz.ntmps15
  go_wp2_with (go_at_call 44; refine (copyCheck_k B b bs _ h).mono ?_)
  rintro e w1 ⟨rfl, h1, hb1, hk1⟩
  obtain ⟨hB, v, hbk, hown, hne⟩ := h1
  have c0 : w1.cell? ⟨b, 0, none⟩ = some (.pointer (some ⟨b, 0, none⟩)) := by rw [Lib.cell_of_heap hbk]; rfl
  have c1 : w1.cell? ⟨b, 1, none⟩ = some v := by rw [Lib.cell_of_heap hbk]; rfl
  go_wp2_with (at_builtin; refine Lib.wpList_append_own_string _ rfl _ _ 45 9 rfl B 5 i0 Tryz.underlying45 Tryz.underlying9 hi hz0 hz1 hz2 _ _ _ rfl hown s rfl ?c3 ?c4 ?c5 ?_)
  case c3 => unfold maxLen; omega
  case c4 => omega
  case c5 => have := hb1.size; omega
  intro v' w2 hown' hgrow _
  have hlt : b < w1.heap.size := by
    rcases Nat.lt_or_ge b w1.heap.size with h' | h'
    · exact h'
    · simp [Array.getElem?_eq_none h'] at hbk
  have hb2 : w2.heap[b]? = some (.cells #[.pointer (some ⟨b, 0, none⟩), v] 47 (0, 0)) := by
    rw [hgrow.block b hlt (fun e => hne e.symm)]
    exact hbk
  have d0 : w2.cell? ⟨b, 0, none⟩ = some (.pointer (some ⟨b, 0, none⟩)) := by rw [Lib.cell_of_heap hb2]; rfl
  have d1 : w2.cell? ⟨b, 1, none⟩ = some v := by rw [Lib.cell_of_heap hb2]; rfl
  have f1 : w2.frozen? ⟨b, 1, none⟩ = false := Lib.frozen_of_heap hb2 1
  have hk2 := Aside0.mk ((hk1.grown hgrow (ownsRow_kind hown)))
  obtain ⟨ao, n', cap, rfl⟩ : ∃ ao n' cap, v' = .slice ao n' cap := by
    rcases hown'.2 with ⟨hv, _⟩ | ⟨g, cap, cur, hv, _⟩
    · exact ⟨_, _, _, hv⟩
    · exact ⟨_, _, _, hv⟩
  go_wp2
  go_ret2
  refine ⟨rfl, .inr ?_, ?_, hk2.out.setCell ⟨b, 1, none⟩ rfl _⟩
  · exact Lib.BuilderAt.put (T := 47) (e := 5) hB hb2 (bs' := bs ++ Lib.strCells s) (by simpa [Lib.strCells_length] using hown') (by decide)
  · exact (hb1.grown hgrow (by have := hb1.size; omega) (fun k hk => (hown.lt k hk).1)).setCell (p := ⟨b, 1, none⟩) hB _
/-- What lifeText keeps: the builder, what lay before, its own copy of the life. -/
structure LtI (w0 w : World) (b lb : Nat) (V : Array Value) (acc : Bs) (wr : World) : Prop where
  bld : Bld w0.heap.size b acc wr
  bel : Below w0.heap.size w0 wr
  box : wr.heap[lb]? = some (.cells V 56 (0, 0))
  kept : Lib.OthersKept 5 (some b) w wr
theorem LtI.below {w0 w : World} {b lb : Nat} {V : Array Value} {acc : Bs} {wr w' : World} (h : LtI w0 w b lb V acc wr) (hb : Below wr.heap.size wr w') : LtI w0 w b lb V acc w' :=
  ⟨h.bld.below hb, below_step h.bel hb, blk_below h.box hb, h.kept.trans (Below.others _ hb)⟩
theorem LtI.write {w0 w : World} {b lb : Nat} {V : Array Value} {acc acc' : Bs} {wr w' : World} (h : LtI w0 w b lb V acc wr) (hn : lb ≠ b) (h1 : Bld w0.heap.size b acc' w') (h2 : Below w0.heap.size wr w') (h3 : Lib.OthersKept 5 (some b) wr w') : LtI w0 w b lb V acc' w' :=
  ⟨h1, h.bel.trans h2, h3 lb _ h.box (fun e => hn (Option.some.inj e)) (fun c fz e => by cases e), h.kept.trans h3⟩
theorem opsL_none {o : OpV} : ∀ {ops : List OpV}, o ∈ ops → printL o = none → opsL ops = none := by
  intro ops
  induction ops with
  | nil => intro h; simp at h
  | cons x r ih =>
    intro h hp
    rcases List.mem_cons.1 h with rfl | h
    · simp only [opsL, hp]
    · simp only [opsL]
      rw [ih h hp]
      cases printL x <;> rfl
theorem line10_len {o : OpV} {q : Bs} (ho : OpOk 1048576 o) (h : printL o = some q) : q.length ≤ 12582994 := by
  unfold printL at h
  split at h
  · next wd fs hk =>
    split at h
    · have hl := Option.some.inj h
      obtain ⟨j, hj, hm⟩ := kindOf_mem hk
      obtain ⟨h3, h10⟩ := kinds_len _ hm
      have hb := body_len ho fs
      have h3 : fs.length ≤ 3 := h3
      have := Nat.mul_le_mul_right (4 * 1048576 + 24) h3
      have h10 : wd.length ≤ 10 := h10
      rw [← hl, List.length_append]
      omega
    · cases h
  · cases h
theorem opsL_len : ∀ {ops : List OpV} {t : Bs}, (∀ o ∈ ops, OpOk 1048576 o) → opsL ops = some t → t.length ≤ 12582995 * ops.length := by
  intro ops
  induction ops with
  | nil => intro t _ h; cases h; simp
  | cons o r ih =>
    intro t hok h
    simp only [opsL] at h
    split at h
    · next s hs =>
      split at h
      · next t' ht =>
        cases h
        have h1 := ih (fun x hx => hok x (List.mem_cons_of_mem _ hx)) ht
        have h2 := line10_len (hok o (List.mem_cons_self ..)) hs
        rw [List.length_append, List.length_cons, List.length_cons]
        omega
      · cases h
    · cases h
theorem take_snoc {α : Type} {xs : List α} {i : Nat} {x : α} (h : xs[i]? = some x) : xs.take (i + 1) = xs.take i ++ [x] := by rw [List.take_add_one, h]; rfl
/-- What lifeText answers. -/
def LtP (b : Nat) (acc : Bs) (R : Option Bs) (w0 w : World) (e : Ending) (w' : World) : Prop :=
  (match R with
    | some t => e = .returned (.int .i64 0) ∧ Bld w0.heap.size b (acc ++ t) w'
    | none => e = .returned (.int .i64 260)) ∧ Below w0.heap.size w0 w' ∧ Lib.OthersKept 5 (some b) w w'
theorem LtP.bad {b : Nat} {acc : Bs} {R : Option Bs} {w0 w w' : World} (hR : R = none) (h1 : Below w0.heap.size w0 w') (h2 : Lib.OthersKept 5 (some b) w w') : LtP b acc R w0 w (.returned (.int .i64 260)) w' := by
  subst hR
  exact ⟨rfl, h1, h2⟩
theorem LtP.good {b : Nat} {acc t : Bs} {R : Option Bs} {w0 w w' : World} (hR : R = some t) (h0 : Bld w0.heap.size b (acc ++ t) w') (h1 : Below w0.heap.size w0 w') (h2 : Lib.OthersKept 5 (some b) w w') : LtP b acc R w0 w (.returned (.int .i64 0)) w' := by
  subst hR
  exact ⟨⟨rfl, h0⟩, h1, h2⟩
theorem lifeL_stop {l : LifeV} (h : ¬ fewD l.stop) : lifeL l = none := by unfold lifeL; rw [if_neg h]
theorem lifeL_ops {l : LifeV} (h : opsL l.ops = none) : lifeL l = none := by unfold lifeL; rw [h]; split <;> rfl
theorem lifeL_keep {l : LifeV} {k : Int} (hk : k ∈ l.keep) (h : ¬ fewD k) : lifeL l = none := by
  unfold lifeL
  split
  · split
    · rw [if_neg (fun hh => h (hh k hk))]
    · rfl
  · rfl
theorem lifeL_some {l : LifeV} {t : Bs} (h : fewD l.stop) (ho : opsL l.ops = some t) (hk : ∀ k ∈ l.keep, fewD k) : lifeL l = some (lineL wLife [l.stop] ++ 10 :: (t ++ keepL l.keep)) := by
  unfold lifeL
  rw [if_pos h, ho]
  simp only
  rw [if_pos hk]
theorem OpsR.get {w : World} {A : Option Addr} {ops : List OpV} (h : OpsR w A ops) {i : Nat} (hi : i < ops.length) : ∃ o b k, ops[i]? = some o ∧ o ∈ ops ∧ A = some ⟨b, k, none⟩ ∧ OpCl w b (k + i * 8) o := by
  obtain ⟨b, k, h1, h2⟩ := h i _ (List.getElem?_eq_getElem hi)
  exact ⟨_, b, k, List.getElem?_eq_getElem hi, List.getElem_mem hi, h1, h2⟩
theorem IntsR.get {w : World} {A : Option Addr} {ks : List Int} (h : IntsR w A ks) {i : Nat} (hi : i < ks.length) : ∃ k b o, ks[i]? = some k ∧ k ∈ ks ∧ A = some ⟨b, o, none⟩ ∧ w.cell? ⟨b, o + i, none⟩ = some (.int .i64 k) := by
  obtain ⟨b, o, h1, h2⟩ := h i _ (List.getElem?_eq_getElem hi)
  exact ⟨_, b, o, List.getElem?_eq_getElem hi, List.getElem_mem hi, h1, h2⟩
set_option maxRecDepth 100000 in
set_option maxHeartbeats 8000000 in
theorem lifeText_any (b : Nat) (acc : Bs) (l : LifeV) (A1 : Option Addr) (n1 : Nat) (A2 : Option Addr) (n2 : Nat) (w0 w : World) (hE : Env w0) (hbd : Bld w0.heap.size b acc w) (h0 : Below w0.heap.size w0 w) (hO : OpsR w0 A1 l.ops) (hK : IntsR w0 A2 l.keep) (hok : LfOk l) (hn : l.ops.length ≤ 1024) (hacc : acc.length ≤ 17592186044416) :
    Calls Tryz.prog 17 #[.pointer (some ⟨b, 0, none⟩), .agg #[.slice A1 l.ops.length n1, .int .i64 l.stop, .slice A2 l.keep.length n2]] w fun e w' => LtP b acc (lifeL l) w0 w e w' := by
  have HE0 := Aside0.mk hE
  have HO := Aside0.mk hO
  have HK := Aside0.mk hK
  have HOk := Aside0.mk hok
  have hst := hok.stop
  have hS := fun W h => short_any l.stop W h hst.1 hst.2
  obtain ⟨V, hV⟩ : ∃ V, #[Value.slice A1 l.ops.length n1, Value.int .i64 l.stop, Value.slice A2 l.keep.length n2] = V := ⟨_, rfl⟩
  rw [hV]
  have v0 : V[0]? = some (.slice A1 l.ops.length n1) := by rw [← hV]; rfl
  have v1 : V[1]? = some (.int .i64 l.stop) := by rw [← hV]; rfl
  have v2 : V[2]? = some (.slice A2 l.keep.length n2) := by rw [← hV]; rfl
  have hbl : b < w.heap.size := by
    rcases hbd with h | h
    · exact h.lt
    · exact h.lt
  have HI0 := Aside0.mk (show LtI w0 w b w.heap.size V acc (w.alloc (.cells V 56)) from
    ⟨hbd.below (below_alloc (Below.refl _ _) _), below_alloc h0 _, blk_new w _, (Below.others _ (below_alloc (Below.refl _ _) _))⟩)
  have HB0 := Aside0.mk (below_alloc (Below.refl w.heap.size w) (.cells V 56))
  have HNe := Aside0.mk (show w.heap.size ≠ b by omega)
  have HA0 := Aside0.mk hacc
  have HS := Aside0.mk hS
  have c1 := (blk_cell HI0.out.box 1).trans v1
  have HV := Aside0.mk (And.intro v0 (And.intro v1 v2))
  clear hE hO hK hok hV hbd h0 hacc hS v0 v1 v2
  obtain ⟨F, hF⟩ : ∃ F, decide (fewD l.stop) = F := ⟨_, rfl⟩
  rw [hF] at HS
  cases F with
  | false =>
    have HR := Aside0.mk (lifeL_stop (of_decide_eq_false hF))
    clear hF
    go_enter Tryz.func17, Tryz.ntmps17
    go_wp2_with (go_at_call 41; refine (HS.out _ (HE0.out.below HI0.out.bel)).mono ?_; rintro e w2 ⟨rfl, hB⟩; have HI2 := Aside0.mk (HI0.out.below hB); clear hB)
    refine bodyPost_ret (v := .int .i64 260) (by simp [results, Tryz.f17, go_sem]) rfl (LtP.bad HR.out HI2.out.bel HI2.out.kept)
  | true =>
    have HF := Aside0.mk (of_decide_eq_true hF)
    clear hF
    go_enter Tryz.func17, Tryz.ntmps17
    go_wp2_with (first
      | (go_at_call 41; refine (HS.out _ (HE0.out.below HI0.out.bel)).mono ?_; rintro e w2 ⟨rfl, hB⟩; have HI2 := Aside0.mk (HI0.out.below hB); have c1 := (blk_cell HI2.out.box 1).trans HV.out.2.1; clear hB)
      | (go_at_call 46; refine (line_any wLife _ _ [l.stop] _ (HE0.out.below (below_alloc HI2.out.bel _)) (ints_new _ _ (by simp) rfl) (by intro n hn; rw [List.mem_singleton.1 hn]; exact hst) (by simp) (by decide)).mono ?_; rintro e w3 ⟨rfl, hB⟩; have HI3 := Aside0.mk ((HI2.out.below (below_alloc (Below.refl _ _) _)).below hB); clear hB)
      | (go_at_call 15; refine (writeString_k w0.heap.size b acc _ _ HI3.out.bld (by rw [sB_size, List.length_append, lineL_nsF, List.length_append]; have := HA0.out; have h2 := nsF_len (ns := [l.stop]) (by intro n hn; rw [List.mem_singleton.1 hn]; exact hst); simp only [List.length_cons, List.length_nil] at h2 ⊢; have : wLife.length = 4 := rfl; omega) HI3.out.bel.size).mono ?_; rintro e w4 ⟨rfl, h1, h2, h3⟩; have HI4 := Aside0.mk (HI3.out.write HNe.out h1 h2 h3); clear h1 h2 h3; have c0 := (blk_cell HI4.out.box 0).trans HV.out.1))
    obtain ⟨acc1, hacc1⟩ : ∃ acc1, acc ++ (sB (lineL wLife [l.stop] ++ [10])).data.toList = acc1 := ⟨_, rfl⟩
    rw [hacc1] at HI4
    rw [sB_data] at hacc1
    have HL1 := Aside0.mk (show acc1.length ≤ 17592186044500 by
      rw [← hacc1, List.length_append, List.length_append, lineL_nsF, List.length_append]
      have := HA0.out
      have h2 := nsF_len (ns := [l.stop]) (by intro n hn; rw [List.mem_singleton.1 hn]; exact hst)
      simp only [List.length_cons, List.length_nil] at h2 ⊢
      have : wLife.length = 4 := rfl
      omega)
    have HAcc := Aside0.mk hacc1
    obtain ⟨N, hN⟩ : ∃ N, l.ops.length = N := ⟨_, rfl⟩
    obtain ⟨lb, hlb⟩ : ∃ lb, w.heap.size = lb := ⟨_, rfl⟩
    rw [hN] at hn c0 ⊢
    rw [hlb] at HI4 HNe
    have c00 := c0
    rw [hlb] at c0 ⊢
    have HN := Aside0.mk hN
    clear hacc1 hN c00 c0 c1 HI3 HI2 HI0 HB0 HS
    go_loopw [24] (fun iv wr => ∃ (i : Int) (T : Bs), iv = .int .i64 i ∧ 0 ≤ i ∧ i ≤ N ∧ Aside0 (opsL (l.ops.take i.toNat) = some T) ∧ Aside0 (LtI w0 w b lb V (acc1 ++ T) wr)) (fun iv _ => (N - intOf iv).toNat)
    case atStart => exact ⟨0, [], rfl, Int.le_refl _, by omega, ⟨rfl⟩, by rw [List.append_nil]; exact HI4⟩
    case round =>
      obtain ⟨i, T, rfl, i0, i1, HT, HI⟩ := hrel
      have w4 : wrap64 (i + 1) = i + 1 := by unfold wrap64; omega
      have HTl := Aside0.mk (show T.length ≤ 12884986880 by
        have h1 := opsL_len (fun o ho => HOk.out.ops o (List.mem_of_mem_take ho)) HT.out
        have h2 : (l.ops.take i.toNat).length ≤ 1024 := by rw [List.length_take, HN.out]; omega
        omega)
      by_cases hlt : i < (N : Int)
      · have hlt1 : decide (i < (N : Int)) = true := decide_eq_true hlt
        obtain ⟨o, b1, k1, ho, hom, rfl, hc⟩ := (HO.out.below HI.out.bel).get (i := i.toNat) (by rw [HN.out]; omega)
        obtain ⟨c0, c1, c2, c3, c4, c5, c6, c7⟩ := hc
        have hook := HOk.out.ops o hom
        have hP := fun W h => pprint_any o W h (hook.mono (by omega))
        unfold opV opC at hP
        have HOm := Aside0.mk (And.intro ho hom)
        clear ho hom
        cases hq : printL o with
        | none =>
          rw [printV_none hq] at hP
          have HR := Aside0.mk (lifeL_ops (opsL_none HOm.out.2 hq))
          have HP := Aside0.mk hP
          clear hq hP
          go_wp2_with (go_at_call 12; refine (HP.out _ (HE0.out.below (below_alloc HI.out.bel _))).mono ?_; rintro e w5 ⟨rfl, hB⟩; have HI5 := Aside0.mk ((HI.out.below (below_alloc (Below.refl _ _) _)).below hB); clear hB)
          refine bodyPost_ret (v := .int .i64 260) (by simp [results, Tryz.f17, go_sem]) rfl (LtP.bad HR.out HI5.out.bel HI5.out.kept)
        | some q =>
          rw [printV_some hq] at hP
          have hql := line10_len hook hq
          have hqz : (sB q).size ≤ 12582994 := by rw [sB_size]; exact hql
          have HQ := Aside0.mk hq
          have HP := Aside0.mk hP
          have hdat : (sB q ++ (⟨#[10]⟩ : ByteArray)).data.toList = q ++ [10] := by rw [show (⟨#[10]⟩ : ByteArray) = sB [10] from rfl, sB_app, sB_data]
          have hqs : (sB q ++ (⟨#[10]⟩ : ByteArray)).size ≤ 12582995 := by rw [← data_length, hdat, List.length_append]; simp; exact hql
          have HDat := Aside0.mk (And.intro hdat hqs)
          clear hq hP hdat hqs hook
          go_wp2_with (first
            | (go_at_call 12; refine (HP.out _ (HE0.out.below (below_alloc HI.out.bel _))).mono ?_; rintro e w5 ⟨rfl, hB⟩; have HI5 := Aside0.mk ((HI.out.below (below_alloc (Below.refl _ _) _)).below hB); clear hB)
            | (go_at_call 15; refine (writeString_k w0.heap.size b (acc1 ++ T) _ _ HI5.out.bld (by rw [List.length_append]; have := HTl.out; have := HL1.out; have := HDat.out.2; omega) HI5.out.bel.size).mono ?_; rintro e w6 ⟨rfl, h1, h2, h3⟩; have HI6 := Aside0.mk (HI5.out.write HNe.out h1 h2 h3); clear h1 h2 h3))
          refine ⟨⟨i + 1, T ++ (q ++ [10]), rfl, by omega, by omega, ⟨?_⟩, ⟨?_⟩⟩, by simp [intOf]; omega⟩
          · rw [show (i + 1).toNat = i.toNat + 1 by omega, take_snoc HOm.out.1]
            exact opsL_app HT.out HQ.out
          · have := HI6.out
            rw [HDat.out.1, List.append_assoc] at this
            exact this
      · have hlt1 : decide (i < (N : Int)) = false := decide_eq_false hlt
        have hfin : l.ops.take i.toNat = l.ops := List.take_of_length_le (by rw [HN.out]; omega)
        rw [hfin] at HT
        have c2 := (blk_cell HI.out.box 2).trans HV.out.2.2
        clear hlt hfin
        obtain ⟨M, hM⟩ : ∃ M, l.keep.length = M := ⟨_, rfl⟩
        rw [hM] at c2
        have hMn : M ≤ 1048576 := by rw [← hM]; exact HOk.out.kpn
        have HM := Aside0.mk hM
        clear hM
        go_wp2_with fail
        go_loopw [44] (fun iv wr => ∃ (i : Int), iv = .int .i64 i ∧ 0 ≤ i ∧ i ≤ M ∧ Aside0 (∀ k ∈ l.keep.take i.toNat, fewD k) ∧ Aside0 (LtI w0 w b lb V (acc1 ++ T) wr)) (fun iv _ => (M - intOf iv).toNat)
        case atStart => exact ⟨0, rfl, Int.le_refl _, by omega, ⟨fun k hk => by simp at hk⟩, HI⟩
        case round =>
          clear c2
          obtain ⟨j, rfl, j0, j1, HF2, HI2⟩ := hrel
          have w5 : wrap64 (j + 1) = j + 1 := by unfold wrap64; omega
          by_cases hlt : j < (M : Int)
          · have hlt1 : decide (j < (M : Int)) = true := decide_eq_true hlt
            obtain ⟨k, b2, k2, hk, hkm, rfl, hc⟩ := (HK.out.below HI2.out.bel).get (i := j.toNat) (by rw [HM.out]; omega)
            have hki := HOk.out.keep k hkm
            have hSk := fun W h => short_any k W h hki.1 hki.2
            by_cases hfk : fewD k
            · rw [decide_eq_true hfk] at hSk
              have HSk := Aside0.mk hSk
              have HKn := Aside0.mk (And.intro hk hfk)
              clear hk hkm hki hSk hfk
              go_wp2_with (go_at_call 41; refine (HSk.out _ (HE0.out.below HI2.out.bel)).mono ?_; rintro e w5 ⟨rfl, hB⟩; have HI5 := Aside0.mk (HI2.out.below hB); clear hB)
              refine ⟨⟨j + 1, rfl, by omega, by omega, ⟨?_⟩, HI5⟩, by simp [intOf]; omega⟩
              rw [show (j + 1).toNat = j.toNat + 1 by omega, take_snoc HKn.out.1]
              intro x hx
              rcases List.mem_append.1 hx with h | h
              · exact HF2.out x h
              · rw [List.mem_singleton.1 h]; exact HKn.out.2
            · rw [decide_eq_false hfk] at hSk
              have HSk := Aside0.mk hSk
              have HR := Aside0.mk (lifeL_keep hkm hfk)
              clear hk hkm hki hSk hfk
              go_wp2_with (go_at_call 41; refine (HSk.out _ (HE0.out.below HI2.out.bel)).mono ?_; rintro e w5 ⟨rfl, hB⟩; have HI5 := Aside0.mk (HI2.out.below hB); clear hB)
              refine bodyPost_ret (v := .int .i64 260) (by simp [results, Tryz.f17, go_sem]) rfl (LtP.bad HR.out HI5.out.bel HI5.out.kept)
          · have hlt1 : decide (j < (M : Int)) = false := decide_eq_false hlt
            have hfin : l.keep.take j.toNat = l.keep := List.take_of_length_le (by rw [HM.out]; omega)
            rw [hfin] at HF2
            have HR := Aside0.mk (lifeL_some HF.out HT.out HF2.out)
            have c2 := (blk_cell HI2.out.box 2).trans HV.out.2.2
            rw [HM.out] at c2
            clear hlt hfin
            by_cases hM0 : M = 0
            · have hke : l.keep = [] := List.eq_nil_of_length_eq_zero (by rw [HM.out]; exact hM0)
              have HKe := Aside0.mk hke
              subst hM0
              clear hke
              go_wp2_with fail
              refine bodyPost_ret (v := .int .i64 0) (by simp [results, Tryz.f17, go_sem]) rfl (LtP.good HR.out ?_ HI2.out.bel HI2.out.kept)
              have := HI2.out.bld
              rw [HKe.out, show keepL [] = [] from rfl, List.append_nil]
              rw [← HAcc.out] at this
              simpa using this
            · have hkn : l.keep ≠ [] := fun e => hM0 (by rw [← HM.out, e]; rfl)
              have HKn := Aside0.mk hkn
              have hMp : (0 : Int) < (M : Int) := by omega
              have hkl := nsF_len (ns := l.keep) HOk.out.keep
              rw [HM.out] at hkl
              have HKl := Aside0.mk hkl
              clear hkn hkl
              go_wp2_with (first
                | (go_at_call 46; have hln := line_any wKeep A2 n2 l.keep _ (HE0.out.below HI2.out.bel) (HK.out.below HI2.out.bel) HOk.out.keep (by rw [HM.out]; exact hMn) (by decide); rw [HM.out] at hln; refine hln.mono ?_; clear hln; rintro e w7 ⟨rfl, hB⟩; have HI7 := Aside0.mk (HI2.out.below hB); clear hB)
                | (go_at_call 15; refine (writeString_k w0.heap.size b (acc1 ++ T) _ _ HI7.out.bld (by rw [sB_size, List.length_append, List.length_append, lineL_nsF, List.length_append]; have := HTl.out; have := HL1.out; have := HKl.out; have : wKeep.length = 4 := rfl; simp only [List.length_cons, List.length_nil]; omega) HI7.out.bel.size).mono ?_; rintro e w8 ⟨rfl, h1, h2, h3⟩; have HI8 := Aside0.mk (HI7.out.write HNe.out h1 h2 h3); clear h1 h2 h3))
              refine bodyPost_ret (v := .int .i64 0) (by simp [results, Tryz.f17, go_sem]) rfl (LtP.good HR.out ?_ HI8.out.bel HI8.out.kept)
              have := HI8.out.bld
              rw [sB_data, ← HAcc.out] at this
              unfold keepL
              rw [if_neg HKn.out]
              simpa using this
end Go.Proofs.YteglbmindbfkeaaGreatDoor.H
