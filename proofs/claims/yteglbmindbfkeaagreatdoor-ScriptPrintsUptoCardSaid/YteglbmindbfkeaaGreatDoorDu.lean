/- What the two parsers bear from line to line, plain; and the shape's box. -/
import Derived.Test.YteglbmindbfkeaaGreatDoorDt
namespace Go.Proofs.YteglbmindbfkeaaGreatDoor.H
open Go.RowKit Go.Proofs.YteglbmindbfkeaaGreatDoorW.PrintWords
set_option linter.unusedVariables false
set_option linter.unusedSimpArgs false
theorem fewD_I64 {n : Int} (h : fewD n) : I64 n := by unfold fewD at h; unfold I64; omega
theorem opsL_bound : ∀ {ops : List OpV} {t : Bs}, opsL ops = some t → ops.length ≤ t.length ∧ ∀ o ∈ ops, OpOk t.length o := by
  intro ops
  induction ops with
  | nil => intro t h; cases h; exact ⟨Nat.le_refl _, fun o ho => by simp at ho⟩
  | cons o r ih =>
    intro t h
    simp only [opsL] at h
    split at h
    · next s hs =>
      split at h
      · next u hu =>
        cases h
        obtain ⟨h1, h2⟩ := ih hu
        rw [List.length_append, List.length_cons, List.length_cons]
        refine ⟨by omega, fun x hx => ?_⟩
        rcases List.mem_cons.1 hx with rfl | hx
        · exact (printL_ok hs).mono (by omega)
        · exact (h2 x hx).mono (by omega)
      · cases h
    · cases h
theorem lineL_bound (w : Bs) (ns : List Int) : ns.length ≤ (lineL w ns).length := by
  unfold lineL
  rw [List.length_append]
  have : ns.length ≤ (ns.flatMap fun n => 32 :: Lib.itoa n).length := by
    induction ns with
    | nil => simp
    | cons n r ih => rw [List.flatMap_cons, List.length_append, List.length_cons, List.length_cons]; omega
  omega
theorem lifeL_bound {l : LifeV} {t : Bs} (h : lifeL l = some t) (ht : t.length ≤ 1048576) : LfOk l ∧ 1 ≤ t.length := by
  unfold lifeL at h
  split at h
  · next hf =>
    split at h
    · next u hu =>
      split at h
      · next hk =>
        cases h
        obtain ⟨h1, h2⟩ := opsL_bound hu
        rw [List.length_append, List.length_cons, List.length_append] at ht ⊢
        have h3 : l.keep.length ≤ (keepL l.keep).length + 0 := by
          unfold keepL
          split
          · next e => rw [e]; simp
          · rw [List.length_append]; have := lineL_bound wKeep l.keep; omega
        exact ⟨⟨fun o ho => (h2 o ho).mono (by omega), by omega, fewD_I64 hf, fun k hk2 => fewD_I64 (hk k hk2), by omega⟩, by omega⟩
      · cases h
    · cases h
  · cases h
theorem livesL_bound : ∀ {ls : List LifeV} {T : Bs}, livesL ls = some T → T.length ≤ 1048576 → ls.length ≤ T.length ∧ ∀ l ∈ ls, LfOk l := by
  intro ls
  induction ls with
  | nil => intro T h _; cases h; exact ⟨Nat.le_refl _, fun l hl => by simp at hl⟩
  | cons l r ih =>
    intro T h hT
    simp only [livesL] at h
    split at h
    · next s hs =>
      split at h
      · next u hu =>
        cases h
        rw [List.length_append] at hT ⊢
        obtain ⟨h1, h2⟩ := ih hu (by omega)
        obtain ⟨h3, h4⟩ := lifeL_bound hs (by omega)
        refine ⟨by rw [List.length_cons]; omega, fun x hx => ?_⟩
        rcases List.mem_cons.1 hx with rfl | hx
        · exact h3
        · exact h2 x hx
      · cases h
    · cases h
theorem livesL_ok {ls : List LifeV} {T : Bs} (h : livesL ls = some T) (hT : T.length ≤ 1048576) : LvOk ls := by
  obtain ⟨h1, h2⟩ := livesL_bound h hT
  exact ⟨by omega, h2⟩
theorem headG_ok {n : Nat} {s s' : ShapeV} {ws : List Bs} (h : headG n s ws = some s') (hs : ShOk s) : ShOk s' := by
  unfold headG at h
  split at h
  · next w a b c d =>
    split at h
    · split at h
      · next x y z u hn =>
        cases h
        have hf := (numsL_iff.1 hn).2
        exact { hs with sector := fewD_I64 (hf x (by simp)), sectors := fewD_I64 (hf y (by simp)), journal := fewD_I64 (hf z (by simp)), pack := fewD_I64 (hf u (by simp)) }
      · cases h
    · cases h
  · next w a b c d =>
    split at h
    · split at h
      · next x y z u hn hq =>
        cases h
        have hf := (numsL_iff.1 hn).2
        exact { hs with min := fewD_I64 (hf x (by simp)), normal := fewD_I64 (hf y (by simp)), max := fewD_I64 (hf z (by simp)), seed := (seedL_iff.1 hq).2 }
      · cases h
    · cases h
  · next w a b =>
    split at h
    · split at h
      · next x hn =>
        cases h
        exact { hs with bits := fewD_I64 (numL_iff.1 hn).2 }
      · cases h
    · cases h
  · cases h
theorem shOk_zero : ShOk {} := ⟨by unfold I64; decide, by unfold I64; decide, by unfold I64; decide, by unfold I64; decide, by unfold I64; decide, by unfold I64; decide, by unfold I64; decide, by decide, by unfold I64; decide⟩
/-- Where the parser stands, n bytes behind the start. -/
structure Pl (st : St) (n : Nat) : Prop where
  num : st.n ≤ n
  shape : ShOk st.s
  early : st.n < 3 → st.ls = [] ∧ st.kept = false
  inv : ∃ T : Bs, Inv st T ∧ T.length ≤ n
theorem Pl.zero (st : St) (h : st = {}) : Pl st 0 := by
  subst h
  exact ⟨Nat.le_refl _, shOk_zero, fun _ => ⟨rfl, rfl⟩, [], ⟨rfl, fun _ a l h => by cases a <;> cases h⟩, Nat.le_refl _⟩
theorem Pl.lives {st : St} {n : Nat} (h : Pl st n) (hn : n ≤ 1048576) : LvOk st.ls := by
  obtain ⟨T, hi, hT⟩ := h.inv
  exact livesL_ok hi.1 (by omega)
theorem Pl.head {st : St} {n : Nat} {s : ShapeV} {line : Bs} (h : Pl st n) (h3 : st.n < 3) (hs : headG st.n st.s (splB [] line) = some s) (m : Nat) (hm : n + 1 ≤ m) : Pl { st with s := s, n := st.n + 1 } m := by
  obtain ⟨T, hi, hT⟩ := h.inv
  have hnum := h.num
  exact ⟨by show st.n + 1 ≤ m; omega, headG_ok hs h.shape, fun _ => h.early h3, T, hi, by omega⟩
theorem Pl.body {st : St} {n : Nat} {ls : List LifeV} {k : Bool} {line : Bs} (h : Pl st n) (h3 : ¬ st.n < 3) (hs : bodyP st.ls st.kept line = some (ls, k)) (m : Nat) (hm : n + line.length + 1 ≤ m) : Pl { st with ls := ls, kept := k, n := st.n + 1 } m := by
  obtain ⟨T, hi, hT⟩ := h.inv
  have hnum := h.num
  have hst : stepL st line = some { st with ls := ls, kept := k, n := st.n + 1 } := by unfold stepL; rw [if_neg h3, hs]
  obtain ⟨h1, h2, h4⟩ := step_inv h3 hi hst
  exact ⟨by show st.n + 1 ≤ m; omega, h.shape, fun h5 => absurd h5 h4, _, h1, by rw [List.length_append, List.length_append, List.length_singleton]; omega⟩
theorem stepL_head {st : St} {line : Bs} (h3 : st.n < 3) : stepL st line = (match headG st.n st.s (splB [] line) with
    | some s => some { st with s := s, n := st.n + 1 }
    | none => none) := by
  unfold stepL
  rw [if_pos h3]
  cases headG st.n st.s (splB [] line) <;> rfl
theorem stepL_body {st : St} {line : Bs} (h3 : ¬ st.n < 3) : stepL st line = (match bodyP st.ls st.kept line with
    | some (ls, k) => some { st with ls := ls, kept := k, n := st.n + 1 }
    | none => none) := by
  unfold stepL
  rw [if_neg h3]
  cases bodyP st.ls st.kept line <;> rfl
theorem runL_cutn {st : St} {rest : Bs} (h0 : rest ≠ []) (hc : cutN rest = none) : runL st rest = .error st.n := by
  rw [runL, if_neg h0]
  split
  · next h => rw [hc] at h; cases h
  · rfl
theorem runL_bad {st : St} {rest line r : Bs} (hc : cutN rest = some (line, r)) (hs : stepL st line = none) : runL st rest = .error st.n := by
  rw [runL, if_neg (fun e => by rw [e] at hc; cases hc)]
  split
  · next l2 r2 h =>
    rw [hc] at h
    cases h
    rw [hs]
  · rfl
theorem runL_good {st st1 : St} {rest line r : Bs} (hc : cutN rest = some (line, r)) (hs : stepL st line = some st1) : runL st rest = runL st1 r := by
  obtain ⟨e, hn⟩ := cutN_some hc
  rw [e]
  exact runL_line r hn hs
theorem runL_nil (st : St) : runL st [] = .ok st := by rw [runL, if_pos rfl]
theorem parseT_long {text : Bs} (h : 1048576 < text.length) : parseT text = .error (3, 0) := if_pos h
theorem parseT_err {text : Bs} {n : Nat} (h : ¬ 1048576 < text.length) (hr : runL {} text = .error n) : parseT text = .error (260, n) := by unfold parseT; rw [if_neg h, hr]
theorem parseT_end {text : Bs} {st : St} (h : ¬ 1048576 < text.length) (hr : runL {} text = .ok st) : parseT text = if st.n < 3 then .error (260, st.n) else if checkL st.s = false then .error (41, 0) else if fewL st.ls = false then .error (3, 0) else .ok (st.s, st.ls) := by unfold parseT; rw [if_neg h, hr]
/-- A shape's box. -/
def ShAt (w : World) (b : Nat) (s : ShapeV) : Prop := w.heap[b]? = some (.cells (shC s) 26 (0, 0))
def stS (w : World) (b : Nat) (t : ShapeV) : World := (((((((((w.setCell ⟨b, 0, none⟩ (.int .i64 t.sector)).setCell ⟨b, 1, none⟩ (.int .i64 t.sectors)).setCell ⟨b, 2, none⟩ (.int .i64 t.journal)).setCell ⟨b, 3, none⟩ (.int .i64 t.pack)).setCell ⟨b, 4, none⟩ (.int .i64 t.min)).setCell ⟨b, 5, none⟩ (.int .i64 t.normal)).setCell ⟨b, 6, none⟩ (.int .i64 t.max)).setCell ⟨b, 7, none⟩ (.int .u64 (t.seed : Int))).setCell ⟨b, 8, none⟩ (.int .i64 t.bits)).setCell ⟨b, 9, none⟩ (.bool t.dedup)
theorem arr10 (s t : ShapeV) : ((((((((((shC s).setIfInBounds 0 (.int .i64 t.sector)).setIfInBounds 1 (.int .i64 t.sectors)).setIfInBounds 2 (.int .i64 t.journal)).setIfInBounds 3 (.int .i64 t.pack)).setIfInBounds 4 (.int .i64 t.min)).setIfInBounds 5 (.int .i64 t.normal)).setIfInBounds 6 (.int .i64 t.max)).setIfInBounds 7 (.int .u64 (t.seed : Int))).setIfInBounds 8 (.int .i64 t.bits)).setIfInBounds 9 (.bool t.dedup) = shC t := by
  unfold shC
  simp
theorem ShAt.store {w : World} {b : Nat} {s : ShapeV} (h : ShAt w b s) (t : ShapeV) : ShAt (stS w b t) b t := by
  unfold ShAt stS
  rw [← arr10 s t]
  exact blk_set (blk_set (blk_set (blk_set (blk_set (blk_set (blk_set (blk_set (blk_set (blk_set h 0 _) 1 _) 2 _) 3 _) 4 _) 5 _) 6 _) 7 _) 8 _) 9 _
theorem below_stS {w0 w : World} {n b : Nat} (h : Below n w0 w) (hb : n ≤ b) (t : ShapeV) : Below n w0 (stS w b t) :=
  below_set (below_set (below_set (below_set (below_set (below_set (below_set (below_set (below_set (below_set h hb _) hb _) hb _) hb _) hb _) hb _) hb _) hb _) hb _) hb _
theorem ShAt.cells {w : World} {b : Nat} {s : ShapeV} (h : ShAt w b s) : w.cell? ⟨b, 0, none⟩ = some (.int .i64 s.sector) ∧ w.cell? ⟨b, 1, none⟩ = some (.int .i64 s.sectors) ∧ w.cell? ⟨b, 2, none⟩ = some (.int .i64 s.journal) ∧ w.cell? ⟨b, 3, none⟩ = some (.int .i64 s.pack) ∧ w.cell? ⟨b, 4, none⟩ = some (.int .i64 s.min) ∧ w.cell? ⟨b, 5, none⟩ = some (.int .i64 s.normal) ∧ w.cell? ⟨b, 6, none⟩ = some (.int .i64 s.max) ∧ w.cell? ⟨b, 7, none⟩ = some (.int .u64 (s.seed : Int)) ∧ w.cell? ⟨b, 8, none⟩ = some (.int .i64 s.bits) ∧ w.cell? ⟨b, 9, none⟩ = some (.bool s.dedup) :=
  ⟨blk_cell h 0, blk_cell h 1, blk_cell h 2, blk_cell h 3, blk_cell h 4, blk_cell h 5, blk_cell h 6, blk_cell h 7, blk_cell h 8, blk_cell h 9⟩
theorem ShAt.frozens {w : World} {b : Nat} {s : ShapeV} (h : ShAt w b s) : w.frozen? ⟨b, 0, none⟩ = false ∧ w.frozen? ⟨b, 1, none⟩ = false ∧ w.frozen? ⟨b, 2, none⟩ = false ∧ w.frozen? ⟨b, 3, none⟩ = false ∧ w.frozen? ⟨b, 4, none⟩ = false ∧ w.frozen? ⟨b, 5, none⟩ = false ∧ w.frozen? ⟨b, 6, none⟩ = false ∧ w.frozen? ⟨b, 7, none⟩ = false ∧ w.frozen? ⟨b, 8, none⟩ = false ∧ w.frozen? ⟨b, 9, none⟩ = false :=
  ⟨blk_frozen h 0, blk_frozen h 1, blk_frozen h 2, blk_frozen h 3, blk_frozen h 4, blk_frozen h 5, blk_frozen h 6, blk_frozen h 7, blk_frozen h 8, blk_frozen h 9⟩
theorem ShAt.below {w w' : World} {b : Nat} {s : ShapeV} (h : ShAt w b s) (hb : Below w.heap.size w w') : ShAt w' b s := (hb.block b (blk_lt h)).trans h
theorem ShAt.far {w : World} {b : Nat} {s : ShapeV} (h : ShAt w b s) {p : Addr} (hp : b ≠ p.block) (u : Value) : ShAt (w.setCell p u) b s := blk_far h hp u
theorem ShAt.grown {w w' : World} {b c : Nat} {s : ShapeV} (h : ShAt w b s) (hg : w.grownBy w' (some c)) (hne : b ≠ c) : ShAt w' b s := (hg.block b (blk_lt h) (fun e => hne (Option.some.inj e))).trans h
theorem LvRow.grown {W W' : World} {B b : Nat} {v : Value} {xs : List Lv3} {cs : Array Value} {fz : Nat × Nat} {t : TypeId} (h : LvRow W B v xs) (hb : W.heap[b]? = some (.cells cs t fz)) (ht1 : 56 ≠ t) (ht2 : 38 ≠ t) (ht3 : 3 ≠ t) (hg : W.grownBy W' (some b)) : LvRow W' B v xs :=
  ⟨h.row.kept hg (.inr (own_ne_kind h.row hb ht1).symm), fun x hx => ⟨(h.each x hx).ops.kept hg (.inr (own_ne_kind (h.each x hx).ops hb ht2).symm), (h.each x hx).keep.kept hg (.inr (own_ne_kind (h.each x hx).keep hb ht3).symm)⟩, h.apart⟩
/-- What Parse answers. -/
def PaP (R : Except (Int × Nat) (ShapeV × List LifeV)) (w : World) (e : Ending) (w' : World) : Prop :=
  (match R with
    | .ok (s, ls) => ∃ (A : Option Addr) (c : Nat) (xs : List Lv3), e = .returned (.tuple #[shV s, .slice A xs.length c, .int .i64 0, .int .i64 0]) ∧ xs.map (·.1) = ls ∧ LvRow w' w.heap.size (.slice A xs.length c) xs
    | .error (k, n) => e = .returned (.tuple #[shV {}, .slice none 0 0, .int .i64 k, .int .i64 (n : Int)])) ∧ Below w.heap.size w w'
theorem PaP.bad {R : Except (Int × Nat) (ShapeV × List LifeV)} {k : Int} {n : Nat} {w w' : World} {m : Int} (hR : R = .error (k, n)) (hm : m = (n : Int)) (hg : Below w.heap.size w w') : PaP R w (.returned (.tuple #[shV {}, .slice none 0 0, .int .i64 k, .int .i64 m])) w' := by
  subst hR
  subst hm
  exact ⟨rfl, hg⟩
theorem PaP.good {R : Except (Int × Nat) (ShapeV × List LifeV)} {s : ShapeV} {A : Option Addr} {c N : Nat} {xs : List Lv3} {w w' : World} (hR : R = .ok (s, xs.map (·.1))) (hN : xs.length = N) (hL : LvRow w' w.heap.size (.slice A N c) xs) (hg : Below w.heap.size w w') : PaP R w (.returned (.tuple #[shV s, .slice A N c, .int .i64 0, .int .i64 0])) w' := by
  subst hR
  subst hN
  exact ⟨⟨A, c, xs, rfl, rfl, hL⟩, hg⟩
/-- One of the first three lines, by the program. -/
theorem head_any (b : Nat) (s : ShapeV) (v : Value) (n : Nat) (k : Bool) (A : Option Addr) (c : Nat) (ws : List Bs) (w0 w : World) (hn3 : n < 3) (hE0 : Env w0) (hB0 : Below w0.heap.size w0 w) (hb0 : w0.heap.size ≤ b) (hb : w.heap[b]? = some (.cells (rdC s v n k) 63 (0, 0)))
    (hA : ∀ bb o, A = some ⟨bb, o, none⟩ → bb ≠ b) (hS : SR w A ws) (hc : ws.length ≤ c) (h0 : 1 ≤ ws.length) (hn : ws.length ≤ 1048577) (hw : ∀ x ∈ ws, x.length ≤ 1048576) :
    Calls Tryz.prog 27 #[.pointer (some ⟨b, 0, none⟩), .slice A ws.length c] w fun e w' => HdP (headG n s ws) b v n k w e w' := by
  match n, hn3 with
  | 0, _ => exact head0_any b s v k A c ws w (hE0.below hB0) hb hS hc h0 hn hw
  | 1, _ => exact head1_any b s v k A c ws w0 w hE0 hB0 hb0 hb hA hS hc h0 hn hw
  | 2, _ => exact head2_any b s v k A c ws w (hE0.below hB0) hb hA hS hc h0 hn hw
/-- One of the first three lines, by the reference. -/
theorem shape_any (b : Nat) (s : ShapeV) (n : Nat) (A : Option Addr) (c : Nat) (ws : List Bs) (w : World) (hn3 : n < 3) (hb : ShAt w b s)
    (hA : ∀ bb o, A = some ⟨bb, o, none⟩ → bb ≠ b) (hS : SR w A ws) (hc : ws.length ≤ c) (hn : ws.length ≤ 1048577) (hw : ∀ x ∈ ws, x.length ≤ 1048576) :
    Calls Tryz.prog 30 #[.pointer (some ⟨b, 0, none⟩), .int .i64 (n : Int), .slice A ws.length c] w fun e w' => SlP (headG n s ws) b w e w' := by
  match n, hn3 with
  | 0, _ => exact shape0_any b s A c ws w hb hS hc hn hw
  | 1, _ => exact shape1_any b s A c ws w hb hS hc hn hw
  | 2, _ => exact shape2_any b s A c ws w hb hA hS hc hn hw
end Go.Proofs.YteglbmindbfkeaaGreatDoor.H
