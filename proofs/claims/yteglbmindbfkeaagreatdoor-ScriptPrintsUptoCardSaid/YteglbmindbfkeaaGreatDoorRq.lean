/- The reference's ParseOp: plain laws, rows of texts, what its two loops keep. -/
import Derived.Test.YteglbmindbfkeaaGreatDoorRp
namespace Go.Proofs.YteglbmindbfkeaaGreatDoor.H
open Go.RowKit Go.Proofs.YteglbmindbfkeaaGreatDoorW.PrintWords
set_option linter.unusedVariables false
set_option linter.unusedSimpArgs false
/-- A row of texts lies in a block. -/
def StrRow (w : World) (g : Nat) (xs : List Bs) : Prop := ∃ cs : Array Value, w.heap[g]? = some (.cells cs 9 (0, 0)) ∧ ∀ (j : Nat) (x : Bs), xs[j]? = some x → cs[j]? = some (Value.string (sB x))
theorem StrRow.cell {w : World} {g : Nat} {xs : List Bs} (h : StrRow w g xs) {j : Nat} {x : Bs} (hx : xs[j]? = some x) : w.cell? ⟨g, j, none⟩ = some (.string (sB x)) := by
  obtain ⟨cs, h1, h2⟩ := h
  exact (blk_cell h1 j).trans (h2 j x hx)
theorem StrRow.lt {w : World} {g : Nat} {xs : List Bs} (h : StrRow w g xs) : g < w.heap.size := by
  obtain ⟨cs, h1, h2⟩ := h
  exact blk_lt h1
theorem StrRow.below {w w' : World} {g : Nat} {xs : List Bs} (h : StrRow w g xs) (hb : Below w.heap.size w w') : StrRow w' g xs := by
  obtain ⟨cs, h1, h2⟩ := h
  exact ⟨cs, blk_below h1 hb, h2⟩
theorem StrRow.alloc {w : World} {g : Nat} {xs : List Bs} (h : StrRow w g xs) (o : Obj) : StrRow (w.alloc o) g xs := by
  obtain ⟨cs, h1, h2⟩ := h
  exact ⟨cs, blk_alloc h1 o, h2⟩
theorem StrRow.far {w : World} {g : Nat} {xs : List Bs} (h : StrRow w g xs) {p : Addr} (hp : g ≠ p.block) (u : Value) : StrRow (w.setCell p u) g xs := by
  obtain ⟨cs, h1, h2⟩ := h
  exact ⟨cs, blk_far h1 hp u, h2⟩
theorem StrRow.ne {w : World} {g b : Nat} {xs : List Bs} {t : OpV} (h : StrRow w g xs) (ho : OpAt w b t) : g ≠ b := by
  obtain ⟨cs, h1, h2⟩ := h
  exact blk_ne h1 ho (by decide)
theorem splR_some (q : Bool) (cur l : Bs) : splR q cur l ≠ [] := by
  suffices ∀ n q cur l, l.length ≤ n → splR q cur l ≠ [] from this l.length q cur l (Nat.le_refl _)
  intro n
  induction n with
  | zero =>
    intro q cur l hl
    obtain rfl : l = [] := List.eq_nil_of_length_eq_zero (by omega)
    simp [splR]
  | succ n ih =>
    intro q cur l hl
    cases l with
    | nil => simp [splR]
    | cons c r =>
      rw [List.length_cons] at hl
      rw [splR_cons]
      split
      · simp
      · split
        · split
          · simp
          · next d r2 => exact ih _ _ _ (by simp at hl; omega)
        · split
          · exact ih _ _ _ (by omega)
          · exact ih _ _ _ (by omega)
theorem splR_len (q : Bool) (cur l : Bs) : ∀ x ∈ splR q cur l, x.length ≤ cur.length + l.length := by
  suffices ∀ n q cur l, l.length ≤ n → ∀ x ∈ splR q cur l, x.length ≤ cur.length + l.length from this l.length q cur l (Nat.le_refl _)
  intro n
  induction n with
  | zero =>
    intro q cur l hl
    obtain rfl : l = [] := List.eq_nil_of_length_eq_zero (by omega)
    intro x hx
    simp [splR] at hx
    subst hx
    simp
  | succ n ih =>
    intro q cur l hl
    cases l with
    | nil =>
      intro x hx
      simp [splR] at hx
      subst hx
      simp
    | cons c r =>
      rw [List.length_cons] at hl
      intro x hx
      rw [splR_cons] at hx
      rw [List.length_cons]
      split at hx
      · rcases List.mem_cons.1 hx with rfl | hx
        · omega
        · have := ih _ _ _ (by omega) x hx
          simp at this
          omega
      · split at hx
        · split at hx
          · simp at hx
            subst hx
            simp
          · next d r2 =>
            have := ih _ _ _ (by simp at hl; omega) x hx
            simp at this ⊢
            omega
        · split at hx
          · have := ih _ _ _ (by omega) x hx
            simp at this
            omega
          · have := ih _ _ _ (by omega) x hx
            simp at this
            omega
theorem splL_len {l x : Bs} (h : x ∈ splL l) : x.length ≤ l.length := by
  have := splR_len false [] l x h
  simpa using this
theorem splR_cnt (q : Bool) (cur l : Bs) : (splR q cur l).length ≤ l.length + 1 := by
  suffices ∀ n q cur l, l.length ≤ n → (splR q cur l).length ≤ l.length + 1 from this l.length q cur l (Nat.le_refl _)
  intro n
  induction n with
  | zero =>
    intro q cur l hl
    obtain rfl : l = [] := List.eq_nil_of_length_eq_zero (by omega)
    simp [splR]
  | succ n ih =>
    intro q cur l hl
    cases l with
    | nil => simp [splR]
    | cons c r =>
      rw [List.length_cons] at hl
      rw [splR_cons, List.length_cons]
      split
      · have := ih false [] r (by omega)
        rw [List.length_cons]
        omega
      · split
        · split
          · simp
          · next d r2 =>
            have := ih true (cur ++ [92, d]) r2 (by simp at hl; omega)
            rw [List.length_cons]
            omega
        · split
          · have := ih (!q) (cur ++ [34]) r (by omega)
            omega
          · have := ih q (cur ++ [c]) r (by omega)
            omega
theorem splL_cnt (l : Bs) : (splL l).length ≤ l.length + 1 := splR_cnt _ _ _
theorem esc_len (b : Bs) : b.length ≤ (b.flatMap escB).length := by
  induction b with
  | nil => simp
  | cons c r ih =>
    rw [List.flatMap_cons, List.length_append, List.length_cons]
    have := (escB_len c).1
    omega
theorem unq_len {w b : Bs} (h : unqL w = some b) : b.length ≤ w.length := by
  rw [← unqL_iff.1 h]
  have := esc_len b
  unfold quoteL
  rw [List.length_cons, List.length_append]
  omega
/-- What split answers: a row of at least one text. -/
theorem rsplit_row (s : ByteArray) (w : World) (hs : s.size ≤ 34359738368) :
    Calls Tryz.prog 31 #[.string s] w fun e w' => ∃ g c, e = .returned (.slice (some ⟨g, 0, none⟩) (splL s.data.toList).length c) ∧ StrRow w' g (splL s.data.toList) ∧ w.heap.size ≤ g ∧ Below w.heap.size w w' := by
  refine (rsplit_any s w hs).mono ?_
  rintro e w' ⟨v, rfl, hO, hB⟩
  rcases hO.2 with ⟨_, h0⟩ | ⟨g, cap, cur, rfl, hb, hg, _, _, _, hc⟩
  · exact absurd (List.eq_nil_of_length_eq_zero h0) (splR_some _ _ _)
  · refine ⟨g, cap, rfl, ⟨cur, hg, fun j x hx => ?_⟩, hb, hB⟩
    have h1 := strsC_get hx
    rw [← hc, List.getElem?_take] at h1
    split at h1
    · simpa using h1
    · cases h1
/-- The kind that the reference finds for a word: the last that bears it. -/
def kdTo (x : Bs) : Nat → Int
  | 0 => 0
  | n + 1 => if x = nameL ((n : Int) + 1) then (n : Int) + 1 else kdTo x n
theorem kdTo_cases (x : Bs) : ∀ n, kdTo x n = 0 ∨ ∃ j : Nat, 1 ≤ j ∧ j ≤ n ∧ x = nameL j ∧ kdTo x n = j := by
  intro n
  induction n with
  | zero => exact .inl rfl
  | succ n ih =>
    rw [kdTo]
    by_cases h : x = nameL ((n : Int) + 1)
    · rw [if_pos h]
      exact .inr ⟨n + 1, by omega, Nat.le_refl _, by exact_mod_cast h, by simp⟩
    · rw [if_neg h]
      rcases ih with h1 | ⟨j, h1, h2, h3⟩
      · exact .inl h1
      · exact .inr ⟨j, h1, by omega, h3⟩
theorem kinds_kd : ∀ e ∈ kinds, kdTo e.2.1 19 = e.1 := by decide +kernel
theorem kdTo_some {x : Bs} {k : Nat} {fs : List Fld} (h : wordOf x = some (k, fs)) : kdTo x 19 = k := kinds_kd _ (wordOf_mem h)
theorem kinds_all : ∀ j : Nat, j < 19 → (kindOf ((j : Int) + 1)).isSome = true := by decide
theorem kdTo_none {x : Bs} (h : wordOf x = none) : kdTo x 19 = 0 := by
  rcases kdTo_cases x 19 with h1 | ⟨j, h1, h2, h3, _⟩
  · exact h1
  · exfalso
    have h4 := kinds_all (j - 1) (by omega)
    rw [show (((j - 1 : Nat) : Int) + 1) = (j : Int) by omega] at h4
    obtain ⟨p, hp⟩ := Option.isSome_iff_exists.1 h4
    obtain ⟨wd, fs⟩ := p
    rw [nameL_some hp] at h3
    obtain ⟨_, _, h5⟩ := kind_iff.1 hp
    rw [← h3, h] at h5
    cases h5
theorem kdTo_nat {x : Bs} : ∀ n, 0 ≤ kdTo x n ∧ kdTo x n ≤ n := by
  intro n
  rcases kdTo_cases x n with h | ⟨j, h1, h2, _, h⟩ <;> omega
/-- What ParseOp keeps: the result's block, the operation, the words' row. -/
structure PzI (w : World) (tb g : Nat) (xs : List Bs) (t : OpV) (wr : World) : Prop where
  res : OpAt wr w.heap.size {}
  op : OpAt wr tb t
  row : StrRow wr g xs
  bel : Below w.heap.size w wr
theorem PzI.below {w : World} {tb g : Nat} {xs : List Bs} {t : OpV} {wr w' : World} (h : PzI w tb g xs t wr) (hb : Below wr.heap.size wr w') : PzI w tb g xs t w' :=
  ⟨h.res.below hb, h.op.below hb, h.row.below hb, below_step h.bel hb⟩
theorem PzI.txt {w : World} {tb g : Nat} {xs : List Bs} {t : OpV} {wr : World} (h : PzI w tb g xs t wr) (h1 : w.heap.size < tb) {f : Fld} (ht : f.isText = true) (b : Bs) : PzI w tb g xs (t.setTxt f b) (wr.setCell ⟨tb, fldO f, none⟩ (.string (sB b))) :=
  ⟨h.res.far (p := ⟨tb, fldO f, none⟩) (Nat.ne_of_lt h1) _, h.op.setTxt ht b, h.row.far (p := ⟨tb, fldO f, none⟩) (h.row.ne h.op) _, h.bel.setCell (p := ⟨tb, fldO f, none⟩) (Nat.le_of_lt h1) _⟩
theorem PzI.num {w : World} {tb g : Nat} {xs : List Bs} {t : OpV} {wr : World} (h : PzI w tb g xs t wr) (h1 : w.heap.size < tb) {f : Fld} (ht : ¬ f.isText = true) (n : Int) : PzI w tb g xs (t.setNum f n) (wr.setCell ⟨tb, fldO f, none⟩ (.int .i64 n)) :=
  ⟨h.res.far (p := ⟨tb, fldO f, none⟩) (Nat.ne_of_lt h1) _, h.op.setNum ht n, h.row.far (p := ⟨tb, fldO f, none⟩) (h.row.ne h.op) _, h.bel.setCell (p := ⟨tb, fldO f, none⟩) (Nat.le_of_lt h1) _⟩
theorem OpAt.setKind {w : World} {b : Nat} {o : OpV} (h : OpAt w b o) (x : Int) : OpAt (w.setCell ⟨b, 0, none⟩ (.int .i64 x)) b { o with kind := x } := blk_set h 0 (.int .i64 x)
theorem PzI.kind {w : World} {tb g : Nat} {xs : List Bs} {t : OpV} {wr : World} (h : PzI w tb g xs t wr) (h1 : w.heap.size < tb) (n : Int) : PzI w tb g xs { t with kind := n } (wr.setCell ⟨tb, 0, none⟩ (.int .i64 n)) :=
  ⟨h.res.far (p := ⟨tb, 0, none⟩) (Nat.ne_of_lt h1) _, h.op.setKind n, h.row.far (p := ⟨tb, 0, none⟩) (h.row.ne h.op) _, h.bel.setCell (p := ⟨tb, 0, none⟩) (Nat.le_of_lt h1) _⟩
/-- How far the words have been read; the operation stays small. -/
structure RdT (K : Nat) (kd : Int) (ws : List Bs) (fs : List Fld) (t0 t : OpV) (i : Int) : Prop where
  at_ : readR (fs.drop i.toNat) (ws.drop i.toNat) t = readR fs ws t0
  ok : OpOk K t
  kd : t.kind = kd
theorem readR_cons {f : Fld} {fs : List Fld} {w : Bs} {ws : List Bs} {t : OpV} : readR (f :: fs) (w :: ws) t = if f.isText then (match unqL w with
    | some b => readR fs ws (t.setTxt f b)
    | none => none) else (match refN w with
    | some n => readR fs ws (t.setNum f n)
    | none => none) := by rw [readR]; rfl
theorem drop_cons {α : Type} {l : List α} {i : Nat} {x : α} (h : l[i]? = some x) : l.drop i = x :: l.drop (i + 1) := by
  obtain ⟨h1, h2⟩ := List.getElem?_eq_some_iff.1 h
  rw [List.drop_eq_getElem_cons h1, h2]
theorem OpOk.setTxt {K : Nat} {t : OpV} (h : OpOk K t) {f : Fld} {b : Bs} (hb : b.length ≤ K) : OpOk K (t.setTxt f b) := by
  obtain ⟨h1, h2, h3⟩ := h
  refine ⟨?_, fun g => ?_, fun g => ?_⟩
  · cases f <;> exact h1
  · have := h2 g
    cases f <;> cases g <;> exact this
  · have := h3 g
    cases f <;> cases g <;> first | exact this | exact hb
theorem OpOk.setNum {K : Nat} {t : OpV} (h : OpOk K t) {f : Fld} {n : Int} (h0 : -9223372036854775808 ≤ n) (hn : n ≤ 9223372036854775807) : OpOk K (t.setNum f n) := by
  obtain ⟨h1, h2, h3⟩ := h
  refine ⟨?_, fun g => ?_, fun g => ?_⟩
  · cases f <;> exact h1
  · have := h2 g
    cases f <;> cases g <;> first | exact this | exact ⟨h0, hn⟩
  · have := h3 g
    cases f <;> cases g <;> exact this
theorem RdT.txt {K : Nat} {kd : Int} {ws : List Bs} {fs : List Fld} {t0 t : OpV} {i : Int} (h : RdT K kd ws fs t0 t i) (hi : 0 ≤ i) {f : Fld} {x b : Bs} (hf : fs[i.toNat]? = some f) (hx : ws[i.toNat]? = some x) (ht : f.isText = true) (hb : unqL x = some b) (hl : x.length ≤ K) : RdT K kd ws fs t0 (t.setTxt f b) (i + 1) := by
  have e : (i + 1).toNat = i.toNat + 1 := by omega
  have h1 := h.at_
  rw [drop_cons hf, drop_cons hx, readR_cons, if_pos ht, hb] at h1
  refine ⟨by rw [e]; exact h1, h.ok.setTxt (Nat.le_trans (unq_len hb) hl), ?_⟩
  rw [← h.kd]
  cases f <;> rfl
theorem RdT.num {K : Nat} {kd : Int} {ws : List Bs} {fs : List Fld} {t0 t : OpV} {i : Int} (h : RdT K kd ws fs t0 t i) (hi : 0 ≤ i) {f : Fld} {x : Bs} {n : Int} (hf : fs[i.toNat]? = some f) (hx : ws[i.toNat]? = some x) (ht : ¬ f.isText = true) (hn : refN x = some n) : RdT K kd ws fs t0 (t.setNum f n) (i + 1) := by
  have e : (i + 1).toNat = i.toNat + 1 := by omega
  have h1 := h.at_
  rw [drop_cons hf, drop_cons hx, readR_cons, if_neg ht, hn] at h1
  have h2 := (refN_iff.1 hn).2
  unfold fewD at h2
  refine ⟨by rw [e]; exact h1, h.ok.setNum (by omega) (by omega), ?_⟩
  rw [← h.kd]
  cases f <;> rfl
theorem RdT.badT {K : Nat} {kd : Int} {ws : List Bs} {fs : List Fld} {t0 t : OpV} {i : Int} (h : RdT K kd ws fs t0 t i) {f : Fld} {x : Bs} (hf : fs[i.toNat]? = some f) (hx : ws[i.toNat]? = some x) (ht : f.isText = true) (hb : unqL x = none) : readR fs ws t0 = none := by
  have h1 := h.at_
  rw [drop_cons hf, drop_cons hx, readR_cons, if_pos ht, hb] at h1
  exact h1.symm
theorem RdT.badN {K : Nat} {kd : Int} {ws : List Bs} {fs : List Fld} {t0 t : OpV} {i : Int} (h : RdT K kd ws fs t0 t i) {f : Fld} {x : Bs} (hf : fs[i.toNat]? = some f) (hx : ws[i.toNat]? = some x) (ht : ¬ f.isText = true) (hb : refN x = none) : readR fs ws t0 = none := by
  have h1 := h.at_
  rw [drop_cons hf, drop_cons hx, readR_cons, if_neg ht, hb] at h1
  exact h1.symm
theorem RdT.last {K : Nat} {kd : Int} {ws : List Bs} {fs : List Fld} {t0 t : OpV} {i : Int} (h : RdT K kd ws fs t0 t i) (hi : fs.length ≤ i.toNat) : readR fs ws t0 = some t := by
  have h1 := h.at_
  rw [List.drop_eq_nil_of_le hi] at h1
  rw [← h1]
  cases ws.drop i.toNat <;> rfl
theorem RdN.some {m : Int} {e : Ending} (h : RdN (some m) e) : e = .returned (.tuple #[.int .i64 m, .bool true]) := by
  obtain ⟨n, ok, rfl, h0, h1, h2, h3⟩ := h
  cases ok with
  | true => rw [Option.some.inj (h2 rfl)]
  | false => cases h3 rfl
theorem RdN.none {e : Ending} (h : RdN none e) : ∃ n : Int, e = .returned (.tuple #[.int .i64 n, .bool false]) := by
  obtain ⟨n, ok, rfl, h0, h1, h2, h3⟩ := h
  cases ok with
  | true => cases h2 rfl
  | false => exact ⟨n, rfl⟩
theorem unqV_some {y b : Bs} (h : unqL y = some b) : unqV (sB y) = .tuple #[.string (sB b), .bool true] := by unfold unqV; rw [sB_data, h]
theorem unqV_none {y : Bs} (h : unqL y = none) : ∃ b, unqV (sB y) = .tuple #[.string b, .bool false] := by unfold unqV; rw [sB_data, h]; exact ⟨_, rfl⟩
theorem unqV_any (y : Bs) : ∃ b ok, unqV (sB y) = .tuple #[.string b, .bool ok] := by
  cases h : unqL y with
  | some b => exact ⟨_, _, unqV_some h⟩
  | none =>
    obtain ⟨b, hb⟩ := unqV_none h
    exact ⟨_, _, hb⟩
theorem printV_some {t : OpV} {q : Bs} (h : printL t = some q) : printV t = .tuple #[.string (sB q), .int .i64 0] := by unfold printV; rw [h]
theorem printV_none {t : OpV} (h : printL t = none) : printV t = .tuple #[.string ⟨#[]⟩, .int .i64 260] := by unfold printV; rw [h]
theorem ok_kind {K k : Nat} (h : k ≤ 19) : OpOk K { kind := k } := by
  refine ⟨by simp only; omega, fun f => ?_, fun f => ?_⟩
  · cases f <;> exact ⟨by simp [OpV.num], by simp [OpV.num]⟩
  · cases f <;> exact Nat.zero_le _
end Go.Proofs.YteglbmindbfkeaaGreatDoor.H
