/- Operations as values; the program's PrintOp as a contract. -/
import Derived.Test.YteglbmindbfkeaaGreatDoorFt
import Derived.Test.YteglbmindbfkeaaGreatDoorWEqStruct
import Derived.Lib.OthersKept
namespace Go.Proofs.YteglbmindbfkeaaGreatDoor.H
open Go.RowKit Go.Proofs.YteglbmindbfkeaaGreatDoorW.PrintWords
set_option linter.unusedVariables false
set_option linter.unusedSimpArgs false

/-- An operation's cells. -/
def opC (o : OpV) : Array Value := #[.int .i64 o.kind, .string (sB o.path), .string (sB o.other), .int .i64 o.handle, .int .i64 o.offset, .int .i64 o.n, .int .i64 o.flags, .string (sB o.data)]
def opV (o : OpV) : Value := .agg (opC o)
/-- The numbers are ints, the texts no longer than k. -/
structure OpOk (k : Nat) (o : OpV) : Prop where
  kind : -9223372036854775808 ≤ o.kind ∧ o.kind ≤ 9223372036854775807
  num : ∀ f : Fld, -9223372036854775808 ≤ o.num f ∧ o.num f ≤ 9223372036854775807
  txt : ∀ f : Fld, (o.txt f).length ≤ k
theorem eq_toList (a b : Bs) : ((sB a).toList == (sB b).toList) = decide (a = b) := by
  rw [Lib.toList_data, Lib.toList_data, sB_data, sB_data]
  by_cases h : a = b <;> simp [h]
theorem eq_int (a b : Int) : (a == b) = decide (a = b) := by by_cases h : a = b <;> simp [h]
set_option maxRecDepth 200000 in
theorem eqOp_in (d : Nat) (w : World) (t o : OpV) : (Op.equalIn (d + 2) 38 (opV t) (opV o)).run Tryz.prog w = .ok (decide (t = o)) w := by
  have h : (Op.equalIn (d + 2) 38 (opV t) (opV o)).run Tryz.prog w = .ok (t.kind == o.kind && ((sB t.path).toList == (sB o.path).toList && ((sB t.other).toList == (sB o.other).toList && (t.handle == o.handle && (t.offset == o.offset && (t.n == o.n && (t.flags == o.flags && ((sB t.data).toList == (sB o.data).toList)))))))) w := by
    unfold opV opC
    refine eqA_of Tryz.underlying38 (by kernel_rfl) ?_
    refine eqf_cons (by rfl) (by go_simp; rfl) (by go_simp; rfl) (by go_simp) ?_
    refine eqf_cons (by rfl) (by go_simp; rfl) (by go_simp; rfl) (by go_simp) ?_
    refine eqf_cons (by rfl) (by go_simp; rfl) (by go_simp; rfl) (by go_simp) ?_
    refine eqf_cons (by rfl) (by go_simp; rfl) (by go_simp; rfl) (by go_simp) ?_
    refine eqf_cons (by rfl) (by go_simp; rfl) (by go_simp; rfl) (by go_simp) ?_
    refine eqf_cons (by rfl) (by go_simp; rfl) (by go_simp; rfl) (by go_simp) ?_
    refine eqf_cons (by rfl) (by go_simp; rfl) (by go_simp; rfl) (by go_simp) ?_
    exact eqf_last (by rfl) (by go_simp; rfl) (by go_simp; rfl) (by go_simp)
  rw [h]
  congr 1
  rw [eq_toList, eq_toList, eq_toList, eq_int, eq_int, eq_int, eq_int, eq_int]
  obtain ⟨a1, a2, a3, a4, a5, a6, a7, a8⟩ := t
  obtain ⟨b1, b2, b3, b4, b5, b6, b7, b8⟩ := o
  simp only [OpV.mk.injEq, Bool.decide_and]
set_option maxRecDepth 200000 in
theorem eqOp (w : World) (t o : OpV) : (binOp .eql 38 (opV t) (opV o)).run Tryz.prog w = .ok (.bool (decide (t = o))) w := by
  have h : (Op.equalIn 10000 38 (.agg (opC t)) (.agg (opC o))).run Tryz.prog w = .ok (decide (t = o)) w := eqOp_in 9998 w t o
  unfold opV
  simp only [binOp, Op.equal, Op.maxDepth, Sem.run_bind, h]
  rfl
set_option maxRecDepth 200000 in
theorem neOp (w : World) (t o : OpV) : (binOp .neq 38 (opV t) (opV o)).run Tryz.prog w = .ok (.bool (!decide (t = o))) w := by
  have h : (Op.equalIn 10000 38 (.agg (opC t)) (.agg (opC o))).run Tryz.prog w = .ok (decide (t = o)) w := eqOp_in 9998 w t o
  unfold opV
  simp only [binOp, Op.equal, Op.maxDepth, Sem.run_bind, h]
  rfl
/-- An operation lies in a block. -/
def OpAt (w : World) (b : Nat) (o : OpV) : Prop := w.heap[b]? = some (.cells (opC o) 38 (0, 0))
theorem OpAt.txt {w : World} {b : Nat} {o : OpV} (h : OpAt w b o) {f : Fld} (hf : f.isText = true) : w.cell? ⟨b, fldO f, none⟩ = some (.string (sB (o.txt f))) := by
  rw [blk_cell h]
  cases f <;> first | rfl | cases hf
theorem OpAt.num {w : World} {b : Nat} {o : OpV} (h : OpAt w b o) {f : Fld} (hf : ¬ f.isText = true) : w.cell? ⟨b, fldO f, none⟩ = some (.int .i64 (o.num f)) := by
  rw [blk_cell h]
  cases f <;> first | rfl | exact absurd rfl hf
theorem OpAt.setTxt {w : World} {b : Nat} {o : OpV} (h : OpAt w b o) {f : Fld} (hf : f.isText = true) (x : Bs) : OpAt (w.setCell ⟨b, fldO f, none⟩ (.string (sB x))) b (o.setTxt f x) := by
  have := blk_set h (fldO f) (.string (sB x))
  refine this.trans ?_
  cases f <;> first | rfl | cases hf
theorem OpAt.setNum {w : World} {b : Nat} {o : OpV} (h : OpAt w b o) {f : Fld} (hf : ¬ f.isText = true) (x : Int) : OpAt (w.setCell ⟨b, fldO f, none⟩ (.int .i64 x)) b (o.setNum f x) := by
  have := blk_set h (fldO f) (.int .i64 x)
  refine this.trans ?_
  cases f <;> first | rfl | exact absurd rfl hf
theorem OpAt.below {w w' : World} {b : Nat} {o : OpV} (h : OpAt w b o) (hb : Below w.heap.size w w') : OpAt w' b o := (hb.block b (blk_lt h)).trans h
theorem OpAt.far {w : World} {b : Nat} {o : OpV} (h : OpAt w b o) {p : Addr} (hp : b ≠ p.block) (u : Value) : OpAt (w.setCell p u) b o := blk_far h hp u
theorem OpAt.frozen {w : World} {b : Nat} {o : OpV} (h : OpAt w b o) (i : Nat) : w.frozen? ⟨b, i, none⟩ = false := blk_frozen h i
theorem OpAt.lt {w : World} {b : Nat} {o : OpV} (h : OpAt w b o) : b < w.heap.size := blk_lt h
/-- What PrintOp answers. -/
def printV (o : OpV) : Value := match printL o with
  | some s => .tuple #[.string (sB s), .int .i64 0]
  | none => .tuple #[.string ⟨#[]⟩, .int .i64 260]
theorem copyAll_take {o : OpV} {fs : List Fld} {i : Nat} {f : Fld} {t : OpV} (h : fs[i]? = some f) : copyAll o (fs.take (i + 1)) t = (copyAll o (fs.take i) t).copy f o := by
  unfold copyAll
  rw [List.take_add_one, h, Option.toList, List.foldl_append]
  rfl
theorem body_take {o : OpV} {fs : List Fld} {i : Nat} {f : Fld} (h : fs[i]? = some f) : body o (fs.take (i + 1)) = body o (fs.take i) ++ 32 :: render o f := by
  unfold body
  rw [List.take_add_one, h, Option.toList, List.flatMap_append]
  simp
theorem few_take {o : OpV} {fs : List Fld} {i : Nat} {f : Fld} (h : fs[i]? = some f) : fewF o (fs.take (i + 1)) = (fewF o (fs.take i) && (f.isText || decide (fewD (o.num f)))) := by
  unfold fewF
  rw [List.take_add_one, h, Option.toList, List.all_append]
  simp
theorem few_bad {o : OpV} {fs : List Fld} {f : Fld} (hf : f ∈ fs) (ht : ¬ f.isText = true) (hn : ¬ fewD (o.num f)) : ¬ fewF o fs = true := by
  intro h
  unfold fewF at h
  rw [List.all_eq_true] at h
  have := h f hf
  simp [ht, hn] at this
theorem fld_ascii (f : Fld) : (fldB f).toNat < 128 := by cases f <;> decide
theorem kinds_len : ∀ e ∈ kinds, e.2.2.length ≤ 3 ∧ e.2.1.length ≤ 10 := by decide +kernel
theorem render_len {o : OpV} {k : Nat} (ho : OpOk k o) (f : Fld) : (render o f).length ≤ 4 * k + 23 := by
  unfold render
  split
  · have := (quoteL_len (o.txt f)).2
    have := ho.txt f
    omega
  · have := Lib.itoa_length_le (o.num f) (ho.num f).1 (ho.num f).2
    omega
theorem body_len {o : OpV} {k : Nat} (ho : OpOk k o) (fs : List Fld) : (body o fs).length ≤ fs.length * (4 * k + 24) := by
  unfold body
  induction fs with
  | nil => simp
  | cons f r ih =>
    rw [List.flatMap_cons, List.length_append, List.length_cons, List.length_cons, Nat.add_mul]
    have := render_len ho f
    omega
end Go.Proofs.YteglbmindbfkeaaGreatDoor.H
