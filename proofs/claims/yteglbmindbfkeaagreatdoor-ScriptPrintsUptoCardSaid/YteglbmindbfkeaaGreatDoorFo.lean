/- The table of forms as a contract. -/
import Derived.Test.YteglbmindbfkeaaGreatDoorNa
import Derived.MapKept
import Derived.Maps.RangeRun
namespace Go.Proofs.YteglbmindbfkeaaGreatDoor.H
open Go.RowKit Go.Proofs.YteglbmindbfkeaaGreatDoorW.PrintWords
set_option linter.unusedVariables false
set_option linter.unusedSimpArgs false

/-- A field's letter. -/
def fldB : Fld → UInt8
  | .H => 72
  | .O => 79
  | .N => 78
  | .F => 70
  | .P => 80
  | .Q => 81
  | .D => 68
def formV (k : Nat) (fs : List Fld) : Value := .agg #[.int .i64 k, .string (sB (fs.map fldB))]
/-- The table's entries, in the order of the text. -/
def ents : List MapEntry := kinds.zipIdx.map fun e => { key := .string (sB e.1.2.1), val := formV e.1.1 e.1.2.2, born := e.2 }
theorem ents_get {j : Nat} {k : Nat} {w : Bs} {fs : List Fld} (h : kinds[j]? = some (k, w, fs)) : ents[j]? = some { key := .string (sB w), val := formV k fs, born := j } := by
  unfold ents
  rw [List.getElem?_map, List.getElem?_zipIdx, h]
  simp
theorem ents_length : ents.length = 19 := by unfold ents; simp; rfl
theorem ents_keys : ∀ x ∈ ents, MapKept.IsKey .string x.key := by
  intro x hx
  unfold ents at hx
  obtain ⟨e, _, rfl⟩ := List.mem_map.1 hx
  trivial
/-- The words are all different. -/
theorem kinds_words : (kinds.map fun e => e.2.1).Nodup := by decide +kernel
/-- The map of the first n forms. -/
structure MapIs (w : World) (r n : Nat) : Prop where
  out : w.heap[r]? = some (.map (ents.take n).toArray n)
theorem MapIs.below {w w' : World} {r n : Nat} (h : MapIs w r n) (hb : Below w.heap.size w w') : MapIs w' r n := ⟨(hb.block r (blk_lt h.out)).trans h.out⟩
section
variable {ops : Array Oper} {rest : List Oper} {o : Oper} {a : Act} {Q : Exit → Act → World → Prop}
theorem wpList_form {w0 w : World} (base r n : Nat) (hg : o.guard = none) (m x v : Operand) (hop : o.op = Op.insert 79 m x v) (k : Nat) (wd : Bs) (fs : List Fld) (hk : kinds[n]? = some (k, wd, fs))
    (hm : a.eval m = .map (some r)) (hx : a.eval x = .string (sB wd)) (hv : a.eval v = formV k fs) (hI : MapIs w r n) (hb : base ≤ r) (hB : Below base w0 w)
    (hK : ∀ w', MapIs w' r (n + 1) → Below base w0 w' → wpList Tryz.prog ops Q rest (a.put o.dst undef) w') :
    wpList Tryz.prog ops Q (o :: rest) a w := by
  refine wpList_plain hg fun K' hK' => ?_
  have hn : n < kinds.length := (List.getElem?_eq_some_iff.1 hk).1
  have hks : ∀ x ∈ (ents.take n).toArray.toList, MapKept.IsKey .string x.key := fun x hx => ents_keys x (List.mem_of_mem_take (by simpa using hx))
  have hkk : MapKept.IsKey .string (.string (sB wd)) := trivial
  have hu := Tryz.underlying79
  have hd := Tryz.underlying9
  have hnew : ∀ x ∈ (ents.take n).toArray.toList, x.key ≠ .string (sB wd) := by
    intro x hx hkey
    have hx : x ∈ ents.take n := by simpa using hx
    obtain ⟨j, hj⟩ := List.getElem?_of_mem hx
    rw [List.getElem?_take] at hj
    split at hj
    · next hjn =>
      have hjl : j < kinds.length := by omega
      obtain ⟨⟨k2, w2, f2⟩, h2⟩ : ∃ e, kinds[j]? = some e := ⟨_, List.getElem?_eq_getElem hjl⟩
      rw [ents_get h2] at hj
      cases hj
      have hw : w2 = wd := sB_inj (by injection hkey)
      have hd := List.pairwise_iff_getElem.1 kinds_words j n (by simpa using hjl) (by simpa using hn) hjn
      apply hd
      rw [List.getElem_map, List.getElem_map]
      have e1 : kinds[j] = (k2, w2, f2) := (List.getElem?_eq_some_iff.1 h2).2
      have e2 : kinds[n] = (k, wd, fs) := (List.getElem?_eq_some_iff.1 hk).2
      rw [e1, e2, hw]
    · cases hj
  rcases MapKept.findNow_spec hkk _ 0 hks with ⟨h1, _⟩ | ⟨j, e, _, h2, h3⟩
  · have hrun : (Instr.mapUpdate 79 (.map (some r)) (.string (sB wd)) (formV k fs)).run Tryz.prog w = .ok () { w with heap := w.heap.setIfInBounds r (.map ((ents.take n).toArray.push { key := .string (sB wd), val := formV k fs, born := n }) (n + 1)) } := by
      simp [Instr.mapUpdate, run_underlying hu, MapKept.run_getObj_map hI.out, MapKept.run_checkKey hd hkk, MapKept.run_findKey hd h1, MapKept.run_setObj_map _ hI.out, Result.andThen]
    unfold Oper.wp
    simp [execOp, hop, hm, hx, hv, hrun, Result.andThen]
    refine hK' _ _ (hK _ ?_ ?_)
    · have h9 := (MapKept.heap_set (o' := .map ((ents.take n).toArray.push { key := .string (sB wd), val := formV k fs, born := n }) (n + 1)) hI.out).1
      constructor
      rw [List.take_add_one, ents_get hk]
      simpa using h9
    · refine ⟨hB.os, hB.tape, hB.output, by simp; exact hB.size, fun j hj => ?_⟩
      exact ((MapKept.heap_set hI.out).2 j (by omega)).trans (hB.block j hj)
  · exact absurd h3 (hnew e (by
      have := List.mem_of_getElem? h2
      exact this))
end
set_option maxRecDepth 100000 in
set_option maxHeartbeats 8000000 in
theorem forms_any (w : World) : Calls Tryz.prog 33 #[] w fun e w' => e = .returned (.map (some w.heap.size)) ∧ MapIs w' w.heap.size 19 ∧ Below w.heap.size w w' := by
  have h0 : MapIs (w.alloc (.map #[] 0)) w.heap.size 0 := ⟨blk_new w _⟩
  have mk : ∀ W, (Instr.makeMap 79 none).run Tryz.prog W = .ok (.map (some W.heap.size)) (W.alloc (.map #[] 0)) := fun W => rfl
  have HI := Aside0.mk h0
  have HB := Aside0.mk (below_alloc (Below.refl w.heap.size w) (.map #[] 0))
  clear h0
  go_enter Tryz.func33, Tryz.ntmps33
  go_wp2_with (first
    | (refine wpList_form (w0 := w) w.heap.size w.heap.size 0 rfl _ _ _ rfl 1 [111,112,101,110] [.P, .F] rfl rfl rfl rfl (show MapIs _ _ 0 from HI.out) (Nat.le_refl _) HB.out ?_; intro w1 hI hB; have HI := Aside0.mk hI; have HB := Aside0.mk hB; clear hI hB)
    | (refine wpList_form (w0 := w) w.heap.size w.heap.size 1 rfl _ _ _ rfl 2 [99,108,111,115,101] [.H] rfl rfl rfl rfl (show MapIs _ _ 1 from HI.out) (Nat.le_refl _) HB.out ?_; intro w1 hI hB; have HI := Aside0.mk hI; have HB := Aside0.mk hB; clear hI hB)
    | (refine wpList_form (w0 := w) w.heap.size w.heap.size 2 rfl _ _ _ rfl 3 [114,101,97,100] [.H, .O, .N] rfl rfl rfl rfl (show MapIs _ _ 2 from HI.out) (Nat.le_refl _) HB.out ?_; intro w1 hI hB; have HI := Aside0.mk hI; have HB := Aside0.mk hB; clear hI hB)
    | (refine wpList_form (w0 := w) w.heap.size w.heap.size 3 rfl _ _ _ rfl 4 [119,114,105,116,101] [.H, .O, .D] rfl rfl rfl rfl (show MapIs _ _ 3 from HI.out) (Nat.le_refl _) HB.out ?_; intro w1 hI hB; have HI := Aside0.mk hI; have HB := Aside0.mk hB; clear hI hB)
    | (refine wpList_form (w0 := w) w.heap.size w.heap.size 4 rfl _ _ _ rfl 5 [116,114,117,110,99,97,116,101] [.H, .N] rfl rfl rfl rfl (show MapIs _ _ 4 from HI.out) (Nat.le_refl _) HB.out ?_; intro w1 hI hB; have HI := Aside0.mk hI; have HB := Aside0.mk hB; clear hI hB)
    | (refine wpList_form (w0 := w) w.heap.size w.heap.size 5 rfl _ _ _ rfl 6 [115,116,97,116] [.P] rfl rfl rfl rfl (show MapIs _ _ 5 from HI.out) (Nat.le_refl _) HB.out ?_; intro w1 hI hB; have HI := Aside0.mk hI; have HB := Aside0.mk hB; clear hI hB)
    | (refine wpList_form (w0 := w) w.heap.size w.heap.size 6 rfl _ _ _ rfl 7 [108,105,115,116] [.P] rfl rfl rfl rfl (show MapIs _ _ 6 from HI.out) (Nat.le_refl _) HB.out ?_; intro w1 hI hB; have HI := Aside0.mk hI; have HB := Aside0.mk hB; clear hI hB)
    | (refine wpList_form (w0 := w) w.heap.size w.heap.size 7 rfl _ _ _ rfl 8 [109,107,100,105,114] [.P] rfl rfl rfl rfl (show MapIs _ _ 7 from HI.out) (Nat.le_refl _) HB.out ?_; intro w1 hI hB; have HI := Aside0.mk hI; have HB := Aside0.mk hB; clear hI hB)
    | (refine wpList_form (w0 := w) w.heap.size w.heap.size 8 rfl _ _ _ rfl 9 [114,109,100,105,114] [.P] rfl rfl rfl rfl (show MapIs _ _ 8 from HI.out) (Nat.le_refl _) HB.out ?_; intro w1 hI hB; have HI := Aside0.mk hI; have HB := Aside0.mk hB; clear hI hB)
    | (refine wpList_form (w0 := w) w.heap.size w.heap.size 9 rfl _ _ _ rfl 10 [108,105,110,107] [.P, .Q] rfl rfl rfl rfl (show MapIs _ _ 9 from HI.out) (Nat.le_refl _) HB.out ?_; intro w1 hI hB; have HI := Aside0.mk hI; have HB := Aside0.mk hB; clear hI hB)
    | (refine wpList_form (w0 := w) w.heap.size w.heap.size 10 rfl _ _ _ rfl 11 [117,110,108,105,110,107] [.P] rfl rfl rfl rfl (show MapIs _ _ 10 from HI.out) (Nat.le_refl _) HB.out ?_; intro w1 hI hB; have HI := Aside0.mk hI; have HB := Aside0.mk hB; clear hI hB)
    | (refine wpList_form (w0 := w) w.heap.size w.heap.size 11 rfl _ _ _ rfl 12 [114,101,110,97,109,101] [.P, .Q] rfl rfl rfl rfl (show MapIs _ _ 11 from HI.out) (Nat.le_refl _) HB.out ?_; intro w1 hI hB; have HI := Aside0.mk hI; have HB := Aside0.mk hB; clear hI hB)
    | (refine wpList_form (w0 := w) w.heap.size w.heap.size 12 rfl _ _ _ rfl 13 [102,115,121,110,99] [.H] rfl rfl rfl rfl (show MapIs _ _ 12 from HI.out) (Nat.le_refl _) HB.out ?_; intro w1 hI hB; have HI := Aside0.mk hI; have HB := Aside0.mk hB; clear hI hB)
    | (refine wpList_form (w0 := w) w.heap.size w.heap.size 13 rfl _ _ _ rfl 14 [115,121,110,99] [] rfl rfl rfl rfl (show MapIs _ _ 13 from HI.out) (Nat.le_refl _) HB.out ?_; intro w1 hI hB; have HI := Aside0.mk hI; have HB := Aside0.mk hB; clear hI hB)
    | (refine wpList_form (w0 := w) w.heap.size w.heap.size 14 rfl _ _ _ rfl 15 [99,104,101,99,107,112,111,105,110,116] [] rfl rfl rfl rfl (show MapIs _ _ 14 from HI.out) (Nat.le_refl _) HB.out ?_; intro w1 hI hB; have HI := Aside0.mk hI; have HB := Aside0.mk hB; clear hI hB)
    | (refine wpList_form (w0 := w) w.heap.size w.heap.size 15 rfl _ _ _ rfl 16 [99,108,101,97,110] [] rfl rfl rfl rfl (show MapIs _ _ 15 from HI.out) (Nat.le_refl _) HB.out ?_; intro w1 hI hB; have HI := Aside0.mk hI; have HB := Aside0.mk hB; clear hI hB)
    | (refine wpList_form (w0 := w) w.heap.size w.heap.size 16 rfl _ _ _ rfl 17 [99,111,109,112,97,99,116] [] rfl rfl rfl rfl (show MapIs _ _ 16 from HI.out) (Nat.le_refl _) HB.out ?_; intro w1 hI hB; have HI := Aside0.mk hI; have HB := Aside0.mk hB; clear hI hB)
    | (refine wpList_form (w0 := w) w.heap.size w.heap.size 17 rfl _ _ _ rfl 18 [101,118,105,99,116] [] rfl rfl rfl rfl (show MapIs _ _ 17 from HI.out) (Nat.le_refl _) HB.out ?_; intro w1 hI hB; have HI := Aside0.mk hI; have HB := Aside0.mk hB; clear hI hB)
    | (refine wpList_form (w0 := w) w.heap.size w.heap.size 18 rfl _ _ _ rfl 19 [114,101,109,111,117,110,116] [] rfl rfl rfl rfl (show MapIs _ _ 18 from HI.out) (Nat.le_refl _) HB.out ?_; intro w1 hI hB; have HI := Aside0.mk hI; have HB := Aside0.mk hB; clear hI hB))
  go_ret
  exact ⟨rfl, HI.out, HB.out⟩
end Go.Proofs.YteglbmindbfkeaaGreatDoor.H
