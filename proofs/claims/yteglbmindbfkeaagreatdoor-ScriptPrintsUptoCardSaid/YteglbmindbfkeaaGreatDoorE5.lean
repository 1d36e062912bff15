/- For the row of ScriptPrints: what a shape and lives read as; their size under the bound. -/
import Derived.Test.YteglbmindbfkeaaGreatDoorSz
import Derived.Test.YteglbmindbfkeaaGreatDoorOq
import Derived.Lib.SmallJoins
import Derived.Test.YteglbmindbfkeaaGreatDoorE1
import Derived.Deep.Slices
namespace Go.Proofs.YteglbmindbfkeaaGreatDoor.Rw
open Go.ChangeShapes Go.WideShapes Go.ChangeAt Go.RowKit
open Go.Proofs.YteglbmindbfkeaaGreatDoorW.PrintWords
open Go.Proofs.YteglbmindbfkeaaGreatDoor.H
theorem one_le {H : Type} (d : DataW H) : 1 ≤ Rows.uptoBulk d := by
  cases d with
  | lit l => cases l <;> simp [Rows.uptoBulk]
  | nil => simp [Rows.uptoBulk]
  | ptr d => simp [Rows.uptoBulk]
  | slice elems spare => simp [Rows.uptoBulk]
  | agg parts => simp [Rows.uptoBulk]
  | iface t d => simp [Rows.uptoBulk]
  | map entries => simp [Rows.uptoBulk]
  | held h => simp [Rows.uptoBulk]
theorem part_le {H : Type} {d : DataW H} {l : List (DataW H)} (h : d ∈ l) : Rows.uptoBulk d ≤ Rows.uptoBulkAll l := by
  induction l with
  | nil => cases h
  | cons x r ih =>
    simp only [Rows.uptoBulkAll]
    cases List.mem_cons.1 h with
    | inl e => subst e; omega
    | inr e => have := ih e; omega
theorem upto_str {H : Type} {ds : List (DataW H)} {s : ByteArray} (hk : Rows.uptoSmall H ds = true) (hd : DataW.lit (.string s.data.toList) ∈ ds) : s.size ≤ 1048576 := by
  have hb : Rows.uptoBulkAll ds ≤ 1048576 := of_decide_eq_true hk
  have hp := part_le hd
  simp only [Rows.uptoBulk] at hp
  rw [data_length] at hp
  omega
end Go.Proofs.YteglbmindbfkeaaGreatDoor.Rw
namespace Go.Proofs.YteglbmindbfkeaaGreatDoor.Rw
open Go.ChangeShapes Go.WideShapes Go.ChangeAt Go.RowKit Go.Joins
open Go.Proofs.YteglbmindbfkeaaGreatDoorW.PrintWords
open Go.Proofs.YteglbmindbfkeaaGreatDoor.H
theorem i64_of {n : Int} (h : (Lit.int .i64 n).wf = true) : -9223372036854775808 ≤ n ∧ n ≤ 9223372036854775807 := by
  simp [Lit.wf, IntKind.min, IntKind.max, IntKind.signed, IntKind.bits] at h
  omega
/-- What an operation reads as. -/
def opD {H : Type} (o : OpV) : DataW H := .agg [.lit (.int .i64 o.kind), .lit (.string o.path), .lit (.string o.other), .lit (.int .i64 o.handle), .lit (.int .i64 o.offset), .lit (.int .i64 o.n), .lit (.int .i64 o.flags), .lit (.string o.data)]
/-- The numbers of an operation are ints. -/
def OpI (o : OpV) : Prop := (-9223372036854775808 ≤ o.kind ∧ o.kind ≤ 9223372036854775807) ∧ ∀ f : Fld, -9223372036854775808 ≤ o.num f ∧ o.num f ≤ 9223372036854775807
set_option maxRecDepth 100000 in
theorem op_of {H : Type} {enc : TypeId × Value → H} {W : World} {base fuel : Nat} {sp : Nat → Bool} {held : Bool} {cs : List Value} {x : DataW H × List MemPlace} (h : DataW.trod enc Tryz.prog W base sp held fuel 38 cs = some x) :
    ∃ o : OpV, cs = (opC o).toList ∧ x.1 = opD o ∧ OpI o := by
  obtain ⟨xs, n, _, rfl, hl, hlen, hf⟩ := DataW.trod_struct Tryz.underlying38 h
  have c8 : Tryz.prog.cellsOf 38 = 8 := by kernel_rfl
  have cs1 : Tryz.prog.cellsOf 9 = 1 := by kernel_rfl
  have ci1 : Tryz.prog.cellsOf 3 = 1 := by kernel_rfl
  rw [c8] at hl
  obtain ⟨v0, v1, v2, v3, v4, v5, v6, v7, rfl⟩ : ∃ v0 v1 v2 v3 v4 v5 v6 v7, cs = [v0, v1, v2, v3, v4, v5, v6, v7] := by
    match cs, hl with
    | [v0, v1, v2, v3, v4, v5, v6, v7], _ => exact ⟨v0, v1, v2, v3, v4, v5, v6, v7, rfl⟩
  obtain ⟨y0, y1, y2, y3, y4, y5, y6, y7, rfl⟩ : ∃ y0 y1 y2 y3 y4 y5 y6 y7, xs = [y0, y1, y2, y3, y4, y5, y6, y7] := by
    match xs, hlen with
    | [y0, y1, y2, y3, y4, y5, y6, y7], _ => exact ⟨y0, y1, y2, y3, y4, y5, y6, y7, rfl⟩
  have g0 := hf 0 _ rfl
  have g1 := hf 1 _ rfl
  have g2 := hf 2 _ rfl
  have g3 := hf 3 _ rfl
  have g4 := hf 4 _ rfl
  have g5 := hf 5 _ rfl
  have g6 := hf 6 _ rfl
  have g7 := hf 7 _ rfl
  simp [cs1, ci1] at g0 g1 g2 g3 g4 g5 g6 g7
  obtain ⟨a0, e0, f0, w0⟩ := DataW.trod_int Tryz.underlying3 g0
  obtain ⟨a1, e1, f1, w1⟩ := DataW.trod_string Tryz.underlying9 g1
  obtain ⟨a2, e2, f2, w2⟩ := DataW.trod_string Tryz.underlying9 g2
  obtain ⟨a3, e3, f3, w3⟩ := DataW.trod_int Tryz.underlying3 g3
  obtain ⟨a4, e4, f4, w4⟩ := DataW.trod_int Tryz.underlying3 g4
  obtain ⟨a5, e5, f5, w5⟩ := DataW.trod_int Tryz.underlying3 g5
  obtain ⟨a6, e6, f6, w6⟩ := DataW.trod_int Tryz.underlying3 g6
  obtain ⟨a7, e7, f7, w7⟩ := DataW.trod_string Tryz.underlying9 g7
  simp at e0 e1 e2 e3 e4 e5 e6 e7
  subst e0 e1 e2 e3 e4 e5 e6 e7
  refine ⟨⟨a0, a1.data.toList, a2.data.toList, a3, a4, a5, a6, a7.data.toList⟩, ?_, ?_, i64_of w0, fun f => ?_⟩
  · simp [opC, data_sB]
  · simp [opD, f0, f1, f2, f3, f4, f5, f6, f7]
  · cases f
    · exact i64_of w3
    · exact i64_of w4
    · exact i64_of w5
    · exact i64_of w6
    all_goals exact ⟨by simp [OpV.num], by simp [OpV.num]⟩
set_option maxRecDepth 100000 in
theorem bulk_op {H : Type} {o : OpV} {K : Nat} (h : Rows.uptoBulk (opD o : DataW H) ≤ K) (hi : OpI o) : OpOk K o := by
  refine ⟨hi.1, hi.2, fun f => ?_⟩
  simp only [opD, Rows.uptoBulk, Rows.uptoBulkAll] at h
  cases f <;> simp only [OpV.txt, List.length_nil] <;> omega
set_option maxRecDepth 100000 in
theorem upto_op {H : Type} {ds : List (DataW H)} {o : OpV} (hk : Rows.uptoSmall H ds = true) (hd : opD o ∈ ds) (hi : OpI o) : OpOk 1048576 o := by
  have hb : Rows.uptoBulkAll ds ≤ 1048576 := of_decide_eq_true hk
  exact bulk_op (Nat.le_trans (part_le hd) hb) hi
set_option maxRecDepth 100000 in
theorem open_op {H : Type} {enc : TypeId × Value → H} {W : World} {base b0 : Nat} {r : Reach} {sp : Nat → Bool} {held : Bool} {v : Value} {d : DataW H} {p : List MemPlace} (hv : Value.okWide Tryz.prog W r b0 38 v) (h : DataW.Trod enc Tryz.prog W base sp held 38 v d p) :
    ∃ o : OpV, v = opV o ∧ d = opD o ∧ OpI o := by
  obtain ⟨cs, rfl, _⟩ := okWide_struct Tryz.underlying38 hv
  obtain ⟨fuel, hf⟩ := h
  obtain ⟨o, e, hd, hi⟩ := op_of hf
  refine ⟨o, ?_, hd, hi⟩
  unfold opV
  congr 1
  simp only [Value.cells] at e
  exact Array.ext' e
end Go.Proofs.YteglbmindbfkeaaGreatDoor.Rw
namespace Go.Proofs.YteglbmindbfkeaaGreatDoor.Rw
open Go.ChangeShapes Go.WideShapes Go.ChangeAt Go.RowKit Go.Joins Go.Deep
open Go.Proofs.YteglbmindbfkeaaGreatDoorW.PrintWords
open Go.Proofs.YteglbmindbfkeaaGreatDoor.H
set_option linter.unusedVariables false
set_option linter.unusedSimpArgs false
theorem len_le {H : Type} (l : List (DataW H)) : l.length ≤ Rows.uptoBulkAll l := by
  induction l with
  | nil => simp
  | cons x r ih => simp only [Rows.uptoBulkAll, List.length_cons]; have := one_le x; omega
theorem upto_part {H : Type} {ds : List (DataW H)} {d : DataW H} (hk : Rows.uptoSmall H ds = true) (hd : d ∈ ds) : Rows.uptoBulk d ≤ 1048576 :=
  Nat.le_trans (part_le hd) (of_decide_eq_true hk)
theorem add_none (b o k : Nat) : (⟨b, o, none⟩ : Addr).add k = ⟨b, o + k, none⟩ := by
  unfold Addr.add
  split
  · next h => rw [h]; rfl
  · rfl
theorem slice_bulk {H : Type} {len k : Nat} {D E : Nat → DataW H} (hk : Rows.uptoBulk (.slice ((List.range len).map D) ((List.range k).map E)) ≤ 1048576) : len ≤ 1048576 ∧ ∀ i, i < len → Rows.uptoBulk (D i) ≤ 1048576 := by
  simp only [Rows.uptoBulk] at hk
  have h1 := len_le ((List.range len).map D)
  rw [List.length_map, List.length_range] at h1
  refine ⟨by omega, fun i hi => ?_⟩
  have h2 := part_le (d := D i) (l := (List.range len).map D) (List.mem_map.2 ⟨i, List.mem_range.2 hi, rfl⟩)
  omega
theorem spot_of {W : World} {a : Addr} {k : Nat} {t : TypeId} {cs : List Value} {base : Nat} (h : W.cells? base (a.add 0) k = some cs) (hk : 0 < k) : a.spot = none := by
  obtain ⟨_, hlen, hcell⟩ := World.cells?_some h
  have h0 := (hcell 0 hk).trans (List.getElem?_eq_getElem (by omega))
  have := World.cell?_spot h0
  simpa [Addr.add] using this
/-- Numbers. -/
theorem ints_of {H : Type} {enc : TypeId × Value → H} {W : World} {fuel : Nat} {cs : List Value} {x : DataW H × List MemPlace}
    (h : DataW.trod enc Tryz.prog W 0 (fun _ => true) true fuel 54 cs = some x) :
    ∃ (A : Option Addr) (c : Nat) (ks : List Int), cs = [.slice A ks.length c] ∧ IntsR W A ks ∧ (∀ k ∈ ks, I64 k) ∧ (Rows.uptoBulk x.1 ≤ 1048576 → ks.length ≤ 1048576) := by
  rcases open_slice Tryz.underlying54 h with ⟨rfl, _⟩ | ⟨a, len, cap, m, n, D, Pl, rfl, hb, hl, hm, hmm, rfl, hx⟩
  · exact ⟨none, 0, [], rfl, fun i o h => by simp at h, fun k hk => by simp at hk, fun _ => by simp⟩
  · have c1 : Tryz.prog.cellsOf 3 = 1 := by kernel_rfl
    rw [c1] at hx
    have hlm : len ≤ m := by rw [hmm]; simp; omega
    have each : ∀ i, i < len → ∃ k : Int, I64 k ∧ ∃ b o, a = ⟨b, o, none⟩ ∧ W.cell? ⟨b, o + i, none⟩ = some (.int .i64 k) := by
      intro i hi
      have hsp : a.spot = none := by
        obtain ⟨cs', h1, _⟩ := hx 0 (by omega)
        rw [Nat.zero_mul] at h1
        exact spot_of (t := 0) h1 (by omega)
      obtain ⟨b, o, sp⟩ := a
      simp only at hsp
      subst hsp
      obtain ⟨cs', h1, h2⟩ := hx i (by omega)
      obtain ⟨_, hlen, hcell⟩ := World.cells?_some h1
      obtain ⟨k, e, _, w0⟩ := DataW.trod_int Tryz.underlying3 h2
      subst e
      have e0 := hcell 0 (by simp)
      rw [add_none, add_none] at e0
      exact ⟨k, i64_of w0, b, o, rfl, by simpa using e0⟩
    obtain ⟨f, hf⟩ := choose_lt each
    refine ⟨some a, cap, (List.range len).map f, by simp, fun i k hi => ?_, fun k hk => ?_, fun hk => ?_⟩
    · obtain ⟨hi1, hi2⟩ := List.getElem?_eq_some_iff.1 hi
      simp only [List.length_map, List.length_range] at hi1
      simp only [List.getElem_map, List.getElem_range] at hi2
      subst hi2
      obtain ⟨_, b, o, e, h3⟩ := hf i hi1
      exact ⟨b, o, by rw [e], h3⟩
    · obtain ⟨i, hi, rfl⟩ := List.mem_map.1 hk
      exact (hf i (List.mem_range.1 hi)).1
    · rw [List.length_map, List.length_range]
      exact (slice_bulk hk).1
/-- Operations. -/
theorem ops_of {H : Type} {enc : TypeId × Value → H} {W : World} {fuel : Nat} {cs : List Value} {x : DataW H × List MemPlace}
    (h : DataW.trod enc Tryz.prog W 0 (fun _ => true) true fuel 53 cs = some x) :
    ∃ (A : Option Addr) (c : Nat) (ops : List OpV), cs = [.slice A ops.length c] ∧ OpsR W A ops ∧ (Rows.uptoBulk x.1 ≤ 1048576 → ops.length ≤ 1048576 ∧ ∀ o ∈ ops, OpOk 1048576 o) := by
  rcases open_slice Tryz.underlying53 h with ⟨rfl, _⟩ | ⟨a, len, cap, m, n, D, Pl, rfl, hb, hl, hm, hmm, rfl, hx⟩
  · exact ⟨none, 0, [], rfl, fun i o h => by simp at h, fun _ => ⟨by simp, fun o ho => by simp at ho⟩⟩
  · have c8 : Tryz.prog.cellsOf 38 = 8 := by kernel_rfl
    rw [c8] at hx
    have hlm : len ≤ m := by rw [hmm]; simp; omega
    have each : ∀ i, i < len → ∃ v : OpV, OpI v ∧ D i = opD v ∧ ∃ b o, a = ⟨b, o, none⟩ ∧ OpCl W b (o + i * 8) v := by
      intro i hi
      have hsp : a.spot = none := by
        obtain ⟨cs', h1, _⟩ := hx 0 (by omega)
        rw [Nat.zero_mul] at h1
        exact spot_of (t := 0) h1 (by omega)
      obtain ⟨b, o, sp⟩ := a
      simp only at hsp
      subst hsp
      obtain ⟨cs', h1, h2⟩ := hx i (by omega)
      obtain ⟨_, hlen, hcell⟩ := World.cells?_some h1
      obtain ⟨v, e, hd, hi2⟩ := op_of h2
      subst e
      have hc : ∀ j (hj : j < 8), W.cell? ⟨b, o + i * 8 + j, none⟩ = (opC v).toList[j]? := fun j hj => by
        have e0 := hcell j (by simpa [opC] using hj)
        rw [add_none, add_none] at e0
        rw [e0]
      exact ⟨v, hi2, hd, b, o, rfl, ⟨hc 0 (by omega), hc 1 (by omega), hc 2 (by omega), hc 3 (by omega), hc 4 (by omega), hc 5 (by omega), hc 6 (by omega), hc 7 (by omega)⟩⟩
    haveI : Inhabited OpV := ⟨{}⟩
    obtain ⟨f, hf⟩ := choose_lt each
    refine ⟨some a, cap, (List.range len).map f, by simp, fun i v hi => ?_, fun hk => ⟨?_, fun v hv => ?_⟩⟩
    · obtain ⟨hi1, hi2⟩ := List.getElem?_eq_some_iff.1 hi
      simp only [List.length_map, List.length_range] at hi1
      simp only [List.getElem_map, List.getElem_range] at hi2
      subst hi2
      obtain ⟨_, _, b, o, e, h3⟩ := hf i hi1
      exact ⟨b, o, by rw [e], h3⟩
    · rw [List.length_map, List.length_range]
      exact (slice_bulk hk).1
    · obtain ⟨i, hi, rfl⟩ := List.mem_map.1 hv
      obtain ⟨h1, h2, _⟩ := hf i (List.mem_range.1 hi)
      have h3 := (slice_bulk hk).2 i (List.mem_range.1 hi)
      rw [h2] at h3
      exact bulk_op h3 h1
set_option maxRecDepth 100000 in
/-- A life. -/
theorem life_of {H : Type} {enc : TypeId × Value → H} {W : World} {fuel : Nat} {cs : List Value} {x : DataW H × List MemPlace}
    (h : DataW.trod enc Tryz.prog W 0 (fun _ => true) true fuel 56 cs = some x) :
    ∃ (l : LifeV) (A1 : Option Addr) (n1 : Nat) (A2 : Option Addr) (n2 : Nat), cs = [.slice A1 l.ops.length n1, .int .i64 l.stop, .slice A2 l.keep.length n2] ∧ OpsR W A1 l.ops ∧ IntsR W A2 l.keep ∧ (Rows.uptoBulk x.1 ≤ 1048576 → LfOk l) := by
  obtain ⟨y0, y1, y2, n, rfl, hl, g0, g1, g2⟩ := trod_struct3 Tryz.underlying56 h
  have c3 : Tryz.prog.cellsOf 56 = 3 := by kernel_rfl
  have co : Tryz.prog.cellsOf 53 = 1 := by kernel_rfl
  have ci : Tryz.prog.cellsOf 3 = 1 := by kernel_rfl
  have ck : Tryz.prog.cellsOf 54 = 1 := by kernel_rfl
  rw [c3] at hl
  obtain ⟨v0, v1, v2, rfl⟩ : ∃ v0 v1 v2, cs = [v0, v1, v2] := by
    match cs, hl with
    | [v0, v1, v2], _ => exact ⟨v0, v1, v2, rfl⟩
  simp [co, ci, ck] at g0 g1 g2
  obtain ⟨A1, n1, ops, e0, hO, bO⟩ := ops_of g0
  obtain ⟨a1, e1, f1, w1⟩ := DataW.trod_int Tryz.underlying3 g1
  obtain ⟨A2, n2, ks, e2, hK, iK, bK⟩ := ints_of g2
  simp at e0 e1 e2
  subst e0 e1 e2
  refine ⟨⟨ops, a1, ks⟩, A1, n1, A2, n2, rfl, hO, hK, fun hb => ?_⟩
  simp only [Rows.uptoBulk, Rows.uptoBulkAll] at hb
  have h1 := bO (by omega)
  exact ⟨h1.2, h1.1, i64_of w1, iK, bK (by omega)⟩
set_option maxRecDepth 100000 in
/-- Lives. -/
theorem lives_of {H : Type} {enc : TypeId × Value → H} {W : World} {fuel : Nat} {cs : List Value} {x : DataW H × List MemPlace}
    (h : DataW.trod enc Tryz.prog W 0 (fun _ => true) true fuel 27 cs = some x) :
    ∃ (A : Option Addr) (c : Nat) (ls : List LifeV), cs = [.slice A ls.length c] ∧ LivesR W A ls ∧ (Rows.uptoBulk x.1 ≤ 1048576 → LvOk ls) := by
  rcases open_slice Tryz.underlying27 h with ⟨rfl, _⟩ | ⟨a, len, cap, m, n, D, Pl, rfl, hb, hl, hm, hmm, rfl, hx⟩
  · exact ⟨none, 0, [], rfl, fun i o h => by simp at h, fun _ => ⟨by simp, fun o ho => by simp at ho⟩⟩
  · have c3 : Tryz.prog.cellsOf 56 = 3 := by kernel_rfl
    rw [c3] at hx
    have hlm : len ≤ m := by rw [hmm]; simp; omega
    have each : ∀ i, i < len → ∃ l : LifeV, (Rows.uptoBulk (D i) ≤ 1048576 → LfOk l) ∧ ∃ b o A1 n1 A2 n2, a = ⟨b, o, none⟩ ∧ LfCl W b (o + i * 3) l A1 n1 A2 n2 := by
      intro i hi
      have hsp : a.spot = none := by
        obtain ⟨cs', h1, _⟩ := hx 0 (by omega)
        rw [Nat.zero_mul] at h1
        exact spot_of (t := 0) h1 (by omega)
      obtain ⟨b, o, sp⟩ := a
      simp only at hsp
      subst hsp
      obtain ⟨cs', h1, h2⟩ := hx i (by omega)
      obtain ⟨_, hlen, hcell⟩ := World.cells?_some h1
      obtain ⟨l, A1, n1, A2, n2, e, hO, hK, hok⟩ := life_of h2
      subst e
      have e0 := hcell 0 (by omega)
      have e1 := hcell 1 (by omega)
      have e2 := hcell 2 (by omega)
      rw [add_none, add_none] at e0 e1 e2
      exact ⟨l, hok, b, o, A1, n1, A2, n2, rfl, ⟨e0, e1, e2, hO, hK⟩⟩
    haveI : Inhabited LifeV := ⟨{}⟩
    obtain ⟨f, hf⟩ := choose_lt each
    refine ⟨some a, cap, (List.range len).map f, by simp, fun i v hi => ?_, fun hk => ⟨?_, fun v hv => ?_⟩⟩
    · obtain ⟨hi1, hi2⟩ := List.getElem?_eq_some_iff.1 hi
      simp only [List.length_map, List.length_range] at hi1
      simp only [List.getElem_map, List.getElem_range] at hi2
      subst hi2
      obtain ⟨_, b, o, A1, n1, A2, n2, e, h3⟩ := hf i hi1
      exact ⟨b, o, A1, n1, A2, n2, by rw [e], h3⟩
    · rw [List.length_map, List.length_range]
      exact (slice_bulk hk).1
    · obtain ⟨i, hi, rfl⟩ := List.mem_map.1 hv
      exact (hf i (List.mem_range.1 hi)).1 ((slice_bulk hk).2 i (List.mem_range.1 hi))
set_option maxRecDepth 100000 in
/-- A shape. -/
theorem shape_of {H : Type} {enc : TypeId × Value → H} {W : World} {fuel : Nat} {cs : List Value} {x : DataW H × List MemPlace}
    (hf : DataW.trod enc Tryz.prog W 0 (fun _ => true) true fuel 26 cs = some x) : ∃ s : ShapeV, cs = (shC s).toList ∧ ShOk s := by
  obtain ⟨xs, n, _, hx, hl, hlen, hg⟩ := DataW.trod_struct Tryz.underlying26 hf
  have c10 : Tryz.prog.cellsOf 26 = 10 := by kernel_rfl
  have c4 : Tryz.prog.cellsOf 24 = 4 := by kernel_rfl
  have ci : Tryz.prog.cellsOf 3 = 1 := by kernel_rfl
  have cu : Tryz.prog.cellsOf 22 = 1 := by kernel_rfl
  have cb : Tryz.prog.cellsOf 4 = 1 := by kernel_rfl
  rw [c10] at hl
  obtain ⟨v0, v1, v2, v3, v4, v5, v6, v7, v8, v9, rfl⟩ : ∃ v0 v1 v2 v3 v4 v5 v6 v7 v8 v9, cs = [v0, v1, v2, v3, v4, v5, v6, v7, v8, v9] := by
    match cs, hl with
    | [v0, v1, v2, v3, v4, v5, v6, v7, v8, v9], _ => exact ⟨v0, v1, v2, v3, v4, v5, v6, v7, v8, v9, rfl⟩
  obtain ⟨y0, y1, y2, y3, y4, y5, y6, rfl⟩ : ∃ y0 y1 y2 y3 y4 y5 y6, xs = [y0, y1, y2, y3, y4, y5, y6] := by
    match xs, hlen with
    | [y0, y1, y2, y3, y4, y5, y6], _ => exact ⟨y0, y1, y2, y3, y4, y5, y6, rfl⟩
  have g0 := hg 0 _ rfl
  have g1 := hg 1 _ rfl
  have g2 := hg 2 _ rfl
  have g3 := hg 3 _ rfl
  have g4 := hg 4 _ rfl
  have g5 := hg 5 _ rfl
  have g6 := hg 6 _ rfl
  simp [ci, c4, cb] at g0 g1 g2 g3 g4 g5 g6
  obtain ⟨a0, e0, _, w0⟩ := DataW.trod_int Tryz.underlying3 g0
  obtain ⟨a1, e1, _, w1⟩ := DataW.trod_int Tryz.underlying3 g1
  obtain ⟨a2, e2, _, w2⟩ := DataW.trod_int Tryz.underlying3 g2
  obtain ⟨a3, e3, _, w3⟩ := DataW.trod_int Tryz.underlying3 g3
  obtain ⟨z0, z1, z2, z3, m, hz, _, k0, k1, k2, k3⟩ := trod_struct4 Tryz.underlying24 g4
  simp [ci, cu] at k0 k1 k2 k3
  obtain ⟨a4, e4, _, w4⟩ := DataW.trod_int Tryz.underlying3 k0
  obtain ⟨a5, e5, _, w5⟩ := DataW.trod_int Tryz.underlying3 k1
  obtain ⟨a6, e6, _, w6⟩ := DataW.trod_int Tryz.underlying3 k2
  obtain ⟨a7, e7, _, w7⟩ := DataW.trod_int Tryz.underlying22 k3
  obtain ⟨a8, e8, _, w8⟩ := DataW.trod_int Tryz.underlying3 g5
  obtain ⟨a9, e9, _⟩ := DataW.trod_bool Tryz.underlying4 g6
  simp at e0 e1 e2 e3 e4 e5 e6 e7 e8 e9
  subst e0 e1 e2 e3 e4 e5 e6 e7 e8 e9
  have h7 : 0 ≤ a7 ∧ a7 < 18446744073709551616 := by
    simp [Lit.wf, IntKind.min, IntKind.max, IntKind.signed, IntKind.bits] at w7
    omega
  refine ⟨⟨a0, a1, a2, a3, a4, a5, a6, a7.toNat, a8, a9⟩, ?_, ⟨i64_of w0, i64_of w1, i64_of w2, i64_of w3, i64_of w4, i64_of w5, i64_of w6, by show a7.toNat < 18446744073709551616; omega, i64_of w8⟩⟩
  simp [shC]
  omega
set_option maxRecDepth 100000 in
theorem open_shape {H : Type} {enc : TypeId × Value → H} {W : World} {b0 : Nat} {r : Reach} {v : Value} {d : DataW H} {p : List MemPlace} (hv : Value.okWide Tryz.prog W r b0 26 v) (h : DataW.Trod enc Tryz.prog W 0 (fun _ => true) true 26 v d p) : ∃ s : ShapeV, v = shV s ∧ ShOk s := by
  obtain ⟨cs, rfl, _⟩ := okWide_struct Tryz.underlying26 hv
  obtain ⟨fuel, hf⟩ := h
  obtain ⟨s, e, hs⟩ := shape_of hf
  refine ⟨s, ?_, hs⟩
  unfold shV
  congr 1
  simp only [Value.cells] at e
  exact Array.ext' e
set_option maxRecDepth 100000 in
theorem open_lives {H : Type} {enc : TypeId × Value → H} {W : World} {b0 : Nat} {r : Reach} {v : Value} {d : DataW H} {p : List MemPlace} (hv : Value.okWide Tryz.prog W r b0 27 v) (h : DataW.Trod enc Tryz.prog W 0 (fun _ => true) true 27 v d p) :
    ∃ (A : Option Addr) (c : Nat) (ls : List LifeV), v = .slice A ls.length c ∧ LivesR W A ls ∧ (Rows.uptoBulk d ≤ 1048576 → LvOk ls) := by
  obtain ⟨A0, n0, c0, rfl⟩ := okWide_slice Tryz.underlying27 hv
  obtain ⟨fuel, hf⟩ := h
  obtain ⟨A, c, ls, e, h1, h2⟩ := lives_of hf
  simp [Value.cells] at e
  obtain ⟨rfl, rfl, rfl⟩ := e
  exact ⟨A0, c0, ls, rfl, h1, h2⟩
end Go.Proofs.YteglbmindbfkeaaGreatDoor.Rw
