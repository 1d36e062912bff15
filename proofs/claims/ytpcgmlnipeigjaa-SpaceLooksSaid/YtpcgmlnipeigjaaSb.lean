/- Package space and its reference: New of both. -/
import Derived.Test.YtpcgmlnipeigjaaSa
import Derived.Deep.RegionHeld3
namespace Go.Proofs.Ytpcgmlnipeigjaa.H
open Go.RowKit Go.Proofs.YtpcgmlnipeigjaaW.PrintWords Go.Proofs.YtpcgmlnipeigjaaW.PrintLast Go.Proofs.YtpcgmlnipeigjaaW.PrintMore
set_option linter.unusedVariables false
set_option linter.unusedSimpArgs false

theorem info5 : (Try.prog.info? 5).map (fun i => (i.zero, i.size, i.bytes)) = some (some (.int .u8 0), 1, 1) := by kernel_rfl
theorem info3 : (Try.prog.info? 3).map (fun i => (i.zero, i.size, i.bytes)) = some (some (.int .i64 0), 1, 8) := by kernel_rfl

theorem made_row (k : IntKind) (n : Nat) : madeCells #[.int k 0] n = rowOf k (List.replicate n 0) := by
  unfold rowOf madeCells
  refine Array.ext (by simp) (fun i h1 h2 => ?_)
  simp [Nat.mod_one]
theorem alloc_new' {w : World} {k : Nat} (h : w.heap.size = k) (o : Obj) : (w.alloc o).heap[k]? = some o := by
  subst h
  exact blk_new w o
/-- What New takes. -/
def okN (first count : Int) : Bool := decide (0 ≤ first) && decide (1 ≤ count) && decide (first ≤ 4096) && decide (count ≤ 4096 - first)
/-- The reference's block at Y, its row at h. -/
structure RfAt (w : World) (Y h : Nat) (first : Int) (l : List Int) (res : Int) : Prop where
  blk : ∃ K, l.length ≤ K ∧ w.heap[Y]? = some (.cells #[.int .i64 first, .slice (some ⟨h, 0, none⟩) l.length K, .int .i64 res] 74 (0, 0))
  row : RowAt .i64 3 w h l
namespace RfAt
variable {w w' : World} {Y g : Nat} {first res : Int} {l : List Int}
theorem ne (h : RfAt w Y g first l res) : Y ≠ g := by
  obtain ⟨K, _, hb⟩ := h.blk
  obtain ⟨cs, hr⟩ := h.row.ty
  exact blk_ne hb hr (by decide)
theorem ltY (h : RfAt w Y g first l res) : Y < w.heap.size := blk_lt h.blk.choose_spec.2
theorem ltg (h : RfAt w Y g first l res) : g < w.heap.size := h.row.lt
theorem x0 (h : RfAt w Y g first l res) : w.cell? ⟨Y, 0, none⟩ = some (.int .i64 first) := (blk_cell h.blk.choose_spec.2 0).trans rfl
theorem xk (h : RfAt w Y g first l res) : ∃ K, l.length ≤ K ∧ w.cell? ⟨Y, 1, none⟩ = some (.slice (some ⟨g, 0, none⟩) l.length K) := ⟨_, h.blk.choose_spec.1, (blk_cell h.blk.choose_spec.2 1).trans rfl⟩
theorem x2 (h : RfAt w Y g first l res) : w.cell? ⟨Y, 2, none⟩ = some (.int .i64 res) := (blk_cell h.blk.choose_spec.2 2).trans rfl
theorem fY (h : RfAt w Y g first l res) (i : Nat) : w.frozen? ⟨Y, i, none⟩ = false := blk_frozen h.blk.choose_spec.2 i
theorem fg (h : RfAt w Y g first l res) (i : Nat) : w.frozen? ⟨g, i, none⟩ = false := h.row.frozen i
theorem at_ (h : RfAt w Y g first l res) {i : Nat} {q : Int} (hq : l[i]? = some q) : w.cell? ⟨g, i, none⟩ = some (.int .i64 q) := h.row.cell hq
theorem keep (h : RfAt w Y g first l res) (h1 : w'.heap[Y]? = w.heap[Y]?) (h2 : w'.heap[g]? = w.heap[g]?) : RfAt w' Y g first l res := by
  obtain ⟨K, hK, hb⟩ := h.blk
  exact ⟨⟨K, hK, h1.trans hb⟩, h.row.keep h2⟩
theorem below (h : RfAt w Y g first l res) (hb : Below w.heap.size w w') : RfAt w' Y g first l res := h.keep (hb.block _ h.ltY) (hb.block _ h.ltg)
theorem setg (h : RfAt w Y g first l res) (i : Nat) (v : Int) : RfAt (w.setCell ⟨g, i, none⟩ (.int .i64 v)) Y g first (l.set i v) res := by
  obtain ⟨K, hK, hb⟩ := h.blk
  refine ⟨⟨K, by rw [List.length_set]; exact hK, ?_⟩, h.row.set i v⟩
  rw [Below.heap_setCell _ _ _ _ (show Y ≠ g from h.ne), hb, List.length_set]
theorem setr (h : RfAt w Y g first l res) (v : Int) : RfAt (w.setCell ⟨Y, 2, none⟩ (.int .i64 v)) Y g first l v := by
  obtain ⟨K, hK, hb⟩ := h.blk
  refine ⟨⟨K, hK, ?_⟩, h.row.keep (Below.heap_setCell _ _ _ _ (show g ≠ Y from h.ne.symm))⟩
  rw [setCell_row hb]; rfl
end RfAt

set_option maxHeartbeats 2000000 in
theorem new_bad (first count : Int) (w : World) (hb : okN first count = false) :
    Calls Try.prog 30 #[.int .i64 first, .int .i64 count] w fun e w' => e = .returned (.tuple #[.pointer none, .int .i64 1]) ∧ Below w.heap.size w w' := by
  have hu54 := Try.underlying54
  have hu52 := Try.underlying52
  by_cases h1 : first < 0
  · have d1 : decide (first < 0) = true := decide_eq_true h1
    go_enter Try.func30, Try.ntmps30
    go_wp2
    go_ret2
    exact ⟨rfl, Below.refl _ _⟩
  have d1 : decide (first < 0) = false := decide_eq_false h1
  by_cases h2 : count < 1
  · have d2 : decide (count < 1) = true := decide_eq_true h2
    go_enter Try.func30, Try.ntmps30
    go_wp2
    go_ret2
    exact ⟨rfl, Below.refl _ _⟩
  have d2 : decide (count < 1) = false := decide_eq_false h2
  by_cases h3 : 4096 < first
  · have d3 : decide (4096 < first) = true := decide_eq_true h3
    go_enter Try.func30, Try.ntmps30
    go_wp2
    go_ret2
    exact ⟨rfl, Below.refl _ _⟩
  have d3 : decide (4096 < first) = false := decide_eq_false h3
  by_cases h4 : 4096 - first < count
  · have d4 : decide (4096 - first < count) = true := decide_eq_true h4
    have e4 : wrap64 (4096 - first) = 4096 - first := by unfold wrap64; omega
    go_enter Try.func30, Try.ntmps30
    go_wp2
    go_ret2
    exact ⟨rfl, Below.refl _ _⟩
  · exfalso
    unfold okN at hb
    simp at hb
    omega

set_option maxHeartbeats 2000000 in
theorem new_good (first count : Int) (w : World) (hb : okN first count = true) :
    Calls Try.prog 30 #[.int .i64 first, .int .i64 count] w fun e w' => ∃ X g, e = .returned (.tuple #[.pointer (some ⟨X, 0, none⟩), .int .i64 0]) ∧ w.heap.size ≤ X ∧ w.heap.size ≤ g ∧
      SpAt w' X g first (List.replicate count.toNat 0) (cnt (List.replicate count.toNat 0)) 0 ∧ Below w.heap.size w w' := by
  have hu54 := Try.underlying54
  have hu52 := Try.underlying52
  unfold okN at hb
  simp at hb
  have d1 : decide (first < 0) = false := decide_eq_false (by omega)
  have d2 : decide (count < 1) = false := decide_eq_false (by omega)
  have d3 : decide (4096 < first) = false := decide_eq_false (by omega)
  have d4 : decide (4096 - first < count) = false := decide_eq_false (by omega)
  have e4 : wrap64 (4096 - first) = 4096 - first := by unfold wrap64; omega
  obtain ⟨n, rfl⟩ : ∃ n : Nat, count = n := ⟨count.toNat, by omega⟩
  have hmk := run_make_row' (P := Try.prog) 51 5 (.int .u8 0) 1 Try.underlying51 info5 rfl .i64 .i64 n (by omega) (by omega)
  go_enter Try.func30, Try.ntmps30
  go_wp2
  go_ret2
  have hc0 : cnt (List.replicate n 0) 0 = n := by unfold cnt; simp
  have hc1 : cnt (List.replicate n 0) 1 = 0 := by unfold cnt; simp [List.count_replicate]
  have hc2 : cnt (List.replicate n 0) 2 = 0 := by unfold cnt; simp [List.count_replicate]
  refine ⟨w.heap.size + 1, w.heap.size, rfl, by omega, Nat.le_refl _, ⟨⟨n, by simp, ?_⟩, .of_exact ?_⟩, below_alloc (below_alloc (Below.refl _ _) _) _⟩
  · rw [Int.toNat_natCast, hc0, hc1, hc2, List.length_replicate]
    exact alloc_new' (by simp) _
  · rw [Below.heap_alloc _ _ _ (by simp), Int.toNat_natCast, ← made_row]
    exact blk_new w _

set_option maxHeartbeats 2000000 in
theorem rnew_bad (first count : Int) (w : World) (hb : okN first count = false) :
    Calls Try.prog 31 #[.int .i64 first, .int .i64 count] w fun e w' => e = .returned (.tuple #[.pointer none, .int .i64 1]) ∧ Below w.heap.size w w' := by
  have hu74 := Try.underlying74
  by_cases h1 : first < 0
  · have d1 : decide (first < 0) = true := decide_eq_true h1
    go_enter Try.func31, Try.ntmps31
    go_wp2
    go_ret2
    exact ⟨rfl, Below.refl _ _⟩
  have d1 : decide (first < 0) = false := decide_eq_false h1
  by_cases h2 : count < 1
  · have d2 : decide (count < 1) = true := decide_eq_true h2
    go_enter Try.func31, Try.ntmps31
    go_wp2
    go_ret2
    exact ⟨rfl, Below.refl _ _⟩
  have d2 : decide (count < 1) = false := decide_eq_false h2
  by_cases h3 : 4096 < count
  · have d3 : decide (4096 < count) = true := decide_eq_true h3
    go_enter Try.func31, Try.ntmps31
    go_wp2
    go_ret2
    exact ⟨rfl, Below.refl _ _⟩
  have d3 : decide (4096 < count) = false := decide_eq_false h3
  by_cases h4 : 4096 - count < first
  · have d4 : decide (4096 - count < first) = true := decide_eq_true h4
    have e4 : wrap64 (4096 - count) = 4096 - count := by unfold wrap64; omega
    go_enter Try.func31, Try.ntmps31
    go_wp2
    go_ret2
    exact ⟨rfl, Below.refl _ _⟩
  · exfalso
    unfold okN at hb
    simp at hb
    omega

set_option maxHeartbeats 2000000 in
theorem rnew_good (first count : Int) (w : World) (hb : okN first count = true) :
    Calls Try.prog 31 #[.int .i64 first, .int .i64 count] w fun e w' => ∃ Y h, e = .returned (.tuple #[.pointer (some ⟨Y, 0, none⟩), .int .i64 0]) ∧ w.heap.size ≤ Y ∧ w.heap.size ≤ h ∧
      RfAt w' Y h first (List.replicate count.toNat 0) 0 ∧ Below w.heap.size w w' := by
  have hu74 := Try.underlying74
  unfold okN at hb
  simp at hb
  have d1 : decide (first < 0) = false := decide_eq_false (by omega)
  have d2 : decide (count < 1) = false := decide_eq_false (by omega)
  have d3 : decide (4096 < count) = false := decide_eq_false (by omega)
  have d4 : decide (4096 - count < first) = false := decide_eq_false (by omega)
  have e4 : wrap64 (4096 - count) = 4096 - count := by unfold wrap64; omega
  obtain ⟨n, rfl⟩ : ∃ n : Nat, count = n := ⟨count.toNat, by omega⟩
  have hmk := run_make_row' (P := Try.prog) 29 3 (.int .i64 0) 8 Try.underlying29 info3 rfl .i64 .i64 n (by omega) (by omega)
  go_enter Try.func31, Try.ntmps31
  go_wp2
  go_ret2
  refine ⟨w.heap.size + 1, w.heap.size, rfl, by omega, Nat.le_refl _, ⟨⟨n, by simp, ?_⟩, .of_exact ?_⟩, below_alloc (below_alloc (Below.refl _ _) _) _⟩
  · rw [Int.toNat_natCast, List.length_replicate]
    exact alloc_new' (by simp) _
  · rw [Below.heap_alloc _ _ _ (by simp), Int.toNat_natCast, ← made_row]
    exact blk_new w _
end Go.Proofs.Ytpcgmlnipeigjaa.H
