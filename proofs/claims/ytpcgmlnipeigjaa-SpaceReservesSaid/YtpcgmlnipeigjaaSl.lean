/- Package space: Clone and Fork as contracts. -/
import Derived.Test.YtpcgmlnipeigjaaSk
namespace Go.Proofs.Ytpcgmlnipeigjaa.H
open Go.RowKit Go.Shelf Go.Proofs.YtpcgmlnipeigjaaW.PrintWords Go.Proofs.YtpcgmlnipeigjaaW.PrintLast Go.Proofs.YtpcgmlnipeigjaaW.PrintMore
set_option linter.unusedVariables false
set_option linter.unusedSimpArgs false

theorem RowAt.c {k : IntKind} {t : Nat} {w : World} {g : Nat} {l : List Int} (h : RowAt k t w g l) (hl : l.length ≤ 4096) : Kd.C (Kd.int k) w (some ⟨g, 0, none⟩) l.length l := by
  refine ⟨rfl, by omega, fun _ => ⟨_, rfl, fun j p hj => ?_⟩⟩
  refine ⟨[.int k p], rfl, rfl, fun i u hu => ?_⟩
  cases i with
  | succ i => simp at hu
  | zero =>
    simp at hu
    subst hu
    have hz1 : (Kd.int k).sz = 1 := rfl
    rw [hz1, Nat.mul_one, Nat.add_zero]
    have := h.cell hj
    unfold Addr.add
    split
    · rename_i h0; subst h0; exact this
    · simpa using this
theorem RowAt.of_R {k : IntKind} {t base : Nat} {ok : Nat → Prop} {w : World} {g c : Nat} {l : List Int} (h : Kd.R (Kd.int k) t w base ok (.slice (some ⟨g, 0, none⟩) l.length c) l) : RowAt k t w g l := by
  obtain ⟨cs, hc⟩ := Kd.R_typed h g rfl
  have hi : ∀ i q, l[i]? = some q → cs[i]? = some (Value.int k q) := fun i q hq => by
    obtain ⟨hlt, _⟩ := List.getElem?_eq_some_iff.1 hq
    have h1 := (Kd.R_cell (0 : Int) h i (by omega) (by omega)).1
    rw [Int.toNat_natCast] at h1
    have h2 := (blk_cell hc i).symm.trans h1
    rw [h2]
    congr 2
    unfold rdOf
    rw [Int.toNat_natCast, List.getD_eq_getElem?_getD, hq]
    rfl
  refine ⟨cs.toList.drop l.length, ?_⟩
  rw [hc]
  congr 2
  refine Array.ext_getElem? (fun i => ?_)
  refine Eq.trans ?_ (List.getElem?_toArray (xs := l.map (Value.int k) ++ cs.toList.drop l.length)).symm
  by_cases hlt : i < l.length
  · obtain ⟨q, hq⟩ : ∃ q, l[i]? = some q := ⟨_, List.getElem?_eq_getElem hlt⟩
    rw [hi i q hq, List.getElem?_append_left (by simpa using hlt), List.getElem?_map, hq]
    rfl
  · rw [List.getElem?_append_right (by simpa using hlt), List.length_map, List.getElem?_drop, show l.length + (i - l.length) = i by omega, Array.getElem?_toList]

theorem R_empty {α : Type} (d : Kd α) (e : Nat) (w : World) : d.R e (w.alloc (.cells #[] e)) w.heap.size (fun k => w.heap.size ≤ k) (.slice (some ⟨w.heap.size, 0, none⟩) 0 0) [] := by
  refine ⟨fun k hk => ?_, [], ?_, Reps.none _ _⟩
  · have : w.heap.size = k := by simpa [Value.ownBlock] using hk
    omega
  · have h2 := World.ownsRow_lit (base := w.heap.size) (e := e) (size := d.sz) w #[] 0 (Nat.le_refl _) (by simp [maxLen]) (by simp)
    simpa using h2

set_option maxHeartbeats 1000000 in
theorem clone_any (g K : Nat) (l : List Int) (w : World) (hr : RowAt .u8 5 w g l) (hp : 0 < l.length) (hl : l.length ≤ 4096) :
    Calls Try.prog 50 #[.slice (some ⟨g, 0, none⟩) l.length K] w fun e w' => ∃ g' K', e = .returned (.slice (some ⟨g', 0, none⟩) l.length K') ∧ l.length ≤ K' ∧ w.heap.size ≤ g' ∧ RowAt .u8 5 w' g' l ∧ Below w.heap.size w w' := by
  have e1 := fun W => run_eql_slice_nil (P := Try.prog) W 51 5 (some ⟨g, 0, none⟩) l.length K Try.underlying51
  have HR := Aside0.mk (hr.c hl)
  have HP := Aside0.mk hp
  clear hr hp
  go_enter Try.func50, Try.ntmps50
  go_wp2_with (at_builtin; go_must (refine Kd.R_append_rows (Kd.int .u8) (w0 := w) w.heap.size rfl (.tmp 5) (.tmp 6) 51 5 (.int .u8 0) 1 rfl Try.underlying51 info5 rfl (by decide) (by omega) (.slice (some ⟨w.heap.size, 0, none⟩) 0 0) [] l _ _ _ (fun k => w.heap.size ≤ k) (fun _ => False) rfl rfl ?aO ?aC (fun _ _ h => h) (fun _ h => h.elim) ?aF ?aB ?aS ?aL ?_); (case aF => intro k hk; simp at hk; omega); (case aO => exact R_empty _ _ _); (case aC => exact Kd.C_alloc HR.out _); (case aB => exact below_alloc (Below.refl _ _) _); (case aS => simp); (case aL => simp; omega); intro v1 w1 hR1 hB1 _ _; have HR1 := Aside0.mk hR1; have HB1 := Aside0.mk hB1; clear hR1 hB1)
  go_ret
  have hR : Kd.R (Kd.int .u8) 5 w1 w.heap.size (fun k => w.heap.size ≤ k) v1 l := by simpa using HR1.out
  obtain ⟨g', K', rfl, hg, _, _⟩ := Kd.R_form hR HP.out
  obtain ⟨_, hK, _⟩ := Kd.R_reads' hR
  exact ⟨g', K', rfl, hK, hg, RowAt.of_R hR, HB1.out⟩

set_option maxHeartbeats 1000000 in
theorem fork_any (X g : Nat) (first res : Int) (l : List Int) (c : Int → Int) (w : World) (hS : SpAt w X g first l c res) (hp : 0 < l.length) (hl : l.length ≤ 4096) :
    Calls Try.prog 24 #[.pointer (some ⟨X, 0, none⟩)] w fun e w' => ∃ X' g', e = .returned (.pointer (some ⟨X', 0, none⟩)) ∧ w.heap.size ≤ X' ∧ w.heap.size ≤ g' ∧ SpAt w' X' g' first l c res ∧ Below w.heap.size w w' := by
  have hu54 := Try.underlying54
  have hu52 := Try.underlying52
  have HS := Aside0.mk hS
  have HP := Aside0.mk hp
  clear hS hp
  go_enter Try.func24, Try.ntmps24
  go_wp2_with (first
    | (go_at_call 32; refine (made_yes X g first res l c _ HS.out).mono ?_; rintro e w1 ⟨rfl, hB⟩; have h1 := HS.out.below hB; have hx0 := h1.x0; obtain ⟨K, hK, hx1⟩ := h1.xk; have hx2 := h1.x2; have hx3 := h1.x3; have hx4 := h1.x4; have hx5 := h1.x5; obtain ⟨K2, hK2, hy1⟩ := (h1.below (below_alloc (Below.refl w1.heap.size w1) (.cells #[.int .i64 first, .slice (some ⟨g, 0, none⟩) l.length K, .int .i64 (c 0), .int .i64 (c 1), .int .i64 (c 2), .int .i64 res] 54))).xk; have HS1 := Aside0.mk h1; have HB1 := Aside0.mk hB; clear hB h1)
    | (go_at_call 50; refine (clone_any g K2 l _ ((HS1.out.below (below_alloc (Below.refl w1.heap.size w1) _)).row) HP.out hl).mono ?_; rintro e w2 ⟨g', K', rfl, hK', hg', hr, hB⟩; have hb := (hB.block w1.heap.size (by simp)).trans (blk_new w1 _); have hf1 := blk_frozen hb 1; have hz1 := (blk_cell hb 1).trans rfl; have HB2 := Aside0.mk hB; have HR2 := Aside0.mk hr; have HG2 := Aside0.mk hg'; have Hb2 := Aside0.mk hb; clear hB hr hg' hb))
  go_ret
  have hsz : (w1.alloc (.cells #[.int .i64 first, .slice (some ⟨g, 0, none⟩) l.length K, .int .i64 (c 0), .int .i64 (c 1), .int .i64 (c 2), .int .i64 res] 54)).heap.size = w1.heap.size + 1 := by simp
  have hg' := HG2.out
  rw [hsz] at hg'
  have hb1 := HB1.out.size
  refine ⟨w1.heap.size, g', rfl, hb1, by omega, ⟨⟨K', hK', ?_⟩, HR2.out.keep (Below.heap_setCell _ _ _ _ (show g' ≠ w1.heap.size by omega))⟩, ?_⟩
  · rw [setCell_row Hb2.out]; rfl
  · exact (below_step (below_alloc HB1.out _) HB2.out).setCell (p := ⟨w1.heap.size, 1, none⟩) hb1 _
end Go.Proofs.Ytpcgmlnipeigjaa.H
