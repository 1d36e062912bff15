/- The reference of package space: Fork. -/
import Derived.Test.YtpcgmlnipeigjaaUh
import Derived.Test.YtpcgmlnipeigjaaSl
import Derived.Deep.AppendLies
namespace Go.Proofs.Ytpcgmlnipeigjaa.H
open Go.RowKit Go.Shelf Go.Proofs.YtpcgmlnipeigjaaW.PrintWords Go.Proofs.YtpcgmlnipeigjaaW.PrintLast Go.Proofs.YtpcgmlnipeigjaaW.PrintMore
set_option linter.unusedVariables false
set_option linter.unusedSimpArgs false

set_option maxRecDepth 100000 in
set_option maxHeartbeats 4000000 in
theorem rfork_any (Y g : Nat) (first res : Int) (l : List Int) (w : World) (hR : RfAt w Y g first l res) (hp : 0 < l.length) (hl : l.length ≤ 4096) :
    Calls Try.prog 25 #[.pointer (some ⟨Y, 0, none⟩)] w fun e w' => ∃ Y' g', e = .returned (.pointer (some ⟨Y', 0, none⟩)) ∧ w.heap.size ≤ Y' ∧ w.heap.size ≤ g' ∧ RfAt w' Y' g' first l res ∧ Below w.heap.size w w' := by
  have hu74 := Try.underlying74
  have hu29 := Try.underlying29
  have HR := Aside0.mk hR
  have hx0 := hR.x0
  obtain ⟨K, hKl, hx1⟩ := hR.xk
  have hx2 := hR.x2
  have HC := Aside0.mk (hR.row.c hl)
  have HP := Aside0.mk hp
  have HL := Aside0.mk hl
  clear hR hp hl
  go_enter Try.func25, Try.ntmps25
  go_wp2_with fail
  go_region_held3 (fun w' => w'.cell? ⟨Y, 0, none⟩ = some (.int .i64 first) ∧ w'.cell? ⟨Y, 1, none⟩ = some (.slice (some ⟨g, 0, none⟩) l.length K) ∧ w'.cell? ⟨Y, 2, none⟩ = some (.int .i64 res)) (first | go_keep | exact ⟨cell_later hBn hx0, cell_later hBn hx1, cell_later hBn hx2⟩) (first
    | (refine Kd.R_append_rows_step (Kd.int .i64) (w0 := w) w.heap.size (by rfl) (.tmp 7) (.tmp 11) 29 3 (.int .i64 0) 8 rfl Try.underlying29 info3 rfl (by decide) (by omega) (.slice (some ⟨w.heap.size, 0, none⟩) 0 0) [] l (some ⟨g, 0, none⟩) l.length K (fun k => w.heap.size ≤ k) (fun _ => False) rfl rfl ?aO ?aC (fun _ _ h => h) (fun _ h => h.elim) ?aF ?aB ?aS ?aL ?_; (case aO => exact Kd.R_drew (R_empty _ _ _)); (case aC => exact Kd.C_drew (Kd.C_alloc HC.out _)); (case aF => intro k hk; simp at hk; omega); (case aB => exact below_drew (below_alloc (Below.refl _ _) _)); (case aS => simp); (case aL => have := HL.out; simp; omega); intro v1 w1 hR1 hBn _ _; simp only [List.nil_append] at hR1; obtain ⟨g', K', rfl, hg', _, _⟩ := Kd.R_form hR1 HP.out; have HR1 := Aside0.mk hR1; have HG1 := Aside0.mk hg'; have HB1 := Aside0.mk hBn; clear hR1 hg'))
  go_wp2
  go_ret
  have hr := HR1.out
  have hK := (Kd.R_reads' hr).2.1
  have hrow := RowAt.of_R hr
  exact ⟨w1.heap.size, g', rfl, HB1.out.size, HG1.out, ⟨⟨K', hK, blk_new w1 _⟩, hrow.keep (Below.heap_alloc _ _ _ hrow.lt)⟩, below_alloc HB1.out _⟩
end Go.Proofs.Ytpcgmlnipeigjaa.H
