/- The reader's body, by the program: an operation's line; any line. -/
import Derived.Test.YteglbmindbfkeaaGreatDoorDp
namespace Go.Proofs.YteglbmindbfkeaaGreatDoor.H
open Go.RowKit Go.Proofs.YteglbmindbfkeaaGreatDoorW.PrintWords
set_option linter.unusedVariables false
set_option linter.unusedSimpArgs false
theorem op_ones (x : OpV) : ∀ u ∈ (opC x).toList, u.oneCell' = true := by
  intro u hu
  simp only [opC, List.mem_cons, List.not_mem_nil, or_false] at hu
  rcases hu with rfl | rfl | rfl | rfl | rfl | rfl | rfl | rfl <;> rfl
set_option maxRecDepth 100000 in
set_option maxHeartbeats 4000000 in
theorem body_op (B b : Nat) (s : ShapeV) (v : Value) (n : Nat) (ys : List Lv3) (l : LifeV) (ov kv : Value) (A : Option Addr) (c : Nat) (line : Bs) (w : World) (hE : Env w) (hBb : B ≤ b) (hb : w.heap[b]? = some (.cells (rdC s v n false) 63 (0, 0)))
    (hL : LvRow w B v (ys ++ [(l, ov, kv)])) (hS : SR w A (splB [] line)) (hl : line.length ≤ 1048576) (hok : LvOk ((ys ++ [(l, ov, kv)]).map (·.1))) (hw : word line ≠ wLife) (hk : word line ≠ wKeep) :
    Calls Tryz.prog 28 #[.pointer (some ⟨b, 0, none⟩), .string (sB line), .slice A (splB [] line).length c] w fun e w' => BdP (bodyP ((ys ++ [(l, ov, kv)]).map (·.1)) false line) B b s n w e w' := by
  have HB := Aside0.mk hb
  have hblt := blk_lt hb
  have hxl : ys.length + 1 ≤ 1048576 := by have := hok.num; rwa [List.length_map, List.length_append] at this
  have hol : l.ops.length ≤ 1048576 := (hok.each l (by simp)).opn
  obtain ⟨bb, o, rfl, hcl⟩ := hS 0 _ (splB_hd line)
  have hcl0 : w.cell? ⟨bb, o, none⟩ = some (.string (sB (word line))) := hcl
  have hqb : ((sB (word line)).toList == [108, 105, 102, 101]) = false := by rw [beq_eq_false_iff_ne, Lib.toList_data, sB_data]; exact hw
  have hqk : ((sB (word line)).toList == [107, 101, 101, 112]) = false := by rw [beq_eq_false_iff_ne, Lib.toList_data, sB_data]; exact hk
  obtain ⟨x0, hx0⟩ : ∃ x, sB (word line) = x := ⟨_, rfl⟩
  rw [hx0] at hcl0 hqb hqk
  clear hcl hx0
  obtain ⟨A2, cv, rfl⟩ := own_slice hL.row
  obtain ⟨A3, c3, hov⟩ := own_slice (hL.each (l, ov, kv) (by simp)).ops
  have hov : ov = .slice A3 l.ops.length c3 := hov
  subst hov
  obtain ⟨g, rfl, hM, hMc, hBg, g0, g1, g2, gf⟩ := hL.last
  have HL := Aside0.mk hL
  have hbg : some b ≠ (Value.slice (some ⟨g, 0, none⟩) (ys ++ [(l, Value.slice A3 l.ops.length c3, kv)]).length cv).ownBlock := own_ne_kind hL.row hb (by decide)
  have hbg1 : b ≠ g := fun e => hbg (by rw [e]; rfl)
  have hgb1 : g ≠ b := hbg1.symm
  have hglt : g < w.heap.size := (hL.row.lt g rfl).2
  have hgo : some g ≠ (Value.slice A3 l.ops.length c3).ownBlock := by
    rcases own_apart hL.row (hL.each (l, Value.slice A3 l.ops.length c3, kv) (by simp)).ops (by decide) with h | h
    · cases h
    · exact h
  have HGO := Aside0.mk hgo
  have HBO := Aside0.mk (own_ne_kind (hL.each (l, Value.slice A3 l.ops.length c3, kv) (by simp)).ops hb (by decide))
  have HOP := Aside0.mk (hL.each (l, Value.slice A3 l.ops.length c3, kv) (by simp)).ops
  clear hbg hgo
  have HP := Aside0.mk (fun W (hB : Below w.heap.size w W) => pparse_any (sB line) W (hE.below hB) (by rw [sB_size]; omega))
  rw [sB_data] at HP
  have hN1 : 1 ≤ (splB [] line).length := (splB_num line).1
  have HR0 := Aside0.mk (body_op_eq (ls := (ys ++ [(l, Value.slice A3 l.ops.length c3, kv)]).map (·.1)) hw hk (by simp))
  obtain ⟨N, hN⟩ : ∃ N, (splB [] line).length = N := ⟨_, rfl⟩
  rw [hN] at hN1 ⊢
  have hN2 : (0 : Int) < (N : Int) := by omega
  have hBw : B ≤ w.heap.size := by omega
  obtain ⟨L, hLL⟩ : ∃ L, (ys ++ [(l, Value.slice A3 l.ops.length c3, kv)]).length = L := ⟨_, rfl⟩
  obtain ⟨M, hMM⟩ : ∃ M, ys.length = M := ⟨_, rfl⟩
  have c10 : w.cell? ⟨b, 10, none⟩ = some (.slice (some ⟨g, 0, none⟩) L cv) := by rw [← hLL]; exact blk_cell hb 10
  have c12 : w.cell? ⟨b, 12, none⟩ = some (.bool false) := blk_cell hb 12
  have hLM : L = M + 1 := by rw [← hLL, ← hMM]; exact hM
  obtain ⟨X, hXX⟩ : ∃ X, l.ops.length = X := ⟨_, rfl⟩
  rw [hMM, hXX] at g0
  rw [hXX] at hol HGO HBO HOP
  have hx0 : ((L : Int) == 0) = false := by simp; omega
  have iL : IntKind.i64.wrap ((L : Int) - 1) = (M : Int) := by rw [i64_wrap _ (by omega) (by omega)]; omega
  have hm0 : (0 : Int) ≤ (M : Int) := by omega
  have hm1 : (M : Int) < (L : Int) := by omega
  have HLM := Aside0.mk (And.intro hLM (And.intro hLL (And.intro hMM hXX)))
  have HC := Aside0.mk gf
  clear hS hb hL hok hw hk hN hM hMc hLM hLL hMM hXX g1 g2 gf
  have hor : ∃ x er, parseV (parseL line) = .tuple #[opV x, .int .i64 er] ∧ ((er = 0 ∧ bodyP ((ys ++ [(l, Value.slice A3 l.ops.length c3, kv)]).map (·.1)) false line = some (addOp ((ys ++ [(l, Value.slice A3 l.ops.length c3, kv)]).map (·.1)) x, false)) ∨ (er = 260 ∧ bodyP ((ys ++ [(l, Value.slice A3 l.ops.length c3, kv)]).map (·.1)) false line = none)) := by
    have h := HR0.out
    cases hp : parseL line with
    | none => exact ⟨{}, 260, rfl, .inr ⟨rfl, by rw [h, hp]⟩⟩
    | some x => exact ⟨x, 0, rfl, .inl ⟨rfl, by rw [h, hp]⟩⟩
  obtain ⟨x, er, hx, hor⟩ := hor
  rw [hx] at HP
  unfold opV opC at HP
  clear hx HR0
  rcases hor with ⟨rfl, hR⟩ | ⟨rfl, hR⟩
  all_goals
    have HR := Aside0.mk hR
    clear hR
    go_enter Tryz.func28, Tryz.ntmps28
    go_wp2_with fail
    go_region_held3 (fun W => W.cell? ⟨b, 10, none⟩ = some (.slice (some ⟨g, 0, none⟩) L cv)) (first | exact c10 | go_keep) (first | fail)
    rename_i hH
    clear hH
    go_wp2_with (go_at_call 11; refine (HP.out _ (below_drew (Below.refl _ _))).mono ?_; rintro e w1 ⟨rfl, hB⟩; have HB1 := Aside0.mk (below_step (below_drew (Below.refl _ _)) hB); clear hB)
    obtain ⟨w2, hw2⟩ : ∃ w2, w1.alloc (.cells #[.int .i64 x.kind, .string (sB x.path), .string (sB x.other), .int .i64 x.handle, .int .i64 x.offset, .int .i64 x.n, .int .i64 x.flags, .string (sB x.data)] 38) = w2 := ⟨_, rfl⟩
    have hB2 : Below w.heap.size w w2 := by rw [← hw2]; exact below_alloc HB1.out _
    have hbx : w2.heap[w1.heap.size]? = some (.cells (opC x) 38 (0, 0)) := by rw [← hw2]; exact blk_new w1 _
    rw [hw2]
    obtain ⟨H, hH⟩ : ∃ H, w1.heap.size = H := ⟨_, rfl⟩
    rw [hH] at hbx
    simp only [hH]
    clear hw2 hH HB1
    have q0 : w2.cell? ⟨H, 0, none⟩ = some (.int .i64 x.kind) := blk_cell hbx 0
    have q1 : w2.cell? ⟨H, 1, none⟩ = some (.string (sB x.path)) := blk_cell hbx 1
    have q2 : w2.cell? ⟨H, 2, none⟩ = some (.string (sB x.other)) := blk_cell hbx 2
    have q3 : w2.cell? ⟨H, 3, none⟩ = some (.int .i64 x.handle) := blk_cell hbx 3
    have q4 : w2.cell? ⟨H, 4, none⟩ = some (.int .i64 x.offset) := blk_cell hbx 4
    have q5 : w2.cell? ⟨H, 5, none⟩ = some (.int .i64 x.n) := blk_cell hbx 5
    have q6 : w2.cell? ⟨H, 6, none⟩ = some (.int .i64 x.flags) := blk_cell hbx 6
    have q7 : w2.cell? ⟨H, 7, none⟩ = some (.string (sB x.data)) := blk_cell hbx 7
    have d0 : w2.cell? ⟨g, M * 3, none⟩ = some (.slice A3 X c3) := cell_later hB2 g0
    have ca0 : (w2.alloc (.cells #[.int .i64 x.kind, .string (sB x.path), .string (sB x.other), .int .i64 x.handle, .int .i64 x.offset, .int .i64 x.n, .int .i64 x.flags, .string (sB x.data)] 38)).cell? ⟨g, M * 3, none⟩ = some (.slice A3 X c3) := cell_later (below_alloc (Below.refl _ _) _) d0
    have HD0 := Aside0.mk d0
    have HO2 := Aside0.mk (pw_own_below HOP.out hB2)
    have hsz2 : w.heap.size ≤ w2.heap.size := hB2.size
    have HB2 := Aside0.mk hB2
    clear hbx hB2
    go_region_law ((refine step_append_cells (w0 := w) (W := w2.drew) B (by rfl) (.tmp 102) (.tmp 104) 53 38 (opV {}) 8 88 (by rfl) Tryz.underlying53 infoOp rfl (by omega) (by omega) (.slice A3 X c3) X (opsC l.ops) [.int .i64 x.kind, .string (sB x.path), .string (sB x.other), .int .i64 x.handle, .int .i64 x.offset, .int .i64 x.n, .int .i64 x.flags, .string (sB x.data)] (by rfl) (by rfl) rfl ?a1 ?aO ?aB ?aS ?aL ?_; (case a1 => exact op_ones x); (case aO => exact pw_own_below HO2.out (below_drew (Below.refl _ _))); (case aB => exact below_drew (HB2.out.mono hBw)); (case aS => show B ≤ w2.heap.size; omega); (case aL => omega); intro v3 w3 ho hb3 hg3 hat; obtain ⟨A4, c4, rfl⟩ := own_slice ho; have hbb3 := (hg3.block b (show b < w2.heap.size by omega) HBO.out).trans ((HB2.out.block b hblt).trans HB.out); have e0 := hg3.cell (a := ⟨g, M * 3, none⟩) HD0.out HGO.out; have ef : w3.frozen? ⟨g, M * 3, none⟩ = false := (World.frozen?_of_block (a := ⟨g, M * 3, none⟩) ((hg3.block g (show g < w2.heap.size by omega) HGO.out).trans (HB2.out.block g hglt))).trans (HC.out _); have HBB3 := Aside0.mk hbb3; have HO3 := Aside0.mk (And.intro ho (And.intro hg3 hat)); have HB3 := Aside0.mk hb3; clear ho hb3 hg3 hat hbb3))
    all_goals go_wp2
    all_goals first
      | exact bodyPost_ret (v := .bool false) (by simp [results, Tryz.f28, go_sem]) rfl (BdP.bad HR.out (rdC_cells (blk_far HBB3.out hbg1 _)) (below_set HB3.out hBg _))
      | refine bodyPost_ret (v := .bool true) (by simp [results, Tryz.f28, go_sem]) rfl (BdP.good (v := .slice (some ⟨g, 0, none⟩) (ys ++ [(l, Value.slice A3 l.ops.length c3, kv)]).length cv) (xs := ys ++ [({ l with ops := l.ops ++ [x] }, .slice A4 (X + 1) c4, kv)]) (k := false) (by rw [HR.out, List.map_append, List.map_append]; exact congrArg some (Prod.ext (addOp_last _ _ _) rfl)) (blk_far HBB3.out hbg1 _) ?_ (below_set HB3.out hBg _))
        have h3 := HO3.out
        rw [← HLM.out.2.2.2] at h3
        have h := LvRow.pushOp (x := x) ((HL.out.below HB2.out).drew) h3.1 h3.2.1 h3.2.2
        rw [← HLM.out.2.2.1, ← HLM.out.2.2.2]
        exact h
/-- Any line of a life, by the program. -/
theorem body_any (B b : Nat) (s : ShapeV) (v : Value) (n : Nat) (k : Bool) (xs : List Lv3) (A : Option Addr) (c : Nat) (line : Bs) (w : World) (hE : Env w) (hBb : B ≤ b) (hb : w.heap[b]? = some (.cells (rdC s v n k) 63 (0, 0)))
    (hL : LvRow w B v xs) (hS : SR w A (splB [] line)) (hc : (splB [] line).length ≤ c) (hl : line.length ≤ 1048576) (hok : LvOk (xs.map (·.1))) :
    Calls Tryz.prog 28 #[.pointer (some ⟨b, 0, none⟩), .string (sB line), .slice A (splB [] line).length c] w fun e w' => BdP (bodyP (xs.map (·.1)) k line) B b s n w e w' := by
  by_cases h1 : word line = wLife
  · exact body_life B b s v n k xs A c line w hE hBb hb hL hS hc hl hok h1
  · by_cases h2 : xs = [] ∨ k = true
    · exact body_early B b s v n k xs A c line w hBb hb hL hS hok h1 h2
    · obtain ⟨h3, h4⟩ := not_or.1 h2
      obtain rfl : k = false := by cases k with
        | false => rfl
        | true => exact absurd rfl h4
      obtain ⟨ys, ⟨l, ov, kv⟩, rfl⟩ : ∃ ys y, xs = ys ++ [y] := ⟨xs.dropLast, xs.getLast h3, (List.dropLast_concat_getLast h3).symm⟩
      by_cases h5 : word line = wKeep
      · exact body_keep B b s v n ys l ov kv A c line w hE hBb hb hL hS hc hl hok h5
      · exact body_op B b s v n ys l ov kv A c line w hE hBb hb hL hS hl hok h1 h5
end Go.Proofs.YteglbmindbfkeaaGreatDoor.H
