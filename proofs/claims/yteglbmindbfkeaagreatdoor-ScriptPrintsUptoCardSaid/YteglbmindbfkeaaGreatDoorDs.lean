/- A line of a life, by the reference: an operation; any line. -/
import Derived.Test.YteglbmindbfkeaaGreatDoorDr
namespace Go.Proofs.YteglbmindbfkeaaGreatDoor.H
open Go.RowKit Go.Proofs.YteglbmindbfkeaaGreatDoorW.PrintWords
set_option linter.unusedVariables false
set_option linter.unusedSimpArgs false
set_option maxRecDepth 100000 in
set_option maxHeartbeats 4000000 in
theorem life_op (B : Nat) (v : Value) (ys : List Lv3) (l : LifeV) (ov kv : Value) (line : Bs) (w : World) (hBw : B ≤ w.heap.size)
    (hL : LvRow w B v (ys ++ [(l, ov, kv)])) (hl : line.length ≤ 1048576) (hok : LvOk ((ys ++ [(l, ov, kv)]).map (·.1))) (h0 : numsR (splL line) wLife 1 = none) (hk : ¬ (splL line).head? = some wKeep) :
    Calls Tryz.prog 32 #[v, .string (sB line), .bool false] w fun e w' => LlP (bodyP ((ys ++ [(l, ov, kv)]).map (·.1)) false line) B w e w' := by
  have hxl : ys.length + 1 ≤ 1048576 := by have := hok.num; rwa [List.length_map, List.length_append] at this
  have hol : l.ops.length ≤ 1048576 := (hok.each l (by simp)).opn
  have hne : ¬ ((ys ++ [(l, ov, kv)]).map (·.1) = [] ∨ false = true) := by rintro (h | h) <;> simp at h
  have hR0 := bodyR_rest (ls := (ys ++ [(l, ov, kv)]).map (·.1)) (k := false) h0
  rw [if_neg hne, if_neg hk] at hR0
  have HSp := Aside0.mk (rsplit_words line hl)
  have HNum := Aside0.mk (fun W A c (hS : SR W A (splL line)) (hc : (splL line).length ≤ c) => rnums_any A c (splL line) wLife 1 W hS hc (by have := splL_num line; omega) (by omega) (fun x hx => by have := (splL_num line).2.2 x hx; omega))
  rw [h0, show sB wLife = ⟨#[108, 105, 102, 101]⟩ from rfl] at HNum
  obtain ⟨wd, hwd⟩ : ∃ wd, (splL line)[0]? = some wd := ⟨_, List.getElem?_eq_getElem (splL_num line).1⟩
  have hwk : wd ≠ wKeep := fun e => hk (by rw [List.head?_eq_getElem?, hwd, e])
  have HW0 := Aside0.mk (fun W (g : Nat) (hS : SR W (some ⟨g, 0, none⟩) (splL line)) => show W.cell? ⟨g, 0, none⟩ = some (.string (sB wd)) by obtain ⟨_, _, e, h⟩ := hS 0 _ hwd; cases e; exact h)
  have hq : ((sB wd).toList == [107, 101, 101, 112]) = false := by rw [beq_eq_false_iff_ne, Lib.toList_data, sB_data]; exact hwk
  obtain ⟨x0, hx0⟩ : ∃ x, sB wd = x := ⟨_, rfl⟩
  rw [hx0] at hq HW0
  have HP := Aside0.mk (fun W => rparse_any (sB line) W (by rw [sB_size]; omega))
  rw [sB_data] at HP
  obtain ⟨A2, cv, rfl⟩ := own_slice hL.row
  obtain ⟨A3, c3, hov⟩ := own_slice (hL.each (l, ov, kv) (by simp)).ops
  have hov : ov = .slice A3 l.ops.length c3 := hov
  subst hov
  obtain ⟨g, rfl, hM, hMc, hBg, g0, g1, g2, gf⟩ := hL.last
  have HL := Aside0.mk hL
  have hglt : g < w.heap.size := (hL.row.lt g rfl).2
  have hgo : some g ≠ (Value.slice A3 l.ops.length c3).ownBlock := by
    rcases own_apart hL.row (hL.each (l, Value.slice A3 l.ops.length c3, kv) (by simp)).ops (by decide) with h | h
    · cases h
    · exact h
  have HGO := Aside0.mk hgo
  have HOP := Aside0.mk (hL.each (l, Value.slice A3 l.ops.length c3, kv) (by simp)).ops
  obtain ⟨L, hLL⟩ : ∃ L, (ys ++ [(l, Value.slice A3 l.ops.length c3, kv)]).length = L := ⟨_, rfl⟩
  obtain ⟨M, hMM⟩ : ∃ M, ys.length = M := ⟨_, rfl⟩
  obtain ⟨X, hXX⟩ : ∃ X, l.ops.length = X := ⟨_, rfl⟩
  obtain ⟨N, hN⟩ : ∃ N, (splL line).length = N := ⟨_, rfl⟩
  have hN1 := (splL_num line).1
  have hN9 := (splL_num line).2.1
  unfold SpW at HSp
  rw [hN] at HSp HNum hN1 hN9
  have hLM : L = M + 1 := by rw [← hLL, ← hMM]; exact hM
  rw [hLL]
  rw [hMM, hXX] at g0
  rw [hXX] at hol HGO HOP
  have hx1 : ((L : Int) == 0) = false := by simp; omega
  have hN2 : (0 : Int) < (N : Int) := by omega
  have wL : wrap64 ((L : Int) - 1) = (M : Int) := by unfold wrap64; omega
  have hm0 : (0 : Int) ≤ (M : Int) := by omega
  have hm1 : (M : Int) < (L : Int) := by omega
  have HLM := Aside0.mk (And.intro hLL (And.intro hMM hXX))
  have HC := Aside0.mk gf
  have hor : ∃ x er, parseV (parseR line) = .tuple #[opV x, .int .i64 er] ∧ ((er = 0 ∧ bodyP ((ys ++ [(l, Value.slice A3 l.ops.length c3, kv)]).map (·.1)) false line = some (addOp ((ys ++ [(l, Value.slice A3 l.ops.length c3, kv)]).map (·.1)) x, false)) ∨ (er = 260 ∧ bodyP ((ys ++ [(l, Value.slice A3 l.ops.length c3, kv)]).map (·.1)) false line = none)) := by
    cases hp : parseR line with
    | none => exact ⟨{}, 260, rfl, .inr ⟨rfl, by rw [hR0, hp]⟩⟩
    | some x => exact ⟨x, 0, rfl, .inl ⟨rfl, by rw [hR0, hp]⟩⟩
  obtain ⟨x, er, hx, hor⟩ := hor
  rw [hx] at HP
  unfold opV opC at HP
  clear hx hne hR0 hL hok h0 hk hwd hwk hx0 hM hMc hLM hLL hMM hXX hN g1 g2 gf hgo
  rcases hor with ⟨rfl, hR⟩ | ⟨rfl, hR⟩
  all_goals
    have HR := Aside0.mk hR
    clear hR
    go_enter Tryz.func32, Tryz.ntmps32
    go_wp2_with (first
      | (go_at_call 31; refine (HSp.out _).mono ?_; rintro e w1 ⟨g4, c, rfl, hg, hc, hS, hB⟩; have HS := Aside0.mk hS; have HB1 := Aside0.mk hB; clear hS hB)
      | (go_at_call 57; refine (HNum.out _ _ _ HS.out hc).mono ?_; rintro e w2 ⟨rfl, hB⟩; have HB2 := Aside0.mk (below_step HB1.out hB); have hcw := HW0.out _ _ (HS.out.below hB); clear hB)
      | (go_at_call 59; refine (HP.out _).mono ?_; rintro e w3 ⟨rfl, hB⟩; have HB3 := Aside0.mk (below_step HB2.out hB); clear hB))
    obtain ⟨w4, hw4⟩ : ∃ w4, w3.alloc (.cells #[.int .i64 x.kind, .string (sB x.path), .string (sB x.other), .int .i64 x.handle, .int .i64 x.offset, .int .i64 x.n, .int .i64 x.flags, .string (sB x.data)] 38) = w4 := ⟨_, rfl⟩
    have hB2 : Below w.heap.size w w4 := by rw [← hw4]; exact below_alloc HB3.out _
    have hbx : w4.heap[w3.heap.size]? = some (.cells (opC x) 38 (0, 0)) := by rw [← hw4]; exact blk_new w3 _
    rw [hw4]
    obtain ⟨H, hH⟩ : ∃ H, w3.heap.size = H := ⟨_, rfl⟩
    rw [hH] at hbx
    simp only [hH]
    clear hw4 hH HB3 HB2 hcw
    have q0 : w4.cell? ⟨H, 0, none⟩ = some (.int .i64 x.kind) := blk_cell hbx 0
    have q1 : w4.cell? ⟨H, 1, none⟩ = some (.string (sB x.path)) := blk_cell hbx 1
    have q2 : w4.cell? ⟨H, 2, none⟩ = some (.string (sB x.other)) := blk_cell hbx 2
    have q3 : w4.cell? ⟨H, 3, none⟩ = some (.int .i64 x.handle) := blk_cell hbx 3
    have q4 : w4.cell? ⟨H, 4, none⟩ = some (.int .i64 x.offset) := blk_cell hbx 4
    have q5 : w4.cell? ⟨H, 5, none⟩ = some (.int .i64 x.n) := blk_cell hbx 5
    have q6 : w4.cell? ⟨H, 6, none⟩ = some (.int .i64 x.flags) := blk_cell hbx 6
    have q7 : w4.cell? ⟨H, 7, none⟩ = some (.string (sB x.data)) := blk_cell hbx 7
    have d0 : w4.cell? ⟨g, M * 3, none⟩ = some (.slice A3 X c3) := cell_later hB2 g0
    have ca0 : (w4.alloc (.cells #[.int .i64 x.kind, .string (sB x.path), .string (sB x.other), .int .i64 x.handle, .int .i64 x.offset, .int .i64 x.n, .int .i64 x.flags, .string (sB x.data)] 38)).cell? ⟨g, M * 3, none⟩ = some (.slice A3 X c3) := cell_later (below_alloc (Below.refl _ _) _) d0
    have HD0 := Aside0.mk d0
    have HO2 := Aside0.mk (pw_own_below HOP.out hB2)
    have hsz2 : w.heap.size ≤ w4.heap.size := hB2.size
    have HB4 := Aside0.mk hB2
    clear hbx hB2
    go_region_law ((refine step_append_cells (w0 := w) (W := w4.drew) B (by rfl) (.tmp 77) (.tmp 79) 53 38 (opV {}) 8 88 (by rfl) Tryz.underlying53 infoOp rfl (by omega) (by omega) (.slice A3 X c3) X (opsC l.ops) [.int .i64 x.kind, .string (sB x.path), .string (sB x.other), .int .i64 x.handle, .int .i64 x.offset, .int .i64 x.n, .int .i64 x.flags, .string (sB x.data)] (by rfl) (by rfl) rfl ?a1 ?aO ?aB ?aS ?aL ?_; (case a1 => exact op_ones x); (case aO => exact pw_own_below HO2.out (below_drew (Below.refl _ _))); (case aB => exact below_drew (HB4.out.mono hBw)); (case aS => show B ≤ w4.heap.size; omega); (case aL => omega); intro v5 w5 ho hb3 hg3 hat; obtain ⟨A4, c4, rfl⟩ := own_slice ho; have e0 := hg3.cell (a := ⟨g, M * 3, none⟩) HD0.out HGO.out; have ef : w5.frozen? ⟨g, M * 3, none⟩ = false := (World.frozen?_of_block (a := ⟨g, M * 3, none⟩) ((hg3.block g (show g < w4.heap.size by omega) HGO.out).trans (HB4.out.block g hglt))).trans (HC.out _); have HO3 := Aside0.mk (And.intro ho (And.intro hg3 hat)); have HB5 := Aside0.mk hb3; clear ho hb3 hg3 hat))
    all_goals go_wp2
    all_goals first
      | exact bodyPost_ret (v := .tuple #[.slice (some ⟨g, 0, none⟩) L cv, .bool false, .bool false]) (by simp [results, Tryz.f32, go_sem]) rfl (LlP.bad HR.out (below_set HB5.out hBg _))
      | refine bodyPost_ret (v := .tuple #[.slice (some ⟨g, 0, none⟩) L cv, .bool false, .bool true]) (by simp [results, Tryz.f32, go_sem]) rfl (LlP.good (xs := ys ++ [({ l with ops := l.ops ++ [x] }, .slice A4 (X + 1) c4, kv)]) (by rw [HR.out, List.map_append, List.map_append]; exact congrArg some (Prod.ext (addOp_last _ _ _) rfl)) ?_ (below_set HB5.out hBg _))
        have h3 := HO3.out
        rw [← HLM.out.2.2] at h3
        have h := LvRow.pushOp (x := x) ((HL.out.below HB4.out).drew) h3.1 h3.2.1 h3.2.2
        rw [← HLM.out.2.1, ← HLM.out.2.2, ← HLM.out.1]
        exact h
/-- Any line of a life, by the reference. -/
theorem lifeLine_any (B : Nat) (v : Value) (k : Bool) (xs : List Lv3) (line : Bs) (w : World) (hBw : B ≤ w.heap.size)
    (hL : LvRow w B v xs) (hl : line.length ≤ 1048576) (hok : LvOk (xs.map (·.1))) :
    Calls Tryz.prog 32 #[v, .string (sB line), .bool k] w fun e w' => LlP (bodyP (xs.map (·.1)) k line) B w e w' := by
  cases h0 : numsR (splL line) wLife 1 with
  | some ns =>
    have hnl := numsR_len (n := 1) h0
    match ns, hnl with
    | [a0], _ => exact life_life B v k xs line a0 w hBw hL hl hok h0
  | none =>
    by_cases h2 : xs = [] ∨ k = true
    · exact life_early B v k xs line w hBw hL hl hok h0 h2
    · obtain ⟨h3, h4⟩ := not_or.1 h2
      obtain rfl : k = false := by cases k with
        | false => rfl
        | true => exact absurd rfl h4
      obtain ⟨ys, ⟨l, ov, kv⟩, rfl⟩ : ∃ ys y, xs = ys ++ [y] := ⟨xs.dropLast, xs.getLast h3, (List.dropLast_concat_getLast h3).symm⟩
      by_cases h5 : (splL line).head? = some wKeep
      · exact life_keep B v ys l ov kv line w hBw hL hl hok h0 h5
      · exact life_op B v ys l ov kv line w hBw hL hl hok h0 h5
end Go.Proofs.YteglbmindbfkeaaGreatDoor.H
