/- A line of a life, by the reference. -/
import Derived.Test.YteglbmindbfkeaaGreatDoorDq
namespace Go.Proofs.YteglbmindbfkeaaGreatDoor.H
open Go.RowKit Go.Proofs.YteglbmindbfkeaaGreatDoorW.PrintWords
set_option linter.unusedVariables false
set_option linter.unusedSimpArgs false
/-- What lifeLine answers. -/
def LlP (R : Option (List LifeV × Bool)) (B : Nat) (w : World) (e : Ending) (w' : World) : Prop :=
  (match R with
    | some (ls, k) => ∃ (v : Value) (xs : List Lv3), e = .returned (.tuple #[v, .bool k, .bool true]) ∧ xs.map (·.1) = ls ∧ LvRow w' B v xs
    | none => ∃ (v : Value) (k : Bool), e = .returned (.tuple #[v, .bool k, .bool false])) ∧ Below B w w'
theorem LlP.bad {R : Option (List LifeV × Bool)} {B : Nat} {v : Value} {k : Bool} {w w' : World} (hR : R = none) (hg : Below B w w') : LlP R B w (.returned (.tuple #[v, .bool k, .bool false])) w' := by
  subst hR
  exact ⟨⟨v, k, rfl⟩, hg⟩
theorem LlP.good {R : Option (List LifeV × Bool)} {B : Nat} {k : Bool} {v : Value} {xs : List Lv3} {w w' : World} (hR : R = some (xs.map (·.1), k)) (hL : LvRow w' B v xs) (hg : Below B w w') : LlP R B w (.returned (.tuple #[v, .bool k, .bool true])) w' := by
  subst hR
  exact ⟨⟨v, xs, rfl, rfl, hL⟩, hg⟩
theorem joinB_lens : ∀ (ws : List Bs), ws.length ≤ (joinB ws).length + 1 ∧ ∀ w ∈ ws, w.length ≤ (joinB ws).length := by
  intro ws
  induction ws with
  | nil => simp [joinB]
  | cons w r ih =>
    cases r with
    | nil => simp [joinB]
    | cons x r =>
      rw [joinB_cons (by simp)]
      obtain ⟨h1, h2⟩ := ih
      refine ⟨by simp only [List.length_append, List.length_cons] at h1 ⊢; omega, fun y hy => ?_⟩
      rw [List.length_append, List.length_cons]
      rcases List.mem_cons.1 hy with rfl | hy
      · omega
      · have := h2 y hy; omega
theorem splL_num (line : Bs) : 1 ≤ (splL line).length ∧ (splL line).length ≤ line.length + 1 ∧ ∀ w ∈ splL line, w.length ≤ line.length := by
  have h := joinB_lens (splL line)
  have e := joinB_splR line false []
  rw [show splR false [] line = splL line from rfl, List.nil_append] at e
  rw [e] at h
  exact ⟨List.length_pos_iff.2 (splR_ne line false []), h.1, h.2⟩
/-- What split answers, as words. -/
def SpW (ws : List Bs) (w : World) (e : Ending) (w' : World) : Prop := ∃ g c, e = .returned (.slice (some ⟨g, 0, none⟩) ws.length c) ∧ w.heap.size ≤ g ∧ ws.length ≤ c ∧ SR w' (some ⟨g, 0, none⟩) ws ∧ Below w.heap.size w w'
theorem rsplit_words (line : Bs) (hl : line.length ≤ 1048576) (w : World) : Calls Tryz.prog 31 #[.string (sB line)] w fun e w' => SpW (splL line) w e w' := by
  have h := rsplit_any (sB line) w (by rw [sB_size]; omega)
  rw [sB_data] at h
  refine h.mono ?_
  rintro e w' ⟨v, rfl, hO, hB⟩
  obtain ⟨A, c, rfl⟩ := own_slice hO
  obtain ⟨x, hx⟩ : ∃ x, (splL line)[0]? = some x := ⟨_, List.getElem?_eq_getElem (splL_num line).1⟩
  obtain ⟨g, rfl, _, hc, _⟩ := own_cell hO (strsC_get hx)
  refine ⟨g, c, rfl, (hO.lt g rfl).1, hc, fun i y hy => ?_, hB⟩
  obtain ⟨g2, e2, _, h2⟩ := row_cell hO hy
  cases e2
  exact ⟨g, 0, rfl, by rw [Nat.zero_add]; exact h2⟩
theorem bodyR_first (line : Bs) : (if (splL line).length = 2 ∧ (splL line).head? = some wLife then numsL (splL line).tail else none) = numsR (splL line) wLife 1 := by
  unfold numsR
  by_cases h : (splL line).length = 2 ∧ (splL line).head? = some wLife
  · rw [if_pos h, if_pos ⟨by omega, h.2⟩]
  · rw [if_neg h, if_neg (fun e => h ⟨by omega, e.2⟩)]
theorem bodyR_life {ls : List LifeV} {k : Bool} {line : Bs} {n : Int} (h : numsR (splL line) wLife 1 = some [n]) : bodyP ls k line = some (ls ++ [{ stop := n }], false) := by
  rw [← body_same]
  unfold bodyR
  rw [bodyR_first, h]
theorem bodyR_rest {ls : List LifeV} {k : Bool} {line : Bs} (h : numsR (splL line) wLife 1 = none) : bodyP ls k line = if ls = [] ∨ k = true then none else if (splL line).head? = some wKeep then (match numsL (splL line).tail with
      | some (k :: ks) => some (setKeep ls (k :: ks), true)
      | _ => none) else (match parseR line with
      | some o => some (addOp ls o, false)
      | none => none) := by
  rw [← body_same]
  unfold bodyR
  rw [bodyR_first, h]
  split
  · next h => cases h
  · by_cases h1 : ls = [] ∨ k = true
    · rw [if_pos h1, if_pos h1]
    · rw [if_neg h1, if_neg h1]
      by_cases h2 : (splL line).head? = some wKeep
      · rw [if_pos h2, if_pos h2]
        generalize numsL (splL line).tail = r
        split
        · rfl
        · next h2 =>
          split
          · next k ks => exact absurd rfl (h2 k ks)
          · rfl
      · rw [if_neg h2, if_neg h2]
        cases parseR line <;> rfl
set_option maxRecDepth 100000 in
set_option maxHeartbeats 4000000 in
theorem life_life (B : Nat) (v : Value) (k : Bool) (xs : List Lv3) (line : Bs) (a0 : Int) (w : World) (hBw : B ≤ w.heap.size)
    (hL : LvRow w B v xs) (hl : line.length ≤ 1048576) (hok : LvOk (xs.map (·.1))) (h0 : numsR (splL line) wLife 1 = some [a0]) :
    Calls Tryz.prog 32 #[v, .string (sB line), .bool k] w fun e w' => LlP (bodyP (xs.map (·.1)) k line) B w e w' := by
  have hxl : xs.length ≤ 1048576 := by have := hok.num; rwa [List.length_map] at this
  have HR := Aside0.mk (bodyR_life (ls := xs.map (·.1)) (k := k) h0)
  have HSp := Aside0.mk (rsplit_words line hl)
  have HNum := Aside0.mk (fun W A c (hS : SR W A (splL line)) (hc : (splL line).length ≤ c) => rnums_any A c (splL line) wLife 1 W hS hc (by have := splL_num line; omega) (by omega) (fun x hx => by have := (splL_num line).2.2 x hx; omega))
  rw [h0, show sB wLife = ⟨#[108, 105, 102, 101]⟩ from rfl] at HNum
  have HL := Aside0.mk hL
  obtain ⟨A2, cv, rfl⟩ := own_slice hL.row
  obtain ⟨N, hN⟩ : ∃ N, (splL line).length = N := ⟨_, rfl⟩
  unfold SpW at HSp
  rw [hN] at HSp HNum
  clear hL hok h0 hN
  go_enter Tryz.func32, Tryz.ntmps32
  go_wp2_with (first
    | (go_at_call 31; refine (HSp.out _).mono ?_; rintro e w1 ⟨g, c, rfl, hg, hc, hS, hB⟩; have HS := Aside0.mk hS; have HB1 := Aside0.mk hB; clear hS hB)
    | (go_at_call 57; refine (HNum.out _ _ _ HS.out hc).mono ?_; rintro e w2 ⟨⟨v1, rfl, hO⟩, hB⟩; obtain ⟨g3, c3, rfl, hg1, hg2, hg3, hgc⟩ := own_nums hO (Nat.succ_pos _); have k0 := hgc 0 a0 rfl; have HB2 := Aside0.mk (below_step HB1.out hB); clear hB hO hgc)
    | (at_builtin; refine print_append_cells (w0 := w) B rfl _ _ 27 56 (.agg #[.slice none 0 0, .int .i64 0, .slice none 0 0]) 3 56 rfl Tryz.underlying27 infoLife rfl (by omega) (by omega) (.slice A2 xs.length cv) xs.length (lvC xs) [.slice none 0 0, .int .i64 a0, .slice none 0 0] rfl rfl rfl ?a1 ?aO ?aB ?aS ?aL ?_; (case a1 => intro u hu; simp at hu; rcases hu with rfl | rfl | rfl <;> rfl); (case aO => exact (HL.out.below HB2.out).row); (case aB => exact HB2.out.mono hBw); (case aS => exact Nat.le_trans hBw HB2.out.size); (case aL => omega); intro v3 w3 ho hb3 hg3 hat; have HB3 := Aside0.mk hb3; have HL3 := Aside0.mk (LvRow.push (HL.out.below HB2.out) ho hg3); clear ho hb3 hg3 hat))
  exact bodyPost_ret (v := .tuple #[v3, .bool false, .bool true]) (by simp [results, Tryz.f32, go_sem]) rfl (LlP.good (by rw [HR.out, List.map_append]; rfl) HL3.out HB3.out)
set_option maxRecDepth 100000 in
set_option maxHeartbeats 4000000 in
theorem life_early (B : Nat) (v : Value) (k : Bool) (xs : List Lv3) (line : Bs) (w : World) (hBw : B ≤ w.heap.size)
    (hL : LvRow w B v xs) (hl : line.length ≤ 1048576) (hok : LvOk (xs.map (·.1))) (h0 : numsR (splL line) wLife 1 = none) (hear : xs = [] ∨ k = true) :
    Calls Tryz.prog 32 #[v, .string (sB line), .bool k] w fun e w' => LlP (bodyP (xs.map (·.1)) k line) B w e w' := by
  have hxl : xs.length ≤ 1048576 := by have := hok.num; rwa [List.length_map] at this
  have HR := Aside0.mk (bodyR_rest (ls := xs.map (·.1)) (k := k) h0)
  rw [if_pos (hear.imp (fun h => by rw [h]; rfl) id)] at HR
  have HSp := Aside0.mk (rsplit_words line hl)
  have HNum := Aside0.mk (fun W A c (hS : SR W A (splL line)) (hc : (splL line).length ≤ c) => rnums_any A c (splL line) wLife 1 W hS hc (by have := splL_num line; omega) (by omega) (fun x hx => by have := (splL_num line).2.2 x hx; omega))
  rw [h0, show sB wLife = ⟨#[108, 105, 102, 101]⟩ from rfl] at HNum
  obtain ⟨A2, cv, rfl⟩ := own_slice hL.row
  obtain ⟨N, hN⟩ : ∃ N, (splL line).length = N := ⟨_, rfl⟩
  unfold SpW at HSp
  rw [hN] at HSp HNum
  clear hL hok h0 hN
  obtain ⟨X, hX⟩ : ∃ X, xs.length = X := ⟨_, rfl⟩
  have HX := Aside0.mk hX
  have hor : X = 0 ∨ (((X : Int) == 0) = false ∧ k = true) := by
    by_cases h : X = 0
    · exact .inl h
    · right
      refine ⟨by simp; omega, ?_⟩
      rcases hear with h1 | h1
      · subst h1; exact absurd hX.symm h
      · exact h1
  rw [hX] at hxl ⊢
  clear hear hX
  rcases hor with rfl | ⟨h1, rfl⟩
  all_goals
    go_enter Tryz.func32, Tryz.ntmps32
    go_wp2_with (first
      | (go_at_call 31; refine (HSp.out _).mono ?_; rintro e w1 ⟨g, c, rfl, hg, hc, hS, hB⟩; have HS := Aside0.mk hS; have HB1 := Aside0.mk hB; clear hS hB)
      | (go_at_call 57; refine (HNum.out _ _ _ HS.out hc).mono ?_; rintro e w2 ⟨rfl, hB⟩; have HB2 := Aside0.mk (below_step HB1.out hB); clear hB))
  · exact bodyPost_ret (v := .tuple #[.slice A2 0 cv, .bool k, .bool false]) (by simp [results, Tryz.f32, go_sem]) rfl (LlP.bad HR.out (HB2.out.mono hBw))
  · exact bodyPost_ret (v := .tuple #[.slice A2 X cv, .bool true, .bool false]) (by simp [results, Tryz.f32, go_sem]) rfl (LlP.bad HR.out (HB2.out.mono hBw))
set_option maxRecDepth 100000 in
set_option maxHeartbeats 4000000 in
theorem life_keep (B : Nat) (v : Value) (ys : List Lv3) (l : LifeV) (ov kv : Value) (line : Bs) (w : World) (hBw : B ≤ w.heap.size)
    (hL : LvRow w B v (ys ++ [(l, ov, kv)])) (hl : line.length ≤ 1048576) (hok : LvOk ((ys ++ [(l, ov, kv)]).map (·.1))) (h0 : numsR (splL line) wLife 1 = none) (hk : (splL line).head? = some wKeep) :
    Calls Tryz.prog 32 #[v, .string (sB line), .bool false] w fun e w' => LlP (bodyP ((ys ++ [(l, ov, kv)]).map (·.1)) false line) B w e w' := by
  have hxl : ys.length + 1 ≤ 1048576 := by have := hok.num; rwa [List.length_map, List.length_append] at this
  have hol : l.ops.length ≤ 1048576 := (hok.each l (by simp)).opn
  have hne : ¬ ((ys ++ [(l, ov, kv)]).map (·.1) = [] ∨ false = true) := by rintro (h | h) <;> simp at h
  have hR0 := bodyR_rest (ls := (ys ++ [(l, ov, kv)]).map (·.1)) (k := false) h0
  rw [if_neg hne, if_pos hk] at hR0
  have HR0 := Aside0.mk hR0
  have HSp := Aside0.mk (rsplit_words line hl)
  have HNum := Aside0.mk (fun W A c (hS : SR W A (splL line)) (hc : (splL line).length ≤ c) => rnums_any A c (splL line) wLife 1 W hS hc (by have := splL_num line; omega) (by omega) (fun x hx => by have := (splL_num line).2.2 x hx; omega))
  rw [h0, show sB wLife = ⟨#[108, 105, 102, 101]⟩ from rfl] at HNum
  have hKn : numsR (splL line) wKeep (((splL line).length : Int) - 1) = numsL (splL line).tail := if_pos ⟨by omega, hk⟩
  have HK := Aside0.mk (fun W A c (hS : SR W A (splL line)) (hc : (splL line).length ≤ c) => rnums_any A c (splL line) wKeep (((splL line).length : Int) - 1) W hS hc (by have := splL_num line; omega) (by have := splL_num line; omega) (fun x hx => by have := (splL_num line).2.2 x hx; omega))
  rw [hKn, show sB wKeep = ⟨#[107, 101, 101, 112]⟩ from rfl] at HK
  have hw0 : (splL line)[0]? = some wKeep := by rw [← List.head?_eq_getElem?]; exact hk
  have HW0 := Aside0.mk (fun W (g : Nat) (hS : SR W (some ⟨g, 0, none⟩) (splL line)) => show W.cell? ⟨g, 0, none⟩ = some (.string (sB wKeep)) by obtain ⟨_, _, e, h⟩ := hS 0 _ hw0; cases e; exact h)
  have hq : (sB wKeep).toList = [107, 101, 101, 112] := by rw [Lib.toList_data, sB_data]; rfl
  obtain ⟨x0, hx0⟩ : ∃ x, sB wKeep = x := ⟨_, rfl⟩
  rw [hx0] at hq HW0
  obtain ⟨A2, cv, rfl⟩ := own_slice hL.row
  obtain ⟨g, rfl, hM, hMc, hBg, g0, g1, g2, gf⟩ := hL.last
  have HL := Aside0.mk hL
  have hglt : g < w.heap.size := (hL.row.lt g rfl).2
  obtain ⟨L, hLL⟩ : ∃ L, (ys ++ [(l, ov, kv)]).length = L := ⟨_, rfl⟩
  obtain ⟨M, hMM⟩ : ∃ M, ys.length = M := ⟨_, rfl⟩
  obtain ⟨N, hN⟩ : ∃ N, (splL line).length = N := ⟨_, rfl⟩
  have hN1 := (splL_num line).1
  have hN9 := (splL_num line).2.1
  unfold SpW at HSp
  rw [hN] at HSp HNum HK hN1 hN9
  have hLM : L = M + 1 := by rw [← hLL, ← hMM]; exact hM
  rw [hLL]
  rw [hMM] at g2
  have hx1 : ((L : Int) == 0) = false := by simp; omega
  have hN2 : (0 : Int) < (N : Int) := by omega
  have wN : wrap64 ((N : Int) - 1) = (N : Int) - 1 := by unfold wrap64; omega
  have wL : wrap64 ((L : Int) - 1) = (M : Int) := by unfold wrap64; omega
  have hm0 : (0 : Int) ≤ (M : Int) := by omega
  have hm1 : (M : Int) < (L : Int) := by omega
  have HLM := Aside0.mk (And.intro hLL hMM)
  have HC := Aside0.mk gf
  clear hne hR0 hL hok h0 hk hKn hw0 hx0 hM hMc hLM hLL hMM hN g0 g1 gf
  have HST := Aside0.mk (fun (w1 : World) (v1 : Value) (h : Below w.heap.size w w1) => show Below B w (w1.setCell ⟨g, M * 3 + 2, none⟩ v1) from below_set (h.mono hBw) hBg v1)
  obtain ⟨R, hR⟩ : ∃ R, numsL (splL line).tail = R := ⟨_, rfl⟩
  rw [hR] at HK HR0
  clear hR
  match R with
  | none =>
    go_enter Tryz.func32, Tryz.ntmps32
    go_wp2_with (first
      | (go_at_call 31; refine (HSp.out _).mono ?_; rintro e w1 ⟨g4, c, rfl, hg, hc, hS, hB⟩; have HS := Aside0.mk hS; have HB1 := Aside0.mk hB; clear hS hB)
      | (go_at_call 57; have hx := HB2.out; clear hx; refine (HK.out _ _ _ (HS.out.below HB22.out) hc).mono ?_; rintro e w3 ⟨rfl, hB⟩; have HB3 := Aside0.mk (below_step HB2.out hB); have e2 := cell_later HB3.out g2; have f2 : w3.frozen? ⟨g, M * 3 + 2, none⟩ = false := (World.frozen?_of_block (HB3.out.block g hglt)).trans (HC.out _); clear hB)
      | (go_at_call 57; refine (HNum.out _ _ _ HS.out hc).mono ?_; rintro e w2 ⟨rfl, hB⟩; have HB2 := Aside0.mk (below_step HB1.out hB); have HB22 := Aside0.mk hB; have hcw := HW0.out _ _ (HS.out.below hB); clear hB))
    exact bodyPost_ret (v := .tuple #[.slice (some ⟨g, 0, none⟩) L cv, .bool true, .bool false]) (by simp [results, Tryz.f32, go_sem]) rfl (LlP.bad HR0.out (HST.out _ _ HB3.out))
  | some [] =>
    go_enter Tryz.func32, Tryz.ntmps32
    go_wp2_with (first
      | (go_at_call 31; refine (HSp.out _).mono ?_; rintro e w1 ⟨g4, c, rfl, hg, hc, hS, hB⟩; have HS := Aside0.mk hS; have HB1 := Aside0.mk hB; clear hS hB)
      | (go_at_call 57; have hx := HB2.out; clear hx; refine (HK.out _ _ _ (HS.out.below HB22.out) hc).mono ?_; rintro e w3 ⟨⟨v1, rfl, hO⟩, hB⟩; obtain ⟨A1, c1, rfl⟩ := own_slice hO; have HB3 := Aside0.mk (below_step HB2.out hB); have e2 := cell_later HB3.out g2; have f2 : w3.frozen? ⟨g, M * 3 + 2, none⟩ = false := (World.frozen?_of_block (HB3.out.block g hglt)).trans (HC.out _); clear hB hO)
      | (go_at_call 57; refine (HNum.out _ _ _ HS.out hc).mono ?_; rintro e w2 ⟨rfl, hB⟩; have HB2 := Aside0.mk (below_step HB1.out hB); have HB22 := Aside0.mk hB; have hcw := HW0.out _ _ (HS.out.below hB); clear hB))
    exact bodyPost_ret (v := .tuple #[.slice (some ⟨g, 0, none⟩) L cv, .bool true, .bool false]) (by simp [results, Tryz.f32, go_sem]) rfl (LlP.bad HR0.out (HST.out _ _ HB3.out))
  | some (k0 :: ks) =>
    have hQ0 : 0 < (k0 :: ks).length := Nat.succ_pos _
    obtain ⟨Q, hQ⟩ : ∃ Q, (k0 :: ks).length = Q := ⟨_, rfl⟩
    have HQ := Aside0.mk hQ
    rw [hQ] at hQ0
    clear hQ
    have hQ1 : (0 : Int) < (Q : Int) := by omega
    go_enter Tryz.func32, Tryz.ntmps32
    go_wp2_with (first
      | (go_at_call 31; refine (HSp.out _).mono ?_; rintro e w1 ⟨g4, c, rfl, hg, hc, hS, hB⟩; have HS := Aside0.mk hS; have HB1 := Aside0.mk hB; clear hS hB)
      | (go_at_call 57; have hx := HB2.out; clear hx; refine (HK.out _ _ _ (HS.out.below HB22.out) hc).mono ?_; rintro e w3 ⟨⟨v1, rfl, hO⟩, hB⟩; obtain ⟨A1, c1, rfl⟩ := own_slice hO; rw [HQ.out]; have HO := Aside0.mk hO; have HB3 := Aside0.mk (below_step HB2.out hB); have e2 := cell_later HB3.out g2; have f2 : w3.frozen? ⟨g, M * 3 + 2, none⟩ = false := (World.frozen?_of_block (HB3.out.block g hglt)).trans (HC.out _); clear hB hO)
      | (go_at_call 57; refine (HNum.out _ _ _ HS.out hc).mono ?_; rintro e w2 ⟨rfl, hB⟩; have HB2 := Aside0.mk (below_step HB1.out hB); have HB22 := Aside0.mk hB; have hcw := HW0.out _ _ (HS.out.below hB); clear hB))
    refine bodyPost_ret (v := .tuple #[.slice (some ⟨g, 0, none⟩) L cv, .bool true, .bool true]) (by simp [results, Tryz.f32, go_sem]) rfl (LlP.good (xs := ys ++ [({ l with keep := k0 :: ks }, ov, .slice A1 Q c1)]) (by rw [HR0.out, List.map_append, List.map_append]; exact congrArg some (Prod.ext (setKeep_last _ _ _) rfl)) ?_ (HST.out _ _ HB3.out))
    have h1 := LvRow.setKeep (HL.out.below HB3.out) (own_less HO.out (Nat.le_trans hBw HB2.out.size))
    rw [HLM.out.1, HLM.out.2, HQ.out] at h1
    exact h1
end Go.Proofs.YteglbmindbfkeaaGreatDoor.H
