/- The reader's head: one of the first three lines, by the program. -/
import Derived.Test.YteglbmindbfkeaaGreatDoorE1
namespace Go.Proofs.YteglbmindbfkeaaGreatDoor.H
open Go.RowKit Go.Proofs.YteglbmindbfkeaaGreatDoorW.PrintWords
set_option linter.unusedVariables false
set_option linter.unusedSimpArgs false
/-- A reader's cells. -/
def rdC (s : ShapeV) (v : Value) (n : Nat) (k : Bool) : Array Value := #[.int .i64 s.sector, .int .i64 s.sectors, .int .i64 s.journal, .int .i64 s.pack, .int .i64 s.min, .int .i64 s.normal, .int .i64 s.max, .int .u64 (s.seed : Int), .int .i64 s.bits, .bool s.dedup, v, .int .i64 (n : Int), .bool k]
/-- What head answers. -/
def HdP (R : Option ShapeV) (b : Nat) (v : Value) (n : Nat) (k : Bool) (w : World) (e : Ending) (w' : World) : Prop :=
  (match R with
    | some s => e = .returned (.bool true) ∧ w'.heap[b]? = some (.cells (rdC s v n k) 63 (0, 0))
    | none => e = .returned (.bool false) ∧ w'.cell? ⟨b, 11, none⟩ = some (.int .i64 (n : Int))) ∧ w.grownBy w' (some b)
theorem HdP.bad {R : Option ShapeV} {b : Nat} {v : Value} {n : Nat} {k : Bool} {w w' : World} (hR : R = none) (hc : w'.cell? ⟨b, 11, none⟩ = some (.int .i64 (n : Int))) (hg : w.grownBy w' (some b)) : HdP R b v n k w (.returned (.bool false)) w' := by
  subst hR
  exact ⟨⟨rfl, hc⟩, hg⟩
theorem HdP.good {R : Option ShapeV} {s : ShapeV} {b : Nat} {v : Value} {n : Nat} {k : Bool} {w w' : World} (hR : R = some s) (hb : w'.heap[b]? = some (.cells (rdC s v n k) 63 (0, 0))) (hg : w.grownBy w' (some b)) : HdP R b v n k w (.returned (.bool true)) w' := by
  subst hR
  exact ⟨⟨rfl, hb⟩, hg⟩
theorem grown_of_below {w w' : World} {b : Option Nat} (h : Below w.heap.size w w') : w.grownBy w' b := ⟨h.os, h.tape, h.output, h.size, fun k hk _ => h.block k hk⟩
theorem grown_set {w w' : World} {b : Nat} (h : w.grownBy w' (some b)) (i : Nat) (v : Value) : w.grownBy (w'.setCell ⟨b, i, none⟩ v) (some b) :=
  ⟨h.os, h.tape, h.output, by simpa [World.setCell] using h.size, fun k hk hne => (Below.heap_setCell _ _ _ _ (by intro e; exact hne (congrArg some e))).trans (h.block k hk hne)⟩
theorem headG_len0 {s : ShapeV} {ws : List Bs} (h : ¬ (ws.length = 5 ∧ ws.head? = some wVolume)) : headG 0 s ws = none := by
  unfold headG
  split
  · next a b c d _ =>
    split
    · next e => exact absurd ⟨rfl, by rw [e]; rfl⟩ h
    · rfl
  · next h0 => cases h0
  · next h0 => cases h0
  · rfl
theorem headG_vol {s : ShapeV} {ws : List Bs} (hl : ws.length = 5) (hh : ws.head? = some wVolume) : headG 0 s ws = match numsL ws.tail with
    | some [x, y, z, u] => some { s with sector := x, sectors := y, journal := z, pack := u }
    | _ => none := by
  match ws, hl with
  | [w, a, b, c, d], _ =>
    have hw : w = wVolume := by simpa using hh
    unfold headG
    simp only [if_pos hw, List.tail_cons]
    generalize numsL [a, b, c, d] = r
    split
    · rfl
    · next h =>
      split
      · next x y z u => exact absurd rfl (h x y z u)
      · rfl
theorem rdC_cells {w : World} {b : Nat} {s : ShapeV} {v : Value} {n : Nat} {k : Bool} (h : w.heap[b]? = some (.cells (rdC s v n k) 63 (0, 0))) : w.cell? ⟨b, 11, none⟩ = some (.int .i64 (n : Int)) := by
  rw [Lib.cell_of_heap h]; rfl
/-- An own row of numbers that is not empty. -/
theorem own_nums {W : World} {base : Nat} {v : Value} {ns : List Int} (h : W.ownsRow base 3 1 v ns.length (nums .i64 ns)) (hn : 0 < ns.length) :
    ∃ g c, v = .slice (some ⟨g, 0, none⟩) ns.length c ∧ base ≤ g ∧ g < W.heap.size ∧ ns.length ≤ c ∧ ∀ (i : Nat) (x : Int), ns[i]? = some x → W.cell? ⟨g, i, none⟩ = some (.int .i64 x) := by
  obtain ⟨A, c, rfl⟩ := own_slice h
  have hI := own_ints h
  have h2 := own_cell h (j := 0) (u := .int .i64 ns[0]) (by simp [nums])
  obtain ⟨g, rfl, _, hc, _⟩ := h2
  refine ⟨g, c, rfl, (h.lt g rfl).1, (h.lt g rfl).2, hc, fun i x hx => ?_⟩
  obtain ⟨b, o, e, h3⟩ := hI i x hx
  cases e
  rw [Nat.zero_add] at h3
  exact h3
theorem ShapeV.eta4 (s : ShapeV) (a0 a1 a2 a3 : Int) (v : Value) (n : Nat) (k : Bool) : ((((rdC s v n k).setIfInBounds 0 (.int .i64 a0)).setIfInBounds 1 (.int .i64 a1)).setIfInBounds 2 (.int .i64 a2)).setIfInBounds 3 (.int .i64 a3) = rdC { s with sector := a0, sectors := a1, journal := a2, pack := a3 } v n k := by
  unfold rdC
  simp
set_option maxRecDepth 100000 in
set_option maxHeartbeats 4000000 in
theorem head0_any (b : Nat) (s : ShapeV) (v : Value) (k : Bool) (A : Option Addr) (c : Nat) (ws : List Bs) (w : World) (hE : Env w) (hb : w.heap[b]? = some (.cells (rdC s v 0 k) 63 (0, 0)))
    (hS : SR w A ws) (hc : ws.length ≤ c) (h0 : 1 ≤ ws.length) (hn : ws.length ≤ 1048577) (hw : ∀ x ∈ ws, x.length ≤ 1048576) :
    Calls Tryz.prog 27 #[.pointer (some ⟨b, 0, none⟩), .slice A ws.length c] w fun e w' => HdP (headG 0 s ws) b v 0 k w e w' := by
  have HB := Aside0.mk hb
  have e11 : w.cell? ⟨b, 11, none⟩ = some (.int .i64 0) := rdC_cells hb
  have HS := Aside0.mk hS
  have HW := Aside0.mk hw
  have HC := Aside0.mk hc
  obtain ⟨N, hN⟩ : ∃ N, ws.length = N := ⟨_, rfl⟩
  rw [hN] at hn hc h0 ⊢
  have HN := Aside0.mk hN
  obtain ⟨x, bb, o, hx, hxm, rfl, hcl⟩ := HS.out.get (i := 0) (by rw [HN.out]; omega)
  have hcl0 : w.cell? ⟨bb, o, none⟩ = some (.string (sB x)) := hcl
  have hN1 : 0 < N := by omega
  have hN2 : (0 : Int) < (N : Int) := by omega
  have wN : wrap64 ((N : Int) - 1) = (N : Int) - 1 := by unfold wrap64; omega
  clear hb hS hw hN
  have ht : (sB x).toList = x := by rw [Lib.toList_data, sB_data]
  by_cases hx5 : x = wVolume
  · by_cases hN5 : N = 5
    · subst hN5
      have hq : (sB x).toList = [118, 111, 108, 117, 109, 101] := by rw [ht, hx5]; rfl
      have hc1 : ¬ c = 1 := by omega
      have HN5 := Aside0.mk (nums_any (some ⟨bb, o + 1, none⟩) (c - 1) ws.tail w hE (by have := HS.out.drop 1; rwa [List.drop_one] at this) (by rw [List.length_tail, HN.out]; omega) (fun y hy => HW.out y (List.mem_of_mem_tail hy)))
      have hl4 : ws.tail.length = 4 := by rw [List.length_tail, HN.out]
      rw [hl4] at HN5
      have HX := Aside0.mk (And.intro hx hx5)
      clear ht hx5 hx hxm
      cases hns : numsL ws.tail with
      | none =>
        rw [hns] at HN5
        have HR0 := Aside0.mk (show headG 0 s ws = none by rw [headG_vol HN.out (by rw [List.head?_eq_getElem?, HX.out.1, HX.out.2]), hns])
        go_enter Tryz.func27, Tryz.ntmps27
        go_wp2_with (go_at_call 55; refine HN5.out.mono ?_; rintro e w1 ⟨rfl, hB⟩; have HB1 := Aside0.mk hB; clear hB)
        exact bodyPost_ret (v := .bool false) (by simp [results, Tryz.f27, go_sem]) rfl (HdP.bad HR0.out (cell_later HB1.out (rdC_cells HB.out)) (grown_of_below HB1.out))
      | some ns =>
        rw [hns] at HN5
        have hnl := numsL_len hns
        rw [hl4] at hnl
        match ns, hnl with
        | [a0, a1, a2, a3], _ =>
        have HR0 := Aside0.mk (show headG 0 s ws = some { s with sector := a0, sectors := a1, journal := a2, pack := a3 } by rw [headG_vol HN.out (by rw [List.head?_eq_getElem?, HX.out.1, HX.out.2]), hns])
        have hblt := blk_lt HB.out
        clear hns hl4
        go_enter Tryz.func27, Tryz.ntmps27
        go_wp2_with (go_at_call 55; refine HN5.out.mono ?_; rintro e w1 ⟨⟨v1, rfl, hO⟩, hB⟩; obtain ⟨g, c1, rfl, hg1, hg2, hg3, hgc⟩ := own_nums hO (Nat.succ_pos _); have HB1 := Aside0.mk hB; have HG := Aside0.mk (And.intro hg1 (And.intro hg2 hgc)); clear hB hO hgc)
        have hbb : w1.heap[b]? = some (.cells (rdC s v 0 k) 63 (0, 0)) := (HB1.out.block b hblt).trans HB.out
        have HBB := Aside0.mk hbb
        have k0 := HG.out.2.2 0 a0 rfl
        have k1 := HG.out.2.2 1 a1 rfl
        have k2 := HG.out.2.2 2 a2 rfl
        have k3 := HG.out.2.2 3 a3 rfl
        have c0 : w1.cell? ⟨b, 0, none⟩ = some (.int .i64 s.sector) := blk_cell hbb 0
        have c1' : w1.cell? ⟨b, 1, none⟩ = some (.int .i64 s.sectors) := blk_cell hbb 1
        have c2 : w1.cell? ⟨b, 2, none⟩ = some (.int .i64 s.journal) := blk_cell hbb 2
        have c3 : w1.cell? ⟨b, 3, none⟩ = some (.int .i64 s.pack) := blk_cell hbb 3
        have f0 := blk_frozen hbb 0
        have f1 := blk_frozen hbb 1
        have f2 := blk_frozen hbb 2
        have f3 := blk_frozen hbb 3
        have hgb : g ≠ b := by omega
        have hbg : b ≠ g := by omega
        have hsz : w.heap.size ≤ w1.heap.size := HB1.out.size
        clear hbb hblt
        go_region_held3 (fun W => W.cell? ⟨g, 0, none⟩ = some (.int .i64 a0) ∧ W.cell? ⟨g, 1, none⟩ = some (.int .i64 a1) ∧ W.cell? ⟨g, 2, none⟩ = some (.int .i64 a2) ∧ W.cell? ⟨g, 3, none⟩ = some (.int .i64 a3)) (first | exact ⟨k0, k1, k2, k3⟩ | go_keep) (first | fail)
        go_wp2
        refine bodyPost_ret (v := .bool true) (by simp [results, Tryz.f27, go_sem]) rfl (HdP.good HR0.out ?_ ?_)
        · have h := blk_set (blk_set (blk_set (blk_set HBB.out 0 (.int .i64 a0)) 1 (.int .i64 a1)) 2 (.int .i64 a2)) 3 (.int .i64 a3)
          rw [ShapeV.eta4] at h
          exact h
        · have h := grown_set (grown_set (grown_set (grown_set (grown_of_below (b := some b) HB1.out) 0 (.int .i64 a0)) 1 (.int .i64 a1)) 2 (.int .i64 a2)) 3 (.int .i64 a3)
          exact ⟨h.os, h.tape, h.output, h.size, h.block⟩
    · have HR := Aside0.mk (headG_len0 (s := s) (ws := ws) (fun h => hN5 (by rw [← HN.out]; exact h.1)))
      have hq : (sB x).toList = [118, 111, 108, 117, 109, 101] := by rw [ht, hx5]; rfl
      have hq4 : ((N : Int) - 1 == 4) = false := by simp; omega
      clear ht hx5 hx hxm
      go_enter Tryz.func27, Tryz.ntmps27
      go_wp2_with fail
      exact bodyPost_ret (v := .bool false) (by simp [results, Tryz.f27, go_sem]) rfl (HdP.bad HR.out (rdC_cells HB.out) (grown_of_below (Below.refl _ _)))
  · have HR := Aside0.mk (headG_len0 (s := s) (ws := ws) (fun h => hx5 (by have h2 := h.2; rw [List.head?_eq_getElem?, hx] at h2; exact Option.some.inj h2)))
    have hq : ¬ (sB x).toList = [118, 111, 108, 117, 109, 101] := by rw [ht]; exact hx5
    clear ht hx5 hx hxm
    go_enter Tryz.func27, Tryz.ntmps27
    go_wp2_with fail
    exact bodyPost_ret (v := .bool false) (by simp [results, Tryz.f27, go_sem]) rfl (HdP.bad HR.out (rdC_cells HB.out) (grown_of_below (Below.refl _ _)))
end Go.Proofs.YteglbmindbfkeaaGreatDoor.H
