/- The reader's body, by the program: what it answers; a life's line. -/
import Derived.Test.YteglbmindbfkeaaGreatDoorDn
import Derived.Deep.RegionLaw
namespace Go.Proofs.YteglbmindbfkeaaGreatDoor.H
open Go.RowKit Go.Proofs.YteglbmindbfkeaaGreatDoorW.PrintWords
set_option linter.unusedVariables false
set_option linter.unusedSimpArgs false
/-- What body answers. -/
def BdP (R : Option (List LifeV × Bool)) (B b : Nat) (s : ShapeV) (n : Nat) (w : World) (e : Ending) (w' : World) : Prop :=
  (match R with
    | some (ls, k) => e = .returned (.bool true) ∧ ∃ (v : Value) (xs : List Lv3), xs.map (·.1) = ls ∧ w'.heap[b]? = some (.cells (rdC s v n k) 63 (0, 0)) ∧ LvRow w' B v xs
    | none => e = .returned (.bool false) ∧ w'.cell? ⟨b, 11, none⟩ = some (.int .i64 (n : Int))) ∧ Below B w w'
theorem BdP.bad {R : Option (List LifeV × Bool)} {B b : Nat} {s : ShapeV} {n : Nat} {w w' : World} (hR : R = none) (hc : w'.cell? ⟨b, 11, none⟩ = some (.int .i64 (n : Int))) (hg : Below B w w') : BdP R B b s n w (.returned (.bool false)) w' := by
  subst hR
  exact ⟨⟨rfl, hc⟩, hg⟩
theorem BdP.good {R : Option (List LifeV × Bool)} {B b : Nat} {s : ShapeV} {n : Nat} {k : Bool} {v : Value} {xs : List Lv3} {w w' : World} (hR : R = some (xs.map (·.1), k)) (hb : w'.heap[b]? = some (.cells (rdC s v n k) 63 (0, 0))) (hL : LvRow w' B v xs) (hg : Below B w w') : BdP R B b s n w (.returned (.bool true)) w' := by
  subst hR
  exact ⟨⟨rfl, v, xs, rfl, hb, hL⟩, hg⟩
theorem own_ne_kind {W : World} {B n size b : Nat} {e t : TypeId} {v : Value} {xs : List Value} {cs : Array Value} {fz : Nat × Nat} (h : W.ownsRow B e size v n xs) (hb : W.heap[b]? = some (.cells cs t fz)) (hne : e ≠ t) : some b ≠ v.ownBlock := by
  intro h2
  obtain ⟨c, f, h3⟩ := own_kind h b h2.symm
  rw [hb] at h3
  simp only [Option.some.injEq, Obj.cells.injEq] at h3
  exact hne h3.2.1.symm
/-- A cell of the reader is none of the lives'. -/
theorem LvRow.far {W : World} {B b i : Nat} {v : Value} {xs : List Lv3} {cs : Array Value} {fz : Nat × Nat} (h : LvRow W B v xs) (hb : W.heap[b]? = some (.cells cs 63 fz)) (u : Value) : LvRow (W.setCell ⟨b, i, none⟩ u) B v xs :=
  ⟨own_setCell h.row (own_ne_kind h.row hb (by decide)) u, fun x hx => ⟨own_setCell (h.each x hx).ops (own_ne_kind (h.each x hx).ops hb (by decide)) u, own_setCell (h.each x hx).keep (own_ne_kind (h.each x hx).keep hb (by decide)) u⟩, h.apart⟩
theorem LvRow.drew {W : World} {B : Nat} {v : Value} {xs : List Lv3} (h : LvRow W B v xs) : LvRow W.drew B v xs := h.below (below_drew (Below.refl _ _))
theorem rd_eta_life (s : ShapeV) (v v2 : Value) (n : Nat) (k k2 : Bool) : ((rdC s v n k).setIfInBounds 10 v2).setIfInBounds 12 (.bool k2) = rdC s v2 n k2 := by
  unfold rdC
  simp
theorem rd_eta_k (s : ShapeV) (v : Value) (n : Nat) (k k2 : Bool) : (rdC s v n k).setIfInBounds 12 (.bool k2) = rdC s v n k2 := by
  unfold rdC
  simp
theorem below_set {B b i : Nat} {w w' : World} (h : Below B w w') (hb : B ≤ b) (u : Value) : Below B w (w'.setCell ⟨b, i, none⟩ u) :=
  ⟨h.os, h.tape, h.output, by simpa [World.setCell] using h.size, fun k hk => (Below.heap_setCell _ _ _ _ (by show k ≠ b; omega)).trans (h.block k hk)⟩
theorem splB_hd (line : Bs) : (splB [] line)[0]? = some (word line) := by rw [← List.head?_eq_getElem?]; exact word_headB line
theorem splB_num (line : Bs) : 1 ≤ (splB [] line).length ∧ (splB [] line).length ≤ line.length + 1 := by
  rw [splB_length]
  have := List.count_le_length (a := (32 : UInt8)) (l := line)
  omega
theorem body_life_good {ls : List LifeV} {k : Bool} {line : Bs} {n : Int} (hw : word line = wLife) (hn : numsL (splB [] line).tail = some [n]) : bodyP ls k line = some (ls ++ [{ stop := n }], false) := by
  unfold bodyP
  rw [if_pos hw, hn]
theorem body_life_bad {ls : List LifeV} {k : Bool} {line : Bs} (hw : word line = wLife) (hn : ∀ n, numsL (splB [] line).tail ≠ some [n]) : bodyP ls k line = none := by
  unfold bodyP
  rw [if_pos hw]
  split
  · next n h => exact absurd h (hn n)
  · rfl
theorem infoLife : (Tryz.prog.info? 56).map (fun i => (i.zero, i.size, i.bytes)) = some (some (.agg #[.slice none 0 0, .int .i64 0, .slice none 0 0]), 3, 56) := by kernel_rfl
theorem infoOp : (Tryz.prog.info? 38).map (fun i => (i.zero, i.size, i.bytes)) = some (some (opV {}), 8, 88) := by kernel_rfl
/-- The words behind the first, as they lie. -/
def tailA (bb o c : Nat) : Addr := if c = 1 then ⟨bb, o, none⟩ else ⟨bb, o + 1, none⟩
theorem words_tail {w : World} {bb o c : Nat} {line : Bs} (hE : Env w) (hS : SR w (some ⟨bb, o, none⟩) (splB [] line)) (hc : (splB [] line).length ≤ c) (hl : line.length ≤ 1048576) :
    Calls Tryz.prog 55 #[.slice (some (if c = 1 then ⟨bb, o, none⟩ else ⟨bb, o + 1, none⟩)) ((splB [] line).length - 1) (c - 1)] w fun e w' => NmP (numsL (splB [] line).tail) w e w' := by
  have h := nums_any (some (if c = 1 then ⟨bb, o, none⟩ else ⟨bb, o + 1, none⟩)) (c - 1) (splB [] line).tail w hE (hS.tail hc) (by have := splB_num line; rw [List.length_tail]; omega) (fun y hy => by have := splB_lens (List.mem_of_mem_tail hy); simp at this; omega)
  rw [List.length_tail] at h
  exact h
set_option maxRecDepth 100000 in
set_option maxHeartbeats 4000000 in
theorem body_life (B b : Nat) (s : ShapeV) (v : Value) (n : Nat) (k : Bool) (xs : List Lv3) (A : Option Addr) (c : Nat) (line : Bs) (w : World) (hE : Env w) (hBb : B ≤ b) (hb : w.heap[b]? = some (.cells (rdC s v n k) 63 (0, 0)))
    (hL : LvRow w B v xs) (hS : SR w A (splB [] line)) (hc : (splB [] line).length ≤ c) (hl : line.length ≤ 1048576) (hok : LvOk (xs.map (·.1))) (hw : word line = wLife) :
    Calls Tryz.prog 28 #[.pointer (some ⟨b, 0, none⟩), .string (sB line), .slice A (splB [] line).length c] w fun e w' => BdP (bodyP (xs.map (·.1)) k line) B b s n w e w' := by
  have HB := Aside0.mk hb
  have hblt := blk_lt hb
  have HL := Aside0.mk hL
  have hxl : xs.length ≤ 1048576 := by have := hok.num; rwa [List.length_map] at this
  obtain ⟨bb, o, rfl, hcl⟩ := hS 0 _ (splB_hd line)
  rw [hw] at hcl
  have hcl0 : w.cell? ⟨bb, o, none⟩ = some (.string (sB wLife)) := hcl
  have hq : (sB wLife).toList = [108, 105, 102, 101] := by rw [Lib.toList_data, sB_data]; rfl
  obtain ⟨x, hx⟩ : ∃ x, sB wLife = x := ⟨_, rfl⟩
  rw [hx] at hcl0 hq
  clear hcl hx
  have HN := Aside0.mk (words_tail hE hS hc hl)
  have hN1 : 1 ≤ (splB [] line).length := (splB_num line).1
  have hgood := fun n0 => body_life_good (ls := xs.map (·.1)) (k := k) (n := n0) hw
  have hbad := body_life_bad (ls := xs.map (·.1)) (k := k) hw
  obtain ⟨N, hN⟩ : ∃ N, (splB [] line).length = N := ⟨_, rfl⟩
  rw [hN] at HN hc hN1 ⊢
  have hN2 : (0 : Int) < (N : Int) := by omega
  have HG0 := Aside0.mk hgood
  have HG1 := Aside0.mk hbad
  have hNl : (splB [] line).length = N := hN
  have hBw : B ≤ w.heap.size := by omega
  clear hS hb hL hok hw hN hgood hbad
  by_cases hc1 : c = 1
  · subst hc1
    obtain rfl : N = 1 := by omega
    have ht : (splB [] line).tail = [] := List.eq_nil_of_length_eq_zero (by rw [List.length_tail, hNl])
    rw [ht, if_pos rfl] at HN
    rw [ht] at HG1
    have HR := Aside0.mk (HG1.out (fun _ h => by cases h))
    clear HG0 HG1 hNl ht
    go_enter Tryz.func28, Tryz.ntmps28
    go_wp2_with (go_at_call 55; refine HN.out.mono ?_; rintro e w1 ⟨⟨v1, rfl, hO⟩, hB⟩; obtain ⟨A1, c1, rfl⟩ := own_slice hO; have HB1 := Aside0.mk hB; clear hB hO)
    exact bodyPost_ret (v := .bool false) (by simp [results, Tryz.f28, go_sem]) rfl (BdP.bad HR.out (cell_later HB1.out (rdC_cells HB.out)) (HB1.out.mono hBw))
  rw [if_neg hc1] at HN
  clear hNl
  obtain ⟨R, hR⟩ : ∃ R, numsL (splB [] line).tail = R := ⟨_, rfl⟩
  rw [hR] at HN HG0 HG1
  clear hR
  match R with
  | none =>
    have HR := Aside0.mk (HG1.out (fun _ h => by cases h))
    go_enter Tryz.func28, Tryz.ntmps28
    go_wp2_with (go_at_call 55; refine HN.out.mono ?_; rintro e w1 ⟨rfl, hB⟩; have HB1 := Aside0.mk hB; clear hB)
    exact bodyPost_ret (v := .bool false) (by simp [results, Tryz.f28, go_sem]) rfl (BdP.bad HR.out (cell_later HB1.out (rdC_cells HB.out)) (HB1.out.mono hBw))
  | some [] =>
    have HR := Aside0.mk (HG1.out (fun _ h => by cases h))
    go_enter Tryz.func28, Tryz.ntmps28
    go_wp2_with (go_at_call 55; refine HN.out.mono ?_; rintro e w1 ⟨⟨v1, rfl, hO⟩, hB⟩; obtain ⟨A1, c1, rfl⟩ := own_slice hO; have HB1 := Aside0.mk hB; clear hB hO)
    exact bodyPost_ret (v := .bool false) (by simp [results, Tryz.f28, go_sem]) rfl (BdP.bad HR.out (cell_later HB1.out (rdC_cells HB.out)) (HB1.out.mono hBw))
  | some (a :: a2 :: r) =>
    have HR := Aside0.mk (HG1.out (fun _ h => by cases h))
    have hlen : ((((a :: a2 :: r).length : Nat) : Int) == 1) = false := by simp; omega
    obtain ⟨M, hM⟩ : ∃ M, (a :: a2 :: r).length = M := ⟨_, rfl⟩
    rw [hM] at hlen
    go_enter Tryz.func28, Tryz.ntmps28
    go_wp2_with (go_at_call 55; refine HN.out.mono ?_; rintro e w1 ⟨⟨v1, rfl, hO⟩, hB⟩; obtain ⟨A1, c1, rfl⟩ := own_slice hO; rw [hM]; have HB1 := Aside0.mk hB; clear hB hO)
    exact bodyPost_ret (v := .bool false) (by simp [results, Tryz.f28, go_sem]) rfl (BdP.bad HR.out (cell_later HB1.out (rdC_cells HB.out)) (HB1.out.mono hBw))
  | some [a0] =>
    have HR := Aside0.mk (HG0.out a0 rfl)
    go_enter Tryz.func28, Tryz.ntmps28
    go_wp2_with (go_at_call 55; refine HN.out.mono ?_; rintro e w1 ⟨⟨v1, rfl, hO⟩, hB⟩; obtain ⟨g, c1, rfl, hg1, hg2, hg3, hgc⟩ := own_nums hO (Nat.succ_pos _); have HB1 := Aside0.mk hB; have HG := Aside0.mk (And.intro hg1 (And.intro hg2 hgc)); clear hB hO hgc)
    have hbb : w1.heap[b]? = some (.cells (rdC s v n k) 63 (0, 0)) := (HB1.out.block b hblt).trans HB.out
    have HBB := Aside0.mk hbb
    have hsz : w.heap.size ≤ w1.heap.size := HB1.out.size
    have HL1 := Aside0.mk (HL.out.below HB1.out)
    have c10 : w1.cell? ⟨b, 10, none⟩ = some v := blk_cell hbb 10
    have k0 := HG.out.2.2 0 a0 rfl
    have ca10 : (w1.alloc (.cells #[.slice none 0 0, .int .i64 a0, .slice none 0 0] 56)).cell? ⟨b, 10, none⟩ = some v := cell_later (below_alloc (Below.refl _ _) _) c10
    have hne := Aside0.mk (own_ne_kind HL1.out.row hbb (by decide))
    clear hbb
    go_region_law ((refine step_append_cells (w0 := w) (W := w1.drew) B (by rfl) (.tmp 35) (.tmp 40) 27 56 (.agg #[.slice none 0 0, .int .i64 0, .slice none 0 0]) 3 56 (by rfl) Tryz.underlying27 infoLife rfl (by omega) (by omega) v xs.length (lvC xs) [.slice none 0 0, .int .i64 a0, .slice none 0 0] (by rfl) (by rfl) rfl ?a1 ?aO ?aB ?aS ?aL ?_; (case a1 => intro u hu; simp at hu; rcases hu with rfl | rfl | rfl <;> rfl); (case aO => exact HL1.out.drew.row); (case aB => exact below_drew (HB1.out.mono hBw)); (case aS => show B ≤ w1.heap.size; omega); (case aL => omega); intro v2 w2 ho hb2 hg2 hat2; obtain ⟨A2, c2, rfl⟩ := own_slice ho; have hbb2 := (hg2.block b (show b < w1.heap.size by omega) hne.out).trans HBB.out; have d10 : w2.cell? ⟨b, 10, none⟩ = some v := blk_cell hbb2 10; have g10 := blk_frozen hbb2 10; have d12 : w2.cell? ⟨b, 12, none⟩ = some (.bool k) := blk_cell hbb2 12; have g12 := blk_frozen hbb2 12; have HBB2 := Aside0.mk hbb2; have HL2 := Aside0.mk (LvRow.push HL1.out.drew ho hg2); have HB2 := Aside0.mk hb2; clear ho hb2 hg2 hat2 hbb2))
    all_goals go_wp2
    all_goals refine bodyPost_ret (v := .bool true) (by simp [results, Tryz.f28, go_sem]) rfl (BdP.good (v := .slice A2 (xs.length + 1) c2) (xs := xs ++ [(({ stop := a0 } : LifeV), .slice none 0 0, .slice none 0 0)]) (k := false) (by rw [HR.out, List.map_append]; rfl) ?_ ?_ ?_)
    all_goals first
      | exact (HL2.out.far HBB2.out _).far (blk_set HBB2.out 10 _) _
      | exact below_set (below_set HB2.out hBb _) hBb _
      | (rw [← rd_eta_life s v (.slice A2 (xs.length + 1) c2) n k false]; exact blk_set (blk_set HBB2.out 10 _) 12 _)
end Go.Proofs.YteglbmindbfkeaaGreatDoor.H
