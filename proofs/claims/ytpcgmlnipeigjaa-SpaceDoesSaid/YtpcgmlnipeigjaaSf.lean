/- Package space: the runs of free sectors: what they are; runs and its closure as contracts. -/
import Derived.Test.YtpcgmlnipeigjaaSe
import Derived.RangeFuncBox
import Derived.RangeFuncLeaves
import Derived.RangeFuncKeeps
import Derived.Shelf.Abstract
import Derived.OwnWalkIn
import Derived.TacticsInMore
import Derived.LoopNIn
import Derived.LoopIn
namespace Go.Proofs.Ytpcgmlnipeigjaa.H
open Go.RowKit Go.Shelf Go.Proofs.YtpcgmlnipeigjaaW.PrintWords Go.Proofs.YtpcgmlnipeigjaaW.PrintLast Go.Proofs.YtpcgmlnipeigjaaW.PrintMore
set_option linter.unusedVariables false
set_option linter.unusedSimpArgs false

/-- How many free ones stand at the head. -/
def rz : List Int → Nat
  | [] => 0
  | x :: r => if x = 0 then rz r + 1 else 0
theorem rz_le (l : List Int) : rz l ≤ l.length := by
  induction l with
  | nil => simp [rz]
  | cons x r ih => simp only [rz, List.length_cons]; split <;> omega
theorem rz_at (l : List Int) : ∀ j, j < rz l → l[j]? = some 0 := by
  induction l with
  | nil => intro j h; simp [rz] at h
  | cons x r ih =>
    intro j h
    simp only [rz] at h
    split at h
    · rename_i hx
      cases j with
      | zero => simp [hx]
      | succ j => simpa using ih j (by omega)
    · omega
theorem rz_end (l : List Int) {q : Int} (h : l[rz l]? = some q) : q ≠ 0 := by
  induction l with
  | nil => simp at h
  | cons x r ih =>
    simp only [rz] at h
    split at h
    · exact ih (by simpa using h)
    · rename_i hx
      simp at h
      rw [← h]; exact hx
/-- The runs of what stands from i on. -/
def runsF : Nat → Nat → List Int → List (Int × Int)
  | 0, _, _ => []
  | m + 1, i, r => if r = [] then [] else (if 0 < rz r then [((i : Int), (rz r : Int))] else []) ++ runsF m (i + rz r + 1) (r.drop (rz r + 1))
theorem runsF_nil (m i : Nat) : runsF m i [] = [] := by cases m <;> simp [runsF]
theorem runsF_fuel (m : Nat) : ∀ (m' i : Nat) (r : List Int), r.length ≤ m → r.length ≤ m' → runsF m i r = runsF m' i r := by
  induction m with
  | zero =>
    intro m' i r h _
    obtain rfl : r = [] := List.eq_nil_of_length_eq_zero (by omega)
    rw [runsF_nil, runsF_nil]
  | succ m ih =>
    intro m' i r h h'
    by_cases hr : r = []
    · subst hr; rw [runsF_nil, runsF_nil]
    · have hp := List.length_pos_iff.2 hr
      obtain ⟨m', rfl⟩ : ∃ x, m' = x + 1 := ⟨m' - 1, by omega⟩
      simp only [runsF]
      rw [if_neg hr, if_neg hr, ih m' _ _ (by simp; omega) (by simp; omega)]
def runsL (l : List Int) : List (Int × Int) := runsF l.length 0 l
theorem runsF_good (l : List Int) (m : Nat) : ∀ (i : Nat), i ≤ l.length → ∀ x ∈ runsF m i (l.drop i), ∃ a k : Nat, x = ((a : Int), (k : Int)) ∧ 0 < k ∧ i ≤ a ∧ a + k ≤ l.length ∧ ∀ j, a ≤ j → j < a + k → l[j]? = some 0 := by
  induction m with
  | zero => intro i _ x hx; simp [runsF] at hx
  | succ m ih =>
    intro i hi x hx
    simp only [runsF] at hx
    split at hx
    · cases hx
    · have hz := rz_le (l.drop i)
      rw [List.length_drop] at hz
      rcases List.mem_append.1 hx with h1 | h1
      · split at h1
        · rename_i hp
          rw [List.mem_singleton] at h1
          refine ⟨i, rz (l.drop i), h1, hp, Nat.le_refl _, by omega, fun j h2 h3 => ?_⟩
          have := rz_at (l.drop i) (j - i) (by omega)
          rw [List.getElem?_drop, show i + (j - i) = j by omega] at this
          exact this
        · cases h1
      · rw [List.drop_drop] at h1
        by_cases hle : i + (rz (l.drop i) + 1) ≤ l.length
        · rw [show i + rz (l.drop i) + 1 = i + (rz (l.drop i) + 1) by omega] at h1
          obtain ⟨a, k, e, h2, h3, h4⟩ := ih (i + (rz (l.drop i) + 1)) hle x h1
          exact ⟨a, k, e, h2, by omega, h4⟩
        · have hnil : l.drop (i + (rz (l.drop i) + 1)) = [] := List.drop_eq_nil_of_le (by omega)
          rw [hnil, runsF_nil] at h1
          cases h1
theorem runsL_good {l : List Int} {x : Int × Int} (hx : x ∈ runsL l) : ∃ a k : Nat, x = ((a : Int), (k : Int)) ∧ 0 < k ∧ a + k ≤ l.length ∧ ∀ j, a ≤ j → j < a + k → l[j]? = some 0 := by
  obtain ⟨a, k, h1, h2, _, h3, h4⟩ := runsF_good l l.length 0 (Nat.zero_le _) x (by simpa [runsL] using hx)
  exact ⟨a, k, h1, h2, h3, h4⟩
/-- What is still to come behind i. -/
def rest (l : List Int) (i : Nat) : List (Int × Int) := runsF l.length i (l.drop i)
theorem rest_end {l : List Int} {i : Nat} (h : l.length ≤ i) : rest l i = [] := by unfold rest; rw [List.drop_eq_nil_of_le h, runsF_nil]
theorem rest_step {l : List Int} {i : Nat} (h : i < l.length) : rest l i = (if 0 < rz (l.drop i) then [((i : Int), (rz (l.drop i) : Int))] else []) ++ rest l (i + rz (l.drop i) + 1) := by
  unfold rest
  obtain ⟨m, hm⟩ : ∃ m, l.length = m + 1 := ⟨l.length - 1, by omega⟩
  have hne : l.drop i ≠ [] := by simp; omega
  rw [runsF_fuel l.length (m + 1) i _ (by simp) (by simp; omega)]
  simp only [runsF]
  rw [if_neg hne, List.drop_drop, show i + (rz (l.drop i) + 1) = i + rz (l.drop i) + 1 by omega]
  rw [runsF_fuel m l.length _ _ (by simp; omega) (by simp)]

/-- What lies in these blocks lies as it lay. -/
def Keeps (S : Nat → Prop) (W W' : World) : Prop := ∀ k, S k → W'.heap[k]? = W.heap[k]?
theorem Keeps.t {S : Nat → Prop} {A B C : World} (h : Keeps S A B) (k : Keeps S B C) : Keeps S A C := fun i hi => (k i hi).trans (h i hi)
theorem Keeps.b {S : Nat → Prop} {w : World} (hS : ∀ k, S k → k < w.heap.size) (W : World) (l : Nat) (o o' : Obj) (hl : w.heap.size ≤ l) (_ : W.heap[l]? = some o) (_ : o.isCells = false) (_ : o.isWalk = false) : Keeps S W (W.putObj l o') := by
  intro k hk
  exact World.putObj_heap_other (by have := hS k hk; omega)
theorem grownBy_of_below {w w' : World} (h : Below w.heap.size w w') : w.grownBy w' none := ⟨h.os, h.tape, h.output, h.size, fun k hk _ => h.block k hk⟩
theorem Keeps.of_below {S : Nat → Prop} {w w' : World} (hS : ∀ k, S k → k < w.heap.size) (h : Below w.heap.size w w') : Keeps S w w' := fun k hk => h.block k (hS k hk)
theorem Keeps.lt {S : Nat → Prop} {w w' : World} (h : Keeps S w w') (hS : ∀ k, S k → k < w.heap.size) : ∀ k, S k → k < w'.heap.size := by
  intro k hk
  have h1 := Array.getElem?_eq_getElem (hS k hk)
  exact (Array.getElem?_eq_some_iff.1 ((h k hk).trans h1)).1

/-- A run. -/
abbrev Run (l : List Int) := { x : Int × Int // x ∈ runsL l }
/-- The blocks that the closure reads. -/
def Sk (b X g : Nat) (k : Nat) : Prop := k = b ∨ k = X ∨ k = g

set_option maxRecDepth 100000 in
set_option maxHeartbeats 2000000 in
theorem runs1_any (n : Nat) (X g b lp : Nat) (first res : Int) (l : List Int) (c : Int → Int) (J Jx : List (Run l) → World → Prop) (hl : l.length ≤ 4096)
    (hY : ∀ pre (x : Run l) W, J pre W → pre.length < l.length → YieldAt Fence.wide (n - 1) Try.prog lp #[.int .i64 x.1.1, .int .i64 x.1.2] W fun e W' =>
      (e = .returned (.bool true) ∧ J (pre ++ [x]) W' ∧ Keeps (Sk b X g) W W') ∨ (e = .returned (.bool false) ∧ Jx (pre ++ [x]) W'))
    (W : World) (hb : W.heap[b]? = some (.cells #[.pointer (some ⟨X, 0, none⟩)] 25 (0, 0))) (hSp : SpAt W X g first l c res) (h0 : J [] W) (hJ : AbidesFrom W.heap.size J) :
    Calls Try.prog 52 #[.func (.yield lp) #[] #[], .pointer (some ⟨b, 0, none⟩)] W fun e W' => (∃ v, e = .returned v) ∧
      ((∃ ys : List (Run l), ys.map Subtype.val = runsL l ∧ J ys W') ∨ (∃ pre : List (Run l), pre.map Subtype.val <+: runsL l ∧ Jx pre W')) := by
  have hu54 := Try.underlying54
  have HY := Aside0.mk hY
  have HB := Aside0.mk hb
  have HS := Aside0.mk hSp
  have H0 := Aside0.mk h0
  have HJ := Aside0.mk hJ
  clear hY hb hSp h0 hJ
  go_enter Try.func52, Try.ntmps52
  go_wp2
  go_loopw [3] (fun iv wr => ∃ (i : Int) (pre : List (Run l)), iv = .int .i64 i ∧ 0 ≤ i ∧ i ≤ l.length + 1 ∧ Aside0 (pre.map Subtype.val ++ rest l i.toNat = runsL l ∧ (pre.length : Int) ≤ i) ∧ Aside0 (J pre wr) ∧ Aside0 (Keeps (Sk b X g) W wr)) (fun iv _ => (l.length + 1 - intOf iv).toNat)
  case atStart => exact ⟨0, [], rfl, Int.le_refl _, by omega, ⟨rfl, by simp⟩, H0, ⟨fun _ _ => rfl⟩⟩
  case round =>
    obtain ⟨i, pre, rfl, i0, i1, HI, HJ1, HK1⟩ := hrel
    have hbr := (HK1.out b (.inl rfl)).trans HB.out
    have hb0 : wr.cell? ⟨b, 0, none⟩ = some (.pointer (some ⟨X, 0, none⟩)) := (blk_cell hbr 0).trans rfl
    have hSr : SpAt wr X g first l c res := HS.out.keep (HK1.out X (.inr (.inl rfl))) (HK1.out g (.inr (.inr rfl)))
    obtain ⟨K, hKl, hx1⟩ := hSr.xk
    have HSr := Aside0.mk hSr
    clear hbr hSr
    by_cases hlt : i < (l.length : Int)
    · have hlt1 : decide (i < (l.length : Int)) = true := decide_eq_true hlt
      obtain ⟨z, hz⟩ : ∃ z : Nat, rz (l.drop i.toNat) = z := ⟨_, rfl⟩
      have hzl : i + z ≤ l.length := by have := rz_le (l.drop i.toNat); rw [hz, List.length_drop] at this; omega
      obtain ⟨e, he⟩ : ∃ e, i + (z : Int) = e := ⟨_, rfl⟩
      have hza : ∀ j : Int, i ≤ j → j < e → l[j.toNat]? = some 0 := fun j h1 h2 => by
        have := rz_at (l.drop i.toNat) (j - i).toNat (by omega)
        rw [List.getElem?_drop, show i.toNat + (j - i).toNat = j.toNat by omega] at this
        exact this
      have hze : ∀ q, l[e.toNat]? = some q → (q == 0) = false := fun q hq => by
        have := rz_end (l.drop i.toNat) (q := q) (by rw [hz, List.getElem?_drop, show i.toNat + z = e.toNat by omega]; exact hq)
        simpa using this
      have hel : e ≤ l.length := by omega
      have hie : i ≤ e := by omega
      have HZ := Aside0.mk hz
      have HZA := Aside0.mk hza
      have HZE := Aside0.mk hze
      have HE := Aside0.mk he
      clear hz hza hze he hzl
      go_wp2
      go_loopw [3] (fun jv wk => ∃ (j : Int), jv = .int .i64 j ∧ i ≤ j ∧ j ≤ e ∧ wk = wr) (fun jv _ => (e - intOf jv).toNat)
      case atStart => exact ⟨i, rfl, Int.le_refl _, hie, rfl⟩
      case round =>
        obtain ⟨j, rfl, j0, j1, rfl⟩ := hrel
        have w1 : wrap64 (j + 1) = j + 1 := by unfold wrap64; omega
        by_cases hj : j < e
        · have hj1 : decide (j < (l.length : Int)) = true := decide_eq_true (by omega)
          have hcell := HSr.out.at_ (HZA.out j j0 hj)
          have hjl : j < (l.length : Int) := by omega
          have hj00 : 0 ≤ j := by omega
          go_wp2
          exact ⟨⟨j + 1, rfl, by omega, by omega, by first | rfl | trivial⟩, by simp [intOf]; omega⟩
        · obtain rfl : j = e := by omega
          have hB : decide (j < (l.length : Int)) = false ∨ (decide (j < (l.length : Int)) = true ∧ j < (l.length : Int) ∧ ∃ q, wr.cell? ⟨g, j.toNat, none⟩ = some (.int .u8 q) ∧ (q == 0) = false) := by
            by_cases h : j < (l.length : Int)
            · obtain ⟨q, hq⟩ : ∃ q, l[j.toNat]? = some q := ⟨_, List.getElem?_eq_getElem (by omega)⟩
              exact .inr ⟨decide_eq_true h, h, q, HSr.out.at_ hq, HZE.out q hq⟩
            · exact .inl (decide_eq_false h)
          have hst := rest_step (l := l) (i := i.toNat) (by omega)
          rw [HZ.out] at hst
          have hn1 : i.toNat + z + 1 = (j + 1).toNat := by have := HE.out; omega
          rw [hn1] at hst
          have hj00 : 0 ≤ j := by omega
          by_cases hz0 : i < j
          · rw [if_pos (by have := HE.out; omega)] at hst
            have HSt := Aside0.mk hst
            clear hst hn1
            have d0 : decide (i < j) = true := decide_eq_true hz0
            have w2 : wrap64 (j - i) = j - i := by unfold wrap64; omega
            have hzj : (z : Int) = j - i := by have := HE.out; omega
            have hi' : ((i.toNat : Nat) : Int) = i := by omega
            have hmem : (i, j - i) ∈ runsL l := by
              rw [← HI.out.1, HSt.out, hzj, hi']
              simp
            obtain ⟨x, hx⟩ : ∃ x : Run l, x.1 = (i, j - i) := ⟨⟨_, hmem⟩, rfl⟩
            have hxa : x.1.1 = i := by rw [hx]
            have hxb : x.1.2 = j - i := by rw [hx]
            have hlen : (pre.length : Int) < l.length := by have := HI.out.2; omega
            obtain ⟨fn, tmps, assign, body, hy, hRd⟩ := HY.out pre x wr HJ1.out (by omega)
            rw [hxa, hxb] at hy
            have HRD := Aside0.mk hRd
            have HXx := Aside0.mk hx
            have HZJ := Aside0.mk (And.intro hzj hi')
            clear hRd hmem hzj hi' hlen hxa hxb hx
            rcases hB with hb | ⟨hb, hb9, q, hcell, hq0⟩
            all_goals
              refine (wpIn_wide (n := n)).1 ?_
              gi_wp2
              refine (wpIn_wide (n := n)).1 ?_
              gi_wp2
              refine ⟨fun h => by simp [Fence.wide] at h, ?_⟩
              refine HRD.out.mono ?_
              rintro e W3 (⟨rfl, hJ3, hk3⟩ | ⟨rfl, hJx3⟩)
              · have HJ3 := Aside0.mk hJ3
                have HK3 := Aside0.mk hk3
                clear hJ3 hk3
                gi_wp2
                go_wp2
                refine ⟨⟨j + 1, pre ++ [x], by first | rfl | simp, by omega, by omega, ⟨?_, ?_⟩, HJ3, ⟨HK1.out.t HK3.out⟩⟩, by simp [intOf]; omega⟩
                · have h := HI.out.1
                  rw [HSt.out, HZJ.out.1, HZJ.out.2, ← HXx.out] at h
                  rw [List.map_append, List.map_singleton, List.append_assoc]
                  exact h
                · have := HI.out.2; simp; omega
              · have HJ3 := Aside0.mk hJx3
                clear hJx3
                gi_wp2
                refine bodyPost_ret (results_none rfl _ _ _) rfl ?_
                refine ⟨⟨_, rfl⟩, .inr ⟨pre ++ [x], ?_, HJ3.out⟩⟩
                have h := HI.out.1
                rw [HSt.out, HZJ.out.1, HZJ.out.2, ← HXx.out] at h
                rw [List.map_append, List.map_singleton]
                exact ⟨_, by rw [List.append_assoc]; exact h⟩
          · obtain rfl : i = j := by omega
            rw [if_neg (by have := HE.out; omega), List.nil_append] at hst
            have HSt := Aside0.mk hst
            clear hst hn1
            have d0 : decide (i < i) = false := decide_eq_false (by omega)
            rcases hB with hb | ⟨hb, hb9, q, hcell, hq0⟩
            · rw [hlt1] at hb; cases hb
            · go_wp2
              refine ⟨⟨i + 1, pre, by first | rfl | simp, by omega, by omega, ⟨?_, ?_⟩, HJ1, HK1⟩, by simp [intOf]; omega⟩
              · rw [← HSt.out]; exact HI.out.1
              · have := HI.out.2; omega
    · have hlt1 : decide (i < (l.length : Int)) = false := decide_eq_false hlt
      go_wp2
      go_end0
      refine ⟨⟨_, rfl⟩, .inl ⟨pre, ?_, HJ1.out⟩⟩
      have := HI.out.1
      rw [rest_end (by omega), List.append_nil] at this
      exact this

/-- The closure's contract. -/
theorem runs_stops (n : Nat) (X g b : Nat) (first res : Int) (l : List Int) (c : Int → Int) (hl : l.length ≤ 4096) (w : World)
    (hb : w.heap[b]? = some (.cells #[.pointer (some ⟨X, 0, none⟩)] 25 (0, 0))) (hSp : SpAt w X g first l c res) :
    SeqStopsK Fence.wide n Try.prog 52 #[.pointer (some ⟨b, 0, none⟩)] (fun x : Run l => #[.int .i64 x.1.1, .int .i64 x.1.2]) (Keeps (Sk b X g)) (fun ys => ys.map Subtype.val = runsL l) (fun pre => pre.map Subtype.val <+: runsL l) l.length w := by
  intro lp J Jx W hW hJ hJx hY h0
  refine callsIn_wide.2 ?_
  have hb' := (hW.block b (blk_lt hb)).trans hb
  exact runs1_any n X g b lp first res l c J Jx hl hY W hb' (hSp.below hW) h0 hJ

set_option maxHeartbeats 1000000 in
theorem runs_any (X : Nat) (w : World) :
    Calls Try.prog 33 #[.pointer (some ⟨X, 0, none⟩)] w fun e w' => ∃ b, e = .returned (.func (.func 52) #[] #[.pointer (some ⟨b, 0, none⟩)]) ∧ w.heap.size ≤ b ∧ w'.heap[b]? = some (.cells #[.pointer (some ⟨X, 0, none⟩)] 25 (0, 0)) ∧ Below w.heap.size w w' := by
  go_enter Try.func33, Try.ntmps33
  go_wp2
  go_ret
  exact ⟨w.heap.size, rfl, Nat.le_refl _, blk_new w _, below_alloc (Below.refl _ _) _⟩
end Go.Proofs.Ytpcgmlnipeigjaa.H
