/- Package space: how a Space lies; made, Left, set as contracts. -/
import Derived.Test.YtpcgmlnipeigjaaProg
import Derived.Test.YtpcgmlnipeigjaaWWords
import Derived.Test.YtpcgmlnipeigjaaWMore
import Derived.WalkKit
import Derived.WalkSpells
import Derived.StillTailTactics
import Derived.KernelRfl
import Derived.BigRegion
import Derived.Lib.LazyBuf
import Derived.BigQuiet
import Derived.Deep.QuietTactic
namespace Go.Proofs.Ytpcgmlnipeigjaa.H
open Go.RowKit Go.Proofs.YtpcgmlnipeigjaaW.PrintWords Go.Proofs.YtpcgmlnipeigjaaW.PrintLast Go.Proofs.YtpcgmlnipeigjaaW.PrintMore
set_option linter.unusedVariables false
set_option linter.unusedSimpArgs false

/-- Of the sectors how many are so. -/
def cnt (l : List Int) (v : Int) : Int := (l.count v : Nat)
theorem cnt_nn (l : List Int) (v : Int) : 0 ≤ cnt l v ∧ cnt l v ≤ l.length := by
  unfold cnt
  have := List.count_le_length (a := v) (l := l)
  omega
theorem cnt_pos {l : List Int} {i : Nat} {q : Int} (h : l[i]? = some q) : 1 ≤ cnt l q := by
  unfold cnt
  have := List.count_pos_iff.2 (List.mem_of_getElem? h)
  omega
theorem cnt_set {l : List Int} {i : Nat} {q : Int} (h : l[i]? = some q) (v x : Int) : cnt (l.set i v) x = cnt l x - (if x = q then 1 else 0) + (if x = v then 1 else 0) := by
  obtain ⟨hi, hq⟩ := List.getElem?_eq_some_iff.1 h
  unfold cnt
  rw [List.count_set hi, hq]
  have h1 : x = q → 1 ≤ l.count x := fun e => by rw [e]; exact List.count_pos_iff.2 (List.mem_of_getElem? h)
  simp only [beq_iff_eq]
  by_cases e1 : x = q <;> by_cases e2 : x = v
  · have := h1 e1
    rw [if_pos e1.symm, if_pos e2.symm, if_pos e1, if_pos e2]; omega
  · have := h1 e1
    rw [if_pos e1.symm, if_neg (fun e => e2 e.symm), if_pos e1, if_neg e2]; omega
  · rw [if_neg (fun e => e1 e.symm), if_pos e2.symm, if_neg e1, if_pos e2]; omega
  · rw [if_neg (fun e => e1 e.symm), if_neg (fun e => e2 e.symm), if_neg e1, if_neg e2]; omega
/-- Sectors become something. -/
def upd (v : Int) : Nat → Nat → List Int → List Int
  | 0, _, l => l
  | n + 1, i, l => upd v n (i + 1) (l.set i v)
theorem upd_length (v : Int) (n : Nat) : ∀ (i : Nat) (l : List Int), (upd v n i l).length = l.length := by
  induction n with
  | zero => intro i l; rfl
  | succ n ih => intro i l; simp [upd, ih]
theorem upd_get (v : Int) (n : Nat) : ∀ (i : Nat) (l : List Int) (j : Nat), j < l.length → (upd v n i l)[j]? = if i ≤ j ∧ j < i + n then some v else l[j]? := by
  induction n with
  | zero => intro i l j hj; simp only [upd]; rw [if_neg (by omega)]
  | succ n ih =>
    intro i l j hj
    simp only [upd]
    rw [ih (i + 1) (l.set i v) j (by rw [List.length_set]; exact hj)]
    by_cases h1 : j = i
    · subst h1
      rw [if_neg (by omega), if_pos (by omega), List.getElem?_set_self hj]
    · rw [List.getElem?_set_ne (fun e => h1 e.symm)]
      by_cases h2 : i + 1 ≤ j ∧ j < i + 1 + n
      · rw [if_pos h2, if_pos (by omega)]
      · rw [if_neg h2, if_neg (by omega)]
/-- Each is 0, 1 or 2. -/
def Tri (l : List Int) : Prop := ∀ x ∈ l, x = 0 ∨ x = 1 ∨ x = 2
theorem Tri.set {l : List Int} (h : Tri l) (i : Nat) {v : Int} (hv : v = 0 ∨ v = 1 ∨ v = 2) : Tri (l.set i v) := fun x hx => by
  rcases List.mem_or_eq_of_mem_set hx with h1 | h1
  · exact h x h1
  · rw [h1]; exact hv
theorem Tri.upd {v : Int} (hv : v = 0 ∨ v = 1 ∨ v = 2) (n : Nat) : ∀ (i : Nat) (l : List Int), Tri l → Tri (upd v n i l) := by
  induction n with
  | zero => intro i l h; exact h
  | succ n ih => intro i l h; exact ih _ _ (h.set i hv)

theorem setCell_row {w : World} {g t : Nat} {cs : Array Value} (h : w.heap[g]? = some (.cells cs t (0, 0))) (i : Nat) (v : Value) : (w.setCell ⟨g, i, none⟩ v).heap[g]? = some (.cells (cs.setIfInBounds i v) t (0, 0)) := by
  obtain ⟨hlt, hk⟩ := Array.getElem?_eq_some_iff.1 h
  show (w.heap.modify g _)[g]? = _
  rw [Array.getElem?_eq_getElem (by rw [Array.size_modify]; exact hlt), Array.getElem_modify_self, hk]
  rfl
/-- A row of numbers, whole. -/
def rowOf (k : IntKind) (l : List Int) : Array Value := (l.map (Value.int k)).toArray
theorem rowOf_set (k : IntKind) (l : List Int) (i : Nat) (v : Int) : (rowOf k l).setIfInBounds i (.int k v) = rowOf k (l.set i v) := by
  unfold rowOf
  rw [List.setIfInBounds_toArray, List.map_set]
theorem rowOf_get (k : IntKind) (l : List Int) (i : Nat) {q : Int} (h : l[i]? = some q) : (rowOf k l)[i]? = some (.int k q) := by
  unfold rowOf
  rw [List.getElem?_toArray, List.getElem?_map, h]
  rfl

/-- A row at g: its numbers, and spare cells behind. -/
structure RowAt (k : IntKind) (t : Nat) (w : World) (g : Nat) (l : List Int) : Prop where
  out : ∃ ext : List Value, w.heap[g]? = some (.cells (l.map (Value.int k) ++ ext).toArray t (0, 0))
namespace RowAt
variable {k : IntKind} {t : Nat} {w w' : World} {g : Nat} {l : List Int}
theorem lt (h : RowAt k t w g l) : g < w.heap.size := blk_lt h.out.choose_spec
theorem cell (h : RowAt k t w g l) {i : Nat} {q : Int} (hq : l[i]? = some q) : w.cell? ⟨g, i, none⟩ = some (.int k q) := by
  obtain ⟨ext, he⟩ := h.out
  refine (blk_cell he i).trans ?_
  obtain ⟨hi, _⟩ := List.getElem?_eq_some_iff.1 hq
  rw [List.getElem?_toArray, List.getElem?_append_left (by simpa using hi), List.getElem?_map, hq]
  rfl
theorem frozen (h : RowAt k t w g l) (i : Nat) : w.frozen? ⟨g, i, none⟩ = false := blk_frozen h.out.choose_spec i
theorem keep (h : RowAt k t w g l) (h1 : w'.heap[g]? = w.heap[g]?) : RowAt k t w' g l := ⟨h.out.choose, h1.trans h.out.choose_spec⟩
theorem set (h : RowAt k t w g l) (i : Nat) (v : Int) : RowAt k t (w.setCell ⟨g, i, none⟩ (.int k v)) g (l.set i v) := by
  obtain ⟨ext, he⟩ := h.out
  have hs := setCell_row he i (.int k v)
  rw [List.setIfInBounds_toArray] at hs
  by_cases hi : i < l.length
  · exact ⟨ext, by rw [hs, List.set_append_left _ _ (by simpa using hi), List.map_set]⟩
  · have hl : l.set i v = l := List.set_eq_of_length_le (by omega)
    exact ⟨ext.set (i - l.length) (.int k v), by rw [hs, List.set_append_right _ _ (by simpa using hi), List.length_map, hl]⟩
theorem ty (h : RowAt k t w g l) : ∃ cs, w.heap[g]? = some (.cells cs t (0, 0)) := ⟨_, h.out.choose_spec⟩
theorem of_exact (h : w.heap[g]? = some (.cells (rowOf k l) t (0, 0))) : RowAt k t w g l := ⟨[], by rw [List.append_nil]; exact h⟩
end RowAt

/-- A Space's block at X, its sectors at g. -/
structure SpAt (w : World) (X g : Nat) (first : Int) (l : List Int) (c : Int → Int) (res : Int) : Prop where
  blk : ∃ K, l.length ≤ K ∧ w.heap[X]? = some (.cells #[.int .i64 first, .slice (some ⟨g, 0, none⟩) l.length K, .int .i64 (c 0), .int .i64 (c 1), .int .i64 (c 2), .int .i64 res] 54 (0, 0))
  row : RowAt .u8 5 w g l
namespace SpAt
variable {w w' : World} {X g : Nat} {first res : Int} {l : List Int} {c : Int → Int}
theorem ne (h : SpAt w X g first l c res) : X ≠ g := by
  obtain ⟨K, _, hb⟩ := h.blk
  obtain ⟨cs, hr⟩ := h.row.ty
  exact blk_ne hb hr (by decide)
theorem ltX (h : SpAt w X g first l c res) : X < w.heap.size := blk_lt h.blk.choose_spec.2
theorem ltg (h : SpAt w X g first l c res) : g < w.heap.size := h.row.lt
theorem x0 (h : SpAt w X g first l c res) : w.cell? ⟨X, 0, none⟩ = some (.int .i64 first) := (blk_cell h.blk.choose_spec.2 0).trans rfl
theorem xk (h : SpAt w X g first l c res) : ∃ K, l.length ≤ K ∧ w.cell? ⟨X, 1, none⟩ = some (.slice (some ⟨g, 0, none⟩) l.length K) := ⟨_, h.blk.choose_spec.1, (blk_cell h.blk.choose_spec.2 1).trans rfl⟩
theorem x2 (h : SpAt w X g first l c res) : w.cell? ⟨X, 2, none⟩ = some (.int .i64 (c 0)) := (blk_cell h.blk.choose_spec.2 2).trans rfl
theorem x3 (h : SpAt w X g first l c res) : w.cell? ⟨X, 3, none⟩ = some (.int .i64 (c 1)) := (blk_cell h.blk.choose_spec.2 3).trans rfl
theorem x4 (h : SpAt w X g first l c res) : w.cell? ⟨X, 4, none⟩ = some (.int .i64 (c 2)) := (blk_cell h.blk.choose_spec.2 4).trans rfl
theorem x5 (h : SpAt w X g first l c res) : w.cell? ⟨X, 5, none⟩ = some (.int .i64 res) := (blk_cell h.blk.choose_spec.2 5).trans rfl
theorem fX (h : SpAt w X g first l c res) (i : Nat) : w.frozen? ⟨X, i, none⟩ = false := blk_frozen h.blk.choose_spec.2 i
theorem fg (h : SpAt w X g first l c res) (i : Nat) : w.frozen? ⟨g, i, none⟩ = false := h.row.frozen i
theorem at_ (h : SpAt w X g first l c res) {i : Nat} {q : Int} (hq : l[i]? = some q) : w.cell? ⟨g, i, none⟩ = some (.int .u8 q) := h.row.cell hq
theorem xq (h : SpAt w X g first l c res) {q : Int} (hq : q = 0 ∨ q = 1 ∨ q = 2) : w.cell? ⟨X, 2 + q.toNat, none⟩ = some (.int .i64 (c q)) := by
  rcases hq with rfl | rfl | rfl
  · exact h.x2
  · exact h.x3
  · exact h.x4
theorem setq (h : SpAt w X g first l c res) {q : Int} (hq : q = 0 ∨ q = 1 ∨ q = 2) (v : Int) : SpAt (w.setCell ⟨X, 2 + q.toNat, none⟩ (.int .i64 v)) X g first l (fun x => if x = q then v else c x) res := by
  obtain ⟨K, hK, hb⟩ := h.blk
  refine ⟨⟨K, hK, ?_⟩, h.row.keep (Below.heap_setCell _ _ _ _ (show g ≠ X from h.ne.symm))⟩
  rw [setCell_row hb]
  rcases hq with rfl | rfl | rfl <;> rfl
theorem setg (h : SpAt w X g first l c res) (i : Nat) (v : Int) : SpAt (w.setCell ⟨g, i, none⟩ (.int .u8 v)) X g first (l.set i v) c res := by
  obtain ⟨K, hK, hb⟩ := h.blk
  refine ⟨⟨K, by rw [List.length_set]; exact hK, ?_⟩, h.row.set i v⟩
  rw [Below.heap_setCell _ _ _ _ (show X ≠ g from h.ne), hb, List.length_set]
theorem setr (h : SpAt w X g first l c res) (v : Int) : SpAt (w.setCell ⟨X, 5, none⟩ (.int .i64 v)) X g first l c v := by
  obtain ⟨K, hK, hb⟩ := h.blk
  refine ⟨⟨K, hK, ?_⟩, h.row.keep (Below.heap_setCell _ _ _ _ (show g ≠ X from h.ne.symm))⟩
  rw [setCell_row hb]; rfl
theorem keep (h : SpAt w X g first l c res) (h1 : w'.heap[X]? = w.heap[X]?) (h2 : w'.heap[g]? = w.heap[g]?) : SpAt w' X g first l c res := by
  obtain ⟨K, hK, hb⟩ := h.blk
  exact ⟨⟨K, hK, h1.trans hb⟩, h.row.keep h2⟩
theorem below (h : SpAt w X g first l c res) (hb : Below w.heap.size w w') : SpAt w' X g first l c res := h.keep (hb.block _ h.ltX) (hb.block _ h.ltg)
theorem cong (h : SpAt w X g first l c res) {c' : Int → Int} (h0 : c' 0 = c 0) (h1 : c' 1 = c 1) (h2 : c' 2 = c 2) : SpAt w X g first l c' res := ⟨by rw [h0, h1, h2]; exact h.blk, h.row⟩
end SpAt
/-- Only X and g are written, and what is new. -/
structure Mv (n0 X g : Nat) (w w' : World) : Prop where
  keep : ∀ k, k < w.heap.size → k ≠ X → k ≠ g → w'.heap[k]? = w.heap[k]?
  bel : Below n0 w w'
namespace Mv
variable {n0 X g : Nat} {w w1 w2 : World}
theorem refl : Mv n0 X g w w := ⟨fun _ _ _ _ => rfl, Below.refl _ _⟩
theorem trans (h : Mv n0 X g w w1) (k : Mv n0 X g w1 w2) : Mv n0 X g w w2 := ⟨fun i hi h1 h2 => (k.keep i (Nat.lt_of_lt_of_le hi h.bel.size) h1 h2).trans (h.keep i hi h1 h2), h.bel.trans k.bel⟩
theorem of_below (h : Below w.heap.size w w1) (hn : n0 ≤ w.heap.size) : Mv n0 X g w w1 := ⟨fun k hk _ _ => h.block k hk, h.mono hn⟩
theorem setX (h : Mv n0 X g w w1) (hn : n0 ≤ X) (i : Nat) (v : Value) : Mv n0 X g w (w1.setCell ⟨X, i, none⟩ v) := ⟨fun k hk h1 h2 => by rw [Below.heap_setCell _ _ _ _ h1]; exact h.keep k hk h1 h2, h.bel.setCell (p := ⟨X, i, none⟩) hn v⟩
theorem setg (h : Mv n0 X g w w1) (hn : n0 ≤ g) (i : Nat) (v : Value) : Mv n0 X g w (w1.setCell ⟨g, i, none⟩ v) := ⟨fun k hk h1 h2 => by rw [Below.heap_setCell _ _ _ _ h2]; exact h.keep k hk h1 h2, h.bel.setCell (p := ⟨g, i, none⟩) hn v⟩
theorem drew (h : Mv n0 X g w w1) : Mv n0 X g w w1.drew := ⟨h.keep, below_drew h.bel⟩
theorem drewN (h : Mv n0 X g w w1) (n : Nat) : Mv n0 X g w (w1.drewN n) := h.trans (of_below' h n)
where of_below' {w w1 : World} (_ : Mv n0 X g w w1) (n : Nat) : Mv n0 X g w1 (w1.drewN n) := ⟨fun k hk _ _ => (pw_below_drewN (Below.refl w1.heap.size w1) n).block k hk, pw_below_drewN (Below.refl _ _) n⟩
end Mv

set_option maxHeartbeats 1000000 in
theorem made_yes (X g : Nat) (first res : Int) (l : List Int) (c : Int → Int) (w : World) (hS : SpAt w X g first l c res) :
    Calls Try.prog 32 #[.pointer (some ⟨X, 0, none⟩)] w fun e w' => e = .returned (.bool true) ∧ Below w.heap.size w w' := by
  have hu54 := Try.underlying54
  obtain ⟨K, _, hx1⟩ := hS.xk
  have e1 := fun W => run_neq_slice_nil (P := Try.prog) W 51 5 (some ⟨g, 0, none⟩) l.length K Try.underlying51
  clear hS
  go_enter Try.func32, Try.ntmps32
  go_wp2
  go_ret
  exact ⟨rfl, Below.refl _ _⟩

set_option maxHeartbeats 1000000 in
theorem left_any (X g : Nat) (first res : Int) (l : List Int) (c : Int → Int) (w : World) (hS : SpAt w X g first l c res) (h0 : 0 ≤ c 0 ∧ c 0 ≤ 4096) (hr : 0 ≤ res ∧ res ≤ 4096) :
    Calls Try.prog 21 #[.pointer (some ⟨X, 0, none⟩)] w fun e w' => e = .returned (.int .i64 (c 0 - res)) ∧ Below w.heap.size w w' := by
  have hu54 := Try.underlying54
  have hu52 := Try.underlying52
  have HS := Aside0.mk hS
  have e1 : wrap64 (c 0 - res) = c 0 - res := by unfold wrap64; omega
  clear hS
  go_enter Try.func21, Try.ntmps21
  go_wp2_with (go_at_call 32; refine (made_yes X g first res l c _ HS.out).mono ?_; rintro e w1 ⟨rfl, hB⟩; have h1 := HS.out.below hB; have hx2 := h1.x2; have hx5 := h1.x5; have HB := Aside0.mk hB; clear hB h1)
  go_quiet (fail)
  go_wp2
  go_ret
  exact ⟨by first | rfl | rw [e1], pw_below_drewN HB.out _⟩

/-- What set leaves. -/
structure SetP (n0 X g : Nat) (first res : Int) (l : List Int) (w : World) (e : Ending) (w' : World) : Prop where
  out : (∃ v, e = .returned v) ∧ SpAt w' X g first l (cnt l) res ∧ Mv n0 X g w w'

set_option maxRecDepth 100000 in
set_option maxHeartbeats 4000000 in
theorem set_any (n0 X g : Nat) (first res : Int) (l : List Int) (at_ n what : Int) (w : World) (hS : SpAt w X g first l (cnt l) res) (ha : 0 ≤ at_) (hn : 0 ≤ n) (hb : at_ + n ≤ l.length) (hl : l.length ≤ 4096) (ht : Tri l) (hw : what = 0 ∨ what = 1 ∨ what = 2)
    (hX : n0 ≤ X) (hg : n0 ≤ g) :
    Calls Try.prog 34 #[.pointer (some ⟨X, 0, none⟩), .int .i64 at_, .int .i64 n, .int .u8 what] w fun e w' => SetP n0 X g first res (upd what n.toNat at_.toNat l) w e w' := by
  have hu54 := Try.underlying54
  have hu52 := Try.underlying52
  have HS := Aside0.mk hS
  have HT := Aside0.mk ht
  have HWh := Aside0.mk hw
  have w1 : wrap64 (at_ + n) = at_ + n := by unfold wrap64; omega
  clear hS ht hw
  go_enter Try.func34, Try.ntmps34
  go_wp2
  go_loopw [8] (fun iv wr => ∃ (i : Int) (l' : List Int), iv = .int .i64 i ∧ at_ ≤ i ∧ i ≤ at_ + n ∧ l'.length = l.length ∧ Aside0 (SpAt wr X g first l' (cnt l') res) ∧
    Aside0 (Tri l' ∧ upd what (at_ + n - i).toNat i.toNat l' = upd what n.toNat at_.toNat l) ∧ Aside0 (Mv n0 X g w wr)) (fun iv _ => (at_ + n - intOf iv).toNat)
  case atStart => exact ⟨at_, l, rfl, by omega, by omega, rfl, HS, ⟨HT.out, by rw [show (at_ + n - at_).toNat = n.toNat by omega]⟩, ⟨Mv.refl⟩⟩
  case round =>
    obtain ⟨i, l', rfl, i0, i1, hl', HSr, HI, HMr⟩ := hrel
    by_cases hlt : i < at_ + n
    · have hlt1 : decide (i < at_ + n) = true := decide_eq_true hlt
      obtain ⟨q, hq⟩ : ∃ q, l'[i.toNat]? = some q := ⟨_, List.getElem?_eq_getElem (by omega)⟩
      have hq3 := HI.out.1 q (List.mem_of_getElem? hq)
      obtain ⟨m, hm⟩ : ∃ m, cnt l' q = m := ⟨_, rfl⟩
      have hm1 : 1 ≤ m ∧ m ≤ 4096 := by have h1 := cnt_pos hq; have h2 := (cnt_nn l' q).2; rw [hm] at h1 h2; omega
      obtain ⟨K, hKl, hx1⟩ := HSr.out.xk
      have hcell := HSr.out.at_ hq
      have hxq := HSr.out.xq hq3
      have hfq := HSr.out.fX (2 + q.toNat)
      rw [hm] at hxq
      have hq0 : 0 ≤ q := by omega
      have hq9 : q < 3 := by omega
      have w2 : wrap64 (m - 1) = m - 1 := by unfold wrap64; omega
      have HQ := Aside0.mk hq
      have HQ3 := Aside0.mk hq3
      have HM := Aside0.mk hm
      clear hq hq3 hm
      go_wp2
      go_region
      have hA : SpAt (wr.setCell ⟨X, 2 + q.toNat, none⟩ (.int .i64 (m - 1))).drew X g first l' (fun x => if x = q then m - 1 else cnt l' x) res := (HSr.out.setq HQ3.out (m - 1)).keep rfl rfl
      have hMA : Mv n0 X g w (wr.setCell ⟨X, 2 + q.toNat, none⟩ (.int .i64 (m - 1))).drew := (HMr.out.setX hX _ _).drew
      obtain ⟨wA, hwA⟩ : ∃ x, (wr.setCell ⟨X, 2 + q.toNat, none⟩ (.int .i64 (m - 1))).drew = x := ⟨_, rfl⟩
      rw [hwA] at hA hMA ⊢
      clear hwA hx1 hcell hxq hfq
      obtain ⟨K2, hKl2, hx1⟩ := hA.xk
      have hfg := hA.fg i.toNat
      have hcA := hA.at_ HQ.out
      obtain ⟨m2, hm2⟩ : ∃ m2, (if what = q then m - 1 else cnt l' what) = m2 := ⟨_, rfl⟩
      have hm3 : 0 ≤ m2 ∧ m2 ≤ 4096 := by
        have := cnt_nn l' what
        rw [← hm2]
        split <;> omega
      have HA := Aside0.mk hA
      have HMA := Aside0.mk hMA
      clear hA hMA
      go_wp2
      have hB := HA.out.setg i.toNat what
      have hMB := HMA.out.setg hg i.toNat (.int .u8 what)
      obtain ⟨wB, hwB⟩ : ∃ x, wA.setCell ⟨g, i.toNat, none⟩ (.int .u8 what) = x := ⟨_, rfl⟩
      rw [hwB] at hB hMB ⊢
      have hxw := hB.xq HWh.out
      rw [hm2] at hxw
      have hfw := hB.fX (2 + what.toNat)
      have h0w : 0 ≤ what := by have := HWh.out; omega
      have h9w : what < 3 := by have := HWh.out; omega
      have w3 : wrap64 (m2 + 1) = m2 + 1 := by unfold wrap64; omega
      have w4 : wrap64 (i + 1) = i + 1 := by unfold wrap64; omega
      have HB := Aside0.mk hB
      have HMB := Aside0.mk hMB
      have HM2 := Aside0.mk hm2
      clear hB hMB hm2 hx1 hfg hwB hcA
      go_region
      have hC : SpAt (wB.setCell ⟨X, 2 + what.toNat, none⟩ (.int .i64 (m2 + 1))).drew X g first (l'.set i.toNat what) (cnt (l'.set i.toNat what)) res := by
        refine SpAt.keep (w := wB.setCell ⟨X, 2 + what.toNat, none⟩ (.int .i64 (m2 + 1))) ?_ rfl rfl
        have h := HB.out.setq HWh.out (m2 + 1)
        have hc : ∀ x, (if x = what then m2 + 1 else if x = q then m - 1 else cnt l' x) = cnt (l'.set i.toNat what) x := fun x => by
          rw [cnt_set HQ.out, ← HM2.out, ← HM.out]
          by_cases e1 : x = what
          · subst e1
            by_cases e2 : x = q
            · subst e2; simp
            · simp [e2]
          · by_cases e2 : x = q
            · subst e2; simp [e1]
            · simp [e1, e2]
        exact h.cong (hc 0).symm (hc 1).symm (hc 2).symm
      have hMC : Mv n0 X g w (wB.setCell ⟨X, 2 + what.toNat, none⟩ (.int .i64 (m2 + 1))).drew := (HMB.out.setX hX _ _).drew
      have HC := Aside0.mk hC
      have HMC := Aside0.mk hMC
      clear hC hMC
      go_wp2
      refine ⟨⟨i + 1, l'.set i.toNat what, rfl, by omega, by omega, by rw [List.length_set]; exact hl', HC, ⟨HI.out.1.set _ HWh.out, ?_⟩, HMC⟩, by simp [intOf]; omega⟩
      rw [← HI.out.2, show (at_ + n - i).toNat = (at_ + n - (i + 1)).toNat + 1 by omega, show (i + 1).toNat = i.toNat + 1 by omega]
      rfl
    · have hlt1 : decide (i < at_ + n) = false := decide_eq_false hlt
      go_wp2
      go_end0
      refine ⟨⟨_, rfl⟩, ?_, HMr.out⟩
      rw [← HI.out.2, show (at_ + n - i).toNat = 0 by omega]
      exact HSr.out
end Go.Proofs.Ytpcgmlnipeigjaa.H
