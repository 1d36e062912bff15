/- Paths: Parts' iterator as a contract. -/
import Derived.Test.YtankbofabdjleaaDoorPt
import Derived.RangeFuncBox
import Derived.RangeFuncLeaves
import Derived.RangeFuncKeeps
import Derived.Shelf.Abstract
import Derived.OwnWalkIn
import Derived.TacticsInMore
import Derived.LoopNIn
import Derived.LoopIn
namespace Go.Proofs.YtankbofabdjleaaDoor.H
open Go.RowKit Go.Shelf Go.Proofs.YtankbofabdjleaaDoorW.PrintWords Go.Proofs.YtankbofabdjleaaDoorW.PrintLast Go.Proofs.YtankbofabdjleaaDoorW.PrintMore
set_option linter.unusedVariables false
set_option linter.unusedSimpArgs false

/-- The texts with their places. -/
def en (xs : List Bs) : List (Nat × Bs) := (List.range xs.length).map fun j => (j, xs.getD j [])
theorem en_length (xs : List Bs) : (en xs).length = xs.length := by simp [en]
theorem en_get {xs : List Bs} {j : Nat} {x : Bs} (h : xs[j]? = some x) : (en xs)[j]? = some (j, x) := by
  have hj := (List.getElem?_eq_some_iff.1 h).1
  unfold en
  rw [List.getElem?_map, List.getElem?_range hj, Option.map_some, List.getD_eq_getElem?_getD, h]
  rfl
theorem en_take {xs : List Bs} {j : Nat} {x : Bs} (h : xs[j]? = some x) : (en xs).take (j + 1) = (en xs).take j ++ [(j, x)] := by
  rw [List.take_add_one, en_get h]; rfl
/-- The blocks that are kept. -/
def Keeps (S : Nat → Prop) (W W' : World) : Prop := ∀ k, S k → W'.heap[k]? = W.heap[k]?
theorem Keeps.t {S : Nat → Prop} {A B C : World} (h : Keeps S A B) (k : Keeps S B C) : Keeps S A C := fun i hi => (k i hi).trans (h i hi)
theorem Keeps.of_below {S : Nat → Prop} {w w' : World} (hS : ∀ k, S k → k < w.heap.size) (h : Below w.heap.size w w') : Keeps S w w' := fun k hk => h.block k (hS k hk)
theorem RdS.keep {w w' : World} {A : Option Addr} {n : Nat} {xs : List Bs} {S : Nat → Prop} (h : RdS w A n xs) (hA : 0 < n → ∀ ad, A = some ad → S ad.block) (hk : Keeps S w w') : RdS w' A n xs :=
  ⟨h.len, h.max, fun j x hj => by
    obtain ⟨ad, rfl, hc⟩ := h.at_ j x hj
    refine ⟨ad, rfl, ?_⟩
    have e : (ad.add j).block = ad.block := by unfold Addr.add; split <;> rfl
    rw [World.cell?_of_block (w := w) (by rw [e]; exact hk _ (hA (by have := h.len; have := (List.getElem?_eq_some_iff.1 hj).1; omega) ad rfl))]
    exact hc⟩
/-- What the closure reads: its box and the row. -/
def Sq (b N : Nat) (A : Option Addr) (k : Nat) : Prop := k = b ∨ (0 < N ∧ ∃ ad, A = some ad ∧ k = ad.block)

set_option maxRecDepth 100000 in
set_option maxHeartbeats 400000 in
theorem parts1_any (n : Nat) (b lp : Nat) (A : Option Addr) (N c : Nat) (xs : List Bs) (J Jx : List (Nat × Bs) → World → Prop)
    (hY : ∀ pre (x : Nat × Bs) W, J pre W → pre.length < N → YieldAt Fence.wide (n - 1) Tryd.prog lp #[.int .i64 x.1, .string (sB x.2)] W fun e W' =>
      (e = .returned (.bool true) ∧ J (pre ++ [x]) W' ∧ Keeps (Sq b N A) W W') ∨ (e = .returned (.bool false) ∧ Jx (pre ++ [x]) W'))
    (W : World) (hb : W.heap[b]? = some (.cells #[.slice A N c] 23 (0, 0))) (hr : RdS W A N xs) (h0 : J [] W) (hJ : AbidesFrom W.heap.size J) :
    Calls Tryd.prog 29 #[.func (.yield lp) #[] #[], .pointer (some ⟨b, 0, none⟩)] W fun e W' => (∃ v, e = .returned v) ∧
      (J (en xs) W' ∨ (∃ pre, pre <+: en xs ∧ Jx pre W')) := by
  have hu23 := Tryd.underlying23
  have hb0 : W.cell? ⟨b, 0, none⟩ = some (.slice A N c) := (blk_cell hb 0).trans rfl
  have hN9 := hr.max
  have hlen := hr.len
  have HY := Aside0.mk hY
  have HR := Aside0.mk hr
  have H0 := Aside0.mk h0
  clear hY hb hr h0 hJ
  go_enter Tryd.func29, Tryd.ntmps29
  go_wp2_with fail
  go_step3
  go_wp2
  go_step3
  go_wp2
  go_loopw [7] (fun iv wr => ∃ i : Int, iv = .int .i64 i ∧ 0 ≤ i ∧ i ≤ N ∧ Aside0 (J ((en xs).take i.toNat) wr) ∧ Aside0 (Keeps (Sq b N A) W wr)) (fun iv _ => (N - intOf iv).toNat)
  case atStart => exact ⟨0, rfl, Int.le_refl _, by omega, H0, ⟨fun _ _ => rfl⟩⟩
  case round =>
    obtain ⟨i, rfl, i0, i1, HJ, HK⟩ := hrel
    by_cases hlt : i < (N : Int)
    · have hlt1 : decide (i < (N : Int)) = true := decide_eq_true hlt
      have w4 : wrap64 (i + 1) = i + 1 := by unfold wrap64; omega
      obtain ⟨x, hx⟩ : ∃ x, xs[i.toNat]? = some x := ⟨_, List.getElem?_eq_getElem (by omega)⟩
      obtain ⟨ad, rfl, c1⟩ := (HR.out.keep (fun h0 ad h => .inr ⟨h0, ad, h, rfl⟩) HK.out).at_ _ _ hx
      have hi' : ((i.toNat : Nat) : Int) = i := by omega
      obtain ⟨fn, tmps, assign, body, hy, hRd⟩ := HY.out ((en xs).take i.toNat) (i.toNat, x) wr HJ.out (by rw [List.length_take, en_length]; omega)
      rw [← en_take hx] at hRd
      rw [hi'] at hy
      obtain ⟨t, ht⟩ : ∃ t, sB x = t := ⟨_, rfl⟩
      simp only [ht] at hy c1
      have HRD := Aside0.mk hRd
      clear hRd hx ht
      have hi1 : (i + 1).toNat = i.toNat + 1 := by omega
      have hpre : (en xs).take (i.toNat + 1) <+: en xs := List.take_prefix _ _
      have HP := Aside0.mk hpre
      clear hpre
      refine (wpIn_wide (n := n)).1 ?_
      gi_wp2
      refine ⟨fun h => by simp [Fence.wide] at h, ?_⟩
      refine HRD.out.mono ?_
      rintro e W3 (⟨rfl, hJ3, hk3⟩ | ⟨rfl, hJx3⟩)
      · have HJ3 := Aside0.mk hJ3
        have HK3 := Aside0.mk hk3
        clear hJ3 hk3
        gi_wp2
        go_wp2
        refine ⟨⟨i + 1, rfl, by omega, by omega, ⟨?_⟩, ⟨HK.out.t HK3.out⟩⟩, by simp [intOf]; omega⟩
        rw [hi1]; exact HJ3.out
      · have HJ3 := Aside0.mk hJx3
        clear hJx3
        gi_wp2
        rw [Exit.noGoto_normal]
        go_end0
        exact ⟨⟨_, rfl⟩, .inr ⟨_, HP.out, HJ3.out⟩⟩
    · have hlt1 : decide (i < (N : Int)) = false := decide_eq_false hlt
      go_wp2
      go_end0
      refine ⟨⟨_, rfl⟩, .inl ?_⟩
      have := HJ.out
      rw [List.take_of_length_le (by rw [en_length]; omega)] at this
      exact this
theorem parts_stops (n b : Nat) (A : Option Addr) (N c : Nat) (xs : List Bs) (w : World) (hb : w.heap[b]? = some (.cells #[.slice A N c] 23 (0, 0))) (hr : RdS w A N xs) :
    SeqStopsK Fence.wide n Tryd.prog 29 #[.pointer (some ⟨b, 0, none⟩)] (fun x : Nat × Bs => #[.int .i64 x.1, .string (sB x.2)]) (Keeps (Sq b N A)) (fun ys => ys = en xs) (fun pre => pre <+: en xs) N w := by
  intro lp J Jx W hW hJ hJx hY h0
  refine callsIn_wide.2 ?_
  have hb' := (hW.block b (blk_lt hb)).trans hb
  refine (parts1_any n b lp A N c xs J Jx hY W hb' (hr.below hW) h0 hJ).mono ?_
  rintro e W' ⟨hv, h | h⟩
  · exact ⟨hv, .inl ⟨_, rfl, h⟩⟩
  · exact ⟨hv, .inr h⟩
end Go.Proofs.YtankbofabdjleaaDoor.H
