/- A range over a function whose iterator ranges over a function itself: the iterator's contract asks more of the caller (its invariant abides whatever the iterator's own loops lay and turn), and the caller's law over that contract. -/
import Derived.Test.YtpcgmlnipeigjaaSl
namespace Go.Proofs.Ytpcgmlnipeigjaa.H
open Go.RowKit Go.Shelf Go.Proofs.YtpcgmlnipeigjaaW.PrintWords Go.Proofs.YtpcgmlnipeigjaaW.PrintLast Go.Proofs.YtpcgmlnipeigjaaW.PrintMore
set_option linter.unusedVariables false
set_option linter.unusedSimpArgs false

/-- What is told of an iterator: for every caller's invariant that abides turns of blocks beyond its own. -/
def SeqO {α : Type} (n gf : Nat) (lb : Array Value) (encs : α → Array Value) (Kp : World → World → Prop) (S Sp : List α → Prop) (N : Nat) (w0 : World) : Prop :=
  ∀ (l : Nat) (J Jx : List α → World → Prop) (W : World), Below w0.heap.size w0 W → OwnFrom W.heap.size J → OwnFrom W.heap.size Jx →
    (∀ pre x W1, J pre W1 → pre.length < N → YieldAt Fence.wide (n - 1) Try.prog l (encs x) W1 fun e W' =>
      (e = .returned (.bool true) ∧ J (pre ++ [x]) W' ∧ Kp W1 W') ∨ (e = .returned (.bool false) ∧ Jx (pre ++ [x]) W' ∧ Kp W1 W')) →
    J [] W →
    CallsIn Fence.wide n Try.prog gf (#[.func (.yield l) #[] #[]] ++ lb) W fun e W' => (∃ v, e = .returned v) ∧ ((∃ xs, S xs ∧ J xs W') ∨ (∃ pre, Sp pre ∧ Jx pre W'))

theorem same_low {B : Nat} {W W' : World} {row : Option Nat} {k : Nat} {o : Obj} (hg : W.grownBy W' row) (hr : ∀ r, row = some r → B ≤ r ∧ ∃ o : Obj, W.heap[r]? = some o ∧ o.isCells = false) (hk : k < B) (ho : W.heap[k]? = some o) : W'.heap[k]? = some o :=
  (hg.block k (Array.getElem?_eq_some_iff.1 ho).1 (fun e => by have := (hr k e.symm).1; omega)).trans ho

/-- How a round may be left. -/
def ownPostO {α : Type} (B : Nat) (Kp : World → World → Prop) (I : List α → World → Prop) (Ix : Code → List α → World → Prop) (xs : List α) (W : World) : Exit → Act → World → Prop
  | .normal, _, W' => KeepsFrom B W W' ∧ Kp W W' ∧ I xs W'
  | .ret, _, W' => KeepsFrom B W W' ∧ Kp W W' ∧ Ix .ret xs W'
  | .exit id, _, W' => KeepsFrom B W W' ∧ Kp W W' ∧ Ix (.exit id) xs W'
  | .goto t, _, W' => KeepsFrom B W W' ∧ Kp W W' ∧ Ix (.goto t) xs W'
  | _, _, _ => False
theorem range_own {α : Type} {g : Operand} {ps : Array Tmp} {assign body : Code} {Q : Exit → Act → World → Prop} {a : Act} {w : World} {gf : Nat} {lb : Array Value}
    (hg : a.eval g = .func (.func gf) #[] lb) (eg : ∀ args w, (callFunc gf args).run Try.prog w = .ok (.enter gf args) w)
    {encs : α → Array Value} {Kp : World → World → Prop} {S Sp : List α → Prop} {N : Nat} (hseq : SeqO 2 gf lb encs Kp S Sp N w) (hps : ∀ x, (encs x).size = ps.size)
    (hKt : ∀ {A B C : World}, Kp A B → Kp B C → Kp A C) (hKb : ∀ (W : World) (o o' : Obj), W.heap[w.heap.size + 1]? = some o → o.isCells = false → Kp W (W.putObj (w.heap.size + 1) o'))
    (I : List α → World → Prop) (Ix : Code → List α → World → Prop) (hI : OwnFrom w.heap.size I) (hIx : ∀ c, OwnFrom w.heap.size (Ix c)) (h0 : I [] w) (Ax : α → Act → World → Prop) (hAx : ∀ x a', OwnFrom w.heap.size (fun (_ : Unit) W => Ax x a' W))
    (hassign : ∀ (l : Nat) (pre : List α) (x : α) (W : World) (K : Act → World → Prop), I pre W → (∀ a' W', KeepsFrom w.heap.size W W' → Kp W W' → I pre W' → Ax x a' W' → K a' W') →
      assign.wpIn (Fence.wide.inRound l) 1 Try.prog (Exit.then K (fun _ _ _ => False)) { tmps := (ps.zip (encs x)).foldl (fun t (p, v) => t.setIfInBounds p v) a.tmps, defers := [] } W)
    (hbody : ∀ (l : Nat) (pre : List α) (x : α) (a' : Act) (W : World), I pre W → Ax x a' W → pre.length < N → body.wpIn (Fence.wide.inRound l) 1 Try.prog (ownPostO w.heap.size Kp I Ix (pre ++ [x]) W) a' W)
    (hdone : ∀ (D : Nat) (xs : List α) (W : World), w.heap.size ≤ D → S xs → I xs W → W.heap[D]? = some (.deferred (some [])) → Q .normal { a with defers := { target := .collected D, args := #[] } :: a.defers } W)
    (hstop : ∀ (D : Nat) (c : Code) (pre : List α) (W : World), w.heap.size ≤ D → Sp pre → Ix c pre W → W.heap[D]? = some (.deferred (some [])) → c.wpIn Fence.wide 3 Try.prog Q { a with defers := { target := .collected D, args := #[] } :: a.defers } W) :
    (Code.rangeFunc g ps assign body).wpIn Fence.wide 3 Try.prog Q a w := by
  refine wpIn_rangeFunc (fun fn hfn => ?_)
  obtain ⟨rc, hrc⟩ : ∃ rc : LoopState → Option Code → Loop, ∀ s p, rc s p = { state := s, pending := p, fn := fn, tmps := a.tmps, params := ps, assign := assign, body := body, defers := w.heap.size } := ⟨_, fun _ _ => rfl⟩
  have hent := run_enterLoop_outer (P := Try.prog) (w := w) fn a.tmps ps assign body
  rw [← hrc] at hent
  obtain ⟨V, hV⟩ : ∃ V, (w.alloc (.deferred (some []))).alloc (.loop (rc .ready none)) = V := ⟨_, rfl⟩
  rw [hV] at hent
  have hVs : V.heap.size = w.heap.size + 2 := by rw [← hV]; simp
  have hVL : V.heap[w.heap.size + 1]? = some (.loop (rc .ready none)) := by rw [← hV]; exact alloc_new' (by simp) _
  have hVD : V.heap[w.heap.size]? = some (.deferred (some [])) := by rw [← hV]; exact (Below.heap_alloc _ _ _ (by simp)).trans (blk_new w _)
  have hVI : I [] V := by rw [← hV]; exact hI.alloc _ (hI.alloc _ h0)
  have hVB : Below w.heap.size w V := by rw [← hV]; exact below_alloc (below_alloc (Below.refl _ _) _) _
  have wider : ∀ {β : Type} {J : β → World → Prop}, OwnFrom w.heap.size J → OwnFrom V.heap.size J := fun h s A B row hs hg' hr => h s A B row hs hg' (fun r e => ⟨by have := (hr r e).1; omega, (hr r e).2⟩)
  refine ⟨_, _, V, { target := .fn (.func gf) lb, args := #[.func (.yield (w.heap.size + 1)) #[] #[]] }, V, gf, #[.func (.yield (w.heap.size + 1)) #[] #[]] ++ lb, V, hent, ?_, ?_, ?_, (fun _ => by omega), ?_⟩
  · simp only [resolve, hg]
    simp [go_sem]
  · intro f' _; trivial
  · simp [invoke, go_sem, eg]
  · refine (hseq (w.heap.size + 1) (fun pre W => I pre W ∧ W.heap[w.heap.size + 1]? = some (.loop (rc .ready none)) ∧ W.heap[w.heap.size]? = some (.deferred (some [])))
      (fun pre W => ∃ c, Ix c pre W ∧ W.heap[w.heap.size + 1]? = some (.loop (rc .done (some c))) ∧ W.heap[w.heap.size]? = some (.deferred (some []))) V hVB
      (fun s A B row hs hg' hr => ⟨wider hI s A B row hs.1 hg' hr, same_low hg' hr (by omega) hs.2.1, same_low hg' hr (by omega) hs.2.2⟩)
      (fun s A B row hs hg' hr => ?own2) ?round ⟨hVI, hVL, hVD⟩).mono ?fin
    case own2 =>
      obtain ⟨c, h1, h2, h3⟩ := hs
      exact ⟨c, wider (hIx c) s A B row h1 hg' hr, same_low hg' hr (by omega) h2, same_low hg' hr (by omega) h3⟩
    case round =>
      rintro pre x W ⟨hi, hl, hd⟩ hlen
      have hy := run_yield (P := Try.prog) (args := encs x) hl (by rw [hrc]; exact hps x)
      rw [hrc] at hy
      refine ⟨_, _, _, _, hy, roundIn_of_wpIn hfn (hassign _ pre x W _ hi (fun a' Wa hkf hka hia hax => ?_))⟩
      clear hy
      have hla := hkf.same _ _ (by omega) hl rfl
      have hda := hkf.same _ _ (Nat.le_refl _) hd rfl
      refine ⟨_, run_beginRound hla (by rw [hrc]), ?_⟩
      obtain ⟨U, hU⟩ : ∃ U, Wa.putObj (w.heap.size + 1) (.loop { rc .ready none with state := .busy }) = U := ⟨_, rfl⟩
      have hlt : w.heap.size + 1 < Wa.heap.size := blk_lt hla
      have hUl : U.heap[w.heap.size + 1]? = some (.loop { rc .ready none with state := .busy }) := by rw [← hU]; exact World.putObj_heap_same hlt
      have hUd : U.heap[w.heap.size]? = some (.deferred (some [])) := by rw [← hU]; exact (World.putObj_heap_other (by omega)).trans hda
      have hUi : I pre U := by rw [← hU]; exact hI.putObj _ hia (by omega) hla rfl
      have hUx : Ax x a' U := by rw [← hU]; exact (hAx x a').putObj (s := ()) _ hax (by omega) hla rfl
      have hUk : Kp W U := hKt hka (by rw [← hU]; exact hKb _ _ _ hla rfl)
      rw [hU]
      refine wpIn_mono (hbody _ pre x a' U hUi hUx hlen) ?_
      -- behind a round: the record and the block are as they were
      have back : ∀ (jump : Option Code) (T : World), KeepsFrom w.heap.size U T →
          ∃ T', (Instr.endRound (w.heap.size + 1) jump).run Try.prog T = .ok (.bool jump.isNone) T' ∧ T' = T.putObj (w.heap.size + 1) (.loop (rc (if jump.isNone then .ready else .done) jump)) ∧
            T.heap[w.heap.size + 1]? = some (.loop { rc .ready none with state := .busy }) ∧ T'.heap[w.heap.size + 1]? = some (.loop (rc (if jump.isNone then .ready else .done) jump)) ∧ T'.heap[w.heap.size]? = some (.deferred (some [])) := fun jump T hk => by
        have h1 := hk.same _ _ (by omega) hUl rfl
        have h2 := hk.same _ _ (Nat.le_refl _) hUd rfl
        have h3 := run_endRound (P := Try.prog) jump h1
        have e : ({ ({ rc .ready none with state := .busy } : Loop) with state := if jump.isNone then .ready else .done, pending := jump } : Loop) = rc (if jump.isNone then .ready else .done) jump := by rw [hrc, hrc]
        rw [e] at h3
        exact ⟨_, h3, rfl, h1, World.putObj_heap_same (blk_lt h1), (World.putObj_heap_other (by omega)).trans h2⟩
      rintro e a3 T hp
      cases e with
      | normal =>
        obtain ⟨hk, hkp, hi'⟩ := hp
        obtain ⟨T', hr, rfl, h1, h2, h3⟩ := back none T hk
        exact ⟨_, _, hr, .inl ⟨rfl, ⟨hI.putObj _ hi' (by omega) h1 rfl, h2, h3⟩, hKt hUk (hKt hkp (hKb _ _ _ h1 rfl))⟩⟩
      | ret =>
        obtain ⟨hk, hkp, hi'⟩ := hp
        obtain ⟨T', hr, rfl, h1, h2, h3⟩ := back (some .ret) T hk
        exact ⟨_, _, hr, .inr ⟨rfl, ⟨.ret, (hIx _).putObj _ hi' (by omega) h1 rfl, h2, h3⟩, hKt hUk (hKt hkp (hKb _ _ _ h1 rfl))⟩⟩
      | exit id =>
        obtain ⟨hk, hkp, hi'⟩ := hp
        obtain ⟨T', hr, rfl, h1, h2, h3⟩ := back (some (.exit id)) T hk
        exact ⟨_, _, hr, .inr ⟨rfl, ⟨.exit id, (hIx _).putObj _ hi' (by omega) h1 rfl, h2, h3⟩, hKt hUk (hKt hkp (hKb _ _ _ h1 rfl))⟩⟩
      | goto t =>
        obtain ⟨hk, hkp, hi'⟩ := hp
        obtain ⟨T', hr, rfl, h1, h2, h3⟩ := back (some (.goto t)) T hk
        exact ⟨_, _, hr, .inr ⟨rfl, ⟨.goto t, (hIx _).putObj _ hi' (by omega) h1 rfl, h2, h3⟩, hKt hUk (hKt hkp (hKb _ _ _ h1 rfl))⟩⟩
      | panic ch => exact hp.elim
      | outgrown => exact hp.elim
    case fin =>
      rintro e T ⟨⟨v, rfl⟩, ⟨xs, hS, hi, hl, hd⟩ | ⟨pre, hSp, c, hi, hl, hd⟩⟩
      · refine ⟨none, T.putObj (w.heap.size + 1) (.loop { rc .ready none with state := .exhausted }), ?_, hdone _ xs _ (Nat.le_refl _) hS (hI.putObj _ hi (by omega) hl rfl) ((World.putObj_heap_other (by omega)).trans hd)⟩
        have h := run_endLoop (P := Try.prog) hl (by rw [hrc]; simp)
        rw [h, hrc]
      · refine ⟨some c, T.putObj (w.heap.size + 1) (.loop { rc .done (some c) with state := .exhausted }), ?_, hstop _ c pre _ (Nat.le_refl _) hSp ((hIx c).putObj _ hi (by omega) hl rfl) ((World.putObj_heap_other (by omega)).trans hd)⟩
        have h := run_endLoop (P := Try.prog) hl (by rw [hrc]; simp)
        rw [h, hrc]
end Go.Proofs.Ytpcgmlnipeigjaa.H
