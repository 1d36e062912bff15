/- Plain laws on lives and shapes as texts: no program in sight. -/
import Derived.Test.YteglbmindbfkeaaGreatDoorRz
import Derived.Test.YteglbmindbfkeaaGreatDoorAw
namespace Go.Proofs.YteglbmindbfkeaaGreatDoor.H
open Go.RowKit
set_option linter.unusedVariables false
set_option linter.unusedSimpArgs false
/-- Pieces, a blank between two. -/
def joinB : List Bs → Bs
  | [] => []
  | [w] => w
  | w :: r => w ++ 32 :: joinB r
/-- The pieces between blanks. -/
def splB (cur : Bs) : Bs → List Bs
  | [] => [cur]
  | c :: r => if c = 32 then cur :: splB [] r else splB (cur ++ [c]) r
def clean (w : Bs) : Prop := (∀ c ∈ w, c ≠ 32) ∧ w.head? ≠ some 34
theorem splB_ne (l : Bs) : ∀ cur, splB cur l ≠ [] := by
  induction l with
  | nil => intro cur; simp [splB]
  | cons c r ih => intro cur; simp only [splB]; split <;> simp [ih]
theorem splR_ne : ∀ (l : Bs) (q : Bool) (cur : Bs), splR q cur l ≠ [] := by
  intro l
  induction hn : l.length using Nat.strongRecOn generalizing l with
  | _ n ih =>
    intro q cur
    cases l with
    | nil => rw [splR.eq_def]; simp
    | cons c r =>
      rw [splR_cons]
      split
      · simp
      · split
        · cases r with
          | nil => simp
          | cons d r2 => exact ih r2.length (by simp at hn; omega) r2 rfl _ _
        · split
          · exact ih r.length (by simp at hn; omega) r rfl _ _
          · exact ih r.length (by simp at hn; omega) r rfl _ _
theorem joinB_cons {w : Bs} {r : List Bs} (h : r ≠ []) : joinB (w :: r) = w ++ 32 :: joinB r := by
  cases r with
  | nil => exact absurd rfl h
  | cons => rfl
theorem joinB_splB (l : Bs) : ∀ cur, joinB (splB cur l) = cur ++ l := by
  induction l with
  | nil => intro cur; simp [splB, joinB]
  | cons c r ih =>
    intro cur
    simp only [splB]
    split
    · next h => rw [joinB_cons (splB_ne r _), ih, h]; rfl
    · rw [ih]; simp
theorem joinB_splR : ∀ (l : Bs) (q : Bool) (cur : Bs), joinB (splR q cur l) = cur ++ l := by
  intro l
  induction hn : l.length using Nat.strongRecOn generalizing l with
  | _ n ih =>
    intro q cur
    cases l with
    | nil => rw [splR.eq_def]; simp [joinB]
    | cons c r =>
      rw [splR_cons]
      split
      · next h =>
        rw [joinB_cons (splR_ne r _ _), ih r.length (by simp at hn; omega) r rfl, h.1]; rfl
      · split
        · next h =>
          cases r with
          | nil => simp [joinB, h.1]
          | cons d r2 => simp only; rw [ih r2.length (by simp at hn; omega) r2 rfl, h.1]; simp
        · split
          · next h => rw [ih r.length (by simp at hn; omega) r rfl, h.1]; simp
          · rw [ih r.length (by simp at hn; omega) r rfl]; simp
theorem splB_word (a : Bs) : ∀ (cur b : Bs), (∀ c ∈ a, c ≠ 32) → splB cur (a ++ b) = splB (cur ++ a) b := by
  induction a with
  | nil => intro cur b _; simp
  | cons c r ih =>
    intro cur b h
    rw [List.cons_append, splB, if_neg (h c (by simp)), ih _ _ (fun d hd => h d (by simp [hd]))]
    simp
theorem splB_join : ∀ (ws : List Bs), ws ≠ [] → (∀ w ∈ ws, clean w) → splB [] (joinB ws) = ws := by
  intro ws
  induction ws with
  | nil => intro h; exact absurd rfl h
  | cons w r ih =>
    intro _ h
    have hw := h w (by simp)
    cases r with
    | nil =>
      have := splB_word w [] [] hw.1
      simp only [List.append_nil, List.nil_append] at this
      rw [joinB, this]; rfl
    | cons x r =>
      rw [joinB_cons (by simp), splB_word w [] _ hw.1, List.nil_append, splB, if_pos rfl, ih (by simp) (fun y hy => h y (by simp at hy ⊢; exact .inr hy))]
theorem splR_word' {a b : Bs} (h : clean a) : splR false [] (a ++ b) = splR false a b := by
  rcases splR_word a [] b h.1 (fun _ => h.2) with h1 | ⟨_, h1⟩
  · rw [h1]; rfl
  · rw [h1]; rfl
theorem splR_join : ∀ (ws : List Bs), ws ≠ [] → (∀ w ∈ ws, clean w) → splR false [] (joinB ws) = ws := by
  intro ws
  induction ws with
  | nil => intro h; exact absurd rfl h
  | cons w r ih =>
    intro _ h
    have hw := h w (by simp)
    cases r with
    | nil =>
      have := splR_word' (b := []) hw
      simp only [List.append_nil] at this
      rw [joinB, this]; rfl
    | cons x r =>
      rw [joinB_cons (by simp), splR_word' hw, splR_cons, if_pos ⟨rfl, rfl⟩, ih (by simp) (fun y hy => h y (by simp at hy ⊢; exact .inr hy))]
/-- Words that are clean are the words by either way. -/
theorem words_same {l : Bs} {ws : List Bs} (hc : ∀ w ∈ ws, clean w) : splB [] l = ws ↔ splL l = ws := by
  constructor
  · intro h
    have e := joinB_splB l []
    rw [h, List.nil_append] at e
    rw [← e]
    exact splR_join ws (h ▸ splB_ne l []) hc
  · intro h
    have e := joinB_splR l false []
    rw [show splR false [] l = ws from h, List.nil_append] at e
    rw [← e]
    exact splB_join ws (h ▸ splR_ne l false []) hc
/-- A head that is clean is the line's word. -/
theorem word_headB (l : Bs) : (splB [] l).head? = some (word l) := by
  have : ∀ (l cur : Bs), (splB cur l).head? = some (cur ++ word l) := by
    intro l
    induction l with
    | nil => intro cur; simp [splB, word]
    | cons c r ih =>
      intro cur
      simp only [splB]
      split
      · next h => simp [word, h]
      · next h => rw [ih]; simp [word, h]
  simpa using this l []
theorem word_headL {l w : Bs} (h : (splL l).head? = some w) (hc : clean w) : word l = w := by
  obtain ⟨r, hr⟩ : ∃ r, splL l = w :: r := by
    cases e : splL l with
    | nil => rw [e] at h; cases h
    | cons a r => rw [e] at h; cases h; exact ⟨r, rfl⟩
  have e := joinB_splR l false []
  rw [show splR false [] l = w :: r from hr, List.nil_append] at e
  rw [← e]
  cases r with
  | nil => rw [joinB]; have := word_app (b := []) hc.1 (.inl rfl); rwa [List.append_nil] at this
  | cons x r => rw [joinB_cons (by simp)]; exact word_app hc.1 (.inr ⟨_, rfl⟩)
theorem head_wordL {l w : Bs} (h : word l = w) (hc : w.head? ≠ some 34) : (splL l).head? = some w := by
  have e := word_drop l
  have hw : ∀ c ∈ w, c ≠ 32 := by
    intro c hcw
    rw [← h] at hcw
    have := List.all_takeWhile (l := l) (p := (· != 32))
    rw [List.all_eq_true] at this
    simpa using this c hcw
  rw [e, h]
  unfold splL
  rw [splR_word' ⟨hw, hc⟩]
  have h2 : l.drop w.length = [] ∨ ∃ r, l.drop w.length = 32 :: r := by
    cases hd : l.drop w.length with
    | nil => exact .inl rfl
    | cons c r =>
      right
      refine ⟨r, ?_⟩
      congr 1
      have h3 : l = w ++ c :: r := by rw [← hd, ← h, ← word_drop]
      apply Classical.byContradiction
      intro hne
      have : word l = w ++ word (c :: r) := by
        rw [h3]; unfold word; rw [List.takeWhile_append_of_pos (by simpa using hw)]
      rw [h] at this
      have h5 := congrArg List.length this
      simp [word, hne] at h5
  rcases h2 with h2 | ⟨r, h2⟩
  · rw [h2]; rfl
  · rw [h2, splR_cons, if_pos ⟨rfl, rfl⟩]; rfl
/-- A life. -/
structure LifeV where
  ops : List OpV := []
  stop : Int := 0
  keep : List Int := []
  deriving DecidableEq
/-- A volume's shape. -/
structure ShapeV where
  sector : Int := 0
  sectors : Int := 0
  journal : Int := 0
  pack : Int := 0
  min : Int := 0
  normal : Int := 0
  max : Int := 0
  seed : Nat := 0
  bits : Int := 0
  dedup : Bool := false
  deriving DecidableEq
def wLife : Bs := [108,105,102,101]
def wKeep : Bs := [107,101,101,112]
def wVolume : Bs := [118,111,108,117,109,101]
def wCut : Bs := [99,117,116]
def wIndex : Bs := [105,110,100,101,120]
def wDedup : Bs := [100,101,100,117,112]
def wPlain : Bs := [112,108,97,105,110]
/-- A word and numbers. -/
def lineL (w : Bs) (ns : List Int) : Bs := w ++ ns.flatMap fun n => 32 :: Lib.itoa n
theorem itoa_ne (n : Int) : Lib.itoa n ≠ [] := by
  unfold Lib.itoa
  split
  · simp
  · intro e; have := dec_pos n.toNat; rw [e] at this; simp at this
theorem itoa_clean (n : Int) : clean (Lib.itoa n) := ⟨itoa_no32 n, fun h => by
  rcases itoa_chars n 34 (List.mem_of_mem_head? (by rw [h]; rfl)) with h | h
  · cases h
  · simp at h⟩
theorem lineL_join (w : Bs) (ns : List Int) : lineL w ns = joinB (w :: ns.map Lib.itoa) := by
  induction ns generalizing w with
  | nil => simp [lineL, joinB]
  | cons n r ih =>
    rw [List.map_cons, joinB_cons (by simp), ← ih]
    simp [lineL]
/-- The numbers of words. -/
def numsL : List Bs → Option (List Int)
  | [] => some []
  | w :: r => match numL w with
    | some n => match numsL r with
      | some ns => some (n :: ns)
      | none => none
    | none => none
theorem numsL_iff : ∀ {ws : List Bs} {ns : List Int}, numsL ws = some ns ↔ ws = ns.map Lib.itoa ∧ ∀ n ∈ ns, fewD n := by
  intro ws
  induction ws with
  | nil =>
    intro ns
    constructor
    · intro h; cases h; simp
    · rintro ⟨h, _⟩
      cases ns with
      | nil => rfl
      | cons => cases h
  | cons w r ih =>
    intro ns
    simp only [numsL]
    constructor
    · intro h
      split at h
      · next n hn =>
        split at h
        · next ms hm =>
          cases h
          obtain ⟨e, hf⟩ := numL_iff.1 hn
          obtain ⟨e2, hf2⟩ := ih.1 hm
          refine ⟨by rw [e, e2]; rfl, fun k hk => ?_⟩
          rcases List.mem_cons.1 hk with rfl | hk
          · exact hf
          · exact hf2 k hk
        · cases h
      · cases h
    · rintro ⟨h, hf⟩
      cases ns with
      | nil => cases h
      | cons n ms =>
        rw [List.map_cons] at h
        obtain ⟨rfl, rfl⟩ := List.cons.inj h
        rw [numL_iff.2 ⟨rfl, hf n (by simp)⟩, ih.2 ⟨rfl, fun k hk => hf k (by simp [hk])⟩]
theorem numsL_clean {ws : List Bs} {ns : List Int} (h : numsL ws = some ns) : ∀ w ∈ ws, clean w := by
  obtain ⟨rfl, _⟩ := numsL_iff.1 h
  intro w hw
  obtain ⟨n, _, rfl⟩ := List.mem_map.1 hw
  exact itoa_clean n
theorem numsL_len {ws : List Bs} {ns : List Int} (h : numsL ws = some ns) : ns.length = ws.length := by
  obtain ⟨rfl, _⟩ := numsL_iff.1 h
  simp
/-- The number of 64 bits that digits say. -/
def seedL (l : Bs) : Option Nat := match valD 0 l with
  | some n => if n < 18446744073709551616 ∧ Lib.decDigits n = l then some n else none
  | none => none
theorem seedL_iff {l : Bs} {n : Nat} : seedL l = some n ↔ l = Lib.decDigits n ∧ n < 18446744073709551616 := by
  unfold seedL
  constructor
  · intro h
    split at h
    · split at h
      · next hc => cases h; exact ⟨hc.2.symm, hc.1⟩
      · cases h
    · cases h
  · rintro ⟨rfl, h⟩
    rw [valD_dec]
    simp only
    rw [if_pos ⟨h, trivial⟩]
theorem dec_itoa (n : Nat) : Lib.decDigits n = Lib.itoa n := by
  unfold Lib.itoa
  rw [if_neg (by omega)]; simp
/-- What one of the first three lines makes of the shape. -/
def headG (n : Nat) (s : ShapeV) (ws : List Bs) : Option ShapeV :=
  match n, ws with
  | 0, [w, a, b, c, d] => if w = wVolume then
      match numsL [a, b, c, d] with
      | some [x, y, z, u] => some { s with sector := x, sectors := y, journal := z, pack := u }
      | _ => none
    else none
  | 1, [w, a, b, c, d] => if w = wCut then
      match numsL [a, b, c], seedL d with
      | some [x, y, z], some u => some { s with min := x, normal := y, max := z, seed := u }
      | _, _ => none
    else none
  | 2, [w, a, b] => if w = wIndex ∧ (b = wDedup ∨ b = wPlain) then
      match numL a with
      | some x => some { s with bits := x, dedup := decide (b = wDedup) }
      | none => none
    else none
  | _, _ => none
theorem headG_clean {n : Nat} {s s' : ShapeV} {ws : List Bs} (h : headG n s ws = some s') : ∀ w ∈ ws, clean w := by
  have hw : clean wVolume ∧ clean wCut ∧ clean wIndex ∧ clean wDedup ∧ clean wPlain := by unfold clean; decide
  unfold headG at h
  split at h
  · next a b c d =>
    split at h
    · next e =>
      split at h
      · next hn =>
        subst e
        intro w hm
        rcases List.mem_cons.1 hm with rfl | hm
        · exact hw.1
        · exact numsL_clean hn w hm
      · cases h
    · cases h
  · next a b c d =>
    split at h
    · next e =>
      split at h
      · next hn hs =>
        subst e
        intro w hm
        rcases List.mem_cons.1 hm with rfl | hm
        · exact hw.2.1
        · simp only [List.mem_cons, List.not_mem_nil, or_false] at hm
          rcases hm with h1 | h1 | h1 | h1
          · exact numsL_clean hn w (by simp [h1])
          · exact numsL_clean hn w (by simp [h1])
          · exact numsL_clean hn w (by simp [h1])
          · subst h1
            rw [(seedL_iff.1 hs).1, dec_itoa]; exact itoa_clean _
      · cases h
    · cases h
  · next a b =>
    split at h
    · next e =>
      split at h
      · next hn =>
        intro w hm
        simp only [List.mem_cons, List.not_mem_nil, or_false] at hm
        rcases hm with h1 | h1 | h1
        · rw [h1, e.1]; exact hw.2.2.1
        · rw [h1, (numL_iff.1 hn).1]; exact itoa_clean _
        · rcases e.2 with e2 | e2
          · rw [h1, e2]; exact hw.2.2.2.1
          · rw [h1, e2]; exact hw.2.2.2.2
      · cases h
    · cases h
  · cases h
theorem head_same (n : Nat) (s : ShapeV) (l : Bs) : headG n s (splL l) = headG n s (splB [] l) := by
  cases h : headG n s (splL l) with
  | some s' => rw [(words_same (headG_clean h)).2 rfl, h]
  | none =>
    cases h2 : headG n s (splB [] l) with
    | some s' => rw [(words_same (headG_clean h2)).1 rfl, h2] at h; cases h
    | none => rfl
/-- The last life with one more operation; with its Keep. -/
def addOp (ls : List LifeV) (o : OpV) : List LifeV := ls.dropLast ++ [{ ls.getLast?.getD {} with ops := (ls.getLast?.getD {}).ops ++ [o] }]
def setKeep (ls : List LifeV) (ks : List Int) : List LifeV := ls.dropLast ++ [{ ls.getLast?.getD {} with keep := ks }]
/-- What another line makes of the lives: the program's way. -/
def bodyP (ls : List LifeV) (kept : Bool) (line : Bs) : Option (List LifeV × Bool) :=
  if word line = wLife then
    match numsL (splB [] line).tail with
    | some [n] => some (ls ++ [{ stop := n }], false)
    | _ => none
  else if ls = [] ∨ kept = true then none
  else if word line = wKeep then
    match numsL (splB [] line).tail with
    | some (k :: ks) => some (setKeep ls (k :: ks), true)
    | _ => none
  else
    match parseL line with
    | some o => some (addOp ls o, kept)
    | none => none
/-- The reference's way. -/
def bodyR (ls : List LifeV) (closed : Bool) (line : Bs) : Option (List LifeV × Bool) :=
  match (if (splL line).length = 2 ∧ (splL line).head? = some wLife then numsL (splL line).tail else none) with
  | some [n] => some (ls ++ [{ stop := n }], false)
  | _ =>
    if ls = [] ∨ closed = true then none
    else if (splL line).head? = some wKeep then
      match numsL (splL line).tail with
      | some (k :: ks) => some (setKeep ls (k :: ks), true)
      | _ => none
    else
      match parseR line with
      | some o => some (addOp ls o, false)
      | none => none
theorem cleanLife : clean wLife := by unfold clean; decide
theorem cleanKeep : clean wKeep := by unfold clean; decide
/-- A line whose words behind a clean first are numbers has the same words by either way. -/
theorem tail_same {l w : Bs} (hw : word l = w) (hc : clean w) : numsL (splL l).tail = numsL (splB [] l).tail := by
  have hB : ∃ r, splB [] l = w :: r := by
    have := word_headB l
    rw [hw] at this
    cases e : splB [] l with
    | nil => rw [e] at this; cases this
    | cons a r => rw [e] at this; cases this; exact ⟨r, rfl⟩
  have hL : ∃ r, splL l = w :: r := by
    have := head_wordL hw hc.2
    cases e : splL l with
    | nil => rw [e] at this; cases this
    | cons a r => rw [e] at this; cases this; exact ⟨r, rfl⟩
  obtain ⟨b, hB⟩ := hB
  obtain ⟨a, hL⟩ := hL
  have cl : ∀ {r : List Bs} {ns : List Int}, numsL r = some ns → ∀ x ∈ w :: r, clean x := fun h x hx => by
    rcases List.mem_cons.1 hx with rfl | hx
    · exact hc
    · exact numsL_clean h x hx
  rw [hB, hL, List.tail_cons, List.tail_cons]
  cases h : numsL a with
  | some ns =>
    have := (words_same (cl h)).2 hL
    rw [hB] at this
    rw [(List.cons.inj this).2, h]
  | none =>
    cases h2 : numsL b with
    | some ns =>
      have := (words_same (cl h2)).1 hB
      rw [hL] at this
      rw [(List.cons.inj this).2, h2] at h
      cases h
    | none => rfl
theorem wordOf_other {w : Bs} (h : w = wLife ∨ w = wKeep) : wordOf w = none := by
  rcases h with rfl | rfl <;> decide
theorem parse_other {l : Bs} (h : word l = wLife ∨ word l = wKeep) : parseL l = none := by
  unfold parseL
  rw [wordOf_other h]
theorem body_same (ls : List LifeV) (kept : Bool) (line : Bs) : bodyR ls kept line = bodyP ls kept line := by
  unfold bodyP bodyR
  by_cases hl : word line = wLife
  · rw [if_pos hl]
    have ht := tail_same hl cleanLife
    have hh := head_wordL hl cleanLife.2
    have hk : ¬ (splL line).head? = some wKeep := by rw [hh]; decide
    rw [if_neg hk, parse_same, parse_other (.inl hl)]
    have hlen : (splL line).length = 2 ↔ (splL line).tail.length = 1 := by
      rw [List.length_tail]; have := List.length_pos_iff.2 (splR_ne line false []); show _ ↔ _; unfold splL; omega
    by_cases h2 : (splL line).length = 2
    · rw [if_pos ⟨h2, hh⟩, ht]
      cases hn : numsL (splB [] line).tail with
      | none => simp
      | some ns =>
        match ns, hn with
        | [], hn => simp
        | [n], hn => rfl
        | n :: m :: r, hn => simp
    · rw [if_neg (fun h => h2 h.1)]
      have : ∀ n, numsL (splB [] line).tail ≠ some [n] := by
        intro n hn
        rw [← ht] at hn
        have := numsL_len hn
        exact h2 (hlen.2 this.symm)
      cases hn : numsL (splB [] line).tail with
      | none => simp
      | some ns =>
        match ns, hn with
        | [], hn => simp
        | [n], hn => exact absurd hn (this n)
        | n :: m :: r, hn => simp
  · rw [if_neg hl]
    have hh : ¬ (splL line).head? = some wLife := fun h => hl (word_headL h cleanLife)
    rw [if_neg (fun h => hh h.2)]
    simp only
    by_cases h0 : ls = [] ∨ kept = true
    · rw [if_pos h0, if_pos h0]
    · rw [if_neg h0, if_neg h0]
      by_cases hk : word line = wKeep
      · rw [if_pos hk, if_pos (head_wordL hk cleanKeep.2), tail_same hk cleanKeep]
      · rw [if_neg hk, if_neg (fun h => hk (word_headL h cleanKeep)), parse_same]
        have : kept = false := by
          cases kept with
          | true => exact absurd (.inr rfl) h0
          | false => rfl
        rw [this]

/-- Two hundred lines of a volume: the shape's three lines. -/
def ddL (b : Bool) : Bs := if b then wDedup else wPlain
def shapeL (s : ShapeV) : Bs :=
  lineL wVolume [s.sector, s.sectors, s.journal, s.pack] ++ 10 :: (lineL wCut [s.min, s.normal, s.max] ++ 32 :: Lib.decDigits s.seed ++ 10 :: (lineL wIndex [s.bits] ++ 32 :: ddL s.dedup ++ [10]))
def opsL : List OpV → Option Bs
  | [] => some []
  | o :: r => match printL o with
    | some s => match opsL r with
      | some t => some (s ++ 10 :: t)
      | none => none
    | none => none
def keepL (ks : List Int) : Bs := if ks = [] then [] else lineL wKeep ks ++ [10]
def lifeL (l : LifeV) : Option Bs :=
  if fewD l.stop then
    match opsL l.ops with
    | some t => if (∀ k ∈ l.keep, fewD k) then some (lineL wLife [l.stop] ++ 10 :: (t ++ keepL l.keep)) else none
    | none => none
  else none
def livesL : List LifeV → Option Bs
  | [] => some []
  | l :: r => match lifeL l with
    | some s => match livesL r with
      | some t => some (s ++ t)
      | none => none
    | none => none
/-- May the shape be? -/
def checkL (s : ShapeV) : Bool :=
  decide (s.sector ∈ [512, 1024, 2048, 4096]) && decide (16 ≤ s.sectors ∧ s.sectors ≤ 4096 ∧ 2 ≤ s.journal ∧ s.journal ≤ s.sectors / 4 ∧ 2 ≤ s.pack ∧ s.pack ≤ 64 ∧ 0 ≤ s.bits ∧ s.bits ≤ 256) &&
  decide (s.normal ∈ [16, 32, 64, 128, 256, 512, 1024, 2048, 4096, 8192, 16384, 32768, 65536]) && decide (1 ≤ s.min ∧ s.min ≤ s.normal ∧ s.normal ≤ s.max ∧ s.max ≤ 8 * s.normal ∧ s.max ≤ s.pack * s.sector - 40)
def opsN (ls : List LifeV) : Nat := (ls.map fun l => l.ops.length).sum
def fewL (ls : List LifeV) : Bool := decide (ls.length ≤ 16) && decide (opsN ls ≤ 1024)
/-- The text of lives, or why there is none. -/
def printT (s : ShapeV) (ls : List LifeV) : Except Int Bs :=
  if checkL s = false then .error 41
  else if fewL ls = false then .error 3
  else match livesL ls with
    | none => .error 260
    | some t => if 1048576 < (shapeL s ++ t).length then .error 3 else .ok (shapeL s ++ t)
/-- A line and what is behind its newline. -/
def cutN : Bs → Option (Bs × Bs)
  | [] => none
  | c :: r => if c = 10 then some ([], r) else match cutN r with
    | some (a, b) => some (c :: a, b)
    | none => none
theorem cutN_some : ∀ {l a b : Bs}, cutN l = some (a, b) → l = a ++ 10 :: b ∧ ∀ c ∈ a, c ≠ 10 := by
  intro l
  induction l with
  | nil => intro a b h; cases h
  | cons c r ih =>
    intro a b h
    simp only [cutN] at h
    split at h
    · next hc => cases h; exact ⟨by rw [hc]; rfl, by simp⟩
    · next hc =>
      split at h
      · next a' b' h2 =>
        cases h
        obtain ⟨e, hn⟩ := ih h2
        refine ⟨by rw [e]; rfl, fun d hd => ?_⟩
        rcases List.mem_cons.1 hd with rfl | hd
        · exact hc
        · exact hn d hd
      · cases h
theorem cutN_line : ∀ {a : Bs} (b : Bs), (∀ c ∈ a, c ≠ 10) → cutN (a ++ 10 :: b) = some (a, b) := by
  intro a
  induction a with
  | nil => intro b _; simp [cutN]
  | cons c r ih =>
    intro b h
    rw [List.cons_append]
    simp only [cutN]
    rw [if_neg (h c (by simp)), ih b (fun d hd => h d (by simp [hd]))]
theorem cutN_len {l a b : Bs} (h : cutN l = some (a, b)) : b.length < l.length := by
  rw [(cutN_some h).1]; simp; omega
/-- Where it stands behind some lines. -/
structure St where
  s : ShapeV := {}
  ls : List LifeV := []
  kept : Bool := false
  n : Nat := 0
  deriving DecidableEq
/-- One line more. -/
def stepL (st : St) (line : Bs) : Option St :=
  if st.n < 3 then match headG st.n st.s (splB [] line) with
    | some s => some { st with s := s, n := st.n + 1 }
    | none => none
  else match bodyP st.ls st.kept line with
    | some (ls, k) => some { st with ls := ls, kept := k, n := st.n + 1 }
    | none => none
/-- All lines: where it stands behind them, or the number of the first that can't stand there. -/
def runL (st : St) (text : Bs) : Except Nat St :=
  if text = [] then .ok st
  else match _h : cutN text with
    | some (line, rest) => match stepL st line with
      | some st' => runL st' rest
      | none => .error st.n
    | none => .error st.n
termination_by text.length
decreasing_by exact cutN_len _h
/-- What a text says, or why it says nothing. -/
def parseT (text : Bs) : Except (Int × Nat) (ShapeV × List LifeV) :=
  if 1048576 < text.length then .error (3, 0)
  else match runL {} text with
    | .error n => .error (260, n)
    | .ok st =>
      if st.n < 3 then .error (260, st.n)
      else if checkL st.s = false then .error (41, 0)
      else if fewL st.ls = false then .error (3, 0)
      else .ok (st.s, st.ls)
theorem runL_line {st st' : St} {line : Bs} (rest : Bs) (hn : ∀ c ∈ line, c ≠ 10) (h : stepL st line = some st') : runL st (line ++ 10 :: rest) = runL st' rest := by
  rw [runL, if_neg (by simp)]
  split
  · next l r hc =>
    rw [cutN_line rest hn] at hc
    cases hc
    rw [h]
  · next hc => rw [cutN_line rest hn] at hc; cases hc
/-! What is printed holds no newline but at the lines' ends. -/
theorem itoa_no10 (n : Int) : ∀ c ∈ Lib.itoa n, c ≠ 10 := by
  rintro c hc rfl
  rcases itoa_chars n _ hc with h | h
  · cases h
  · simp at h
theorem lineL_no10 {w : Bs} (hw : ∀ c ∈ w, c ≠ 10) (ns : List Int) : ∀ c ∈ lineL w ns, c ≠ 10 := by
  intro c hc
  unfold lineL at hc
  rcases List.mem_append.1 hc with h | h
  · exact hw c h
  · obtain ⟨n, _, h⟩ := List.mem_flatMap.1 h
    rcases List.mem_cons.1 h with rfl | h
    · decide
    · exact itoa_no10 n c h
theorem quoteL_no10 (b : Bs) : ∀ c ∈ quoteL b, c ≠ 10 := by
  intro c hc
  unfold quoteL at hc
  rcases List.mem_cons.1 hc with rfl | hc
  · decide
  · rcases List.mem_append.1 hc with hc | hc
    · obtain ⟨x, _, hx⟩ := List.mem_flatMap.1 hc
      unfold escB at hx
      split at hx
      · next h =>
        simp only [List.mem_cons, List.not_mem_nil, or_false] at hx
        rcases hx with rfl | rfl
        · decide
        · rcases h with rfl | rfl <;> decide
      · split at hx
        · next h =>
          obtain rfl := List.mem_singleton.1 hx
          rintro rfl; simp at h
        · have hh : ∀ n, n < 16 → hexD n ≠ 10 := fun n hn e => by
            have := hexD_toNat hn
            rw [e] at this; simp at this; split at this <;> omega
          have hx8 := x.toNat_lt
          simp only [List.mem_cons, List.not_mem_nil, or_false] at hx
          rcases hx with rfl | rfl | rfl | rfl
          · decide
          · decide
          · exact hh _ (by omega)
          · exact hh _ (by omega)
    · obtain rfl := List.mem_singleton.1 hc; decide
theorem printL_no10 {o : OpV} {s : Bs} (h : printL o = some s) : ∀ c ∈ s, c ≠ 10 := by
  unfold printL at h
  split at h
  · next w fs hk =>
    split at h
    · cases h
      obtain ⟨j, _, hm⟩ := kindOf_mem hk
      have hf := kinds_fields _ hm
      intro c hc
      rcases List.mem_append.1 hc with hc | hc
      · rintro rfl; have := hf.2.2.1 _ hc; simp at this
      · obtain ⟨f, _, hx⟩ := List.mem_flatMap.1 hc
        rcases List.mem_cons.1 hx with rfl | hx
        · decide
        · unfold render at hx
          split at hx
          · exact quoteL_no10 _ c hx
          · exact itoa_no10 _ c hx
    · cases h
  · cases h
/-! There and back. -/
theorem splB_line {w : Bs} (hw : clean w) (ns : List Int) : splB [] (lineL w ns) = w :: ns.map Lib.itoa := by
  rw [lineL_join]
  exact splB_join _ (by simp) (fun x hx => by
    rcases List.mem_cons.1 hx with rfl | hx
    · exact hw
    · obtain ⟨n, _, rfl⟩ := List.mem_map.1 hx; exact itoa_clean n)
theorem word_line {w : Bs} (hw : ∀ c ∈ w, c ≠ 32) (ns : List Int) : word (lineL w ns) = w := by
  unfold lineL
  refine word_app hw ?_
  cases ns with
  | nil => exact .inl rfl
  | cons n r => exact .inr ⟨Lib.itoa n ++ r.flatMap (fun n => 32 :: Lib.itoa n), by simp⟩
theorem nums_of {ns : List Int} (h : ∀ n ∈ ns, fewD n) : numsL (ns.map Lib.itoa) = some ns := numsL_iff.2 ⟨rfl, h⟩
theorem step_life (st : St) (h3 : ¬ st.n < 3) {n : Int} (hn : fewD n) : stepL st (lineL wLife [n]) = some { st with ls := st.ls ++ [{ stop := n }], kept := false, n := st.n + 1 } := by
  unfold stepL
  rw [if_neg h3]
  unfold bodyP
  rw [word_line cleanLife.1, if_pos rfl, splB_line cleanLife, List.tail_cons, nums_of (by simpa using hn)]
theorem step_keep (st : St) (h3 : ¬ st.n < 3) (h0 : st.ls ≠ []) (hk : st.kept = false) {ks : List Int} (hks : ks ≠ []) (hf : ∀ k ∈ ks, fewD k) : stepL st (lineL wKeep ks) = some { st with ls := setKeep st.ls ks, kept := true, n := st.n + 1 } := by
  unfold stepL
  rw [if_neg h3]
  unfold bodyP
  rw [word_line cleanKeep.1, if_neg (by decide), if_neg (by rintro (h | h); exact h0 h; rw [hk] at h; cases h), if_pos rfl, splB_line cleanKeep, List.tail_cons, nums_of hf]
  cases ks with
  | nil => exact absurd rfl hks
  | cons k ks => rfl
theorem word_print {o : OpV} {s : Bs} (h : printL o = some s) : word s ≠ wLife ∧ word s ≠ wKeep := by
  have h1 := parseL_iff.2 h
  constructor
  · intro e; rw [parse_other (.inl e)] at h1; cases h1
  · intro e; rw [parse_other (.inr e)] at h1; cases h1
theorem step_op (st : St) (h3 : ¬ st.n < 3) (h0 : st.ls ≠ []) (hk : st.kept = false) {o : OpV} {s : Bs} (h : printL o = some s) : stepL st s = some { st with ls := addOp st.ls o, n := st.n + 1 } := by
  obtain ⟨w1, w2⟩ := word_print h
  unfold stepL
  rw [if_neg h3]
  unfold bodyP
  rw [if_neg w1, if_neg (by rintro (h | h); exact h0 h; rw [hk] at h; cases h), if_neg w2, parseL_iff.2 h]
theorem addOp_last (a : List LifeV) (l : LifeV) (o : OpV) : addOp (a ++ [l]) o = a ++ [{ l with ops := l.ops ++ [o] }] := by simp [addOp]
theorem setKeep_last (a : List LifeV) (l : LifeV) (ks : List Int) : setKeep (a ++ [l]) ks = a ++ [{ l with keep := ks }] := by simp [setKeep]
theorem run_ops : ∀ (ops : List OpV) (t rest : Bs) (a : List LifeV) (l : LifeV) (st : St), ¬ st.n < 3 → st.ls = a ++ [l] → st.kept = false → opsL ops = some t →
    runL st (t ++ rest) = runL { st with ls := a ++ [{ l with ops := l.ops ++ ops }], n := st.n + ops.length } rest := by
  intro ops
  induction ops with
  | nil =>
    intro t rest a l st h3 hl hk h
    cases h
    simp [← hl]
  | cons o r ih =>
    intro t rest a l st h3 hl hk h
    simp only [opsL] at h
    split at h
    · next s hs =>
      split at h
      · next u hu =>
        cases h
        have h1 := step_op st h3 (by rw [hl]; simp) hk hs
        rw [List.append_assoc, List.cons_append, runL_line _ (printL_no10 hs) h1]
        rw [hl, addOp_last] at h1 ⊢
        have h2 := ih u rest a { l with ops := l.ops ++ [o] } { st with ls := a ++ [{ l with ops := l.ops ++ [o] }], n := st.n + 1 } (by simp; omega) rfl hk hu
        simp only [List.append_assoc, List.singleton_append] at h2
        refine h2.trans ?_
        simp [Nat.add_assoc, Nat.add_comm 1]
      · cases h
    · cases h
theorem run_life {l : LifeV} {t rest : Bs} {st : St} (h3 : ¬ st.n < 3) (h : lifeL l = some t) :
    ∃ k n, 3 ≤ n ∧ runL st (t ++ rest) = runL { st with ls := st.ls ++ [l], kept := k, n := n } rest := by
  unfold lifeL at h
  split at h
  · next hf =>
    split at h
    · next u hu =>
      split at h
      · next hk =>
        cases h
        have h1 := step_life st h3 hf
        rw [List.append_assoc, List.cons_append, runL_line _ (lineL_no10 (by decide) _) h1, List.append_assoc]
        rw [run_ops l.ops u _ st.ls { stop := l.stop } _ (by simp; omega) rfl rfl hu]
        unfold keepL
        by_cases hn : l.keep = []
        · rw [if_pos hn]
          refine ⟨false, st.n + 1 + l.ops.length, by omega, ?_⟩
          · have : ({ stop := l.stop, ops := [] ++ l.ops } : LifeV) = l := by
              obtain ⟨a, b, c⟩ := l; simp at hn; simp [hn]
            simp only [List.nil_append] at this ⊢
            rw [this]
        · rw [if_neg hn, List.append_assoc, List.singleton_append]
          have h2 := step_keep { st with ls := st.ls ++ [{ stop := l.stop, ops := [] ++ l.ops }], kept := false, n := st.n + 1 + l.ops.length } (by simp; omega) (by simp) rfl hn hk
          rw [runL_line _ (lineL_no10 (by decide) _) h2]
          refine ⟨true, st.n + 1 + l.ops.length + 1, by omega, ?_⟩
          · simp only [setKeep_last, List.nil_append]
      · cases h
    · cases h
  · cases h
theorem run_lives : ∀ {ls : List LifeV} {t : Bs} {st : St}, ¬ st.n < 3 → livesL ls = some t → ∃ k n, 3 ≤ n ∧ runL st t = .ok { st with ls := st.ls ++ ls, kept := k, n := n } := by
  intro ls
  induction ls with
  | nil =>
    intro t st h3 h
    cases h
    refine ⟨st.kept, st.n, by omega, ?_⟩
    rw [runL, if_pos rfl]; simp
  | cons l r ih =>
    intro t st h3 h
    simp only [livesL] at h
    split at h
    · next s hs =>
      split at h
      · next u hu =>
        cases h
        obtain ⟨k, n, hn, e⟩ := run_life (rest := u) h3 hs
        obtain ⟨k2, n2, hn2, e2⟩ := ih (st := { st with ls := st.ls ++ [l], kept := k, n := n }) (by simp; omega) hu
        refine ⟨k2, n2, hn2, ?_⟩
        rw [e, e2]; simp
      · cases h
    · cases h
theorem check_few {s : ShapeV} (h : checkL s = true) : fewD s.sector ∧ fewD s.sectors ∧ fewD s.journal ∧ fewD s.pack ∧ fewD s.min ∧ fewD s.normal ∧ fewD s.max ∧ fewD s.bits := by
  unfold checkL at h
  simp only [Bool.and_eq_true, decide_eq_true_eq, List.mem_cons, List.not_mem_nil, or_false] at h
  obtain ⟨⟨⟨h1, h2⟩, h3⟩, h4⟩ := h
  unfold fewD
  have : 0 ≤ s.normal ∧ s.normal ≤ 65536 := by omega
  refine ⟨by omega, by omega, by omega, by omega, by omega, by omega, by omega, by omega⟩
theorem cleanVolume : clean wVolume := by unfold clean; decide
theorem cleanCut : clean wCut := by unfold clean; decide
theorem cleanIndex : clean wIndex := by unfold clean; decide
theorem run_shape {s : ShapeV} (hs : s.seed < 18446744073709551616) (h : checkL s = true) (rest : Bs) : runL {} (shapeL s ++ rest) = runL { s := s, n := 3 } rest := by
  obtain ⟨f1, f2, f3, f4, f5, f6, f7, f8⟩ := check_few h
  unfold shapeL
  rw [List.append_assoc, List.cons_append]
  have e1 : stepL {} (lineL wVolume [s.sector, s.sectors, s.journal, s.pack]) = some { s := { sector := s.sector, sectors := s.sectors, journal := s.journal, pack := s.pack }, n := 1 } := by
    unfold stepL
    rw [if_pos (by decide), splB_line cleanVolume]
    have hn : numsL [Lib.itoa s.sector, Lib.itoa s.sectors, Lib.itoa s.journal, Lib.itoa s.pack] = some [s.sector, s.sectors, s.journal, s.pack] := nums_of (ns := [s.sector, s.sectors, s.journal, s.pack]) (by simp [f1, f2, f3, f4])
    simp [headG, hn]
  rw [runL_line _ (lineL_no10 (by decide) _) e1, List.append_assoc, List.append_assoc, List.cons_append, List.cons_append, ← List.cons_append, ← List.append_assoc]
  have j2 : lineL wCut [s.min, s.normal, s.max] ++ 32 :: Lib.decDigits s.seed = joinB [wCut, Lib.itoa s.min, Lib.itoa s.normal, Lib.itoa s.max, Lib.decDigits s.seed] := by
    simp [lineL, joinB]
  have e2 : stepL { s := { sector := s.sector, sectors := s.sectors, journal := s.journal, pack := s.pack }, n := 1 } (lineL wCut [s.min, s.normal, s.max] ++ 32 :: Lib.decDigits s.seed) = some { s := { sector := s.sector, sectors := s.sectors, journal := s.journal, pack := s.pack, min := s.min, normal := s.normal, max := s.max, seed := s.seed }, n := 2 } := by
    unfold stepL
    rw [if_pos (by show 1 < 3; omega), j2, splB_join _ (by simp) (by
      intro x hx
      simp only [List.mem_cons, List.not_mem_nil, or_false] at hx
      rcases hx with rfl | rfl | rfl | rfl | rfl
      · exact cleanCut
      · exact itoa_clean _
      · exact itoa_clean _
      · exact itoa_clean _
      · rw [dec_itoa]; exact itoa_clean _)]
    have hn : numsL [Lib.itoa s.min, Lib.itoa s.normal, Lib.itoa s.max] = some [s.min, s.normal, s.max] := nums_of (ns := [s.min, s.normal, s.max]) (by simp [f5, f6, f7])
    have hq : seedL (Lib.decDigits s.seed) = some s.seed := seedL_iff.2 ⟨rfl, hs⟩
    simp [headG, hn, hq]
  rw [runL_line _ (fun c hc => by
    rcases List.mem_append.1 hc with h | h
    · exact lineL_no10 (by decide) _ c h
    · rcases List.mem_cons.1 h with rfl | h
      · decide
      · rw [dec_itoa] at h; exact itoa_no10 _ c h) e2]
  have j3 : lineL wIndex [s.bits] ++ 32 :: ddL s.dedup = joinB [wIndex, Lib.itoa s.bits, ddL s.dedup] := by simp [lineL, joinB]
  have e3 : stepL { s := { sector := s.sector, sectors := s.sectors, journal := s.journal, pack := s.pack, min := s.min, normal := s.normal, max := s.max, seed := s.seed }, n := 2 } (lineL wIndex [s.bits] ++ 32 :: ddL s.dedup) = some { s := s, n := 3 } := by
    unfold stepL
    rw [if_pos (by show 2 < 3; omega), j3, splB_join _ (by simp) (by
      intro x hx
      simp only [List.mem_cons, List.not_mem_nil, or_false] at hx
      rcases hx with rfl | rfl | rfl
      · exact cleanIndex
      · exact itoa_clean _
      · unfold ddL; split
        · unfold clean; decide
        · unfold clean; decide)]
    have hn : numL (Lib.itoa s.bits) = some s.bits := numL_iff.2 ⟨rfl, f8⟩
    obtain ⟨a1, a2, a3, a4, a5, a6, a7, a8, a9, a10⟩ := s
    cases a10 <;> simp [headG, hn, ddL, wDedup, wPlain] <;> simp_all
  have hsh : (lineL wIndex [s.bits] ++ 32 :: ddL s.dedup ++ [10]) ++ rest = (lineL wIndex [s.bits] ++ 32 :: ddL s.dedup) ++ 10 :: rest := by simp
  rw [hsh, runL_line _ (fun c hc => by
    rcases List.mem_append.1 hc with h | h
    · exact lineL_no10 (by decide) _ c h
    · rcases List.mem_cons.1 h with rfl | h
      · decide
      · unfold ddL at h; split at h
        · exact (by decide : ∀ c ∈ wDedup, c ≠ 10) c h
        · exact (by decide : ∀ c ∈ wPlain, c ≠ 10) c h) e3]
/-- What is printed is parsed so. -/
theorem parse_print {s : ShapeV} {ls : List LifeV} {t : Bs} (hs : s.seed < 18446744073709551616) (h : printT s ls = .ok t) : parseT t = .ok (s, ls) := by
  unfold printT at h
  split at h
  · cases h
  · next h1 =>
    split at h
    · cases h
    · next h2 =>
      split at h
      · cases h
      · next u hu =>
        split at h
        · cases h
        · next h3 =>
          cases h
          have hc : checkL s = true := by cases e : checkL s with
            | true => rfl
            | false => exact absurd e h1
          obtain ⟨k, n, hn, e⟩ := run_lives (st := { s := s, n := 3 }) (by show ¬ 3 < 3; omega) hu
          unfold parseT
          rw [if_neg h3, run_shape hs hc, e]
          simp only [List.nil_append]
          rw [if_neg (by omega), if_neg h1, if_neg h2]

/-! And back. -/
theorem run_cut {st st' : St} {text : Bs} (h : runL st text = .ok st') : (text = [] ∧ st' = st) ∨ ∃ line rest st1, text = line ++ 10 :: rest ∧ stepL st line = some st1 ∧ runL st1 rest = .ok st' := by
  rw [runL] at h
  split at h
  · next e => cases h; exact .inl ⟨e, rfl⟩
  · split at h
    · next line rest hc =>
      split at h
      · next st1 hs => exact .inr ⟨line, rest, st1, (cutN_some hc).1, hs, h⟩
      · cases h
    · cases h
theorem line_of {l : Bs} {ws : List Bs} (h : splB [] l = ws) : l = joinB ws := by
  have := joinB_splB l []
  rw [h] at this
  exact this.symm
theorem head_volume {s s' : ShapeV} {line : Bs} (h : headG 0 s (splB [] line) = some s') : line = lineL wVolume [s'.sector, s'.sectors, s'.journal, s'.pack] ∧ s' = { s with sector := s'.sector, sectors := s'.sectors, journal := s'.journal, pack := s'.pack } := by
  obtain ⟨ws, hw⟩ : ∃ ws, splB [] line = ws := ⟨_, rfl⟩
  rw [hw] at h
  have hl := line_of hw
  unfold headG at h
  split at h
  · next a b c d _ =>
    split at h
    · next e =>
      split at h
      · next x y z u hn =>
        cases h
        refine ⟨?_, rfl⟩
        rw [hl, lineL_join, e, (numsL_iff.1 hn).1]
      · cases h
    · cases h
  · next h0 => cases h0
  · next h0 => cases h0
  · cases h
theorem head_cut {s s' : ShapeV} {line : Bs} (h : headG 1 s (splB [] line) = some s') : line = lineL wCut [s'.min, s'.normal, s'.max] ++ 32 :: Lib.decDigits s'.seed ∧ s'.seed < 18446744073709551616 ∧ s' = { s with min := s'.min, normal := s'.normal, max := s'.max, seed := s'.seed } := by
  obtain ⟨ws, hw⟩ : ∃ ws, splB [] line = ws := ⟨_, rfl⟩
  rw [hw] at h
  have hl := line_of hw
  unfold headG at h
  split at h
  · next h0 => cases h0
  · next a b c d _ =>
    split at h
    · next e =>
      split at h
      · next x y z u hn hs =>
        cases h
        obtain ⟨e1, e2⟩ := seedL_iff.1 hs
        have e3 := (numsL_iff.1 hn).1
        simp only [List.map_cons, List.map_nil] at e3
        obtain ⟨e4, e5⟩ := List.cons.inj e3
        obtain ⟨e6, e7⟩ := List.cons.inj e5
        obtain ⟨e8, _⟩ := List.cons.inj e7
        refine ⟨?_, e2, rfl⟩
        rw [hl, e, e1, e4, e6, e8]
        simp [lineL, joinB]
      · cases h
    · cases h
  · next h0 => cases h0
  · cases h
theorem head_index {s s' : ShapeV} {line : Bs} (h : headG 2 s (splB [] line) = some s') : line = lineL wIndex [s'.bits] ++ 32 :: ddL s'.dedup ∧ s' = { s with bits := s'.bits, dedup := s'.dedup } := by
  obtain ⟨ws, hw⟩ : ∃ ws, splB [] line = ws := ⟨_, rfl⟩
  rw [hw] at h
  have hl := line_of hw
  unfold headG at h
  split at h
  · next h0 => cases h0
  · next h0 => cases h0
  · next w a b _ =>
    split at h
    · next e =>
      split at h
      · next x hn =>
        cases h
        refine ⟨?_, rfl⟩
        have hb : b = ddL (decide (b = wDedup)) := by
          rcases e.2 with rfl | rfl <;> decide
        rw [hl, e.1, (numL_iff.1 hn).1]
        simp only
        rw [← hb]
        simp [lineL, joinB]
      · cases h
    · cases h
  · cases h
theorem livesL_app : ∀ {a : List LifeV} {b : List LifeV} {t : Bs}, livesL (a ++ b) = some t ↔ ∃ x y, livesL a = some x ∧ livesL b = some y ∧ t = x ++ y := by
  intro a
  induction a with
  | nil =>
    intro b t
    constructor
    · intro h; exact ⟨[], t, rfl, h, rfl⟩
    · rintro ⟨x, y, hx, hy, rfl⟩; cases hx; exact hy
  | cons l r ih =>
    intro b t
    rw [List.cons_append]
    simp only [livesL]
    constructor
    · intro h
      split at h
      · next s hs =>
        split at h
        · next u hu =>
          cases h
          obtain ⟨x, y, hx, hy, rfl⟩ := ih.1 hu
          exact ⟨s ++ x, y, by rw [hx], hy, by simp⟩
        · cases h
      · cases h
    · rintro ⟨x, y, hx, hy, rfl⟩
      split at hx
      · next s hs =>
        split at hx
        · next u hu =>
          cases hx
          rw [ih.2 ⟨u, y, hu, hy, rfl⟩]
          simp
        · cases hx
      · cases hx
theorem livesL_one {l : LifeV} {t : Bs} : livesL [l] = some t ↔ lifeL l = some t := by
  simp only [livesL]
  constructor
  · intro h
    split at h
    · next s hs => rw [hs]; simpa using h
    · cases h
  · intro h; rw [h]; simp
theorem opsL_app : ∀ {a : List OpV} {o : OpV} {x s : Bs}, opsL a = some x → printL o = some s → opsL (a ++ [o]) = some (x ++ (s ++ [10])) := by
  intro a
  induction a with
  | nil => intro o x s hx hs; cases hx; simp [opsL, hs]
  | cons p r ih =>
    intro o x s hx hs
    simp only [opsL] at hx
    split at hx
    · next u hu =>
      split at hx
      · next v hv =>
        cases hx
        rw [List.cons_append]
        simp only [opsL]
        rw [hu, ih hv hs]
        simp
      · cases hx
    · cases hx
/-- The last life of lives that are read may grow: it has no Keep, or none may follow. -/
def Inv (st : St) (T : Bs) : Prop := livesL st.ls = some T ∧ (st.kept = false → ∀ a l, st.ls = a ++ [l] → l.keep = [])
theorem last_split {ls : List LifeV} (h : ls ≠ []) : ∃ a l, ls = a ++ [l] := ⟨ls.dropLast, ls.getLast h, (List.dropLast_concat_getLast h).symm⟩
theorem step_inv {st st1 : St} {line T : Bs} (h3 : ¬ st.n < 3) (hi : Inv st T) (h : stepL st line = some st1) : Inv st1 (T ++ (line ++ [10])) ∧ st1.s = st.s ∧ ¬ st1.n < 3 := by
  unfold stepL at h
  rw [if_neg h3] at h
  split at h
  · next ls k hb =>
    cases h
    refine ⟨?_, rfl, by show ¬ st.n + 1 < 3; omega⟩
    unfold bodyP at hb
    split at hb
    · next hw =>
      split at hb
      · next n hn =>
        cases hb
        obtain ⟨e, hf⟩ := numsL_iff.1 hn
        have hl : line = lineL wLife [n] := by
          rw [lineL_join]
          have h1 := word_headB line
          rw [hw] at h1
          apply line_of
          cases hs : splB [] line with
          | nil => rw [hs] at h1; cases h1
          | cons a r => rw [hs] at h1 e; cases h1; rw [List.tail_cons] at e; rw [e]
        refine ⟨livesL_app.2 ⟨T, _, hi.1, livesL_one.2 ?_, by rw [hl]⟩, fun _ a l hal => ?_⟩
        · simp [lifeL, hf n (by simp), opsL, keepL]
        · have := List.append_inj' hal rfl
          have := (List.cons.inj this.2).1
          rw [← this]
      · cases hb
    · split at hb
      · cases hb
      · next h0 =>
        simp only [not_or] at h0
        have hk : st.kept = false := by cases e : st.kept with
          | false => rfl
          | true => exact absurd e h0.2
        obtain ⟨a, l, hal⟩ := last_split h0.1
        have hlk := hi.2 hk a l hal
        have hT := hi.1
        rw [hal] at hT
        obtain ⟨x, y, hx, hy, rfl⟩ := livesL_app.1 hT
        rw [livesL_one] at hy
        unfold lifeL at hy
        split at hy
        · next hf =>
          split at hy
          · next u hu =>
            rw [hlk] at hy
            simp only [List.not_mem_nil, false_imp_iff, implies_true, if_true, keepL, Option.some.injEq, List.append_nil] at hy
            split at hb
            · next hw =>
              split at hb
              · next k ks hn =>
                cases hb
                obtain ⟨e, hfs⟩ := numsL_iff.1 hn
                have hl : line = lineL wKeep (k :: ks) := by
                  rw [lineL_join]
                  have h1 := word_headB line
                  rw [hw] at h1
                  apply line_of
                  cases hs : splB [] line with
                  | nil => rw [hs] at h1; cases h1
                  | cons a r => rw [hs] at h1 e; cases h1; rw [List.tail_cons] at e; rw [e]
                refine ⟨?_, fun h => by cases h⟩
                show livesL (setKeep st.ls (k :: ks)) = _
                rw [hal, setKeep_last]
                refine livesL_app.2 ⟨x, _, hx, livesL_one.2 ?_, by rw [List.append_assoc]⟩
                unfold lifeL
                rw [if_pos hf, hu]
                simp only
                rw [if_pos hfs, ← hy, hl]
                simp [keepL]
              · cases hb
            · split at hb
              · next o ho =>
                cases hb
                have hpr := parseL_iff.1 ho
                refine ⟨?_, fun _ a2 l2 h2 => ?_⟩
                · show livesL (addOp st.ls o) = _
                  rw [hal, addOp_last]
                  refine livesL_app.2 ⟨x, _, hx, livesL_one.2 ?_, by rw [List.append_assoc]⟩
                  unfold lifeL
                  rw [if_pos hf, opsL_app hu hpr]
                  simp [← hy, hlk, keepL]
                · have h2 : addOp st.ls o = a2 ++ [l2] := h2
                  rw [hal, addOp_last] at h2
                  have := List.append_inj' h2 rfl
                  have := (List.cons.inj this.2).1
                  rw [← this]
                  exact hlk
              · cases hb
          · cases hy
        · cases hy
  · cases h
theorem run_inv : ∀ {text : Bs} {st st' : St} {T : Bs}, ¬ st.n < 3 → Inv st T → runL st text = .ok st' → Inv st' (T ++ text) ∧ st'.s = st.s := by
  intro text
  induction hn : text.length using Nat.strongRecOn generalizing text with
  | _ n ih =>
    intro st st' T h3 hi h
    rcases run_cut h with ⟨rfl, rfl⟩ | ⟨line, rest, st1, rfl, hs, hr⟩
    · exact ⟨by rw [List.append_nil]; exact hi, rfl⟩
    · obtain ⟨h1, h2, h4⟩ := step_inv h3 hi hs
      obtain ⟨h5, h6⟩ := ih rest.length (by rw [List.length_append, List.length_cons] at hn; omega) rfl h4 h1 hr
      exact ⟨by simpa using h5, h6.trans h2⟩
theorem step_head {st st1 : St} {line : Bs} (h3 : st.n < 3) (h : stepL st line = some st1) : ∃ s, headG st.n st.s (splB [] line) = some s ∧ st1 = { st with s := s, n := st.n + 1 } := by
  unfold stepL at h
  rw [if_pos h3] at h
  split at h
  · next s hs => cases h; exact ⟨s, hs, rfl⟩
  · cases h
/-- What is parsed is printed so. -/
theorem print_parse {s : ShapeV} {ls : List LifeV} {text : Bs} (h : parseT text = .ok (s, ls)) : printT s ls = .ok text ∧ s.seed < 18446744073709551616 := by
  unfold parseT at h
  split at h
  · cases h
  · next hlen =>
    split at h
    · cases h
    · next st hr =>
      split at h
      · cases h
      · next h3 =>
        split at h
        · cases h
        · next hc =>
          split at h
          · cases h
          · next hf =>
            cases h
            rcases run_cut hr with ⟨_, rfl⟩ | ⟨l1, r1, st1, rfl, s1, hr⟩
            · exact absurd (by decide) h3
            obtain ⟨a1, e1, rfl⟩ := step_head (by decide) s1
            rcases run_cut hr with ⟨_, rfl⟩ | ⟨l2, r2, st2, rfl, s2, hr⟩
            · exact absurd (by show 1 < 3; omega) h3
            obtain ⟨a2, e2, rfl⟩ := step_head (by show 1 < 3; omega) s2
            rcases run_cut hr with ⟨_, rfl⟩ | ⟨l3, r3, st3, rfl, s3, hr⟩
            · exact absurd (by show 2 < 3; omega) h3
            obtain ⟨a3, e3, rfl⟩ := step_head (by show 2 < 3; omega) s3
            have e1 : headG 0 {} (splB [] l1) = some a1 := e1
            have e2 : headG 1 a1 (splB [] l2) = some a2 := e2
            have e3 : headG 2 a2 (splB [] l3) = some a3 := e3
            obtain ⟨t1, q1⟩ := head_volume e1
            obtain ⟨t2, hsd, q2⟩ := head_cut e2
            obtain ⟨t3, q3⟩ := head_index e3
            obtain ⟨hI, hs⟩ := run_inv (T := []) (by show ¬ 3 < 3; omega) ⟨rfl, fun _ a l h => by cases a <;> cases h⟩ hr
            have hs : st.s = a3 := hs
            have hsh : shapeL st.s ++ r3 = l1 ++ 10 :: (l2 ++ 10 :: (l3 ++ 10 :: r3)) := by
              rw [hs, t1, t2, t3]
              unfold shapeL
              have f1 : a3.sector = a1.sector ∧ a3.sectors = a1.sectors ∧ a3.journal = a1.journal ∧ a3.pack = a1.pack := by rw [q3, q2]; exact ⟨rfl, rfl, rfl, rfl⟩
              have f2 : a3.min = a2.min ∧ a3.normal = a2.normal ∧ a3.max = a2.max ∧ a3.seed = a2.seed := by rw [q3]; exact ⟨rfl, rfl, rfl, rfl⟩
              rw [f1.1, f1.2.1, f1.2.2.1, f1.2.2.2, f2.1, f2.2.1, f2.2.2.1, f2.2.2.2]
              simp
            refine ⟨?_, ?_⟩
            · unfold printT
              rw [if_neg hc, if_neg hf, hI.1]
              simp only [List.nil_append]
              rw [hsh, if_neg hlen]
            · rw [hs, q3]; exact hsd

end Go.Proofs.YteglbmindbfkeaaGreatDoor.H
