/- Scripts, plain: quoted texts, numbers, operations' lines. -/
import Derived.Lib.ItoaLen
import Derived.Lib.AtoiTie
namespace Go.Proofs.YteglbmindbfkeaaGreatDoor.H
open Go
set_option linter.unusedVariables false
set_option linter.unusedSimpArgs false
/-- Bytes. -/
abbrev Bs := List UInt8
/-- A digit of a byte. -/
def hexD (n : Nat) : UInt8 := if n < 10 then UInt8.ofNat (48 + n) else UInt8.ofNat (87 + n)
/-- What a byte is written as. -/
def escB (c : UInt8) : Bs := if c = 34 ∨ c = 92 then [92, c] else if 32 ≤ c.toNat ∧ c.toNat ≤ 126 then [c] else [92, 120, hexD (c.toNat / 16), hexD (c.toNat % 16)]
/-- The quoted text. -/
def quoteL (l : Bs) : Bs := 34 :: (l.flatMap escB ++ [34])
/-- What a digit says. -/
def hexV (c : UInt8) : Option Nat := if 48 ≤ c.toNat ∧ c.toNat ≤ 57 then some (c.toNat - 48) else if 97 ≤ c.toNat ∧ c.toNat ≤ 102 then some (c.toNat - 87) else none
theorem hexD_toNat {n : Nat} (h : n < 16) : (hexD n).toNat = if n < 10 then 48 + n else 87 + n := by
  unfold hexD
  split
  · rw [UInt8.toNat_ofNat']; omega
  · rw [UInt8.toNat_ofNat']; omega
theorem hexV_hexD {n : Nat} (h : n < 16) : hexV (hexD n) = some n := by
  unfold hexV
  rw [hexD_toNat h]
  by_cases h1 : n < 10
  · simp only [if_pos h1]
    rw [if_pos (by omega)]
    congr 1; omega
  · simp only [if_neg h1]
    rw [if_neg (by omega), if_pos (by omega)]
    congr 1; omega
theorem hexV_lt {c : UInt8} {n : Nat} (h : hexV c = some n) : n < 16 := by
  unfold hexV at h
  split at h
  · cases h; omega
  · split at h
    · cases h; omega
    · cases h
/-- Behind the first quote: the bytes up to the one that ends it, and what is behind it. -/
def takeF : Nat → Bs → Bs → Option (Bs × Bs)
  | 0, _, _ => none
  | k + 1, l, acc =>
    match l with
    | [] => none
    | c :: r =>
      if c = 34 then some (acc, r)
      else if c ≠ 92 then takeF k r (acc ++ [c])
      else match r with
        | [] => none
        | x :: r2 =>
          if x = 34 ∨ x = 92 then takeF k r2 (acc ++ [x])
          else if x = 120 then
            match r2 with
            | p :: q :: r3 =>
              match hexV p, hexV q with
              | some a, some b => takeF k r3 (acc ++ [UInt8.ofNat (16 * a + b)])
              | _, _ => none
            | _ => none
          else none
/-- The quoted text with which a line begins, and what is behind it. -/
def takeL (s : Bs) : Option (Bs × Bs) :=
  match s with
  | [] => none
  | c :: r =>
    if c = 34 then
      match takeF (r.length + 1) r [] with
      | some (b, rest) => if quoteL b ++ rest = s then some (b, rest) else none
      | none => none
    else none
theorem takeF_esc (b : Bs) : ∀ (k : Nat) (acc rest : Bs), (b.flatMap escB).length < k → takeF k (b.flatMap escB ++ 34 :: rest) acc = some (acc ++ b, rest) := by
  induction b with
  | nil =>
    intro k acc rest h
    obtain ⟨k, rfl⟩ : ∃ j, k = j + 1 := ⟨k - 1, by simp at h; omega⟩
    simp [takeF]
  | cons c r ih =>
    intro k acc rest h
    obtain ⟨k, rfl⟩ : ∃ j, k = j + 1 := ⟨k - 1, by omega⟩
    rw [List.flatMap_cons, List.length_append] at h
    rw [List.flatMap_cons, List.append_assoc]
    by_cases h1 : c = 34 ∨ c = 92
    · have e : escB c = [92, c] := by unfold escB; rw [if_pos h1]
      rw [e] at h ⊢
      simp only [List.length_cons, List.length_nil] at h
      have := ih k (acc ++ [c]) rest (by omega)
      simp [takeF, h1, this]
    · by_cases h2 : 32 ≤ c.toNat ∧ c.toNat ≤ 126
      · have e : escB c = [c] := by unfold escB; rw [if_neg h1, if_pos h2]
        rw [e] at h ⊢
        simp only [List.length_cons, List.length_nil] at h
        have := ih k (acc ++ [c]) rest (by omega)
        simp only [not_or] at h1
        simp [takeF, h1, this]
      · have e : escB c = [92, 120, hexD (c.toNat / 16), hexD (c.toNat % 16)] := by unfold escB; rw [if_neg h1, if_neg h2]
        rw [e] at h ⊢
        simp only [List.length_cons, List.length_nil] at h
        have hc : c.toNat < 256 := c.toNat_lt
        have := ih k (acc ++ [c]) rest (by omega)
        have e2 : 16 * (c.toNat / 16) + c.toNat % 16 = c.toNat := by omega
        simp [takeF, hexV_hexD (show c.toNat / 16 < 16 by omega), hexV_hexD (show c.toNat % 16 < 16 by omega), e2, this]
theorem takeL_quote (b rest : Bs) : takeL (quoteL b ++ rest) = some (b, rest) := by
  unfold takeL quoteL
  simp only [List.cons_append, List.append_assoc, List.nil_append]
  rw [if_pos trivial, takeF_esc b _ [] rest (by simp; omega)]
  simp
theorem takeL_some {s b rest : Bs} (h : takeL s = some (b, rest)) : s = quoteL b ++ rest := by
  unfold takeL at h
  split at h
  · cases h
  · split at h
    · split at h
      · split at h
        · next e => cases h; exact e.symm
        · cases h
      · cases h
    · cases h
theorem takeL_iff {s b rest : Bs} : takeL s = some (b, rest) ↔ s = quoteL b ++ rest := ⟨takeL_some, fun h => h ▸ takeL_quote b rest⟩
/-- The bytes of a quoted text. -/
def unqL (s : Bs) : Option Bs :=
  match takeL s with
  | some (b, rest) => if rest = [] then some b else none
  | none => none
theorem unqL_iff {s b : Bs} : unqL s = some b ↔ quoteL b = s := by
  unfold unqL
  constructor
  · intro h
    split at h
    · next b' rest h1 =>
      split at h
      · next e => cases h; rw [takeL_some h1, e, List.append_nil]
      · cases h
    · cases h
  · rintro rfl
    have := takeL_quote b []
    rw [List.append_nil] at this
    rw [this]; simp
theorem quoteL_inj {a b : Bs} (h : quoteL a = quoteL b) : a = b := by
  have h1 : unqL (quoteL a) = some a := unqL_iff.2 rfl
  rw [h, unqL_iff.2 rfl] at h1
  exact (Option.some.inj h1).symm

/-- The number that digits say. -/
def valD (acc : Nat) : Bs → Option Nat
  | [] => some acc
  | c :: r => if 48 ≤ c.toNat ∧ c.toNat ≤ 57 then valD (10 * acc + (c.toNat - 48)) r else none
theorem valD_app (a b : Bs) : ∀ acc, valD acc (a ++ b) = (valD acc a).bind fun n => valD n b := by
  induction a with
  | nil => intro acc; rfl
  | cons c r ih =>
    intro acc
    simp only [List.cons_append, valD]
    split
    · exact ih _
    · rfl
theorem digit_toNat {d : Nat} (h : d < 10) : (UInt8.ofNat (48 + d)).toNat = 48 + d := by rw [UInt8.toNat_ofNat']; omega
theorem valD_dec (u : Nat) : valD 0 (Lib.decDigits u) = some u := by
  induction u using Lib.decDigits.induct with
  | case1 u h =>
    rw [Lib.decDigits, dif_pos h]
    simp only [valD, digit_toNat h]
    rw [if_pos (by omega)]
    congr 1; omega
  | case2 u h ih =>
    rw [Lib.decDigits, dif_neg h, valD_app, ih]
    have hd : u % 10 < 10 := Nat.mod_lt _ (by omega)
    simp only [Option.bind_some, valD, digit_toNat hd]
    rw [if_pos (by omega)]
    congr 1; omega
theorem dec_pos (u : Nat) : 1 ≤ (Lib.decDigits u).length := by rw [Lib.decDigits_length]; exact Lib.nDigits_pos u
/-- The first digit: nought for nought alone. -/
theorem dec_head (u : Nat) : ∃ c r, Lib.decDigits u = c :: r ∧ 48 ≤ c.toNat ∧ c.toNat ≤ 57 ∧ (c = 48 → r = []) := by
  induction u using Lib.decDigits.induct with
  | case1 u h => exact ⟨_, _, by rw [Lib.decDigits, dif_pos h], by rw [digit_toNat h]; omega, by rw [digit_toNat h]; omega, fun _ => rfl⟩
  | case2 u h ih =>
    obtain ⟨c, r, he, h1, h2, h3⟩ := ih
    refine ⟨c, r ++ [UInt8.ofNat (48 + u % 10)], by rw [Lib.decDigits, dif_neg h, he]; rfl, h1, h2, fun e => ?_⟩
    exfalso
    have hr := h3 e
    subst e
    subst hr
    have hv := valD_dec (u / 10)
    rw [he] at hv
    simp [valD] at hv
    omega
/-- Digits without noughts ahead are those of their number. -/
theorem dec_of_val : ∀ (l : Bs) (acc n : Nat), 1 ≤ acc → valD acc l = some n → Lib.decDigits n = Lib.decDigits acc ++ l ∧ acc ≤ n := by
  intro l
  induction l with
  | nil => intro acc n _ h; cases h; simp
  | cons c r ih =>
    intro acc n ha h
    simp only [valD] at h
    split at h
    · next hc =>
      obtain ⟨h1, h2⟩ := ih _ n (by omega) h
      refine ⟨?_, by omega⟩
      rw [h1, Lib.decDigits, dif_neg (by omega)]
      have e1 : (10 * acc + (c.toNat - 48)) / 10 = acc := by omega
      have e2 : 48 + (10 * acc + (c.toNat - 48)) % 10 = c.toNat := by omega
      rw [e1, e2, UInt8.ofNat_toNat]
      simp
    · cases h
theorem dec_of_val0 {c : UInt8} {r : Bs} {n : Nat} (h : valD 0 (c :: r) = some n) (h0 : c = 48 → r = []) : Lib.decDigits n = c :: r := by
  simp only [valD] at h
  split at h
  · next hc =>
    by_cases hz : c.toNat = 48
    · have : c = 48 := UInt8.toNat_inj.1 (by simpa using hz)
      rw [h0 this] at h ⊢
      simp only [valD, Option.some.injEq] at h
      rw [Lib.decDigits, dif_pos (by omega), ← h, this]
      rfl
    · have h1 := (dec_of_val r _ n (by omega) h).1
      rw [h1, Lib.decDigits, dif_pos (by omega)]
      have e : 48 + (10 * 0 + (c.toNat - 48)) = c.toNat := by omega
      rw [e, UInt8.ofNat_toNat]
      rfl
  · cases h
theorem dec_len {u k : Nat} : (Lib.decDigits u).length ≤ k + 1 ↔ u < 10 ^ (k + 1) := by
  rw [Lib.decDigits_length]
  constructor
  · intro h
    exact Nat.lt_of_lt_of_le (Lib.lt_pow_nDigits u) (Nat.pow_le_pow_right (by omega) h)
  · intro h
    by_cases h10 : u < 10
    · rw [Lib.nDigits_small h10]; omega
    · obtain ⟨j, hj⟩ : ∃ j, Lib.nDigits u = j + 1 := ⟨Lib.nDigits u - 1, by have := Lib.nDigits_pos u; omega⟩
      apply Classical.byContradiction
      intro hn
      have hlow : ∀ u, 10 ^ (Lib.nDigits u - 1) ≤ u ∨ u = 0 := by
        intro u
        induction u using Lib.nDigits.induct with
        | case1 u h => rw [Lib.nDigits_small h]; simp; omega
        | case2 u h ih =>
          left
          rw [Lib.nDigits_big h]
          rcases ih with ih | ih
          · obtain ⟨j, hj⟩ : ∃ j, Lib.nDigits (u / 10) = j + 1 := ⟨Lib.nDigits (u / 10) - 1, by have := Lib.nDigits_pos (u / 10); omega⟩
            rw [hj] at ih ⊢
            simp only [Nat.add_sub_cancel] at ih ⊢
            rw [Nat.pow_succ]
            omega
          · omega
      rcases hlow u with hl | hl
      · have h3 : 10 ^ (k + 1) ≤ 10 ^ (Lib.nDigits u - 1) := Nat.pow_le_pow_right (by omega) (by omega)
        omega
      · omega
/-- What a parse of digits gives. -/
theorem parse_val : ∀ (l : Bs) (acc u : Nat), Lib.parseUint10 acc l = .ok u → valD acc l = some u := by
  intro l
  induction l with
  | nil => intro acc u h; simp only [Lib.parseUint10] at h; cases h; rfl
  | cons c r ih =>
    intro acc u h
    simp only [Lib.parseUint10] at h
    split at h
    · next hc =>
      split at h
      · cases h
      · split at h
        · cases h
        · simp only [valD]
          rw [if_pos hc]
          rw [Nat.mul_comm 10 acc]
          exact ih _ _ h
    · cases h
theorem val_parse : ∀ (l : Bs) (acc u : Nat), u < 18446744073709551616 → acc ≤ u → valD acc l = some u → Lib.parseUint10 acc l = .ok u := by
  intro l
  induction l with
  | nil => intro acc u _ _ h; cases h; rfl
  | cons c r ih =>
    intro acc u hu ha h
    simp only [valD] at h
    split at h
    · next hc =>
      have hge : ∀ (l : Bs) (a n : Nat), valD a l = some n → a ≤ n := by
        intro l
        induction l with
        | nil => intro a n h; cases h; exact Nat.le_refl _
        | cons c r ih =>
          intro a n h
          simp only [valD] at h
          split at h
          · have := ih _ _ h; omega
          · cases h
      have hle := hge r _ _ h
      simp only [Lib.parseUint10]
      rw [if_pos hc, if_neg (by omega), if_neg (by omega)]
      rw [Nat.mul_comm acc 10]
      exact ih _ _ hu hle h
    · cases h
/-- May a number stand in a line? -/
def fewD (n : Int) : Prop := -999999999999999999 ≤ n ∧ n ≤ 999999999999999999
instance (n : Int) : Decidable (fewD n) := by unfold fewD; infer_instance
/-- The digits of a text without its sign. -/
def unsign (l : Bs) : Bs := if l.head? = some 45 then l.tail else l
theorem unsign_itoa (n : Int) : unsign (Lib.itoa n) = Lib.decDigits n.natAbs := by
  unfold Lib.itoa unsign
  by_cases h : n < 0
  · rw [if_pos h]; simp
  · rw [if_neg h]
    obtain ⟨c, r, he, h1, h2, _⟩ := dec_head n.toNat
    have : n.natAbs = n.toNat := by omega
    rw [this, he]
    have hc : c ≠ 45 := fun e => by rw [e] at h1; simp at h1
    simp [hc]
theorem fewD_iff (n : Int) : (unsign (Lib.itoa n)).length ≤ 18 ↔ fewD n := by
  rw [unsign_itoa, show (18 : Nat) = 17 + 1 from rfl, dec_len]
  unfold fewD
  omega
theorem atoi_itoa {n : Int} (h0 : -9223372036854775808 ≤ n) (h1 : n ≤ 9223372036854775807) : Lib.atoiAll (Lib.itoa n) = .ok n := by
  unfold Lib.itoa
  by_cases h : n < 0
  · rw [if_pos h]
    have hm : Lib.parseMag (Lib.decDigits n.natAbs) = .ok n.natAbs := by
      unfold Lib.parseMag
      rw [if_neg (fun e => by have := dec_pos n.natAbs; rw [e] at this; simp at this)]
      exact val_parse _ _ _ (by omega) (by omega) (valD_dec _)
    simp only [Lib.atoiAll]
    rw [if_pos (by decide), hm]
    simp only
    rw [if_neg (fun e => e.1 rfl), if_neg (by omega)]
    simp only [show (45 : UInt8).toNat = 45 from rfl, if_true]
    congr 1; omega
  · rw [if_neg h]
    obtain ⟨c, r, he, h2, h3, _⟩ := dec_head n.toNat
    have hm : Lib.parseMag (Lib.decDigits n.toNat) = .ok n.toNat := by
      unfold Lib.parseMag
      rw [if_neg (fun e => by have := dec_pos n.toNat; rw [e] at this; simp at this)]
      exact val_parse _ _ _ (by omega) (by omega) (valD_dec _)
    rw [he] at hm ⊢
    have e1 : ¬ (c.toNat = 43 ∨ c.toNat = 45) := by omega
    have e2 : ¬ c.toNat = 45 := by omega
    simp only [Lib.atoiAll]
    rw [if_neg e1, hm]
    simp only
    rw [if_neg (by omega), if_neg (by omega), if_neg e2]
    congr 1; omega
/-- The number that a word says. -/
def numL (l : Bs) : Option Int :=
  match Lib.atoiAll l with
  | .ok n => if Lib.itoa n = l ∧ (unsign l).length ≤ 18 then some n else none
  | _ => none
theorem numL_iff {l : Bs} {n : Int} : numL l = some n ↔ l = Lib.itoa n ∧ fewD n := by
  unfold numL
  constructor
  · intro h
    split at h
    · next m hm =>
      split at h
      · next hc =>
        cases h
        refine ⟨hc.1.symm, (fewD_iff n).1 ?_⟩
        rw [hc.1]; exact hc.2
      · cases h
    · cases h
  · rintro ⟨rfl, hf⟩
    rw [atoi_itoa (by unfold fewD at hf; omega) (by unfold fewD at hf; omega)]
    simp only
    rw [if_pos ⟨trivial, (fewD_iff n).2 hf⟩]
/-- The reference's number of digits alone. -/
def refU (l : Bs) : Option Nat := if l.length < 1 ∨ 18 < l.length ∨ (1 < l.length ∧ l.head? = some 48) then none else valD 0 l
/-- The reference's number of a word. -/
def refN : Bs → Option Int
  | [] => none
  | c :: r => if c = 45 ∧ r ≠ [] then (refN r).bind fun n => if 0 < n then some (-n) else none else Option.map (fun n : Nat => (n : Int)) (refU (c :: r))
theorem refU_iff {l : Bs} {n : Nat} : refU l = some n ↔ l = Lib.decDigits n ∧ n < 10 ^ 18 := by
  unfold refU
  constructor
  · intro h
    split at h
    · cases h
    · next hc =>
      cases l with
      | nil => simp at hc
      | cons c r =>
        have h0 : c = 48 → r = [] := fun e => by
          cases r with
          | nil => rfl
          | cons => simp [e] at hc
        have e := dec_of_val0 h h0
        refine ⟨e.symm, (dec_len (k := 17)).1 ?_⟩
        rw [e]
        simp only [List.length_cons] at hc ⊢
        omega
  · rintro ⟨rfl, hn⟩
    have hl := (dec_len (u := n) (k := 17)).2 hn
    have hp := dec_pos n
    obtain ⟨c, r, he, h1, h2, h3⟩ := dec_head n
    rw [if_neg, valD_dec]
    rintro (h | h | ⟨h, h4⟩)
    · omega
    · omega
    · rw [he] at h h4
      simp at h4
      rw [h3 h4] at h
      simp at h
theorem refN_iff : ∀ {l : Bs} {n : Int}, refN l = some n ↔ l = Lib.itoa n ∧ fewD n := by
  intro l
  induction l with
  | nil =>
    intro n
    constructor
    · intro h; cases h
    · rintro ⟨h, _⟩
      have := congrArg List.length h
      unfold Lib.itoa at this
      split at this
      · simp at this
      · have h9 := dec_pos n.toNat; rw [← this] at h9; simp at h9
  | cons c r ih =>
    intro n
    simp only [refN]
    by_cases hc : c = 45 ∧ r ≠ []
    · rw [if_pos hc]
      obtain ⟨rfl, hr⟩ := hc
      constructor
      · intro h
        obtain ⟨m, hm, h⟩ := Option.bind_eq_some_iff.1 h
        split at h
        · next hpos =>
          cases h
          obtain ⟨e, hf⟩ := ih.1 hm
          refine ⟨?_, by unfold fewD at hf ⊢; omega⟩
          rw [e]
          unfold Lib.itoa
          rw [if_neg (by omega), if_pos (by omega), Int.natAbs_neg]
          congr 2; omega
        · cases h
      · rintro ⟨h, hf⟩
        have hn : n < 0 := by
          apply Classical.byContradiction
          intro hn
          unfold Lib.itoa at h
          rw [if_neg hn] at h
          obtain ⟨c2, r2, he, h1, _⟩ := dec_head n.toNat
          rw [he] at h
          have := (List.cons.inj h).1
          rw [← this] at h1
          simp at h1
        unfold Lib.itoa at h
        rw [if_pos hn] at h
        have e := (List.cons.inj h).2
        rw [(ih (n := -n)).2 ⟨by rw [e]; unfold Lib.itoa; rw [if_neg (by omega)]; congr 1; omega, by unfold fewD at hf ⊢; omega⟩]
        simp only [Option.bind_some]
        rw [if_pos (by omega)]
        simp
    · rw [if_neg hc]
      constructor
      · intro h
        obtain ⟨m, hm, rfl⟩ := Option.map_eq_some_iff.1 h
        obtain ⟨e, hm⟩ := refU_iff.1 hm
        exact ⟨by rw [e]; unfold Lib.itoa; rw [if_neg (by omega)]; simp, by unfold fewD; omega⟩
      · rintro ⟨h, hf⟩
        have hn : ¬ n < 0 := by
          intro hn
          unfold Lib.itoa at h
          rw [if_pos hn] at h
          obtain ⟨e1, e2⟩ := List.cons.inj h
          have := dec_pos n.natAbs
          apply hc
          refine ⟨e1, fun e => ?_⟩
          rw [← e2, e] at this
          simp at this
        unfold Lib.itoa at h
        rw [if_neg hn] at h
        rw [h, refU_iff.2 ⟨rfl, by unfold fewD at hf; omega⟩]
        simp
        omega
theorem num_same (l : Bs) : refN l = numL l := by
  cases h : refN l with
  | some n => exact (numL_iff.2 (refN_iff.1 h)).symm
  | none =>
    cases h2 : numL l with
    | some n => rw [refN_iff.2 (numL_iff.1 h2)] at h; cases h
    | none => rfl
theorem itoa_inj {a b : Int} (h : Lib.itoa a = Lib.itoa b) : a = b := by
  have h1 := congrArg (fun l => (l.head?, valD 0 (unsign l))) h
  simp only [unsign_itoa, valD_dec, Prod.mk.injEq, Option.some.injEq] at h1
  have hs : ∀ n : Int, (Lib.itoa n).head? = some 45 ↔ n < 0 := fun n => by
    unfold Lib.itoa
    by_cases hn : n < 0
    · simp [hn]
    · rw [if_neg hn]
      obtain ⟨c, r, he, h1, _⟩ := dec_head n.toNat
      rw [he]
      simp only [List.head?_cons, Option.some.injEq, hn, iff_false]
      intro e; rw [e] at h1; simp at h1
  have h2 := hs a
  rw [h1.1, hs b] at h2
  omega

/-- The fields of an operation's line. -/
inductive Fld where
  | H | O | N | F | P | Q | D
  deriving DecidableEq, Repr
/-- An operation. -/
structure OpV where
  kind : Int := 0
  path : Bs := []
  other : Bs := []
  handle : Int := 0
  offset : Int := 0
  n : Int := 0
  flags : Int := 0
  data : Bs := []
  deriving DecidableEq
def Fld.isText : Fld → Bool
  | .P | .Q | .D => true
  | _ => false
def OpV.num (o : OpV) : Fld → Int
  | .H => o.handle
  | .O => o.offset
  | .N => o.n
  | .F => o.flags
  | _ => 0
def OpV.txt (o : OpV) : Fld → Bs
  | .P => o.path
  | .Q => o.other
  | .D => o.data
  | _ => []
def OpV.setNum (o : OpV) (f : Fld) (v : Int) : OpV :=
  match f with
  | .H => { o with handle := v }
  | .O => { o with offset := v }
  | .N => { o with n := v }
  | .F => { o with flags := v }
  | _ => o
def OpV.setTxt (o : OpV) (f : Fld) (v : Bs) : OpV :=
  match f with
  | .P => { o with path := v }
  | .Q => { o with other := v }
  | .D => { o with data := v }
  | _ => o
/-- One field out of another operation. -/
def OpV.copy (t : OpV) (f : Fld) (o : OpV) : OpV := if f.isText then t.setTxt f (o.txt f) else t.setNum f (o.num f)
def copyAll (o : OpV) (fs : List Fld) (t : OpV) : OpV := fs.foldl (fun t f => t.copy f o) t
/-- A field's text. -/
def render (o : OpV) (f : Fld) : Bs := if f.isText then quoteL (o.txt f) else Lib.itoa (o.num f)
def body (o : OpV) (fs : List Fld) : Bs := fs.flatMap fun f => 32 :: render o f
/-- The numbers of kinds with their words and fields. -/
def kinds : List (Nat × Bs × List Fld) := [
  (1, [111,112,101,110], [.P, .F]), (2, [99,108,111,115,101], [.H]), (3, [114,101,97,100], [.H, .O, .N]), (4, [119,114,105,116,101], [.H, .O, .D]), (5, [116,114,117,110,99,97,116,101], [.H, .N]),
  (6, [115,116,97,116], [.P]), (7, [108,105,115,116], [.P]), (8, [109,107,100,105,114], [.P]), (9, [114,109,100,105,114], [.P]), (10, [108,105,110,107], [.P, .Q]),
  (11, [117,110,108,105,110,107], [.P]), (12, [114,101,110,97,109,101], [.P, .Q]), (13, [102,115,121,110,99], [.H]), (14, [115,121,110,99], []), (15, [99,104,101,99,107,112,111,105,110,116], []),
  (16, [99,108,101,97,110], []), (17, [99,111,109,112,97,99,116], []), (18, [101,118,105,99,116], []), (19, [114,101,109,111,117,110,116], [])]
def kindOf (k : Int) : Option (Bs × List Fld) := (kinds.find? fun e => (e.1 : Int) == k).map (·.2)
def wordOf (w : Bs) : Option (Nat × List Fld) := (kinds.find? fun e => e.2.1 == w).map fun e => (e.1, e.2.2)
theorem kinds_fields : ∀ e ∈ kinds, e.2.2.Nodup ∧ e.2.1 ≠ [] ∧ (∀ c ∈ e.2.1, 97 ≤ c.toNat ∧ c.toNat ≤ 122) ∧ wordOf e.2.1 = some (e.1, e.2.2) ∧ kindOf e.1 = some (e.2.1, e.2.2) := by decide +kernel
theorem wordOf_mem {w : Bs} {k : Nat} {fs : List Fld} (h : wordOf w = some (k, fs)) : (k, w, fs) ∈ kinds := by
  unfold wordOf at h
  obtain ⟨e, he, h2⟩ := Option.map_eq_some_iff.1 h
  have h1 := List.find?_some he
  have hm := List.mem_of_find?_eq_some he
  simp only [beq_iff_eq] at h1
  obtain ⟨a, b, c⟩ := e
  simp only [Prod.mk.injEq] at h2
  obtain ⟨rfl, rfl⟩ := h2
  simp only at h1
  subst h1
  exact hm
theorem kindOf_mem {k : Int} {w : Bs} {fs : List Fld} (h : kindOf k = some (w, fs)) : ∃ j : Nat, k = j ∧ (j, w, fs) ∈ kinds := by
  unfold kindOf at h
  obtain ⟨e, he, h2⟩ := Option.map_eq_some_iff.1 h
  have h1 := List.find?_some he
  have hm := List.mem_of_find?_eq_some he
  simp only [beq_iff_eq] at h1
  obtain ⟨a, b, c⟩ := e
  simp only [Prod.mk.injEq] at h2
  obtain ⟨rfl, rfl⟩ := h2
  exact ⟨a, h1.symm, hm⟩
theorem kind_iff {k : Int} {w : Bs} {fs : List Fld} : kindOf k = some (w, fs) ↔ ∃ j : Nat, k = j ∧ wordOf w = some (j, fs) := by
  constructor
  · intro h
    obtain ⟨j, rfl, hm⟩ := kindOf_mem h
    exact ⟨j, rfl, (kinds_fields _ hm).2.2.2.1⟩
  · rintro ⟨j, rfl, h⟩
    exact (kinds_fields _ (wordOf_mem h)).2.2.2.2
/-- May the fields be told? -/
def fewF (o : OpV) (fs : List Fld) : Bool := fs.all fun f => f.isText || decide (fewD (o.num f))
/-- An operation's line. -/
def printL (o : OpV) : Option Bs :=
  match kindOf o.kind with
  | some (w, fs) => if fewF o fs = true ∧ copyAll o fs { kind := o.kind } = o then some (w ++ body o fs) else none
  | none => none
/-- The bytes up to a blank. -/
def word (l : Bs) : Bs := l.takeWhile (· != 32)
def parseF : List Fld → Bs → OpV → Option OpV
  | [], rest, o => if rest = [] then some o else none
  | f :: fs, rest, o =>
    match rest with
    | [] => none
    | c :: r =>
      if c = 32 then
        if f.isText then
          match takeL r with
          | some (b, r') => parseF fs r' (o.setTxt f b)
          | none => none
        else
          match numL (word r) with
          | some n => parseF fs (r.drop (word r).length) (o.setNum f n)
          | none => none
      else none
/-- The operation of a line. -/
def parseL (line : Bs) : Option OpV :=
  match wordOf (word line) with
  | some (k, fs) => parseF fs (line.drop (word line).length) { kind := k }
  | none => none
theorem word_app {a b : Bs} (ha : ∀ c ∈ a, c ≠ 32) (hb : b = [] ∨ ∃ r, b = 32 :: r) : word (a ++ b) = a := by
  unfold word
  rw [List.takeWhile_append_of_pos (by simpa using ha)]
  rcases hb with rfl | ⟨r, rfl⟩ <;> simp
theorem word_drop (l : Bs) : l = word l ++ l.drop (word l).length := by
  unfold word
  conv => lhs; rw [← List.takeWhile_append_dropWhile (p := (· != 32)) (l := l)]
  congr 1
  conv => rhs; rw [← List.takeWhile_append_dropWhile (p := (· != 32)) (l := l)]
  rw [List.takeWhile_append_dropWhile (p := (· != 32)) (l := l)]
  conv => rhs; rw [← List.takeWhile_append_dropWhile (p := (· != 32)) (l := l), List.drop_append_of_le_length (by rw [List.takeWhile_append_dropWhile]; exact Nat.le_refl _)]
  rw [List.takeWhile_append_dropWhile]; simp
theorem itoa_chars (n : Int) : ∀ c ∈ Lib.itoa n, c = 45 ∨ (48 ≤ c.toNat ∧ c.toNat ≤ 57) := by
  have hd : ∀ u, ∀ c ∈ Lib.decDigits u, 48 ≤ c.toNat ∧ c.toNat ≤ 57 := by
    intro u
    induction u using Lib.decDigits.induct with
    | case1 u h =>
      intro c hc
      rw [Lib.decDigits, dif_pos h] at hc
      obtain rfl := List.mem_singleton.1 hc
      rw [digit_toNat h]; omega
    | case2 u h ih =>
      intro c hc
      rw [Lib.decDigits, dif_neg h] at hc
      rcases List.mem_append.1 hc with hc | hc
      · exact ih c hc
      · obtain rfl := List.mem_singleton.1 hc
        rw [digit_toNat (Nat.mod_lt _ (by omega))]; have := Nat.mod_lt u (show 0 < 10 by omega); omega
  intro c hc
  unfold Lib.itoa at hc
  split at hc
  · rcases List.mem_cons.1 hc with h | h
    · exact .inl h
    · exact .inr (hd _ c h)
  · exact .inr (hd _ c hc)
theorem itoa_no32 (n : Int) : ∀ c ∈ Lib.itoa n, c ≠ 32 := by
  rintro c hc rfl
  rcases itoa_chars n _ hc with h | h
  · cases h
  · simp at h
theorem body_start (o : OpV) (fs : List Fld) : body o fs = [] ∨ ∃ r, body o fs = 32 :: r := by
  cases fs with
  | nil => exact .inl rfl
  | cons f r => exact .inr ⟨render o f ++ body o r, by simp [body]⟩
theorem parseF_body (o : OpV) : ∀ (fs : List Fld) (t : OpV), fewF o fs = true → parseF fs (body o fs) t = some (copyAll o fs t) := by
  intro fs
  induction fs with
  | nil => intro t _; rfl
  | cons f fs ih =>
    intro t h
    unfold fewF at h
    rw [List.all_cons, Bool.and_eq_true] at h
    have hb : body o (f :: fs) = 32 :: (render o f ++ body o fs) := by simp [body]
    have hc : copyAll o (f :: fs) t = copyAll o fs (t.copy f o) := rfl
    rw [hb, hc]
    simp only [parseF, if_true]
    by_cases ht : f.isText = true
    · have hr : render o f = quoteL (o.txt f) := by unfold render; rw [if_pos ht]
      have hcp : t.copy f o = t.setTxt f (o.txt f) := by unfold OpV.copy; rw [if_pos ht]
      rw [if_pos ht, hr, takeL_quote, hcp]
      exact ih _ h.2
    · have hr : render o f = Lib.itoa (o.num f) := by unfold render; rw [if_neg ht]
      have hcp : t.copy f o = t.setNum f (o.num f) := by unfold OpV.copy; rw [if_neg ht]
      have hf : fewD (o.num f) := by
        have := h.1
        simp [ht] at this
        exact this
      rw [if_neg ht, hr, word_app (itoa_no32 _) (body_start o fs), numL_iff.2 ⟨rfl, hf⟩, List.drop_left, hcp]
      exact ih _ h.2
theorem copy_txt_other {t o : OpV} {f g : Fld} (h : f ≠ g) : (t.copy f o).txt g = t.txt g := by
  cases f <;> cases g <;> first | rfl | exact absurd rfl h
theorem copy_num_other {t o : OpV} {f g : Fld} (h : f ≠ g) : (t.copy f o).num g = t.num g := by
  cases f <;> cases g <;> first | rfl | exact absurd rfl h
theorem copyAll_other {o : OpV} {g : Fld} : ∀ {fs : List Fld} {t : OpV}, g ∉ fs → (copyAll o fs t).txt g = t.txt g ∧ (copyAll o fs t).num g = t.num g := by
  intro fs
  induction fs with
  | nil => intro t _; exact ⟨rfl, rfl⟩
  | cons f fs ih =>
    intro t h
    simp only [List.mem_cons, not_or] at h
    obtain ⟨h1, h2⟩ := ih (t := t.copy f o) h.2
    exact ⟨h1.trans (copy_txt_other (fun e => h.1 e.symm)), h2.trans (copy_num_other (fun e => h.1 e.symm))⟩
theorem copyAll_kind {o : OpV} : ∀ {fs : List Fld} {t : OpV}, (copyAll o fs t).kind = t.kind := by
  intro fs
  induction fs with
  | nil => intro t; rfl
  | cons f fs ih =>
    intro t
    refine (ih (t := t.copy f o)).trans ?_
    cases f <;> rfl
theorem setTxt_txt {t : OpV} {f : Fld} {b : Bs} (h : f.isText = true) : (t.setTxt f b).txt f = b := by cases f <;> first | rfl | cases h
theorem setNum_num {t : OpV} {f : Fld} {b : Int} (h : ¬ f.isText = true) : (t.setNum f b).num f = b := by cases f <;> first | rfl | exact absurd rfl h
theorem parseF_some : ∀ {fs : List Fld} {rest : Bs} {t o : OpV}, fs.Nodup → parseF fs rest t = some o → rest = body o fs ∧ fewF o fs = true ∧ o = copyAll o fs t := by
  intro fs
  induction fs with
  | nil =>
    intro rest t o _ h
    simp only [parseF] at h
    split at h
    · next e => cases h; exact ⟨e, rfl, rfl⟩
    · cases h
  | cons f fs ih =>
    intro rest t o hn h
    rw [List.nodup_cons] at hn
    cases rest with
    | nil => simp [parseF] at h
    | cons c r =>
      simp only [parseF] at h
      split at h
      · next hc =>
        subst hc
        have hb : body o (f :: fs) = 32 :: (render o f ++ body o fs) := by simp [body]
        split at h
        · next ht =>
          split at h
          · next b r' hk =>
            obtain ⟨h1, h2, h3⟩ := ih hn.2 h
            have hv : o.txt f = b := by rw [h3, (copyAll_other hn.1).1, setTxt_txt ht]
            have hcp : t.copy f o = t.setTxt f b := by unfold OpV.copy; rw [if_pos ht, hv]
            have hr : render o f = quoteL b := by unfold render; rw [if_pos ht, hv]
            refine ⟨?_, ?_, ?_⟩
            · rw [hb, hr, takeL_some hk, h1]
            · unfold fewF at h2 ⊢
              rw [List.all_cons, h2, ht]; rfl
            · conv => lhs; rw [h3]
              show _ = copyAll o fs (t.copy f o)
              rw [hcp]
          · cases h
        · next ht =>
          split at h
          · next m hk =>
            obtain ⟨h1, h2, h3⟩ := ih hn.2 h
            obtain ⟨e, hf⟩ := numL_iff.1 hk
            have hv : o.num f = m := by rw [h3, (copyAll_other hn.1).2, setNum_num ht]
            have hcp : t.copy f o = t.setNum f m := by unfold OpV.copy; rw [if_neg ht, hv]
            have hr : render o f = Lib.itoa m := by unfold render; rw [if_neg ht, hv]
            refine ⟨?_, ?_, ?_⟩
            · rw [hb, hr, ← h1, ← e, ← word_drop]
            · unfold fewF at h2 ⊢
              rw [List.all_cons, h2, hv, decide_eq_true hf]; simp
            · conv => lhs; rw [h3]
              show _ = copyAll o fs (t.copy f o)
              rw [hcp]
          · cases h
      · cases h
/-- What is parsed is what is printed so. -/
theorem parseL_iff {line : Bs} {o : OpV} : parseL line = some o ↔ printL o = some line := by
  constructor
  · intro h
    unfold parseL at h
    split at h
    · next k fs hw =>
      have hk := kinds_fields _ (wordOf_mem hw)
      obtain ⟨h1, h2, h3⟩ := parseF_some hk.1 h
      have hkd : o.kind = k := by rw [h3, copyAll_kind]
      unfold printL
      rw [hkd, hk.2.2.2.2]
      simp only
      rw [if_pos ⟨h2, h3.symm⟩, ← h1, ← word_drop]
    · cases h
  · intro h
    unfold printL at h
    split at h
    · next w fs hk =>
      split at h
      · next hc =>
        cases h
        obtain ⟨j, hj, hm⟩ := kindOf_mem hk
        have hf := kinds_fields _ hm
        have hw : word (w ++ body o fs) = w := word_app (fun c h => by rintro rfl; have := hf.2.2.1 _ h; simp at this) (body_start o fs)
        unfold parseL
        rw [hw, hf.2.2.2.1]
        simp only
        rw [List.drop_left, parseF_body o fs _ hc.1, ← hj, hc.2]
      · cases h
    · cases h
/-- The reference's words of a line: a quoted text is one. -/
def splR (q : Bool) (cur : Bs) : Bs → List Bs
  | [] => [cur]
  | c :: r =>
    if c = 32 ∧ q = false then cur :: splR false [] r
    else if c = 92 ∧ q = true then
      match r with
      | [] => [cur ++ [92]]
      | d :: r2 => splR true (cur ++ [92, d]) r2
    else if c = 34 ∧ (q = true ∨ cur = []) then splR (!q) (cur ++ [34]) r
    else splR q (cur ++ [c]) r
theorem splR_cons (q : Bool) (cur : Bs) (c : UInt8) (r : Bs) : splR q cur (c :: r) = if c = 32 ∧ q = false then cur :: splR false [] r
    else if c = 92 ∧ q = true then
      match r with
      | [] => [cur ++ [92]]
      | d :: r2 => splR true (cur ++ [92, d]) r2
    else if c = 34 ∧ (q = true ∨ cur = []) then splR (!q) (cur ++ [34]) r
    else splR q (cur ++ [c]) r := by rw [splR.eq_def]; rfl
def splL (l : Bs) : List Bs := splR false [] l
theorem splR_word (a : Bs) : ∀ (cur b : Bs), (∀ c ∈ a, c ≠ 32) → (cur = [] → a.head? ≠ some 34) → splR false cur (a ++ b) = splR false (cur ++ a) b ∨ (cur = [] ∧ a = []) := by
  induction a with
  | nil => intro cur b _ _; left; simp
  | cons c r ih =>
    intro cur b h1 h2
    left
    have hc := h1 c (by simp)
    have e : splR false cur ((c :: r) ++ b) = splR false (cur ++ [c]) (r ++ b) := by
      rw [List.cons_append]
      rw [splR_cons]
      rw [if_neg (fun h => hc h.1), if_neg (fun h => by cases h.2), if_neg]
      rintro ⟨rfl, h | h⟩
      · cases h
      · exact h2 h rfl
    rw [e]
    rcases ih (cur ++ [c]) b (fun d hd => h1 d (by simp [hd])) (fun h => by simp at h) with h | h
    · rw [h, List.append_assoc]; rfl
    · simp at h
theorem splR_esc (b : Bs) : ∀ (cur rest : Bs), splR true cur (b.flatMap escB ++ rest) = splR true (cur ++ b.flatMap escB) rest := by
  induction b with
  | nil => intro cur rest; simp
  | cons c r ih =>
    intro cur rest
    rw [List.flatMap_cons, List.append_assoc]
    by_cases h1 : c = 34 ∨ c = 92
    · have e : escB c = [92, c] := by unfold escB; rw [if_pos h1]
      rw [e]
      simp only [List.cons_append, List.nil_append]
      rw [splR_cons, if_neg (by simp), if_pos ⟨rfl, rfl⟩]
      simp only
      rw [ih]
      simp
    · by_cases h2 : 32 ≤ c.toNat ∧ c.toNat ≤ 126
      · have e : escB c = [c] := by unfold escB; rw [if_neg h1, if_pos h2]
        simp only [not_or] at h1
        rw [e]
        simp only [List.cons_append, List.nil_append]
        rw [splR_cons, if_neg (by simp), if_neg (by simp [h1]), if_neg (by simp [h1]), ih]
        simp
      · have e : escB c = [92, 120, hexD (c.toNat / 16), hexD (c.toNat % 16)] := by unfold escB; rw [if_neg h1, if_neg h2]
        have hc : c.toNat < 256 := c.toNat_lt
        have hx : ∀ n, n < 16 → hexD n ≠ 92 ∧ hexD n ≠ 34 := fun n hn => by
          have := hexD_toNat hn
          constructor
          · intro e; rw [e] at this; simp at this; split at this <;> omega
          · intro e; rw [e] at this; simp at this; split at this <;> omega
        have ha := hx (c.toNat / 16) (by omega)
        have hb := hx (c.toNat % 16) (by omega)
        rw [e]
        simp only [List.cons_append, List.nil_append]
        rw [splR_cons, if_neg (by simp), if_pos ⟨rfl, rfl⟩]
        simp only
        rw [splR_cons, if_neg (by simp), if_neg (by simp [ha]), if_neg (by simp [ha]), splR_cons, if_neg (by simp), if_neg (by simp [hb]), if_neg (by simp [hb]), ih]
        simp
theorem splR_quote (b rest : Bs) : splR false [] (quoteL b ++ rest) = splR false (quoteL b) rest := by
  unfold quoteL
  rw [List.cons_append, List.append_assoc, splR_cons, if_neg (by simp), if_neg (by simp), if_pos ⟨rfl, .inr rfl⟩]
  rw [show (!false) = true from rfl, splR_esc, List.singleton_append, splR_cons, if_neg (by simp), if_neg (by simp), if_pos ⟨rfl, .inl rfl⟩]
  simp
theorem splR_render (o : OpV) (f : Fld) (rest : Bs) : splR false [] (render o f ++ rest) = splR false (render o f) rest := by
  unfold render
  split
  · exact splR_quote _ _
  · rcases splR_word (Lib.itoa (o.num f)) [] rest (itoa_no32 _) (fun _ h => by
      have := List.mem_of_mem_head? (by rw [h]; rfl : (34 : UInt8) ∈ (Lib.itoa (o.num f)).head?)
      rcases itoa_chars _ _ this with h | h
      · cases h
      · simp at h) with h | ⟨_, h⟩
    · rw [h]; rfl
    · rw [h]; rfl
theorem splR_body (o : OpV) : ∀ (fs : List Fld) (cur : Bs), splR false cur (body o fs) = cur :: fs.map (render o) := by
  intro fs
  induction fs with
  | nil => intro cur; rfl
  | cons f fs ih =>
    intro cur
    have hb : body o (f :: fs) = 32 :: (render o f ++ body o fs) := by simp [body]
    rw [hb, splR_cons, if_pos ⟨rfl, rfl⟩, splR_render, ih, List.map_cons]
theorem splL_print {o : OpV} {w : Bs} {fs : List Fld} (hm : ∃ k, (k, w, fs) ∈ kinds) : splL (w ++ body o fs) = w :: fs.map (render o) := by
  obtain ⟨k, hm⟩ := hm
  have hf := kinds_fields _ hm
  unfold splL
  rcases splR_word w [] (body o fs) (fun c h => by rintro rfl; have := hf.2.2.1 _ h; simp at this) (fun _ h => by
    have := hf.2.2.1 34 (List.mem_of_mem_head? (by rw [h]; rfl))
    simp at this) with h | ⟨_, h⟩
  · rw [h, splR_body]; rfl
  · exact absurd h hf.2.1
/-- What the reference reads of the words behind the first. -/
def readR : List Fld → List Bs → OpV → Option OpV
  | f :: fs, w :: ws, t =>
    if f.isText then
      match unqL w with
      | some b => readR fs ws (t.setTxt f b)
      | none => none
    else
      match refN w with
      | some n => readR fs ws (t.setNum f n)
      | none => none
  | _, _, t => some t
/-- The reference's operation of a line. -/
def parseR (line : Bs) : Option OpV :=
  match splL line with
  | [] => none
  | w :: ws =>
    match wordOf w with
    | some (k, fs) => if ws.length = fs.length then
        match readR fs ws { kind := k } with
        | some o => if printL o = some line then some o else none
        | none => none
      else none
    | none => none
theorem readR_render (o : OpV) : ∀ (fs : List Fld) (t : OpV), fewF o fs = true → readR fs (fs.map (render o)) t = some (copyAll o fs t) := by
  intro fs
  induction fs with
  | nil => intro t _; rfl
  | cons f fs ih =>
    intro t h
    unfold fewF at h
    rw [List.all_cons, Bool.and_eq_true] at h
    have hc : copyAll o (f :: fs) t = copyAll o fs (t.copy f o) := rfl
    rw [hc, List.map_cons]
    simp only [readR]
    by_cases ht : f.isText = true
    · have hr : render o f = quoteL (o.txt f) := by unfold render; rw [if_pos ht]
      have hcp : t.copy f o = t.setTxt f (o.txt f) := by unfold OpV.copy; rw [if_pos ht]
      rw [if_pos ht, hr, unqL_iff.2 rfl, hcp]
      exact ih _ h.2
    · have hr : render o f = Lib.itoa (o.num f) := by unfold render; rw [if_neg ht]
      have hcp : t.copy f o = t.setNum f (o.num f) := by unfold OpV.copy; rw [if_neg ht]
      have hf : fewD (o.num f) := by
        have := h.1
        simp [ht] at this
        exact this
      rw [if_neg ht, hr, refN_iff.2 ⟨rfl, hf⟩, hcp]
      exact ih _ h.2
theorem parseR_iff {line : Bs} {o : OpV} : parseR line = some o ↔ printL o = some line := by
  constructor
  · intro h
    unfold parseR at h
    split at h
    · cases h
    · split at h
      · split at h
        · split at h
          · split at h
            · next e => cases h; exact e
            · cases h
          · cases h
        · cases h
      · cases h
  · intro h
    have h0 := h
    unfold printL at h
    split at h
    · next w fs hk =>
      split at h
      · next hc =>
        cases h
        obtain ⟨j, hj, hm⟩ := kindOf_mem hk
        have hf := kinds_fields _ hm
        have hs := splL_print (o := o) ⟨_, hm⟩
        unfold parseR
        rw [hs]
        simp only
        rw [hf.2.2.2.1]
        simp only [List.length_map, if_true]
        rw [readR_render o fs _ hc.1, ← hj, hc.2]
        simp only
        rw [if_pos h0]
      · cases h
    · cases h
theorem parse_same (line : Bs) : parseR line = parseL line := by
  cases h : parseR line with
  | some o => exact (parseL_iff.2 (parseR_iff.1 h)).symm
  | none =>
    cases h2 : parseL line with
    | some o => rw [parseR_iff.2 (parseL_iff.1 h2)] at h; cases h
    | none => rfl

/-- A text as the model has it. -/
def sB (l : Bs) : ByteArray := ⟨l.toArray⟩
theorem sB_data (l : Bs) : (sB l).data.toList = l := by simp [sB]
theorem data_sB (s : ByteArray) : sB s.data.toList = s := by obtain ⟨⟨l⟩⟩ := s; rfl
theorem sB_size (l : Bs) : (sB l).size = l.length := by simp [sB, ByteArray.size]
theorem sB_inj {a b : Bs} (h : sB a = sB b) : a = b := by have := congrArg (fun s => s.data.toList) h; simpa [sB_data] using this
theorem sB_app (a b : Bs) : sB a ++ sB b = sB (a ++ b) := by
  apply ByteArray.ext
  simp [sB]
theorem escB_len (c : UInt8) : 1 ≤ (escB c).length ∧ (escB c).length ≤ 4 := by
  unfold escB
  split
  · simp
  · split <;> simp
theorem flat_len (l : Bs) : (l.flatMap escB).length ≤ 4 * l.length := by
  induction l with
  | nil => simp
  | cons c r ih => rw [List.flatMap_cons, List.length_append]; have := (escB_len c).2; simp only [List.length_cons]; omega
theorem quoteL_len (l : Bs) : 2 ≤ (quoteL l).length ∧ (quoteL l).length ≤ 4 * l.length + 2 := by
  unfold quoteL
  have := flat_len l
  simp only [List.length_cons, List.length_append, List.length_nil]
  omega
end Go.Proofs.YteglbmindbfkeaaGreatDoor.H
