/- Results as values; what a result's line is; rows of texts that are read; strings.Join of four texts. -/
import Derived.Test.YteglbmindbfkeaaDoorRz
import Derived.Test.YteglbmindbfkeaaDoorAw
namespace Go.Proofs.YteglbmindbfkeaaDoor.H
open Go.RowKit Go.Proofs.YteglbmindbfkeaaDoorW.PrintWords Go.Proofs.YteglbmindbfkeaaDoorW.PrintLast Go.Proofs.YteglbmindbfkeaaDoorW.PrintMore
set_option linter.unusedVariables false
set_option linter.unusedSimpArgs false
/-- A result but for its names' place. -/
structure ResV where
  err : Int := 0
  handle : Int := 0
  n : Int := 0
  data : Bs := []
  number : Int := 0
  dir : Bool := false
  size : Int := 0
  links : Int := 0
  names : List Bs := []
def resC (r : ResV) (A : Option Addr) (c : Nat) : Array Value := #[.int .i64 r.err, .int .i64 r.handle, .int .i64 r.n, .string (sB r.data), .int .i64 r.number, .bool r.dir, .int .i64 r.size, .int .i64 r.links, .slice A r.names.length c]
/-- A row of texts that is read. -/
structure RdS (w : World) (A : Option Addr) (n : Nat) (xs : List Bs) : Prop where
  len : xs.length = n
  at_ : ∀ (j : Nat) x, xs[j]? = some x → ∃ ad, A = some ad ∧ w.cell? (ad.add j) = some (.string (sB x))
theorem RdS.below {w w' : World} {A : Option Addr} {n : Nat} {xs : List Bs} (h : RdS w A n xs) (hb : Below w.heap.size w w') : RdS w' A n xs :=
  ⟨h.len, fun j x hj => by obtain ⟨ad, h1, h2⟩ := h.at_ j x hj; exact ⟨ad, h1, cell_later hb h2⟩⟩
def I64 (n : Int) : Prop := -9223372036854775808 ≤ n ∧ n ≤ 9223372036854775807
/-- The numbers are ints, the texts small. -/
structure ResOk (r : ResV) : Prop where
  err : I64 r.err
  handle : I64 r.handle
  n : I64 r.n
  number : I64 r.number
  size : I64 r.size
  links : I64 r.links
  data : r.data.length ≤ 1048576
  names : (r.names.flatMap fun x => 32 :: x).length ≤ 1048576
def statL (r : ResV) : Bs := Lib.itoa r.number ++ 32 :: ((if r.dir then [100, 105, 114] else [102, 105, 108, 101]) ++ 32 :: (Lib.itoa r.size ++ 32 :: Lib.itoa r.links))
def joinS (xs : List Bs) : Bs := (xs.flatMap fun x => 32 :: x).tail
def namesL (xs : List Bs) : Bs := if xs = [] then [45] else joinS (xs.map quoteL)
/-- A result's line. -/
def resL (o : OpV) (r : ResV) : Bs :=
  if r.err ≠ 0 then [101, 114, 114, 111, 114, 32] ++ Lib.itoa r.err
  else if o.kind = 1 then Lib.itoa r.handle
  else if o.kind = 3 then quoteL r.data
  else if o.kind = 4 then Lib.itoa r.n
  else if o.kind = 6 then statL r
  else if o.kind = 7 then namesL r.names
  else [111, 107]
theorem joinS_take {xs : List Bs} {i : Nat} {x : Bs} (h : xs[i]? = some x) : joinS (xs.take (i + 1)) = if i = 0 then x else joinS (xs.take i) ++ 32 :: x := by
  unfold joinS
  rw [List.take_add_one, h, Option.toList, List.flatMap_append]
  by_cases h0 : i = 0
  · subst h0; simp
  · rw [if_neg h0]
    obtain ⟨h1, _⟩ := List.getElem?_eq_some_iff.1 h
    cases xs with
    | nil => simp at h1
    | cons y r =>
      obtain ⟨k, rfl⟩ : ∃ k, i = k + 1 := ⟨i - 1, by omega⟩
      simp
theorem joinS_inter (xs : List Bs) (h : xs ≠ []) : Lib.join xs [32] = joinS xs := by
  have key : ∀ (r : List Bs) (x : Bs), Lib.join (x :: r) [32] = x ++ r.flatMap fun y => 32 :: y := by
    intro r
    induction r with
    | nil => intro x; simp [Lib.join, List.intercalate]
    | cons y r ih =>
      intro x
      have := ih y
      simp only [Lib.join, List.intercalate] at this ⊢
      rw [List.intersperse_cons_cons, List.flatten_cons, List.flatten_cons, this]
      simp
  cases xs with
  | nil => exact absurd rfl h
  | cons x r => rw [key]; unfold joinS; rw [List.flatMap_cons]; rfl
theorem joinS_len (xs : List Bs) (i : Nat) : (joinS ((xs.map quoteL).take i)).length ≤ 4 * (xs.flatMap fun x => 32 :: x).length := by
  unfold joinS
  rw [List.length_tail]
  have h2 : (((xs.map quoteL).take i).flatMap fun x => 32 :: x).length ≤ ((xs.map quoteL).flatMap fun x => 32 :: x).length := by
    conv => rhs; rw [← List.take_append_drop i (xs.map quoteL), List.flatMap_append, List.length_append]
    omega
  have h1 : ((xs.map quoteL).flatMap fun x => 32 :: x).length ≤ 4 * (xs.flatMap fun x => 32 :: x).length := by
    clear h2
    induction xs with
    | nil => simp
    | cons x r ih =>
      rw [List.map_cons, List.flatMap_cons, List.flatMap_cons, List.length_append, List.length_append, List.length_cons, List.length_cons]
      have := (quoteL_len x).2
      omega
  omega
theorem names_count (xs : List Bs) : xs.length ≤ (xs.flatMap fun x => 32 :: x).length := by
  induction xs with
  | nil => simp
  | cons x r ih => rw [List.flatMap_cons, List.length_append, List.length_cons, List.length_cons]; omega
theorem names_each {xs : List Bs} {x : Bs} (h : x ∈ xs) : x.length ≤ (xs.flatMap fun x => 32 :: x).length := by
  induction xs with
  | nil => simp at h
  | cons y r ih =>
    rw [List.flatMap_cons, List.length_append, List.length_cons]
    rcases List.mem_cons.1 h with rfl | h
    · omega
    · have := ih h; omega
/-- strings.Join of a row that the caller made. -/
theorem join_row {W : World} {g N c : Nat} {xs : List Bs} (h : StrRow W g xs) (hn : xs.length = N) (hN : N ≤ 140737488355328) (hc : N ≤ c) (h0 : xs ≠ []) (hl : (joinS xs).length ≤ 140737488355328) :
    Calls Tryd.prog 39 #[.slice (some ⟨g, 0, none⟩) N c, .string ⟨#[32]⟩] W fun e w' => e = .returned (.string (sB (joinS xs))) ∧ Below W.heap.size W w' := by
  have hmap : (xs.map sB).map (·.data.toList) = xs := by rw [List.map_map]; exact (List.map_congr_left (fun y _ => sB_data y)).trans (List.map_id _)
  have hj : Lib.join ((xs.map sB).map (·.data.toList)) (⟨#[32]⟩ : ByteArray).data.toList = joinS xs := by rw [hmap]; exact joinS_inter xs h0
  have hk := Tryd.strings_Join g 0 c (xs.map sB) ⟨#[32]⟩ W (fun j y hy => by
    rw [List.getElem?_map] at hy
    obtain ⟨z, hz, rfl⟩ := Option.map_eq_some_iff.1 hy
    rw [Nat.zero_add]
    exact h.cell hz) h.lt (by rw [List.length_map]; omega) (by rw [List.length_map]; omega) (by rw [hj]; exact hl)
  rw [List.length_map, hn, hj] at hk
  exact hk
theorem join_four (W : World) (a b c d : Bs) (hl : a.length + b.length + c.length + d.length ≤ 1048576) :
    Calls Tryd.prog 39 #[.slice (some ⟨W.heap.size, 0, none⟩) 4 4, .string ⟨#[32]⟩] (W.alloc (.cells #[.string (sB a), .string (sB b), .string (sB c), .string (sB d)] 9)) fun e w' => e = .returned (.string (sB (a ++ 32 :: (b ++ 32 :: (c ++ 32 :: d))))) ∧ Below W.heap.size W w' := by
  have hj : joinS [a, b, c, d] = a ++ 32 :: (b ++ 32 :: (c ++ 32 :: d)) := by simp [joinS]
  have := join_row (W := W.alloc (.cells #[.string (sB a), .string (sB b), .string (sB c), .string (sB d)] 9)) (g := W.heap.size) (N := 4) (c := 4) (xs := [a, b, c, d]) ⟨_, blk_new W _, fun j x hx => by
    match j, hx with
    | 0, h => cases h; rfl
    | 1, h => cases h; rfl
    | 2, h => cases h; rfl
    | 3, h => cases h; rfl
    | j + 4, h => simp at h⟩ rfl (by omega) (by omega) (by simp) (by rw [hj]; simp; omega)
  rw [hj] at this
  refine this.mono ?_
  rintro e w' ⟨rfl, hB⟩
  exact ⟨rfl, (below_alloc (Below.refl W.heap.size W) _).trans (hB.mono (by simp))⟩
end Go.Proofs.YteglbmindbfkeaaDoor.H
