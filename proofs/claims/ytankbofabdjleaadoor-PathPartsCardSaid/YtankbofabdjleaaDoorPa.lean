/- Paths, plain: the pieces of a text between slashes; what Split, Parent, Join, Clean, Slash answer. -/
import Derived.Lib.SplitLaws
import Derived.Lib.Join
import Derived.Lib.TrimByte
import Derived.Lib.IndexMore
namespace Go.Proofs.YtankbofabdjleaaDoor.H
open Go
set_option linter.unusedVariables false
set_option linter.unusedSimpArgs false

abbrev Bs := List UInt8
/-- A text as the model has it. -/
def sB (l : Bs) : ByteArray := ⟨l.toArray⟩
theorem sB_data (l : Bs) : (sB l).data.toList = l := by simp [sB]
theorem data_sB (s : ByteArray) : sB s.data.toList = s := by obtain ⟨⟨l⟩⟩ := s; rfl
theorem sB_size (l : Bs) : (sB l).size = l.length := by simp [sB, ByteArray.size]
theorem sB_inj {a b : Bs} (h : sB a = sB b) : a = b := by have := congrArg (fun s => s.data.toList) h; simpa [sB_data] using this

/-- The pieces that have a byte; cur: what is read of the one at hand. -/
def pcsF (cur : Bs) : Bs → List Bs
  | [] => if cur = [] then [] else [cur]
  | c :: r => if c = 47 then (if cur = [] then pcsF [] r else cur :: pcsF [] r) else pcsF (cur ++ [c]) r
def pcs (l : Bs) : List Bs := pcsF [] l
/-- All pieces. -/
def allF (cur : Bs) : Bs → List Bs
  | [] => [cur]
  | c :: r => if c = 47 then cur :: allF [] r else allF (cur ++ [c]) r
theorem pcsF_eq (l : Bs) : ∀ cur, pcsF cur l = (allF cur l).filter (fun x => decide (x ≠ [])) := by
  induction l with
  | nil => intro cur; by_cases h : cur = [] <;> simp [pcsF, allF, h]
  | cons c r ih =>
    intro cur
    simp only [pcsF, allF]
    by_cases hc : c = 47
    · rw [if_pos hc, if_pos hc]
      by_cases h : cur = []
      · rw [if_pos h, ih, List.filter_cons_of_neg (by simp [h])]
      · rw [if_neg h, ih, List.filter_cons_of_pos (by simp [h])]
    · rw [if_neg hc, if_neg hc, ih]
theorem pcs_eq (l : Bs) : pcs l = (allF [] l).filter (fun x => decide (x ≠ [])) := pcsF_eq l []
theorem allF_none {s : Bs} (h : ∀ x ∈ s, x ≠ (47 : UInt8)) : ∀ cur, allF cur s = [cur ++ s] := by
  induction s with
  | nil => intro cur; simp [allF]
  | cons c r ih =>
    intro cur
    simp only [allF]
    rw [if_neg (h c (by simp)), ih (fun x hx => h x (by simp [hx]))]
    simp
theorem allF_hit {a b : Bs} (h : ∀ x ∈ a, x ≠ (47 : UInt8)) : ∀ cur, allF cur (a ++ 47 :: b) = (cur ++ a) :: allF [] b := by
  induction a with
  | nil => intro cur; simp [allF]
  | cons c r ih =>
    intro cur
    simp only [List.cons_append, allF]
    rw [if_neg (h c (by simp)), ih (fun x hx => h x (by simp [hx]))]
    simp
theorem index_at (s : Bs) : (Lib.index s [47] = -1 ∧ ∀ x ∈ s, x ≠ (47 : UInt8)) ∨ (∃ a b, s = a ++ 47 :: b ∧ (∀ x ∈ a, x ≠ (47 : UInt8)) ∧ Lib.index s [47] = (a.length : Nat)) := by
  induction s with
  | nil => left; simp [Lib.index]
  | cons c r ih =>
    by_cases hc : c = 47
    · right
      subst hc
      exact ⟨[], r, rfl, by simp, by rw [Lib.index]; simp [List.isPrefixOf]⟩
    · have hp : List.isPrefixOf [47] (c :: r) = false := by simp [List.isPrefixOf]; exact fun e => hc e.symm
      rcases ih with ⟨h1, h2⟩ | ⟨a, b, h1, h2, h3⟩
      · left
        refine ⟨by rw [Lib.index, hp, h1]; simp, fun x hx => ?_⟩
        rcases List.mem_cons.1 hx with rfl | hx
        · exact hc
        · exact h2 x hx
      · right
        refine ⟨c :: a, b, by rw [h1]; rfl, fun x hx => ?_, ?_⟩
        · rcases List.mem_cons.1 hx with rfl | hx
          · exact hc
          · exact h2 x hx
        · have hm : ¬ (Lib.index r [47] == -1) = true := by rw [h3]; simp <;> omega
          rw [Lib.index, hp, if_neg (by simp), if_neg hm, h3]
          simp
theorem splitK_all : ∀ (k : Nat) (s : Bs), s.count 47 ≤ k → Lib.splitK [47] 0 k s = allF [] s := by
  intro k
  induction k with
  | zero =>
    intro s h
    have hn : ∀ x ∈ s, x ≠ (47 : UInt8) := fun x hx e => by
      subst e
      have := List.count_pos_iff.2 hx
      omega
    rw [allF_none hn]
    simp [Lib.splitK]
  | succ k ih =>
    intro s h
    rcases index_at s with ⟨h1, h2⟩ | ⟨a, b, rfl, h2, h3⟩
    · rw [allF_none h2]
      unfold Lib.splitK
      rw [h1]
      simp
    · rw [allF_hit h2]
      have hm : ¬ (Lib.index (a ++ 47 :: b) [47] == -1) = true := by rw [h3]; simp <;> omega
      unfold Lib.splitK
      rw [if_neg hm, h3, Int.toNat_natCast, Nat.add_zero, List.take_append_of_le_length (Nat.le_refl _), List.take_length, List.nil_append]
      congr 1
      have e1 : (a ++ 47 :: b).drop (a.length + [(47 : UInt8)].length) = b := by
        rw [show a ++ 47 :: b = (a ++ [47]) ++ b by simp]
        exact List.drop_left' (by simp)
      rw [e1]
      refine ih b ?_
      rw [List.count_append, List.count_cons_self] at h
      omega
theorem splitB_all (p : ByteArray) : (Lib.splitB ⟨#[47]⟩ 0 (Lib.countB p ⟨#[47]⟩) p) = (allF [] p.data.toList).map sB := by
  have h := Lib.splitB_data ⟨#[47]⟩ 0 (Lib.countB p ⟨#[47]⟩) p
  have hc : Lib.countB p ⟨#[47]⟩ = p.data.toList.count 47 := Lib.count_one 47 p.data.toList
  rw [show (⟨#[47]⟩ : ByteArray).data.toList = [47] from rfl, splitK_all _ _ (by rw [hc]; exact Nat.le_refl _)] at h
  rw [← h, List.map_map]
  refine (List.map_id _).symm.trans ?_
  refine List.map_congr_left (fun x _ => ?_)
  exact (data_sB x).symm
theorem allF_length (l : Bs) : ∀ cur, (allF cur l).length = l.count 47 + 1 := by
  induction l with
  | nil => intro cur; simp [allF]
  | cons c r ih =>
    intro cur
    simp only [allF]
    by_cases hc : c = 47
    · subst hc; rw [if_pos rfl]; simp [ih]
    · rw [if_neg hc, ih, List.count_cons_of_ne (by simpa using fun e => hc e)]
theorem pcs_len (l : Bs) : (pcs l).length ≤ l.length + 1 := by
  rw [pcs_eq]
  have h1 := List.length_filter_le (fun x => decide (x ≠ ([] : Bs))) (allF [] l)
  have h2 := allF_length l []
  have h3 := List.count_le_length (a := (47 : UInt8)) (l := l)
  omega
/-- Why a path may not be, or 0. -/
def splitE (l : Bs) : Int :=
  if l = [] then 231 else if 512 < l.length then 241 else if l.head? ≠ some 47 ∨ (0 : UInt8) ∈ l then 236 else if (pcs l).any (fun x => decide (32 < x.length)) then 241 else 0
def splitL (l : Bs) : List Bs := if splitE l = 0 then pcs l else []
end Go.Proofs.YtankbofabdjleaaDoor.H
