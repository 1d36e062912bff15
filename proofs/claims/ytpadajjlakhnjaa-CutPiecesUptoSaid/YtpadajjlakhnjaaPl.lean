/- Plain facts on shapes and first cuts: no program in sight. -/
import Derived.Test.YtpadajjlakhnjaaWMore
import Derived.WalkKit
import Derived.Laws.BitsLemmas
import Derived.KernelRfl
namespace Go.Proofs.Ytpadajjlakhnjaa.H
open Go.RowKit Go.Proofs.YtpadajjlakhnjaaW.PrintWords Go.Proofs.YtpadajjlakhnjaaW.PrintLast Go.Proofs.YtpadajjlakhnjaaW.PrintMore
set_option linter.unusedVariables false
set_option linter.unusedSimpArgs false

/-- The powers of two from 16 to 65536. -/
def pows : List Int := [16, 32, 64, 128, 256, 512, 1024, 2048, 4096, 8192, 16384, 32768, 65536]

theorem land_pred (k n : Nat) (h1 : 2 ^ k < n) (h2 : n < 2 ^ (k + 1)) : n &&& (n - 1) ≠ 0 := by
  intro h
  have t1 : n.testBit k = true := Nat.testBit_of_two_pow_le_and_two_pow_add_one_gt (by omega) h2
  have t2 : (n - 1).testBit k = true := Nat.testBit_of_two_pow_le_and_two_pow_add_one_gt (by omega) (by omega)
  have := congrArg (fun x => x.testBit k) h
  simp [t1, t2] at this

theorem pow_of (n : Int) (h0 : 16 ≤ n) (h1 : n ≤ 65536) : (Go.bits .and .i64 n (n - 1) = 0) ↔ n ∈ pows := by
  obtain ⟨m, rfl⟩ := Int.eq_ofNat_of_zero_le (show 0 ≤ n by omega)
  have hw : (m : Int) - 1 = ((m - 1 : Nat) : Int) := by omega
  rw [hw, (bits_nat .i64 20 (by decide) (fun n h0 h1 => by rw [IntKind.wrap_i64]; omega) m (m - 1) (by omega) (by omega)).1]
  constructor
  · intro h
    have h' : m &&& (m - 1) = 0 := by exact_mod_cast h
    have key : ∀ k, 2 ^ k < m → m < 2 ^ (k + 1) → False := fun k a b => land_pred k m a b h'
    have k4 : ¬ (16 < m ∧ m < 32) := fun x => key 4 x.1 x.2
    have k5 : ¬ (32 < m ∧ m < 64) := fun x => key 5 x.1 x.2
    have k6 : ¬ (64 < m ∧ m < 128) := fun x => key 6 x.1 x.2
    have k7 : ¬ (128 < m ∧ m < 256) := fun x => key 7 x.1 x.2
    have k8 : ¬ (256 < m ∧ m < 512) := fun x => key 8 x.1 x.2
    have k9 : ¬ (512 < m ∧ m < 1024) := fun x => key 9 x.1 x.2
    have k10 : ¬ (1024 < m ∧ m < 2048) := fun x => key 10 x.1 x.2
    have k11 : ¬ (2048 < m ∧ m < 4096) := fun x => key 11 x.1 x.2
    have k12 : ¬ (4096 < m ∧ m < 8192) := fun x => key 12 x.1 x.2
    have k13 : ¬ (8192 < m ∧ m < 16384) := fun x => key 13 x.1 x.2
    have k14 : ¬ (16384 < m ∧ m < 32768) := fun x => key 14 x.1 x.2
    have k15 : ¬ (32768 < m ∧ m < 65536) := fun x => key 15 x.1 x.2
    clear key h h'
    simp only [pows, List.mem_cons, List.not_mem_nil, or_false]
    omega
  · intro h
    simp only [pows, List.mem_cons, List.not_mem_nil, or_false] at h
    have hm : m = 16 ∨ m = 32 ∨ m = 64 ∨ m = 128 ∨ m = 256 ∨ m = 512 ∨ m = 1024 ∨ m = 2048 ∨ m = 4096 ∨ m = 8192 ∨ m = 16384 ∨ m = 32768 ∨ m = 65536 := by omega
    rcases hm with rfl | rfl | rfl | rfl | rfl | rfl | rfl | rfl | rfl | rfl | rfl | rfl | rfl <;> decide

/-- What both Checks come to. -/
def check (a0 a1 a2 : Int) : Int := if a1 ∈ pows ∧ 1 ≤ a0 ∧ a0 ≤ a1 ∧ a1 ≤ a2 ∧ a2 ≤ 8 * a1 then 0 else 50

theorem pows_bound {a : Int} (h : a ∈ pows) : 16 ≤ a ∧ a ≤ 65536 := by
  simp only [pows, List.mem_cons, List.not_mem_nil, or_false] at h
  omega
theorem check_bad {a0 a1 a2 : Int} (h : ¬ (1 ≤ a0 ∧ a0 ≤ a1 ∧ a1 ≤ a2 ∧ a2 ≤ 8 * a1)) : check a0 a1 a2 = 50 := if_neg (fun x => h x.2)
theorem check_else {a0 a1 a2 : Int} (h : ¬ check a0 a1 a2 = 0) : check a0 a1 a2 = 50 := by
  unfold check at h ⊢
  split
  · rename_i h1; rw [if_pos h1] at h; exact absurd rfl h
  · rfl
theorem check_ok {a0 a1 a2 : Int} (hc : check a0 a1 a2 = 0) : a1 ∈ pows ∧ 1 ≤ a0 ∧ a0 ≤ a1 ∧ a1 ≤ a2 ∧ a2 ≤ 8 * a1 := by
  unfold check at hc
  split at hc
  · assumption
  · cases hc
def gearV (s b : Int) : Int := Go.bits .xor .u64 (IntKind.u64.wrap ((Go.bits .xor .u64 (IntKind.u64.wrap ((Go.bits .xor .u64 (IntKind.u64.wrap (s + (IntKind.u64.wrap b))) ((IntKind.u64.wrap (s + (IntKind.u64.wrap b))) / 1073741824)) * 13787848793156543929)) ((IntKind.u64.wrap ((Go.bits .xor .u64 (IntKind.u64.wrap (s + (IntKind.u64.wrap b))) ((IntKind.u64.wrap (s + (IntKind.u64.wrap b))) / 1073741824)) * 13787848793156543929)) / 134217728)) * 10723151780598845931)) ((IntKind.u64.wrap ((Go.bits .xor .u64 (IntKind.u64.wrap ((Go.bits .xor .u64 (IntKind.u64.wrap (s + (IntKind.u64.wrap b))) ((IntKind.u64.wrap (s + (IntKind.u64.wrap b))) / 1073741824)) * 13787848793156543929)) ((IntKind.u64.wrap ((Go.bits .xor .u64 (IntKind.u64.wrap (s + (IntKind.u64.wrap b))) ((IntKind.u64.wrap (s + (IntKind.u64.wrap b))) / 1073741824)) * 13787848793156543929)) / 134217728)) * 10723151780598845931)) / 2147483648)
def bitsAt (kk a1 i : Int) : Int := if i < a1 then kk + 1 else kk - 1
/-- From i on, d places: where the bits are nought. -/
def scan (l : List Int) (kk a1 a3 : Int) : Nat → Int → Int → Option Int
  | 0, _, _ => none
  | d + 1, h, i =>
    let h' := IntKind.u64.wrap (IntKind.u64.wrap (h * 2) + gearV a3 (rd l i))
    if shr .u64 h' (64 - bitsAt kk a1 i) = 0 then some i else scan l kk a1 a3 d h' (i + 1)
theorem scan_lt (l : List Int) (kk a1 a3 : Int) (d : Nat) : ∀ (h i j : Int), scan l kk a1 a3 d h i = some j → i ≤ j ∧ j < i + d := by
  induction d with
  | zero => intro h i j hs; simp [scan] at hs
  | succ d ih =>
    intro h i j hs
    simp only [scan] at hs
    split at hs
    · injection hs with hs; omega
    · have := ih _ _ _ hs; omega

def lg (a : Int) : Int := (Nat.log2 a.toNat : Int)
theorem pows_cases {a : Int} (h : a ∈ pows) : a = 16 ∨ a = 32 ∨ a = 64 ∨ a = 128 ∨ a = 256 ∨ a = 512 ∨ a = 1024 ∨ a = 2048 ∨ a = 4096 ∨ a = 8192 ∨ a = 16384 ∨ a = 32768 ∨ a = 65536 := by
  simpa only [pows, List.mem_cons, List.not_mem_nil, or_false] using h
theorem lg_spec {a : Int} (h : a ∈ pows) : 4 ≤ lg a ∧ lg a ≤ 16 ∧ (2 : Int) ^ (lg a).toNat = a := by
  rcases pows_cases h with rfl | rfl | rfl | rfl | rfl | rfl | rfl | rfl | rfl | rfl | rfl | rfl | rfl <;> decide +kernel
/-- The first cut, and whether it is sure. -/
def firstV (a0 a1 a2 a3 : Int) (l : List Int) : Int :=
  if (l.length : Int) ≤ a0 then l.length else (scan l (lg a1) a1 a3 (min (l.length : Int) a2 - a0).toNat 0 a0).getD (min (l.length : Int) a2)
def sureV (a0 a1 a2 a3 : Int) (l : List Int) : Bool := !(firstV a0 a1 a2 a3 l == l.length && decide (firstV a0 a1 a2 a3 l < a2))

/-- The first cut of what is not empty: 1 to all of it; at most a2; and at least a0, where it is not all. -/
theorem firstV_bound {a0 a1 a2 : Int} (a3 : Int) (hc : check a0 a1 a2 = 0) (l : List Int) : 0 ≤ firstV a0 a1 a2 a3 l ∧ firstV a0 a1 a2 a3 l ≤ l.length ∧ firstV a0 a1 a2 a3 l ≤ a2 ∧ (0 < l.length → 1 ≤ firstV a0 a1 a2 a3 l) ∧ (firstV a0 a1 a2 a3 l < l.length → a0 ≤ firstV a0 a1 a2 a3 l) := by
  have h := check_ok hc
  unfold firstV
  split
  · omega
  · cases hsc : scan l (lg a1) a1 a3 (min (l.length : Int) a2 - a0).toNat 0 a0 with
    | some j => have hj := scan_lt _ _ _ _ _ _ _ _ hsc; simp only [Option.getD_some]; omega
    | none => simp only [Option.getD_none]; omega
end Go.Proofs.Ytpadajjlakhnjaa.H
