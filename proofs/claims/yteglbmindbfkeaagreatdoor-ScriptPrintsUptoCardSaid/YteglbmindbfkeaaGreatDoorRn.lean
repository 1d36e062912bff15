/- The reference's name of a kind. -/
import Derived.Test.YteglbmindbfkeaaGreatDoorFo
namespace Go.Proofs.YteglbmindbfkeaaGreatDoor.H
open Go.RowKit Go.Proofs.YteglbmindbfkeaaGreatDoorW.PrintWords
set_option linter.unusedVariables false
set_option linter.unusedSimpArgs false
def nameL (k : Int) : Bs := match kindOf k with
  | some (w, _) => w
  | none => []
theorem kindOf_out {k : Int} (h : k < 1 ∨ 20 ≤ k) : kindOf k = none := by
  cases hk : kindOf k with
  | none => rfl
  | some p =>
    obtain ⟨w, fs⟩ := p
    obtain ⟨j, rfl, hm⟩ := kindOf_mem hk
    have : ∀ e ∈ kinds, 1 ≤ e.1 ∧ e.1 < 20 := by decide
    have := this _ hm
    simp only at this
    omega
def nmL : List Value := [.string ⟨#[]⟩, .string ⟨#[111, 112, 101, 110]⟩, .string ⟨#[99, 108, 111, 115, 101]⟩, .string ⟨#[114, 101, 97, 100]⟩, .string ⟨#[119, 114, 105, 116, 101]⟩, .string ⟨#[116, 114, 117, 110, 99, 97, 116, 101]⟩, .string ⟨#[115, 116, 97, 116]⟩, .string ⟨#[108, 105, 115, 116]⟩, .string ⟨#[109, 107, 100, 105, 114]⟩, .string ⟨#[114, 109, 100, 105, 114]⟩, .string ⟨#[108, 105, 110, 107]⟩, .string ⟨#[117, 110, 108, 105, 110, 107]⟩, .string ⟨#[114, 101, 110, 97, 109, 101]⟩, .string ⟨#[102, 115, 121, 110, 99]⟩, .string ⟨#[115, 121, 110, 99]⟩, .string ⟨#[99, 104, 101, 99, 107, 112, 111, 105, 110, 116]⟩, .string ⟨#[99, 108, 101, 97, 110]⟩, .string ⟨#[99, 111, 109, 112, 97, 99, 116]⟩, .string ⟨#[101, 118, 105, 99, 116]⟩, .string ⟨#[114, 101, 109, 111, 117, 110, 116]⟩]
set_option maxRecDepth 100000 in
theorem nmL_eq : nmL = (List.range 20).map fun (i : Nat) => Value.string (sB (nameL (i : Int))) := by rfl
theorem nmL_at {i : Nat} (h : i < 20) : nmL[i]? = some (.string (sB (nameL (i : Int)))) := by
  rw [nmL_eq, List.getElem?_map, List.getElem?_range h]
  rfl
set_option maxRecDepth 100000 in
set_option maxHeartbeats 1000000 in
theorem rname_any (k : Int) (w : World) (h0 : -9223372036854775808 ≤ k) (h1 : k ≤ 9223372036854775807) : Calls Tryz.prog 50 #[.int .i64 k] w fun e w' => e = .returned (.string (sB (nameL k))) ∧ Below w.heap.size w w' := by
  by_cases hk : k < 1 ∨ 20 ≤ k
  · have HK := Aside0.mk (show nameL k = [] by unfold nameL; rw [kindOf_out hk])
    rcases hk with hk | hk
    · go_enter Tryz.func50, Tryz.ntmps50
      go_wp2
      go_ret
      exact ⟨by rw [HK.out]; rfl, below_alloc (Below.refl _ _) _⟩
    · have hk2 : ¬ k < 1 := by omega
      go_enter Tryz.func50, Tryz.ntmps50
      go_wp2
      go_ret
      exact ⟨by rw [HK.out]; rfl, below_alloc (Below.refl _ _) _⟩
  · have hk0 : ¬ k < 1 := by omega
    have hk2 : ¬ 20 ≤ k := by omega
    have hn : 0 ≤ k := by omega
    obtain ⟨n, rfl⟩ : ∃ n : Nat, k = n := ⟨k.toNat, by omega⟩
    have hc := nmL_at (show n < 20 by omega)
    unfold nmL at hc
    obtain ⟨T, hT⟩ : ∃ T, sB (nameL (n : Int)) = T := ⟨_, rfl⟩
    rw [hT] at hc ⊢
    clear hT hk
    go_enter Tryz.func50, Tryz.ntmps50
    go_wp2
    go_ret
    exact ⟨rfl, below_alloc (Below.refl _ _) _⟩
end Go.Proofs.YteglbmindbfkeaaGreatDoor.H
