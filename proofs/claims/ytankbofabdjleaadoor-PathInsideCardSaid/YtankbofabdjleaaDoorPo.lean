/- Paths: PathInside as a contract. -/
import Derived.Test.YtankbofabdjleaaDoorPn
namespace Go.Proofs.YtankbofabdjleaaDoor.H
open Go.RowKit Go.Proofs.YtankbofabdjleaaDoorW.PrintWords Go.Proofs.YtankbofabdjleaaDoorW.PrintLast Go.Proofs.YtankbofabdjleaaDoorW.PrintMore
set_option linter.unusedVariables false
set_option linter.unusedSimpArgs false

/-- A contract that serves in every later world. -/
def Later (w : World) (f : FuncId) (args : Array Value) (b : Bool) : Prop := ∀ W, Below w.heap.size w W → Calls Tryd.prog f args W fun e w' => e = .returned (.bool b) ∧ Below W.heap.size W w'
theorem later_p {w : World} {A B : Option Addr} {n m c d : Nat} {xs ys : List Bs} (ha : RdP w A n c xs) (hb : RdP w B m d ys) : Later w 24 #[.slice A n c, .slice B m d] (insideB xs ys) :=
  fun W h => pinside_any A B n m c d xs ys W (ha.below h) (hb.below h)
theorem later_r {w : World} {A B : Option Addr} {n m c d : Nat} {xs ys : List Bs} (ha : RdP w A n c xs) (hb : RdP w B m d ys) : Later w 25 #[.slice A n c, .slice B m d] (insideB xs ys) :=
  fun W h => rinside_any A B n m c d xs ys W (ha.below h).toRdS (hb.below h).toRdS

set_option maxRecDepth 100000 in
set_option maxHeartbeats 4000000 in
theorem inside_any (m : Int) (A0 A1 A2 : Option Addr) (n0 n1 n2 c0 c1 c2 : Nat) (a b c : List Bs) (w : World) (h0 : RdP w A0 n0 c0 a) (h1 : RdP w A1 n1 c1 b) (h2 : RdP w A2 n2 c2 c) (hm : w.cell? ⟨0, 0, none⟩ = some (.int .i64 m)) :
    Calls Tryd.prog 8 #[.slice A0 n0 c0, .slice A1 n1 c1, .slice A2 n2 c2] w fun e w' => e = .returned (.bool true) ∧ Below w.heap.size w w' := by
  have HM := Aside0.mk hm
  clear hm
  have kab := later_p h0 h1
  have rab := later_r h0 h1
  have kbc := later_p h1 h2
  have rbc := later_r h1 h2
  have kaa := later_p h0 h0
  have kba := later_p h1 h0
  have kac := later_p h0 h2
  rw [insideB_self] at kaa
  clear h0 h1 h2
  cases i1 : insideB a b with
  | false =>
    rw [i1] at kab rab
    clear kba kac i1
    obtain ⟨i2, hi2⟩ : ∃ i, insideB b c = i := ⟨_, rfl⟩
    rw [hi2] at kbc rbc
    clear hi2
    cases i2 with
    | false =>
      have K0 := Aside0.mk kab
      have K1 := Aside0.mk kbc
      have K2 := Aside0.mk kaa
      have K3 := Aside0.mk kab
      have K4 := Aside0.mk kab
      have R0 := Aside0.mk rab
      have R1 := Aside0.mk rbc
      clear kab rab kbc rbc kaa
      go_enter Tryd.func8, Tryd.ntmps8
      go_wp2_with (first
        | (go_at_call 10; refine (awake_any m _ HM.out).mono ?_; rintro e w1 ⟨rfl, hA⟩; have HA := Aside0.mk hA; clear hA)
        | (go_at_call 24; refine (K0.out _ HA.out.below).mono ?_; rintro e w1 ⟨rfl, hB⟩; have HA := Aside0.mk (HA.out.next hB); clear hB K0)
        | (go_at_call 24; refine (K1.out _ HA.out.below).mono ?_; rintro e w1 ⟨rfl, hB⟩; have HA := Aside0.mk (HA.out.next hB); clear hB K1)
        | (go_at_call 24; refine (K2.out _ HA.out.below).mono ?_; rintro e w1 ⟨rfl, hB⟩; have HA := Aside0.mk (HA.out.next hB); clear hB K2)
        | (go_at_call 24; refine (K3.out _ HA.out.below).mono ?_; rintro e w1 ⟨rfl, hB⟩; have HA := Aside0.mk (HA.out.next hB); clear hB K3)
        | (go_at_call 24; refine (K4.out _ HA.out.below).mono ?_; rintro e w1 ⟨rfl, hB⟩; have HA := Aside0.mk (HA.out.next hB); clear hB K4)
        | (go_at_call 25; refine (R0.out _ HA.out.below).mono ?_; rintro e w1 ⟨rfl, hB⟩; have HA := Aside0.mk (HA.out.next hB); clear hB R0)
        | (go_at_call 25; refine (R1.out _ HA.out.below).mono ?_; rintro e w1 ⟨rfl, hB⟩; have HA := Aside0.mk (HA.out.next hB); clear hB R1))
      go_ret
      exact ⟨rfl, HA.out.below⟩
    | true =>
      have K0 := Aside0.mk kab
      have K1 := Aside0.mk kbc
      have K2 := Aside0.mk kaa
      have K3 := Aside0.mk kab
      have K4 := Aside0.mk kab
      have R0 := Aside0.mk rab
      have R1 := Aside0.mk rbc
      clear kab rab kbc rbc kaa
      go_enter Tryd.func8, Tryd.ntmps8
      go_wp2_with (first
        | (go_at_call 10; refine (awake_any m _ HM.out).mono ?_; rintro e w1 ⟨rfl, hA⟩; have HA := Aside0.mk hA; clear hA)
        | (go_at_call 24; refine (K0.out _ HA.out.below).mono ?_; rintro e w1 ⟨rfl, hB⟩; have HA := Aside0.mk (HA.out.next hB); clear hB K0)
        | (go_at_call 24; refine (K1.out _ HA.out.below).mono ?_; rintro e w1 ⟨rfl, hB⟩; have HA := Aside0.mk (HA.out.next hB); clear hB K1)
        | (go_at_call 24; refine (K2.out _ HA.out.below).mono ?_; rintro e w1 ⟨rfl, hB⟩; have HA := Aside0.mk (HA.out.next hB); clear hB K2)
        | (go_at_call 24; refine (K3.out _ HA.out.below).mono ?_; rintro e w1 ⟨rfl, hB⟩; have HA := Aside0.mk (HA.out.next hB); clear hB K3)
        | (go_at_call 24; refine (K4.out _ HA.out.below).mono ?_; rintro e w1 ⟨rfl, hB⟩; have HA := Aside0.mk (HA.out.next hB); clear hB K4)
        | (go_at_call 25; refine (R0.out _ HA.out.below).mono ?_; rintro e w1 ⟨rfl, hB⟩; have HA := Aside0.mk (HA.out.next hB); clear hB R0)
        | (go_at_call 25; refine (R1.out _ HA.out.below).mono ?_; rintro e w1 ⟨rfl, hB⟩; have HA := Aside0.mk (HA.out.next hB); clear hB R1))
      go_ret
      exact ⟨rfl, HA.out.below⟩
  | true =>
    have i3 := insideB_anti i1
    rw [i1] at kab rab
    rw [i3] at kba
    cases i2 : insideB b c with
    | false =>
      rw [i2] at kbc rbc
      clear i1 i2 i3
      have K0 := Aside0.mk kab
      have K1 := Aside0.mk kbc
      have K2 := Aside0.mk kaa
      have K3 := Aside0.mk kab
      have K4 := Aside0.mk kba
      have K5 := Aside0.mk kab
      have K6 := Aside0.mk kbc
      have R0 := Aside0.mk rab
      have R1 := Aside0.mk rbc
      clear kab rab kbc rbc kaa kba kac
      go_enter Tryd.func8, Tryd.ntmps8
      go_wp2_with (first
        | (go_at_call 10; refine (awake_any m _ HM.out).mono ?_; rintro e w1 ⟨rfl, hA⟩; have HA := Aside0.mk hA; clear hA)
        | (go_at_call 24; refine (K0.out _ HA.out.below).mono ?_; rintro e w1 ⟨rfl, hB⟩; have HA := Aside0.mk (HA.out.next hB); clear hB K0)
        | (go_at_call 24; refine (K1.out _ HA.out.below).mono ?_; rintro e w1 ⟨rfl, hB⟩; have HA := Aside0.mk (HA.out.next hB); clear hB K1)
        | (go_at_call 24; refine (K2.out _ HA.out.below).mono ?_; rintro e w1 ⟨rfl, hB⟩; have HA := Aside0.mk (HA.out.next hB); clear hB K2)
        | (go_at_call 24; refine (K3.out _ HA.out.below).mono ?_; rintro e w1 ⟨rfl, hB⟩; have HA := Aside0.mk (HA.out.next hB); clear hB K3)
        | (go_at_call 24; refine (K4.out _ HA.out.below).mono ?_; rintro e w1 ⟨rfl, hB⟩; have HA := Aside0.mk (HA.out.next hB); clear hB K4)
        | (go_at_call 24; refine (K5.out _ HA.out.below).mono ?_; rintro e w1 ⟨rfl, hB⟩; have HA := Aside0.mk (HA.out.next hB); clear hB K5)
        | (go_at_call 24; refine (K6.out _ HA.out.below).mono ?_; rintro e w1 ⟨rfl, hB⟩; have HA := Aside0.mk (HA.out.next hB); clear hB K6)
        | (go_at_call 25; refine (R0.out _ HA.out.below).mono ?_; rintro e w1 ⟨rfl, hB⟩; have HA := Aside0.mk (HA.out.next hB); clear hB R0)
        | (go_at_call 25; refine (R1.out _ HA.out.below).mono ?_; rintro e w1 ⟨rfl, hB⟩; have HA := Aside0.mk (HA.out.next hB); clear hB R1))
      go_ret
      exact ⟨rfl, HA.out.below⟩
    | true =>
      have i4 := insideB_trans i1 i2
      rw [i2] at kbc rbc
      rw [i4] at kac
      clear i1 i2 i3 i4
      have K0 := Aside0.mk kab
      have K1 := Aside0.mk kbc
      have K2 := Aside0.mk kaa
      have K3 := Aside0.mk kab
      have K4 := Aside0.mk kba
      have K5 := Aside0.mk kab
      have K6 := Aside0.mk kbc
      have K7 := Aside0.mk kac
      have R0 := Aside0.mk rab
      have R1 := Aside0.mk rbc
      clear kab rab kbc rbc kaa kba kac
      go_enter Tryd.func8, Tryd.ntmps8
      go_wp2_with (first
        | (go_at_call 10; refine (awake_any m _ HM.out).mono ?_; rintro e w1 ⟨rfl, hA⟩; have HA := Aside0.mk hA; clear hA)
        | (go_at_call 24; refine (K0.out _ HA.out.below).mono ?_; rintro e w1 ⟨rfl, hB⟩; have HA := Aside0.mk (HA.out.next hB); clear hB K0)
        | (go_at_call 24; refine (K1.out _ HA.out.below).mono ?_; rintro e w1 ⟨rfl, hB⟩; have HA := Aside0.mk (HA.out.next hB); clear hB K1)
        | (go_at_call 24; refine (K2.out _ HA.out.below).mono ?_; rintro e w1 ⟨rfl, hB⟩; have HA := Aside0.mk (HA.out.next hB); clear hB K2)
        | (go_at_call 24; refine (K3.out _ HA.out.below).mono ?_; rintro e w1 ⟨rfl, hB⟩; have HA := Aside0.mk (HA.out.next hB); clear hB K3)
        | (go_at_call 24; refine (K4.out _ HA.out.below).mono ?_; rintro e w1 ⟨rfl, hB⟩; have HA := Aside0.mk (HA.out.next hB); clear hB K4)
        | (go_at_call 24; refine (K5.out _ HA.out.below).mono ?_; rintro e w1 ⟨rfl, hB⟩; have HA := Aside0.mk (HA.out.next hB); clear hB K5)
        | (go_at_call 24; refine (K6.out _ HA.out.below).mono ?_; rintro e w1 ⟨rfl, hB⟩; have HA := Aside0.mk (HA.out.next hB); clear hB K6)
        | (go_at_call 24; refine (K7.out _ HA.out.below).mono ?_; rintro e w1 ⟨rfl, hB⟩; have HA := Aside0.mk (HA.out.next hB); clear hB K7)
        | (go_at_call 25; refine (R0.out _ HA.out.below).mono ?_; rintro e w1 ⟨rfl, hB⟩; have HA := Aside0.mk (HA.out.next hB); clear hB R0)
        | (go_at_call 25; refine (R1.out _ HA.out.below).mono ?_; rintro e w1 ⟨rfl, hB⟩; have HA := Aside0.mk (HA.out.next hB); clear hB R1))
      go_ret
      exact ⟨rfl, HA.out.below⟩
end Go.Proofs.YtankbofabdjleaaDoor.H
