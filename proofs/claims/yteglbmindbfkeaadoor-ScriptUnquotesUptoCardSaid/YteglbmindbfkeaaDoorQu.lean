/- ScriptQuotes, ScriptUnquotes. -/
import Derived.Test.YteglbmindbfkeaaDoorAw
import Derived.Test.YteglbmindbfkeaaDoorQe
namespace Go.Proofs.YteglbmindbfkeaaDoor.H
open Go.RowKit Go.Proofs.YteglbmindbfkeaaDoorW.PrintWords Go.Proofs.YteglbmindbfkeaaDoorW.PrintLast Go.Proofs.YteglbmindbfkeaaDoorW.PrintMore
set_option linter.unusedVariables false
set_option linter.unusedSimpArgs false
set_option maxRecDepth 100000 in
set_option maxHeartbeats 2000000 in
theorem quotes_any (s : ByteArray) (w : World) (hE : Env w) (hs : s.size ≤ 1048576) : Calls Tryd.prog 6 #[.string s] w fun e w' => e = .returned (.bool true) ∧ Below w.heap.size w w' := by
  have hA := fun W h => awake_any W h
  have HE := Aside0.mk hE
  have hP := fun W => pquote_any s W (by omega)
  have hR := fun W => rquote_any s W (by omega)
  have hU := fun W => punquote_any (sB (quoteL s.data.toList)) W (by rw [sB_size]; have := (quoteL_len s.data.toList).2; rw [data_length] at this; omega)
  unfold unqV at hU
  rw [sB_data, unq_some rfl] at hU
  simp only [data_sB] at hU
  obtain ⟨T, hT⟩ : ∃ T, sB (quoteL s.data.toList) = T := ⟨_, rfl⟩
  simp only [hT] at hP hR hU
  clear hE hT
  go_enter Tryd.func6, Tryd.ntmps6
  go_wp2_with (first
    | (go_at_call 14; refine (hP _).mono ?_; rintro e w1 ⟨rfl, hB⟩; have HB1 := Aside0.mk hB; clear hB)
    | (go_at_call 15; refine (hU _).mono ?_; rintro e w2 ⟨rfl, hB⟩; have HB2 := Aside0.mk (HB1.out.trans (hB.mono HB1.out.size)); clear hB)
    | (go_at_call 9; refine (hA _ (HE.out.below HB2.out)).mono ?_; rintro e w3 ⟨rfl, hB⟩; have HB3 := Aside0.mk (HB2.out.trans (hB.mono HB2.out.size)); clear hB)
    | (go_at_call 16; refine (hR _).mono ?_; rintro e w4 ⟨rfl, hB⟩; have HB4 := Aside0.mk (HB3.out.trans (hB.mono HB3.out.size)); clear hB))
  go_ret
  exact ⟨rfl, HB4.out⟩
set_option maxRecDepth 100000 in
set_option maxHeartbeats 2000000 in
theorem unquotes_any (s : ByteArray) (w : World) (hE : Env w) (hs : s.size ≤ 1048576) : Calls Tryd.prog 7 #[.string s] w fun e w' => e = .returned (.bool true) ∧ Below w.heap.size w w' := by
  have hA := fun W h => awake_any W h
  have HE := Aside0.mk hE
  have hU := fun W => punquote_any s W (by omega)
  have hR := fun W => runquote_any s W (by omega)
  clear hE
  cases hq : unqL s.data.toList with
  | some b =>
    have hb := unqL_iff.1 hq
    have hbl : (sB b).size ≤ 34359738368 := by
      have h1 := congrArg List.length hb
      rw [data_length] at h1
      have h2 : b.length ≤ (quoteL b).length := by
        unfold quoteL
        rw [List.length_cons, List.length_append]
        have : b.length ≤ (b.flatMap escB).length := by
          clear h1 hb hq
          induction b with
          | nil => simp
          | cons c r ih =>
            rw [List.flatMap_cons, List.length_append, List.length_cons]
            have := (escB_len c).1
            omega
        omega
      rw [sB_size]
      omega
    have hP := fun W => pquote_any (sB b) W hbl
    rw [sB_data, hb, data_sB] at hP
    unfold unqV at hU hR
    rw [hq] at hU hR
    obtain ⟨T, hT⟩ : ∃ T, sB b = T := ⟨_, rfl⟩
    simp only [hT] at hP hR hU
    clear hT hq hb hbl
    go_enter Tryd.func7, Tryd.ntmps7
    go_wp2_with (first
      | (go_at_call 15; refine (hU _).mono ?_; rintro e w1 ⟨rfl, hB⟩; have HB1 := Aside0.mk hB; clear hB)
      | (go_at_call 17; refine (hR _).mono ?_; rintro e w2 ⟨rfl, hB⟩; have HB2 := Aside0.mk (HB1.out.trans (hB.mono HB1.out.size)); clear hB)
      | (go_at_call 9; refine (hA _ (HE.out.below HB2.out)).mono ?_; rintro e w3 ⟨rfl, hB⟩; have HB3 := Aside0.mk (HB2.out.trans (hB.mono HB2.out.size)); clear hB)
      | (go_at_call 14; refine (hP _).mono ?_; rintro e w4 ⟨rfl, hB⟩; have HB4 := Aside0.mk (HB3.out.trans (hB.mono HB3.out.size)); clear hB))
    go_ret
    exact ⟨rfl, HB4.out⟩
  | none =>
    unfold unqV at hU hR
    rw [hq] at hU hR
    clear hq
    go_enter Tryd.func7, Tryd.ntmps7
    go_wp2_with (first
      | (go_at_call 15; refine (hU _).mono ?_; rintro e w1 ⟨rfl, hB⟩; have HB1 := Aside0.mk hB; clear hB)
      | (go_at_call 17; refine (hR _).mono ?_; rintro e w2 ⟨rfl, hB⟩; have HB2 := Aside0.mk (HB1.out.trans (hB.mono HB1.out.size)); clear hB)
      | (go_at_call 9; refine (hA _ (HE.out.below HB2.out)).mono ?_; rintro e w3 ⟨rfl, hB⟩; have HB3 := Aside0.mk (HB2.out.trans (hB.mono HB2.out.size)); clear hB))
    go_ret
    exact ⟨rfl, HB3.out⟩
end Go.Proofs.YteglbmindbfkeaaDoor.H
