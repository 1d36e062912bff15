/- The reference's ReadNumber: a dash ahead, and all together (under way). -/
import Derived.Test.YteglbmindbfkeaaGreatDoorRr
namespace Go.Proofs.YteglbmindbfkeaaGreatDoor.H
open Go.RowKit Go.Proofs.YteglbmindbfkeaaGreatDoorW.PrintWords
set_option linter.unusedVariables false
set_option linter.unusedSimpArgs false
theorem rread_nil (w : World) : Calls Tryz.prog 77 #[.string (sB [])] w fun e w' => RdN (refN []) e ∧ w' = w := by
  have hz : (sB []).size = 0 := rfl
  obtain ⟨Y, hY⟩ : ∃ Y, sB [] = Y := ⟨_, rfl⟩
  rw [hY] at hz ⊢
  go_enter Tryz.func77, Tryz.ntmps77
  go_wp2
  refine bodyPost_ret (v := .tuple #[.int .i64 0, .bool false]) (by simp [results, Tryz.f77, go_sem]) rfl ⟨⟨0, false, rfl, by decide, by decide, (fun h => by cases h), fun _ => rfl⟩, rfl⟩
set_option maxRecDepth 100000 in
set_option maxHeartbeats 600000 in
theorem rread_dash0 (Y Z : ByteArray) (R S : Option Int) (w : World) (hz : 2 ≤ Y.size) (hz2 : Y.size ≤ 34359738369) (hx0 : ∀ W, (Instr.index 9 (.string Y) (.int .i64 0)).run Tryz.prog W = .ok (.int .u8 45) W) (hex : Y.extract 1 Y.size = Z)
    (hR : S = R.bind fun n => if 0 < n then some (-n) else none) (ih : ∀ W, Calls Tryz.prog 77 #[.string Z] W fun e w' => RdN R e ∧ w' = W) :
    Calls Tryz.prog 77 #[.string Y] w fun e w' => RdN S e ∧ w' = w := by
  unfold RdN at ih
  have HR := Aside0.mk hR
  clear hR
  go_enter Tryz.func77, Tryz.ntmps77
  go_wp2_with (go_at_call 77; refine (ih _).mono ?_; rintro e w1 ⟨⟨n, ok, rfl, n0, n1, g1, g2⟩, rfl⟩; have HG := Aside0.mk (RdN.neg g1 g2); clear g1 g2)
  · have h9 : ok = true := by assumption
    subst h9
    refine bodyPost_ret (v := .tuple #[.int .i64 (-n), .bool (decide (0 < n))]) (by simp [results, Tryz.f77, go_sem]) rfl ⟨⟨-n, decide (0 < n), rfl, by omega, by omega, fun h => ?_, fun h => ?_⟩, rfl⟩
    · rw [HR.out]; exact HG.out.1 (by simpa using h)
    · rw [HR.out]; exact HG.out.2 (by simpa using h)
  · have h9 : ¬ ok = true := by assumption
    refine bodyPost_ret (v := .tuple #[.int .i64 (-n), .bool false]) (by simp [results, Tryz.f77, go_sem]) rfl ⟨⟨-n, false, rfl, by omega, by omega, (fun h => by cases h), fun h => ?_⟩, rfl⟩
    rw [HR.out]; exact HG.out.2 (by simp [h9])
theorem rread_dash (r : Bs) (w : World) (hl : r.length ≤ 34359738368) (hr : 1 ≤ r.length) (ih : ∀ W, Calls Tryz.prog 77 #[.string (sB r)] W fun e w' => RdN (refN r) e ∧ w' = W) :
    Calls Tryz.prog 77 #[.string (sB (45 :: r))] w fun e w' => RdN (refN (45 :: r)) e ∧ w' = w :=
  rread_dash0 (sB (45 :: r)) (sB r) (refN r) (refN (45 :: r)) w (by rw [sB_size, List.length_cons]; omega) (by rw [sB_size, List.length_cons]; omega)
    (fun W => sidx (l := 45 :: r) (i := 0) (c := 45) rfl 0 rfl W) (by rw [ext_drop, sB_data]; rfl)
    (by rw [refN, if_pos ⟨rfl, fun e => by rw [e] at hr; simp at hr⟩]) ih
set_option maxRecDepth 100000 in
set_option maxHeartbeats 600000 in
theorem rread_long (Y : ByteArray) (w : World) (k : Int) (hz : 18 < Y.size) (hz2 : Y.size ≤ 34359738369) (hk : k ≠ 45) (hx0 : ∀ W, (Instr.index 9 (.string Y) (.int .i64 0)).run Tryz.prog W = .ok (.int .u8 k) W) :
    Calls Tryz.prog 77 #[.string Y] w fun e w' => RdN none e ∧ w' = w := by
  have f45 : (k == 45) = false := by simpa using hk
  clear hk
  go_enter Tryz.func77, Tryz.ntmps77
  go_wp2_with fail
  refine bodyPost_ret (v := .tuple #[.int .i64 0, .bool false]) (by simp [results, Tryz.f77, go_sem]) rfl ⟨⟨0, false, rfl, by decide, by decide, (fun h => by cases h), fun _ => rfl⟩, rfl⟩
set_option maxRecDepth 100000 in
set_option maxHeartbeats 600000 in
theorem rread_zero (Y : ByteArray) (w : World) (hz : 1 < Y.size) (hz2 : Y.size ≤ 18) (hx0 : ∀ W, (Instr.index 9 (.string Y) (.int .i64 0)).run Tryz.prog W = .ok (.int .u8 48) W) :
    Calls Tryz.prog 77 #[.string Y] w fun e w' => RdN none e ∧ w' = w := by
  go_enter Tryz.func77, Tryz.ntmps77
  go_wp2_with fail
  refine bodyPost_ret (v := .tuple #[.int .i64 0, .bool false]) (by simp [results, Tryz.f77, go_sem]) rfl ⟨⟨0, false, rfl, by decide, by decide, (fun h => by cases h), fun _ => rfl⟩, rfl⟩
theorem refN_digits {c : UInt8} {r : Bs} (h : ¬ (c = 45 ∧ r ≠ [])) : refN (c :: r) = (refU (c :: r)).map fun n : Nat => (n : Int) := by rw [refN, if_neg h]
theorem rread_any (l : Bs) : ∀ (w : World), l.length ≤ 34359738368 → Calls Tryz.prog 77 #[.string (sB l)] w fun e w' => RdN (refN l) e ∧ w' = w := by
  induction l with
  | nil => intro w _; exact rread_nil w
  | cons c r ih =>
    intro w hl
    rw [List.length_cons] at hl
    by_cases hd : c = 45 ∧ r ≠ []
    · obtain ⟨rfl, hr⟩ := hd
      exact rread_dash r w (by omega) (List.length_pos_iff.2 hr) fun W => ih W (by omega)
    · rw [refN_digits hd]
      have hx0 := fun W => sidx (l := c :: r) (i := 0) (c := c) rfl 0 rfl W
      have hr : r.length = 0 ∨ c ≠ 45 := by
        by_cases e : r = []
        · left; rw [e]; rfl
        · right; exact fun h => hd ⟨h, e⟩
      by_cases h18 : 18 < (c :: r).length
      · rw [show refU (c :: r) = none by unfold refU; rw [if_pos (.inr (.inl h18))]]
        rw [List.length_cons] at h18
        refine rread_long _ w c.toNat (by rw [sB_size, List.length_cons]; omega) (by rw [sB_size, List.length_cons]; omega) (fun e => ?_) hx0
        rcases hr with hr | hr
        · omega
        · exact hr (UInt8.toNat_inj.1 (by simpa using Int.ofNat_inj.1 e))
      · by_cases h0 : 1 < (c :: r).length ∧ c = 48
        · obtain ⟨h1, rfl⟩ := h0
          rw [show refU (48 :: r) = none by unfold refU; rw [if_pos (.inr (.inr ⟨h1, rfl⟩))]]
          exact rread_zero _ w (by rw [sB_size]; exact h1) (by rw [sB_size]; omega) hx0
        · rw [show refU (c :: r) = valD 0 (c :: r) by
            unfold refU
            rw [if_neg]
            rintro (h | h | h)
            · rw [List.length_cons] at h; omega
            · exact h18 h
            · exact h0 ⟨h.1, by simpa using h.2⟩]
          refine rread_digits (c :: r) w (by rw [List.length_cons]; omega) (by omega) c rfl (fun h => ?_) h0
          rw [List.length_cons] at h
          rcases hr with hr | hr
          · omega
          · exact hr h.2
end Go.Proofs.YteglbmindbfkeaaGreatDoor.H
