/- What the calls lean on; the program's number and short as contracts. -/
import Derived.Test.YteglbmindbfkeaaGreatDoorQc
namespace Go.Proofs.YteglbmindbfkeaaGreatDoor.H
open Go.RowKit Go.Proofs.YteglbmindbfkeaaGreatDoorW.PrintWords
set_option linter.unusedVariables false
set_option linter.unusedSimpArgs false

theorem var_below {W W' : World} {n : String} {cs : Array Value} (h : Below W.heap.size W W') (hv : W.var? Tryz.prog n = some cs) : W'.var? Tryz.prog n = some cs := by
  unfold World.var? at hv ⊢
  cases hg : Tryz.prog.globalNamed n with
  | none => rw [hg] at hv; cases hv
  | some g =>
    rw [hg] at hv
    have hv : (match W.heap[g]? with | some (.cells cs _ _) => some cs | _ => none) = some cs := hv
    show (match W'.heap[g]? with | some (.cells cs _ _) => some cs | _ => none) = some cs
    cases ho : W.heap[g]? with
    | none => rw [ho] at hv; cases hv
    | some o => rw [h.block g (blk_lt ho)]; exact hv
/-- What lies in the variables that the calls read. -/
structure Env (w : World) : Prop where
  tab : Lib.TabIs Tryz.prog w "internal/strconv.uint64pow10" .u64 Lib.pow10Tab
  syn : ∃ tp p, w.var? Tryz.prog "strconv.ErrSyntax" = some #[.iface tp p]
  rng : ∃ tp p, w.var? Tryz.prog "strconv.ErrRange" = some #[.iface tp p]
  m : ∃ m, w.cell? ⟨0, 0, none⟩ = some (.int .i64 m)
theorem Env.below {w w' : World} (h : Env w) (hb : Below w.heap.size w w') : Env w' :=
  ⟨var_below hb h.tab, h.syn.elim fun tp h => h.elim fun p h => ⟨tp, p, var_below hb h⟩, h.rng.elim fun tp h => h.elim fun p h => ⟨tp, p, var_below hb h⟩, h.m.elim fun m h => ⟨m, cell_later hb h⟩⟩
theorem below_grow {w : World} (k : Nat) (os : Array Obj) : Below w.heap.size w (Sort.grow (w.drewN k) os) := by
  refine ⟨rfl, rfl, rfl, ?_, fun j hj => ?_⟩
  · unfold Sort.grow; simp
  · unfold Sort.grow
    simp [Array.getElem?_append, hj]
theorem below_bytes {w : World} (t : ByteArray) : Below w.heap.size w (Lib.bytesWorld w 5 t) := by
  first | exact Lib.bytesWorld_below _ _ _ | (unfold Lib.bytesWorld; exact below_alloc (Below.refl _ _) _)
/-- strconv.Itoa as the walks use it. -/
theorem itoa_any (n : Int) (w : World) (hE : Env w) (h0 : -9223372036854775808 ≤ n) (h1 : n ≤ 9223372036854775807) :
    Calls Tryz.prog 42 #[.int .i64 n] w fun e w' => e = .returned (.string (sB (Lib.itoa n))) ∧ Below w.heap.size w w' := by
  refine (Tryz.strconv_Itoa n h0 h1 w hE.tab).mono ?_
  rintro e w' ⟨rfl, k, os, rfl⟩
  exact ⟨rfl, below_grow k os⟩
theorem trim_45 (l : Bs) : Lib.trimPrefix l [45] = unsign l := by
  unfold Lib.trimPrefix Lib.hasPrefix unsign
  cases l with
  | nil => rfl
  | cons c r =>
    by_cases h : c = 45
    · subst h; simp
    · have h1 : ¬ (45 : UInt8) = c := fun e => h e.symm
      have h2 : ¬ some c = some (45 : UInt8) := fun e => h (Option.some.inj e)
      rw [List.head?_cons, if_neg h2]
      simp [h1]
theorem trim_any (s : ByteArray) (w : World) : Calls Tryz.prog 63 #[.string s, .string ⟨#[45]⟩] w fun e w' => e = .returned (.string (sB (unsign s.data.toList))) ∧ w' = w := by
  have h := Tryz.strings_TrimPrefix s ⟨#[45]⟩ w
  rw [show (ByteArray.data ⟨#[45]⟩).toList = [45] from rfl, trim_45] at h
  exact h

set_option maxRecDepth 100000 in
set_option maxHeartbeats 1000000 in
theorem short_any (n : Int) (w : World) (hE : Env w) (h0 : -9223372036854775808 ≤ n) (h1 : n ≤ 9223372036854775807) :
    Calls Tryz.prog 41 #[.int .i64 n] w fun e w' => e = .returned (.bool (decide (fewD n))) ∧ Below w.heap.size w w' := by
  have hf := fewD_iff n
  rw [show (unsign (Lib.itoa n)).length = (sB (unsign (Lib.itoa n))).size from (sB_size _).symm] at hf
  have hI := fun W h => itoa_any n W h h0 h1
  obtain ⟨T, hT⟩ : ∃ T, sB (Lib.itoa n) = T := ⟨_, rfl⟩
  have hTr := fun W => trim_any T W
  rw [← hT, sB_data, hT] at hTr
  rw [hT] at hI
  obtain ⟨Z, hZ⟩ : ∃ Z, sB (unsign (Lib.itoa n)) = Z := ⟨_, rfl⟩
  rw [hZ] at hTr hf
  have hb : decide ((Z.size : Int) ≤ 18) = decide (fewD n) := by
    by_cases h : fewD n
    · rw [decide_eq_true h, decide_eq_true (by have := hf.2 h; omega)]
    · rw [decide_eq_false h, decide_eq_false (fun e => h (hf.1 (by omega)))]
  have HI := Aside0.mk hI
  have HTr := Aside0.mk hTr
  have HE := Aside0.mk hE
  obtain ⟨B, hB⟩ : ∃ B, decide (fewD n) = B := ⟨_, rfl⟩
  rw [hB] at hb ⊢
  clear hf hI hTr hE hT hZ hB
  go_enter Tryz.func41, Tryz.ntmps41
  go_wp2_with (first
    | (go_at_call 42; refine (HI.out _ HE.out).mono ?_; rintro e w1 ⟨rfl, hB1⟩; have HB1 := Aside0.mk hB1; clear hB1 HI)
    | (go_at_call 63; refine (HTr.out _).mono ?_; rintro e w2 ⟨rfl, hw2⟩; rw [hw2]; clear hw2 HTr))
  go_ret
  exact ⟨by rw [← hb]; rfl, HB1.out⟩

/-- What number answers: what is beside 'false' nobody reads. -/
def NumP (l : Bs) (e : Ending) : Prop := ∃ n ok, e = .returned (.tuple #[.int .i64 n, .bool ok]) ∧ (ok = true → numL l = some n) ∧ (ok = false → numL l = none ∧ n = 0)
theorem numL_ok {l : Bs} {n : Int} (h : Lib.atoiAll l = .ok n) : numL l = if Lib.itoa n = l ∧ (unsign l).length ≤ 18 then some n else none := by unfold numL; rw [h]
theorem numL_bad {l : Bs} (h : ∀ n, Lib.atoiAll l ≠ .ok n) : numL l = none := by
  unfold numL
  split
  · next n hn => exact absurd hn (h n)
  · rfl
theorem atoi_int {l : Bs} {n : Int} (h : Lib.atoiAll l = .ok n) : -9223372036854775808 ≤ n ∧ n ≤ 9223372036854775807 := by
  cases l with
  | nil => cases h
  | cons c r =>
    simp only [Lib.atoiAll] at h
    cases hm : Lib.parseMag (if c.toNat = 43 ∨ c.toNat = 45 then r else c :: r) with
    | ok u =>
      rw [hm] at h
      simp only at h
      by_cases hc : c.toNat = 45
      · simp only [hc, not_true_eq_false, false_and, if_false, true_and, if_true] at h
        by_cases hu : 9223372036854775808 < u
        · rw [if_pos hu] at h; cases h
        · rw [if_neg hu] at h; cases h; omega
      · simp only [hc, not_false_eq_true, true_and, false_and, if_false] at h
        by_cases hu : 9223372036854775808 ≤ u
        · rw [if_pos hu] at h; cases h
        · rw [if_neg hu] at h; cases h; omega
    | range => rw [hm] at h; cases h
    | _ => rw [hm] at h; cases h

set_option maxRecDepth 100000 in
set_option maxHeartbeats 2000000 in
theorem number_any (s : ByteArray) (w : World) (hE : Env w) (hs : s.size ≤ 34359738368) :
    Calls Tryz.prog 37 #[.string s] w fun e w' => NumP s.data.toList e ∧ Below w.heap.size w w' := by
  have HE := Aside0.mk hE
  cases h : Lib.atoiAll s.data.toList with
  | ok n =>
    obtain ⟨n0, n1⟩ := atoi_int h
    have hA : Calls Tryz.prog 62 #[.string s] w fun e w' => e = .returned (.tuple #[.int .i64 n, .nilIface]) ∧ Below w.heap.size w w' := by
      refine (Tryz.strconv_Atoi_ok s (by omega) n h w).mono ?_
      rintro e w' ⟨rfl, hw⟩
      rcases hw with rfl | ⟨t, rfl⟩
      · exact ⟨rfl, Below.refl _ _⟩
      · exact ⟨rfl, below_bytes t⟩
    have hI := fun W h => itoa_any n W h n0 n1
    have hTr := fun W => trim_any s W
    obtain ⟨T, hT⟩ : ∃ T, sB (Lib.itoa n) = T := ⟨_, rfl⟩
    obtain ⟨Z, hZ⟩ : ∃ Z, sB (unsign s.data.toList) = Z := ⟨_, rfl⟩
    have hZl : Z.size = (unsign s.data.toList).length := by rw [← hZ, sB_size]
    rw [hT] at hI
    rw [hZ] at hTr
    have hEq : T.toList = s.toList ↔ Lib.itoa n = s.data.toList := by rw [Lib.toList_data, Lib.toList_data, ← hT, sB_data]
    have hN := numL_ok h
    have HA := Aside0.mk hA
    have HI := Aside0.mk hI
    have HTr := Aside0.mk hTr
    clear hE hA hI hTr hT hZ h
    by_cases he : Lib.itoa n = s.data.toList
    · have ee : (T.toList == s.toList) = true := by rw [hEq.2 he]; simp
      by_cases hl : (unsign s.data.toList).length ≤ 18
      · rw [if_pos ⟨he, hl⟩] at hN
        have d1 : decide ((18 : Int) < (Z.size : Int)) = false := decide_eq_false (by omega)
        have HN := Aside0.mk hN
        clear hN hEq he hZl hl
        go_enter Tryz.func37, Tryz.ntmps37
        go_wp2_with (first
          | (go_at_call 62; refine HA.out.mono ?_; rintro e w1 ⟨rfl, hB1⟩; have HB1 := Aside0.mk hB1; clear hB1 HA)
          | (go_at_call 42; refine (HI.out _ (HE.out.below HB1.out)).mono ?_; rintro e w2 ⟨rfl, hB2⟩; have HB2 := Aside0.mk (below_step HB1.out hB2); clear hB2 HI)
          | (go_at_call 63; refine (HTr.out _).mono ?_; rintro e w3 ⟨rfl, hw3⟩; rw [hw3]; clear hw3 HTr))
        go_ret2
        exact ⟨⟨n, true, rfl, fun _ => HN.out, (fun h => by cases h)⟩, HB2.out⟩
      · rw [if_neg (fun h => hl h.2)] at hN
        have d1 : decide ((18 : Int) < (Z.size : Int)) = true := decide_eq_true (by omega)
        have HN := Aside0.mk hN
        clear hN hEq he hZl hl
        go_enter Tryz.func37, Tryz.ntmps37
        go_wp2_with (first
          | (go_at_call 62; refine HA.out.mono ?_; rintro e w1 ⟨rfl, hB1⟩; have HB1 := Aside0.mk hB1; clear hB1 HA)
          | (go_at_call 42; refine (HI.out _ (HE.out.below HB1.out)).mono ?_; rintro e w2 ⟨rfl, hB2⟩; have HB2 := Aside0.mk (below_step HB1.out hB2); clear hB2 HI)
          | (go_at_call 63; refine (HTr.out _).mono ?_; rintro e w3 ⟨rfl, hw3⟩; rw [hw3]; clear hw3 HTr))
        go_ret2
        exact ⟨⟨0, false, rfl, (fun h => by cases h), fun _ => ⟨HN.out, rfl⟩⟩, HB2.out⟩
    · have ee : (T.toList == s.toList) = false := by
        simp only [beq_eq_false_iff_ne, ne_eq]
        exact fun h => he (hEq.1 h)
      rw [if_neg (fun h => he h.1)] at hN
      have HN := Aside0.mk hN
      clear hN hEq he hZl
      go_enter Tryz.func37, Tryz.ntmps37
      go_wp2_with (first
        | (go_at_call 62; refine HA.out.mono ?_; rintro e w1 ⟨rfl, hB1⟩; have HB1 := Aside0.mk hB1; clear hB1 HA)
        | (go_at_call 42; refine (HI.out _ (HE.out.below HB1.out)).mono ?_; rintro e w2 ⟨rfl, hB2⟩; have HB2 := Aside0.mk (below_step HB1.out hB2); clear hB2 HI))
      go_ret2
      exact ⟨⟨0, false, rfl, (fun h => by cases h), fun _ => ⟨HN.out, rfl⟩⟩, HB2.out⟩
  | range =>
    obtain ⟨tp, p, hv⟩ := hE.rng
    have HA := Aside0.mk (Tryz.strconv_Atoi_range_var s (by omega) h tp p w hv)
    have HN := Aside0.mk (numL_bad (l := s.data.toList) (fun n e => by rw [h] at e; cases e))
    clear hE hv h
    go_enter Tryz.func37, Tryz.ntmps37
    go_wp2_with (go_at_call 62; refine HA.out.mono ?_; rintro e w1 ⟨N, rfl, _, _, hB1⟩; have HB1 := Aside0.mk hB1; clear hB1 HA)
    go_ret2
    exact ⟨⟨0, false, rfl, (fun h => by cases h), fun _ => ⟨HN.out, rfl⟩⟩, HB1.out⟩
  | _ =>
    obtain ⟨tp, p, hv⟩ := hE.syn
    have HA := Aside0.mk (Tryz.strconv_Atoi_syntax_var s (by omega) (fun v e => by rw [h] at e; cases e) (fun e => by rw [h] at e; cases e) tp p w hv)
    have HN := Aside0.mk (numL_bad (l := s.data.toList) (fun n e => by rw [h] at e; cases e))
    clear hE hv h
    go_enter Tryz.func37, Tryz.ntmps37
    go_wp2_with (go_at_call 62; refine HA.out.mono ?_; rintro e w1 ⟨N, rfl, _, _, hB1⟩; have HB1 := Aside0.mk hB1; clear hB1 HA)
    go_ret2
    exact ⟨⟨0, false, rfl, (fun h => by cases h), fun _ => ⟨HN.out, rfl⟩⟩, HB1.out⟩
end Go.Proofs.YteglbmindbfkeaaGreatDoor.H
