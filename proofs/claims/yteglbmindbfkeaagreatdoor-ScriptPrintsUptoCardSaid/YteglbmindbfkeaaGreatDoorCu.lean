/- strings.Cut at a blank, of any length; the lookup in the table of forms; ParseOp's pieces. -/
import Derived.Test.YteglbmindbfkeaaGreatDoorPr
namespace Go.Proofs.YteglbmindbfkeaaGreatDoor.H
open Go.RowKit Go.Proofs.YteglbmindbfkeaaGreatDoorW.PrintWords
set_option linter.unusedVariables false
set_option linter.unusedSimpArgs false

theorem index_cons (b : UInt8) (l : Bs) : Lib.indexByte (b :: l) 32 = if b == 32 then 0 else if Lib.indexByte l 32 == -1 then -1 else Lib.indexByte l 32 + 1 := rfl
theorem word_index : ∀ l : Bs, word l = if 0 ≤ Lib.indexByte l 32 then l.take (Lib.indexByte l 32).toNat else l
  | [] => rfl
  | b :: l => by
    have ih := word_index l
    have hg := Lib.indexByte_ge l 32
    unfold word at ih ⊢
    by_cases hb : b = 32
    · subst hb
      simp [Lib.indexByte]
    · have hb2 : (b == (32 : UInt8)) = false := by simpa using hb
      have hb3 : (b != (32 : UInt8)) = true := by simpa using hb
      rw [List.takeWhile_cons, if_pos hb3, ih, index_cons, hb2]
      by_cases h1 : Lib.indexByte l 32 = -1
      · rw [h1]; simp
      · have h2 : 0 ≤ Lib.indexByte l 32 := by omega
        have h3 : (Lib.indexByte l 32 == -1) = false := by simpa using h1
        have h4 : 0 ≤ Lib.indexByte l 32 + 1 := by omega
        simp only [h3, Bool.false_eq_true, if_false]
        rw [if_pos h2, if_pos h4, show (Lib.indexByte l 32 + 1).toNat = (Lib.indexByte l 32).toNat + 1 by omega, List.take_succ_cons]
theorem index_le : ∀ l : Bs, Lib.indexByte l 32 < l.length ∨ l = []
  | [] => .inr rfl
  | b :: l => by
    left
    have ih := index_le l
    have hg := Lib.indexByte_ge l 32
    rw [index_cons]
    split
    · simp
    · split
      · simp; omega
      · rcases ih with h | rfl
        · simp; omega
        · simp [Lib.indexByte]
def CutP (l : Bs) (e : Ending) : Prop := ∃ x ok, e = .returned (.tuple #[.string (sB (word l)), .string x, .bool ok])
set_option maxRecDepth 100000 in
set_option maxHeartbeats 4000000 in
theorem lcut_any (s : ByteArray) (w : World) (hs : s.size ≤ 34359738368) : Calls Tryz.prog 53 #[.string s, .string ⟨#[32]⟩] w fun e w' => CutP s.data.toList e ∧ Below w.heap.size w w' := by
  have hI := fun W => Tryz.stringslite_Index_one s 32 W
  obtain ⟨i, hi⟩ : ∃ i, Lib.indexByte s.data.toList 32 = i := ⟨_, rfl⟩
  rw [hi] at hI
  have hg := Lib.indexByte_ge s.data.toList 32
  have hl := index_le s.data.toList
  have hw := word_index s.data.toList
  rw [hi] at hg hl hw
  by_cases h0 : 0 ≤ i
  · rw [if_pos h0] at hw
    have hls : i < s.size := by
      rcases hl with h | h
      · rw [data_length] at h; exact h
      · rw [h] at hi; simp [Lib.indexByte] at hi; omega
    have hwr : IntKind.i64.wrap (i + 1) = i + 1 := by rw [IntKind.wrap_i64]; omega
    have HW := Aside0.mk (And.intro hw hi)
    clear hw hi hl
    go_enter Tryz.func53, Tryz.ntmps53
    go_wp2_with (go_at_call 71; refine (hI _).mono ?_; rintro e w1 ⟨rfl, rfl⟩)
    go_region
    all_goals go_wp2
    all_goals
      refine bodyPost_ret (v := .tuple #[.string (s.extract 0 i.toNat), .string (s.extract (i + 1).toNat s.size), .bool true]) (by simp [results, Tryz.f53, go_sem]) rfl ⟨⟨s.extract (i + 1).toNat s.size, true, ?_⟩, below_drew (Below.refl _ _)⟩
      · rw [HW.out.1, ← data_sB (s.extract 0 i.toNat)]
        simp [ByteArray.data_extract]
  · rw [if_neg h0] at hw
    have HW := Aside0.mk hw
    clear hw hl hi
    go_enter Tryz.func53, Tryz.ntmps53
    go_wp2_with (go_at_call 71; refine (hI _).mono ?_; rintro e w1 ⟨rfl, rfl⟩)
    refine bodyPost_ret (v := .tuple #[.string s, .string ⟨#[]⟩, .bool false]) (by simp [results, Tryz.f53, go_sem]) rfl ⟨⟨_, _, by rw [HW.out, data_sB]⟩, Below.refl _ _⟩
set_option maxRecDepth 100000 in
set_option maxHeartbeats 4000000 in
theorem cut_any (s : ByteArray) (w : World) (hs : s.size ≤ 34359738368) : Calls Tryz.prog 25 #[.string s, .string ⟨#[32]⟩] w fun e w' => CutP s.data.toList e ∧ Below w.heap.size w w' := by
  have hC := fun W => lcut_any s W hs
  obtain ⟨T, hT⟩ : ∃ T, sB (word s.data.toList) = T := ⟨_, rfl⟩
  unfold CutP at hC ⊢
  rw [hT] at hC ⊢
  clear hT
  go_enter Tryz.func25, Tryz.ntmps25
  go_wp2_with (go_at_call 53; refine (hC _).mono ?_; rintro e w1 ⟨⟨x, ok, rfl⟩, hB⟩; have HB := Aside0.mk hB; clear hB)
  refine bodyPost_ret (v := .tuple #[.string T, .string x, .bool ok]) (by simp [results, Tryz.f25, go_sem]) rfl ⟨⟨_, _, rfl⟩, HB.out⟩
/-- What the table's lookup answers. -/
def lookV (s : Bs) : Value := match wordOf s with
  | some (k, fs) => .tuple #[formV k fs, .bool true]
  | none => .tuple #[.agg #[.int .i64 0, .string ⟨#[]⟩], .bool false]
set_option maxRecDepth 100000 in
theorem look_any {w : World} {r : Nat} (h : MapIs w r 19) (s : Bs) : (Instr.lookup 79 (.map (some r)) (.string (sB s)) true).run Tryz.prog w = .ok (lookV s) w := by
  have hM := h.out
  rw [ents19] at hM
  have hm := Tryz.underlying79
  have hd := Tryz.underlying9
  have hkk : MapKept.IsKey .string (.string (sB s)) := trivial
  have hks : ∀ x ∈ ents.toArray.toList, MapKept.IsKey .string x.key := fun x hx => ents_keys x (by simpa using hx)
  rcases MapKept.findNow_spec hkk _ 0 hks with ⟨h1, h2⟩ | ⟨j, e, h1, h2, h3⟩
  · have hn : wordOf s = none := by
      cases hw : wordOf s with
      | none => rfl
      | some p =>
        obtain ⟨k, fs⟩ := p
        obtain ⟨j, hj⟩ := List.getElem?_of_mem (wordOf_mem hw)
        exact absurd rfl (h2 _ (by simpa using List.mem_of_getElem? (ents_get hj)))
    have hz : (zeroValue 77).run Tryz.prog w = .ok (.agg #[.int .i64 0, .string ⟨#[]⟩]) w := by rfl
    unfold lookV
    rw [hn]
    simp [Instr.lookup, run_underlying hm, MapKept.run_getObj_map hM, MapKept.run_checkKey hd hkk, MapKept.run_findKey hd h1, hz, Result.andThen]
  · have he : e ∈ ents := by
      have := List.mem_of_getElem? h2
      simpa using this
    obtain ⟨k, wd, fs, hk, hx⟩ := ents_born he
    have hev : e.val = formV k fs := by rw [hx]
    rw [show e.key = .string (sB wd) by rw [hx]] at h3
    rw [hev] at h1
    have hs : wd = s := sB_inj (by injection h3)
    subst hs
    have hw : wordOf wd = some (k, fs) := (kinds_fields _ (List.mem_of_getElem? hk)).2.2.2.1
    unfold lookV
    rw [hw]
    simp [Instr.lookup, run_underlying hm, MapKept.run_getObj_map hM, MapKept.run_checkKey hd hkk, MapKept.run_findKey hd h1, Result.andThen]
end Go.Proofs.YteglbmindbfkeaaGreatDoor.H
