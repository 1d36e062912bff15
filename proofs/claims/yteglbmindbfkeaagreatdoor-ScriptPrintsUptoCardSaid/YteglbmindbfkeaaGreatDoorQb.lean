/- The program's take as a contract. -/
import Derived.Test.YteglbmindbfkeaaGreatDoorQa
namespace Go.Proofs.YteglbmindbfkeaaGreatDoor.H
open Go.RowKit Go.Proofs.YteglbmindbfkeaaGreatDoorW.PrintWords
set_option linter.unusedVariables false
set_option linter.unusedSimpArgs false

/-- A row of bytes as a text. -/
theorem own_text {w : World} {base n : Nat} {v : Value} {l : Bs} (h : w.ownsRow base 5 1 v n (Lib.byteCells l)) : (convert 45 9 v).run Tryz.prog w = .ok (.string (sB l)) w := by
  have e : Lib.byteCells l = nums .u8 (l.map fun c => (c.toNat : Int)) := by simp [Lib.byteCells, nums]
  rw [e] at h
  have h2 := own_string (P := Tryz.prog) (src := 45) (dst := 9) Tryz.underlying45 Tryz.underlying5 Tryz.underlying9 h
  have e2 : strOfNums (l.map fun c => (c.toNat : Int)) = sB l := by
    unfold strOfNums sB
    have e3 : (l.map fun c => (c.toNat : Int)).map (fun x => UInt8.ofNat x.toNat) = l := by
      rw [List.map_map]
      conv => rhs; rw [← List.map_id l]
      apply List.map_congr_left
      intro c _
      simp
    first | rw [e3] | simp [e3]
  rw [e2] at h2
  exact h2
/-- Is there a next byte, and which? -/
theorem hex_index (c : UInt8) : Lib.indexByte (⟨#[48, 49, 50, 51, 52, 53, 54, 55, 56, 57, 97, 98, 99, 100, 101, 102]⟩ : ByteArray).data.toList c = match hexV c with | some n => (n : Int) | none => -1 := by
  have h : ∀ k : Fin 256, Lib.indexByte (⟨#[48, 49, 50, 51, 52, 53, 54, 55, 56, 57, 97, 98, 99, 100, 101, 102]⟩ : ByteArray).data.toList (UInt8.ofNat k.val) = match hexV (UInt8.ofNat k.val) with | some n => (n : Int) | none => -1 := by decide +kernel
  have := h ⟨c.toNat, c.toNat_lt⟩
  simpa using this
/-- The place of a digit. -/
def hexI (c : UInt8) : Int := match hexV c with | some n => (n : Int) | none => -1
theorem idx_any (c : UInt8) (w : World) : Calls Tryz.prog 61 #[.string ⟨#[48, 49, 50, 51, 52, 53, 54, 55, 56, 57, 97, 98, 99, 100, 101, 102]⟩, .int .u8 c.toNat] w fun e w' => e = .returned (.int .i64 (hexI c)) ∧ w' = w := by
  have h := Tryz.strings_IndexByte ⟨#[48, 49, 50, 51, 52, 53, 54, 55, 56, 57, 97, 98, 99, 100, 101, 102]⟩ (c.toNat : Int) w
  have e : ((c.toNat : Int).toNat).toUInt8 = c := by simp
  rw [e, hex_index] at h
  exact h
theorem or_hex {a b : Nat} (ha : a < 16) (hb : b < 16) : bits BinOp.or IntKind.i64 ((a : Int) * 16) (b : Int) % 256 = ((UInt8.ofNat (16 * a + b)).toNat : Int) := by
  have h : ∀ a b : Fin 16, bits BinOp.or IntKind.i64 ((a.val : Int) * 16) (b.val : Int) % 256 = ((UInt8.ofNat (16 * a.val + b.val)).toNat : Int) := by decide +kernel
  exact h ⟨a, ha⟩ ⟨b, hb⟩
/-- What take answers. -/
def takeV (s : ByteArray) : Value := match takeL s.data.toList with
  | some (b, r) => .tuple #[.string (sB b), .string (sB r), .bool true]
  | none => .tuple #[.string ⟨#[]⟩, .string s, .bool false]
theorem drop_at {l : Bs} {i : Nat} {c : UInt8} (h : l[i]? = some c) : l.drop i = c :: l.drop (i + 1) := by
  obtain ⟨h1, h2⟩ := List.getElem?_eq_some_iff.1 h
  rw [List.drop_eq_getElem_cons h1, h2]
/-- What is still to be read answers the same. -/
def TkR (l : Bs) (R : Option (Bs × Bs)) (i : Nat) (acc : Bs) : Prop := ∃ k, (l.drop i).length < k ∧ takeF k (l.drop i) acc = R
theorem TkR.end {l : Bs} {R : Option (Bs × Bs)} {i : Nat} {acc : Bs} (h : TkR l R i acc) (hi : l.length ≤ i) : R = none := by
  obtain ⟨k, hk, h⟩ := h
  rw [List.drop_eq_nil_of_le hi] at h hk
  obtain ⟨k, rfl⟩ : ∃ j, k = j + 1 := ⟨k - 1, by simp at hk; omega⟩
  rw [← h]; rfl
theorem TkR.quote {l : Bs} {R : Option (Bs × Bs)} {i : Nat} {acc : Bs} (h : TkR l R i acc) (hq : l[i]? = some 34) : R = some (acc, l.drop (i + 1)) := by
  obtain ⟨k, hk, h⟩ := h
  rw [drop_at hq] at h hk
  obtain ⟨k, rfl⟩ : ∃ j, k = j + 1 := ⟨k - 1, by simp at hk; omega⟩
  rw [← h]; simp [takeF]
theorem TkR.plain {l : Bs} {R : Option (Bs × Bs)} {i : Nat} {acc : Bs} {q : UInt8} (h : TkR l R i acc) (hq : l[i]? = some q) (h1 : q ≠ 34) (h2 : q ≠ 92) : TkR l R (i + 1) (acc ++ [q]) := by
  obtain ⟨k, hk, h⟩ := h
  rw [drop_at hq] at h hk
  obtain ⟨k, rfl⟩ : ∃ j, k = j + 1 := ⟨k - 1, by simp at hk; omega⟩
  simp only [takeF] at h
  rw [if_neg h1, if_pos h2] at h
  exact ⟨k, by simp only [List.length_cons, List.length_drop] at hk ⊢; omega, h⟩
theorem TkR.esc {l : Bs} {R : Option (Bs × Bs)} {i : Nat} {acc : Bs} {x : UInt8} (h : TkR l R i acc) (hq : l[i]? = some 92) (hx : l[i + 1]? = some x) (h1 : x = 34 ∨ x = 92) : TkR l R (i + 2) (acc ++ [x]) := by
  obtain ⟨k, hk, h⟩ := h
  rw [drop_at hq, drop_at hx] at h hk
  obtain ⟨k, rfl⟩ : ∃ j, k = j + 1 := ⟨k - 1, by simp at hk; omega⟩
  simp only [takeF] at h
  rw [if_neg (by decide), if_neg (by simp), if_pos h1] at h
  exact ⟨k, by simp only [List.length_cons, List.length_drop] at hk ⊢; omega, h⟩
theorem TkR.hex {l : Bs} {R : Option (Bs × Bs)} {i : Nat} {acc : Bs} {p r : UInt8} (h : TkR l R i acc) (hq : l[i]? = some 92) (hx : l[i + 1]? = some 120) (hp : l[i + 2]? = some p) (hr : l[i + 3]? = some r) :
    match hexV p, hexV r with
    | some a, some b => TkR l R (i + 4) (acc ++ [UInt8.ofNat (16 * a + b)])
    | _, _ => R = none := by
  obtain ⟨k, hk, h⟩ := h
  rw [drop_at hq, drop_at hx, drop_at hp, drop_at hr] at h hk
  obtain ⟨k, rfl⟩ : ∃ j, k = j + 1 := ⟨k - 1, by simp at hk; omega⟩
  simp only [takeF] at h
  rw [if_neg (by decide), if_neg (by simp), if_neg (by decide), if_pos trivial] at h
  split
  · next a b h1 h2 =>
    rw [h1, h2] at h
    exact ⟨k, by simp only [List.length_cons, List.length_drop] at hk ⊢; omega, h⟩
  · next hne =>
    split at h
    · next a b h1 h2 => exact absurd h2 (hne a b h1)
    · exact h.symm
theorem TkR.bad {l : Bs} {R : Option (Bs × Bs)} {i : Nat} {acc : Bs} (h : TkR l R i acc) (hq : l[i]? = some 92) (h1 : ∀ x, l[i + 1]? = some x → x ≠ 34 ∧ x ≠ 92 ∧ (x = 120 → l.length ≤ i + 3)) : R = none := by
  obtain ⟨k, hk, h⟩ := h
  rw [drop_at hq] at h hk
  obtain ⟨k, rfl⟩ : ∃ j, k = j + 1 := ⟨k - 1, by simp at hk; omega⟩
  simp only [takeF] at h
  rw [if_neg (by decide), if_neg (by simp)] at h
  cases hx : l[i + 1]? with
  | none =>
    rw [List.drop_eq_nil_of_le (by rw [List.getElem?_eq_none_iff] at hx; omega)] at h
    exact h.symm
  | some x =>
    obtain ⟨a1, a2, a3⟩ := h1 x hx
    rw [drop_at hx] at h
    simp only at h
    rw [if_neg (by simp [a1, a2])] at h
    split at h
    · next e =>
      have hl := a3 e
      have h9 : (l.drop (i + 1 + 1)).length ≤ 1 := by rw [List.length_drop]; omega
      match hd : l.drop (i + 1 + 1), h9 with
      | [], _ => rw [hd] at h; exact h.symm
      | [y], _ => rw [hd] at h; exact h.symm
    · exact h.symm
theorem ext_sB (s : ByteArray) (f i : Nat) : s.extract f i = sB ((s.data.toList.take i).drop f) := by
  rw [Lib.extract_eq, ← List.drop_take]
  rfl
theorem takeL_of {l : Bs} (h : l.head? = some 34) : ∃ R, TkR l R 1 [] ∧ takeL l = match R with | some (b, rest) => if quoteL b ++ rest = l then some (b, rest) else none | none => none := by
  cases l with
  | nil => cases h
  | cons c r =>
    cases h
    refine ⟨takeF (r.length + 1) r [], ⟨r.length + 1, by simp, by simp⟩, ?_⟩
    cases e : takeF (r.length + 1) r [] with
    | none => simp [takeL, e]
    | some v => simp [takeL, e]
theorem takeL_head {l : Bs} (h : l.head? ≠ some 34) : takeL l = none := by
  cases l with
  | nil => rfl
  | cons c r =>
    unfold takeL
    have : ¬ c = 34 := fun e => h (by rw [e]; rfl)
    simp [this]
theorem prefix_34 (l : Bs) : Lib.hasPrefix l [34] = decide (l.head? = some 34) := by
  unfold Lib.hasPrefix
  cases l with
  | nil => rfl
  | cons c r =>
    by_cases h : c = 34
    · subst h; simp
    · have : ¬ (34 : UInt8) = c := fun e => h e.symm
      have h2 : ¬ some c = some (34 : UInt8) := fun e => h (Option.some.inj e)
      rw [List.head?_cons, decide_eq_false h2]
      show ((34 : UInt8) == c && ([] : Bs).isPrefixOf r) = false
      simp [this]
/-- The text up to a place is what was read: as text against text. -/
theorem take_quote {l b : Bs} {i : Nat} (hi : i ≤ l.length) : quoteL b ++ l.drop i = l ↔ quoteL b = l.take i := by
  constructor
  · intro h
    have h2 : quoteL b ++ l.drop i = l.take i ++ l.drop i := by rw [h, List.take_append_drop]
    exact List.append_cancel_right h2
  · intro h
    rw [h, List.take_append_drop]

set_option maxRecDepth 100000 in
set_option maxHeartbeats 8000000 in
theorem ptake_any (s : ByteArray) (w : World) (hs : s.size ≤ 34359738368) :
    Calls Tryz.prog 36 #[.string s] w fun e w' => e = .returned (takeV s) ∧ Below w.heap.size w w' := by
  have hu9 := Tryz.underlying9
  obtain ⟨l, hl⟩ : ∃ l, s.data.toList = l := ⟨_, rfl⟩
  have hll : l.length = s.size := by rw [← hl, data_length]
  have HP := Aside0.mk (show Lib.hasPrefix s.data.toList (⟨#[34]⟩ : ByteArray).data.toList = decide (l.head? = some 34) by rw [hl]; exact prefix_34 l)
  by_cases h0 : l.head? = some 34
  · obtain ⟨R, hR, hT⟩ := takeL_of h0
    have HD := Aside0.mk (decide_eq_true h0)
    have HL := Aside0.mk hl
    have HLL := Aside0.mk hll
    have HR := Aside0.mk hR
    have HT := Aside0.mk hT
    have hne : 1 ≤ s.size := by rw [← hll]; cases l with
      | nil => cases h0
      | cons => simp
    clear hl hll hR hT h0
    go_enter Tryz.func36, Tryz.ntmps36
    go_wp2_with fail
    go_step3
    go_wp2_with (go_at_call 34; refine (Tryz.strings_HasPrefix s ⟨#[34]⟩ _).mono ?_; rw [HP.out, HD.out]; rintro e w1 ⟨rfl, hw1⟩; rw [hw1]; clear hw1)
    go_step3
    go_wp2
    go_loopw [5, 6] (fun vv iv wr => ∃ (i : Int) (acc : Bs), iv = .int .i64 i ∧ 1 ≤ i ∧ i ≤ s.size ∧ Aside0 (TkR l R i.toNat acc ∧ acc.length ≤ i.toNat) ∧ Aside0 (wr.ownsRow w.heap.size 5 1 vv acc.length (Lib.byteCells acc)) ∧ Aside0 (Below w.heap.size w wr)) (fun _ iv _ => (s.size - intOf iv).toNat)
    case atStart => exact ⟨1, [], rfl, Int.le_refl _, by omega, ⟨HR.out, by simp⟩, ⟨World.ownsRow_nil _ _ _ _⟩, ⟨Below.refl _ _⟩⟩
    case round =>
      obtain ⟨i, acc, rfl, i0, i1, HI, HO, HW⟩ := hrel
      obtain ⟨N, hN⟩ : ∃ N, acc.length = N := ⟨_, rfl⟩
      rw [hN] at HO
      obtain ⟨A, c, hv⟩ := own_slice HO.out
      subst hv
      have HN := Aside0.mk hN
      have hNb : N ≤ i.toNat := by rw [← hN]; exact HI.out.2
      have hWz := HW.out.size
      have w4 : wrap64 (i + 1) = i + 1 := by unfold wrap64; omega
      have hcv := own_text HO.out
      clear hN
      by_cases hlt : i < (s.size : Int)
      · have d1 : decide (i < (s.size : Int)) = true := decide_eq_true hlt
        have hin : i.toNat < s.size := by omega
        have hbt := bt_at s i
        obtain ⟨q, hq⟩ : ∃ q, l[i.toNat]? = some q := ⟨_, List.getElem?_eq_getElem (by rw [HLL.out]; exact hin)⟩
        have hb := bt_get s i q (by rw [HL.out]; exact hq)
        have hi1 : (i + 1).toNat = i.toNat + 1 := by omega
        have HI1 := Aside0.mk hi1
        have HQ := Aside0.mk hq
        clear hq hi1
        by_cases hq1 : q = 34
        · subst hq1
          have hb : bt s i = 34 := hb
          have hRe := HI.out.1.quote HQ.out
          obtain ⟨j, hj⟩ : ∃ j : Nat, (j : Int) = i + 1 := ⟨(i + 1).toNat, by omega⟩
          have hjn : (i + 1).toNat = j := by omega
          have w5 : wrap64 (i + 1) = (j : Int) := by rw [w4, hj]
          have w6 : IntKind.i64.wrap (i + 1) = (j : Int) := by rw [← w5]; simp [IntKind.wrap, IntKind.bits, IntKind.signed, wrap64]; omega
          have bd1 : (0 : Int) ≤ (j : Int) := by omega
          have bd2 : (j : Int) ≤ (s.size : Int) := by omega
          have HJ := Aside0.mk (And.intro hj hjn)
          have d2 : decide ((s.size : Int) ≤ i) = false := decide_eq_false (by omega)
          have bd3 : j ≤ s.size := by omega
          have hsl : ∀ W, (Instr.slice 9 (.string s) none (some (.int .i64 (j : Int))) none).run Tryz.prog W = .ok (.string (s.extract 0 j)) W := fun W => run_slice_string_h W 9 s hu9 .i64 (j : Int) bd1 bd2
          have hex := ext_sB s 0 j
          rw [HL.out, List.drop_zero] at hex
          have hqs : (sB acc).size ≤ 34359738368 := by rw [sB_size]; have := HI.out.2; omega
          have hpq := fun W => pquote_any (sB acc) W hqs
          rw [sB_data] at hpq
          have HPQ := Aside0.mk hpq
          have HEx := Aside0.mk hex
          have HRe := Aside0.mk hRe
          obtain ⟨T, hT⟩ : ∃ T, sB acc = T := ⟨_, rfl⟩
          obtain ⟨Z, hZ⟩ : ∃ Z, sB (quoteL acc) = Z := ⟨_, rfl⟩
          have HTZ := Aside0.mk (And.intro hT hZ)
          rw [hT] at HPQ hcv
          rw [hZ] at HPQ
          clear hRe hex hqs hpq hT hZ w4 hj hjn
          have hcv2 : (convert 45 9 (.slice A N c)).run Tryz.prog wr.drew = .ok (.string T) wr.drew := by
            rw [← HTZ.out.1]; exact own_text (w := wr.drew) HO.out
          have hEx2 : Z.toList = (s.extract 0 j).toList ↔ quoteL acc = l.take j := by
            rw [Lib.toList_data, Lib.toList_data, ← HTZ.out.2, HEx.out, sB_data, sB_data]
          by_cases hqe : quoteL acc = l.take j
          · have ee : (Z.toList == (s.extract 0 j).toList) = true := by rw [hEx2.2 hqe]; simp
            have HQe := Aside0.mk hqe
            clear hEx2 hqe
            go_wp2
            go_region_held3 (fun w' => (convert 45 9 (.slice A N c)).run Tryz.prog w' = .ok (.string T) w') (first | exact hcv2 | exact hcv3) (first | (go_at_call 40; refine (HPQ.out _).mono ?_; rintro e w2 ⟨rfl, hB2⟩; have hcv3 : (convert 45 9 (.slice A N c)).run Tryz.prog w2 = .ok (.string T) w2 := by rw [← HTZ.out.1]; exact own_text (pw_own_below (show wr.drew.ownsRow _ _ _ _ _ _ from HO.out) hB2)))
            have HV := Aside0.mk (show takeV s = .tuple #[.string T, .string (s.extract j s.size), .bool true] by
              have e1 : l.drop (i.toNat + 1) = l.drop j := by rw [← HI1.out, HJ.out.2]
              have e2 : s.extract j s.size = sB (l.drop j) := by
                rw [ext_sB, HL.out, List.take_of_length_le (by rw [HLL.out]; exact Nat.le_refl _)]
              unfold takeV
              rw [HL.out, HT.out, HRe.out, e1]
              simp only
              rw [if_pos ((take_quote (by rw [HLL.out]; omega)).2 HQe.out)]
              simp only
              rw [HTZ.out.1, e2])
            have hcv4 : ∀ n, (convert 45 9 (.slice A N c)).run Tryz.prog (w2.drewN n) = .ok (.string T) (w2.drewN n) := fun n => by
              rw [← HTZ.out.1]
              exact own_text (w := w2.drewN n) (show (w2.drewN n).ownsRow _ _ _ _ _ _ from (show w2.ownsRow _ _ _ _ _ _ from pw_own_below (show wr.drew.ownsRow _ _ _ _ _ _ from HO.out) hB2))
            have hsl2 : ∀ W, (Instr.slice 9 (.string s) (some (.int .i64 (j : Int))) none none).run Tryz.prog W = .ok (.string (s.extract j s.size)) W := fun W => run_slice_string_l W 9 s hu9 .i64 (j : Int) bd1 bd2
            go_wp2
            go_quiet (fail)
            go_wp2
            try rw [Exit.noGoto_ret]
            go_ret3
            exact ⟨by rw [HV.out]; rfl, pw_below_drewN (below_then (below_drew HW.out) hWz hB2) _⟩
          · have ee : (Z.toList == (s.extract 0 j).toList) = false := by
              simp only [beq_eq_false_iff_ne, ne_eq]
              exact fun h => hqe (hEx2.1 h)
            have HV := Aside0.mk (show takeV s = .tuple #[.string ⟨#[]⟩, .string s, .bool false] by
              unfold takeV
              rw [HL.out, HT.out, HRe.out]
              simp only
              rw [if_neg (fun h => hqe (by rw [← HJ.out.2]; exact (take_quote (i := i.toNat + 1) (by rw [HLL.out]; omega)).1 h ▸ (by rw [HI1.out])))])
            clear hEx2 hqe
            go_wp2
            go_region_held3 (fun w' => (convert 45 9 (.slice A N c)).run Tryz.prog w' = .ok (.string T) w') (first | exact hcv2 | exact hcv3) (first | (go_at_call 40; refine (HPQ.out _).mono ?_; rintro e w2 ⟨rfl, hB2⟩; have hcv3 : (convert 45 9 (.slice A N c)).run Tryz.prog w2 = .ok (.string T) w2 := by rw [← HTZ.out.1]; exact own_text (pw_own_below (show wr.drew.ownsRow _ _ _ _ _ _ from HO.out) hB2)))
            go_wp2
            try rw [Exit.noGoto_ret]
            go_ret3
            exact ⟨by rw [HV.out]; rfl, below_then (below_drew HW.out) hWz hB2⟩
        · have n1 : ((q.toNat : Int) == 34) = false := by
            simp only [beq_eq_false_iff_ne, ne_eq]
            intro h
            exact hq1 (UInt8.toNat_inj.1 (by simpa using (by omega : q.toNat = 34)))
          by_cases hq2 : q = 92
          · subst hq2
            have hb : bt s i = 92 := hb
            have w1' : wrap64 (i + 1) = i + 1 := by unfold wrap64; omega
            have w3' : wrap64 (i + 3) = i + 3 := by unfold wrap64; omega
            have HVn := Aside0.mk (fun (h : R = none) => show takeV s = .tuple #[.string ⟨#[]⟩, .string s, .bool false] by unfold takeV; rw [HL.out, HT.out, h])
            by_cases hlt1 : i + 1 < (s.size : Int)
            · have d3 : decide (i + 1 < (s.size : Int)) = true := decide_eq_true hlt1
              have hbt1 := bt_at s (i + 1)
              have hin1 : (i + 1).toNat < s.size := by omega
              obtain ⟨x, hx⟩ : ∃ x, l[(i + 1).toNat]? = some x := ⟨_, List.getElem?_eq_getElem (by rw [HLL.out]; exact hin1)⟩
              have hb1 := bt_get s (i + 1) x (by rw [HL.out]; exact hx)
              have HX := Aside0.mk (show l[i.toNat + 1]? = some x by rw [← HI1.out]; exact hx)
              clear hx
              by_cases hx1 : x = 34 ∨ x = 92
              · have hnx := HI.out.1.esc HQ.out HX.out hx1
                have HNx := Aside0.mk hnx
                have hi2 : (i + 1 + 1).toNat = i.toNat + 2 := by omega
                have HI2 := Aside0.mk hi2
                have w5 : wrap64 (i + 1 + 1) = i + 1 + 1 := by unfold wrap64; omega
                clear hnx hi2
                rcases hx1 with rfl | rfl
                · have hb1 : bt s (i + 1) = 34 := hb1
                  go_wp2_with (at_builtin; refine print_append_cells (w0 := w) w.heap.size rfl (.tmp 53) (.tmp 58) 45 5 (.int .u8 0) 1 1 rfl Tryz.underlying45 infoByte rfl (by omega) (by omega) _ N (Lib.byteCells acc) [.int .u8 34] rfl rfl rfl ?a1 ?aO ?aB ?aS ?aL ?_; (case a1 => intro u hu; simp at hu; subst hu; rfl); (case aO => exact HO.out); (case aB => exact HW.out); (case aS => exact HW.out.size); (case aL => omega); intro v1 w1 ho1 hb1 _ _; have HO1 := Aside0.mk ho1; have HB1 := Aside0.mk hb1; clear ho1 hb1)
                  refine ⟨⟨i + 1 + 1, acc ++ [34], rfl, by omega, by omega, ⟨by rw [HI2.out]; exact HNx.out, by have := HI.out.2; rw [HI2.out, List.length_append, List.length_singleton]; omega⟩, ⟨?_⟩, HB1⟩, by simp [intOf]; omega⟩
                  rw [List.length_append, List.length_singleton, HN.out]
                  have := HO1.out
                  simpa [Lib.byteCells] using this
                · have hb1 : bt s (i + 1) = 92 := hb1
                  go_wp2_with (at_builtin; refine print_append_cells (w0 := w) w.heap.size rfl (.tmp 53) (.tmp 58) 45 5 (.int .u8 0) 1 1 rfl Tryz.underlying45 infoByte rfl (by omega) (by omega) _ N (Lib.byteCells acc) [.int .u8 92] rfl rfl rfl ?a1 ?aO ?aB ?aS ?aL ?_; (case a1 => intro u hu; simp at hu; subst hu; rfl); (case aO => exact HO.out); (case aB => exact HW.out); (case aS => exact HW.out.size); (case aL => omega); intro v1 w1 ho1 hb1 _ _; have HO1 := Aside0.mk ho1; have HB1 := Aside0.mk hb1; clear ho1 hb1)
                  refine ⟨⟨i + 1 + 1, acc ++ [92], rfl, by omega, by omega, ⟨by rw [HI2.out]; exact HNx.out, by have := HI.out.2; rw [HI2.out, List.length_append, List.length_singleton]; omega⟩, ⟨?_⟩, HB1⟩, by simp [intOf]; omega⟩
                  rw [List.length_append, List.length_singleton, HN.out]
                  have := HO1.out
                  simpa [Lib.byteCells] using this
              · have x1 : ((x.toNat : Int) == 34) = false := by
                  simp only [beq_eq_false_iff_ne, ne_eq]
                  intro h
                  exact hx1 (.inl (UInt8.toNat_inj.1 (by simpa using (by omega : x.toNat = 34))))
                have x2 : ((x.toNat : Int) == 92) = false := by
                  simp only [beq_eq_false_iff_ne, ne_eq]
                  intro h
                  exact hx1 (.inr (UInt8.toNat_inj.1 (by simpa using (by omega : x.toNat = 92))))
                by_cases hbad : x = 120 ∧ i + 3 < (s.size : Int)
                · obtain ⟨rfl, hlt3⟩ := hbad
                  have hb1 : bt s (i + 1) = 120 := hb1
                  have d4 : decide (i + 3 < (s.size : Int)) = true := decide_eq_true hlt3
                  have w2' : wrap64 (i + 2) = i + 2 := by unfold wrap64; omega
                  have hbt2 := bt_at s (i + 2)
                  have hbt3 := bt_at s (i + 3)
                  have hin2 : (i + 2).toNat < s.size := by omega
                  have hin3 : (i + 3).toNat < s.size := by omega
                  obtain ⟨p, hp⟩ : ∃ p, l[(i + 2).toNat]? = some p := ⟨_, List.getElem?_eq_getElem (by rw [HLL.out]; exact hin2)⟩
                  obtain ⟨r, hr⟩ : ∃ p, l[(i + 3).toNat]? = some p := ⟨_, List.getElem?_eq_getElem (by rw [HLL.out]; exact hin3)⟩
                  have hb2 := bt_get s (i + 2) p (by rw [HL.out]; exact hp)
                  have hb3 := bt_get s (i + 3) r (by rw [HL.out]; exact hr)
                  have hhx := HI.out.1.hex HQ.out HX.out (show l[i.toNat + 2]? = some p by rw [← hp]; congr 1; omega) (show l[i.toNat + 3]? = some r by rw [← hr]; congr 1; omega)
                  have IP := idx_any p
                  have IR := idx_any r
                  have bd4 : (0 : Int) ≤ i + 2 := by omega
                  have bd5 : i + 2 < (s.size : Int) := by omega
                  have bd6 : (0 : Int) ≤ i + 3 := by omega
                  unfold hexI at IP IR
                  clear hp hr hx1
                  cases hvp : hexV p with
                  | none =>
                    rw [hvp] at hhx IP
                    have HV := Aside0.mk (HVn.out hhx)
                    obtain ⟨z, hz⟩ : ∃ z, (match hexV r with | some n => (n : Int) | none => -1) = z := ⟨_, rfl⟩
                    rw [hz] at IR
                    have IP := Aside0.mk IP
                    have IR := Aside0.mk IR
                    clear hhx hvp hz
                    clear HVn
                    go_wp2
                    go_quiet ((go_at_call 61; first | exact Calls.quiet_of_same (IP.out _) | exact Calls.quiet_of_same (IR.out _)))
                    go_wp2
                    try rw [Exit.noGoto_ret]
                    go_ret3
                    exact ⟨by rw [HV.out]; rfl, pw_below_drewN HW.out _⟩
                  | some a =>
                    have ha := hexV_lt hvp
                    rw [hvp] at hhx IP
                    cases hvr : hexV r with
                    | none =>
                      rw [hvr] at hhx IR
                      have HV := Aside0.mk (HVn.out hhx)
                      have IP := Aside0.mk IP
                      have IR := Aside0.mk IR
                      have n3 : decide ((a : Int) < 0) = false := decide_eq_false (by omega)
                      clear hhx hvp hvr
                      clear HVn
                      go_wp2
                      go_quiet ((go_at_call 61; first | exact Calls.quiet_of_same (IP.out _) | exact Calls.quiet_of_same (IR.out _)))
                      go_wp2
                      try rw [Exit.noGoto_ret]
                      go_ret3
                      exact ⟨by rw [HV.out]; rfl, pw_below_drewN HW.out _⟩
                    | some b =>
                      have hb' := hexV_lt hvr
                      rw [hvr] at hhx IR
                      have IP := Aside0.mk IP
                      have IR := Aside0.mk IR
                      have hhx : TkR l R (i.toNat + 4) (acc ++ [UInt8.ofNat (16 * a + b)]) := hhx
                      have hor := or_hex ha hb'
                      have hi4 : (i + 3 + 1).toNat = i.toNat + 4 := by omega
                      have HI4 := Aside0.mk hi4
                      have w5 : wrap64 (i + 3 + 1) = i + 3 + 1 := by unfold wrap64; omega
                      obtain ⟨C, hC⟩ : ∃ C, UInt8.ofNat (16 * a + b) = C := ⟨_, rfl⟩
                      rw [hC] at hhx hor
                      have HNx := Aside0.mk hhx
                      clear hC hi4
                      have n3 : decide ((a : Int) < 0) = false := decide_eq_false (by omega)
                      have n4 : decide ((b : Int) < 0) = false := decide_eq_false (by omega)
                      clear hhx hvp hvr HVn
                      go_wp2
                      go_quiet ((go_at_call 61; first | exact Calls.quiet_of_same (IP.out _) | exact Calls.quiet_of_same (IR.out _)))
                      go_wp2_with (at_builtin; refine print_append_cells (w0 := w) w.heap.size rfl (.tmp 92) (.tmp 98) 45 5 (.int .u8 0) 1 1 rfl Tryz.underlying45 infoByte rfl (by omega) (by omega) _ N (Lib.byteCells acc) [.int .u8 C.toNat] rfl rfl rfl ?a1 ?aO ?aB ?aS ?aL ?_; (case a1 => intro u hu; simp at hu; subst hu; rfl); (case aO => exact (show (wr.drewN nq).ownsRow _ _ _ _ _ _ from HO.out)); (case aB => exact pw_below_drewN HW.out _); (case aS => exact HW.out.size); (case aL => omega); intro v1 w1 ho1 hb1 _ _; have HO1 := Aside0.mk ho1; have HB1 := Aside0.mk hb1; clear ho1 hb1)
                      refine ⟨⟨i + 3 + 1, acc ++ [C], rfl, by omega, by omega, ⟨by rw [HI4.out]; exact HNx.out, by have := HI.out.2; rw [HI4.out, List.length_append, List.length_singleton]; omega⟩, ⟨?_⟩, HB1⟩, by simp [intOf]; omega⟩
                      rw [List.length_append, List.length_singleton, HN.out]
                      have := HO1.out
                      simpa [Lib.byteCells] using this
                · have HV := Aside0.mk (HVn.out (HI.out.1.bad HQ.out (fun y hy => by
                    have e : x = y := Option.some.inj (HX.out.symm.trans hy)
                    subst e
                    simp only [not_or] at hx1
                    refine ⟨hx1.1, hx1.2, fun e => ?_⟩
                    have := HLL.out
                    have : ¬ i + 3 < (s.size : Int) := fun h => hbad ⟨e, h⟩
                    omega)))
                  by_cases hlt3 : i + 3 < (s.size : Int)
                  · have d4 : decide (i + 3 < (s.size : Int)) = true := decide_eq_true hlt3
                    have x3 : ((x.toNat : Int) == 120) = false := by
                      simp only [beq_eq_false_iff_ne, ne_eq]
                      intro h
                      exact hbad ⟨UInt8.toNat_inj.1 (by simpa using (by omega : x.toNat = 120)), hlt3⟩
                    clear HVn hbad hx1
                    go_wp2
                    try rw [Exit.noGoto_ret]
                    go_ret3
                    exact ⟨by rw [HV.out]; rfl, HW.out⟩
                  · have d4 : decide (i + 3 < (s.size : Int)) = false := decide_eq_false hlt3
                    clear HVn hbad hx1
                    go_wp2
                    try rw [Exit.noGoto_ret]
                    go_ret3
                    exact ⟨by rw [HV.out]; rfl, HW.out⟩
            · have d3 : decide (i + 1 < (s.size : Int)) = false := decide_eq_false hlt1
              have d4 : decide (i + 3 < (s.size : Int)) = false := decide_eq_false (by omega)
              have HV := Aside0.mk (HVn.out (HI.out.1.bad HQ.out (fun x hx => by
                have := (List.getElem?_eq_some_iff.1 hx).1
                have := HLL.out
                omega)))
              clear HVn
              go_wp2
              try rw [Exit.noGoto_ret]
              go_ret3
              exact ⟨by rw [HV.out]; rfl, HW.out⟩
          · have n2 : ((q.toNat : Int) != 92) = true := by
              simp only [bne_iff_ne, ne_eq]
              intro h
              exact hq2 (UInt8.toNat_inj.1 (by simpa using (by omega : q.toNat = 92)))
            have hnx := HI.out.1.plain HQ.out hq1 hq2
            have HNx := Aside0.mk hnx
            clear hnx hq1 hq2
            go_wp2_with (at_builtin; refine print_append_cells (w0 := w) w.heap.size rfl (.tmp 29) (.tmp 31) 45 5 (.int .u8 0) 1 1 rfl Tryz.underlying45 infoByte rfl (by omega) (by omega) _ N (Lib.byteCells acc) [.int .u8 q.toNat] rfl rfl rfl ?a1 ?aO ?aB ?aS ?aL ?_; (case a1 => intro u hu; simp at hu; subst hu; rfl); (case aO => exact HO.out); (case aB => exact HW.out); (case aS => exact HW.out.size); (case aL => omega); intro v1 w1 ho1 hb1 _ _; have HO1 := Aside0.mk ho1; have HB1 := Aside0.mk hb1; clear ho1 hb1)
            refine ⟨⟨i + 1, acc ++ [q], rfl, by omega, by omega, ⟨by rw [HI1.out]; exact HNx.out, by have := HI.out.2; rw [HI1.out, List.length_append, List.length_singleton]; omega⟩, ⟨?_⟩, HB1⟩, by simp [intOf]; omega⟩
            rw [List.length_append, List.length_singleton, HN.out]
            have := HO1.out
            simpa [Lib.byteCells] using this
      · have d1 : decide (i < (s.size : Int)) = false := decide_eq_false hlt
        have d2 : decide ((s.size : Int) ≤ i) = true := decide_eq_true (by omega)
        have hRn := HI.out.1.end (by rw [HLL.out]; omega)
        have HV := Aside0.mk (show takeV s = .tuple #[.string ⟨#[]⟩, .string s, .bool false] by unfold takeV; rw [HL.out, HT.out, hRn])
        clear hRn
        go_wp2
        go_quiet (fail)
        go_wp2
        try rw [Exit.noGoto_ret]
        go_ret3
        exact ⟨by rw [HV.out]; rfl, pw_below_drewN HW.out _⟩
  · have HD := Aside0.mk (decide_eq_false h0)
    have hV : takeV s = .tuple #[.string ⟨#[]⟩, .string s, .bool false] := by unfold takeV; rw [hl, takeL_head h0]
    rw [hV]
    clear hl hll h0 hV
    go_enter Tryz.func36, Tryz.ntmps36
    go_wp2_with fail
    go_step3
    go_wp2_with (go_at_call 34; refine (Tryz.strings_HasPrefix s ⟨#[34]⟩ _).mono ?_; rw [HP.out, HD.out]; rintro e w1 ⟨rfl, hw1⟩; rw [hw1]; clear hw1)
    try rw [Exit.noGoto_ret]
    go_ret3
    exact ⟨rfl, Below.refl _ _⟩
end Go.Proofs.YteglbmindbfkeaaGreatDoor.H
