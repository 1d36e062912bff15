/- The reference's Quote as a contract. -/
import Derived.Test.YteglbmindbfkeaaGreatDoorQc
namespace Go.Proofs.YteglbmindbfkeaaGreatDoor.H
open Go.RowKit Go.Proofs.YteglbmindbfkeaaGreatDoorW.PrintWords
set_option linter.unusedVariables false
set_option linter.unusedSimpArgs false

section
variable {ops : Array Oper} {rest : List Oper} {o : Oper} {a : Act} {Q : Exit → Act → World → Prop}
/-- Bytes are appended to a row of bytes. -/
theorem append_bytes {w0 W : World} (base : Nat) (hgd : o.guard = none) (s x : Operand) (ho : o.op = .call { callee := .builtin .append, args := #[s, x], argTypes := #[45, 45] })
    (v : Value) (n m : Nat) (l ys : Bs) (cs : Array Value) (hcs : cs = (Lib.byteCells ys).toArray) (hs : a.eval s = v) (hx : a.eval x = .slice (some ⟨W.heap.size, 0, none⟩) m m) (hm : ys.length = m)
    (HO : W.ownsRow base 5 1 v n (Lib.byteCells l)) (HB : Below base w0 W) (hbase : base ≤ W.heap.size) (hl : n + m ≤ 140737488355328)
    (h : ∀ v1 w1, w1.ownsRow base 5 1 v1 (n + m) (Lib.byteCells (l ++ ys)) → Below base w0 w1 → W.grownBy w1 v.ownBlock → wpList Tryz.prog ops Q rest (a.put o.dst v1) w1) :
    wpList Tryz.prog ops Q (o :: rest) a (W.alloc (.cells cs 5)) := by
  subst hcs
  obtain ⟨i0, hi, hzz⟩ := Option.map_eq_some_iff.1 infoByte
  simp only [Prod.mk.injEq] at hzz
  obtain ⟨hz0, hz1, hz2⟩ := hzz
  refine wpList_append_own_at (W.alloc (.cells (Lib.byteCells ys).toArray 5)) hgd s x 45 ho base 5 i0 (.int .u8 0) 1 1 Tryz.underlying45 hi hz0 hz1 hz2 rfl (by omega) v n (Lib.byteCells l) hs (HO.alloc _) ⟨W.heap.size, 0, none⟩ m m (Lib.byteCells ys) hx (by rw [Lib.byteCells_length]; omega)
    (by simpa using World.news_of_block (cs := (Lib.byteCells ys).toArray) (t := 5) (fr := (0, 0)) (heap_alloc_new W (.cells (Lib.byteCells ys).toArray 5))) (fun u hu => by
      unfold Lib.byteCells at hu
      obtain ⟨c, _, rfl⟩ := List.mem_map.1 hu
      rfl) (by simp only [maxLen]; omega) (by omega) (by simp; omega) ?_
  intro v1 w1 hown hg _ hat
  refine h v1 w1 (by simpa [Lib.byteCells] using hown) ((HB.alloc hbase _).grown hg (by simp; omega) (own_base HO)) (World.grownBy.trans (World.grownBy_alloc W _ _) hg)
end
section
variable {ops : Array Oper} {o : Oper} {a : Act} {Kc : Act → World → Prop} {Q : Exit → Act → World → Prop}
/-- The same in a region that draws its order. -/
theorem append_bytes_step {w0 W0 W : World} (base : Nat) (hw : Region.wanted o (yielded ops a.tmps) = true) (s x : Operand) (ho : o.op = .call { callee := .builtin .append, args := #[s, x], argTypes := #[45, 45] })
    (v : Value) (n m : Nat) (l ys : Bs) (cs : Array Value) (hcs : cs = (Lib.byteCells ys).toArray) (hW : W = W0.alloc (.cells cs 5)) (hs : a.eval s = v) (hx : a.eval x = .slice (some ⟨W0.heap.size, 0, none⟩) m m) (hm : ys.length = m)
    (HO : W0.ownsRow base 5 1 v n (Lib.byteCells l)) (HB : Below base w0 W0) (hbase : base ≤ W0.heap.size) (hl : n + m ≤ 140737488355328)
    (h : ∀ v1 w1, w1.ownsRow base 5 1 v1 (n + m) (Lib.byteCells (l ++ ys)) → Below base w0 w1 → W.grownBy w1 v.ownBlock → Kc (a.put o.dst v1) w1) :
    if Region.wanted o (yielded ops a.tmps) = true then Oper.wp Tryz.prog o a W Kc Q else Kc (a.put o.dst undef) W := by
  subst hcs
  subst hW
  obtain ⟨i0, hi, hzz⟩ := Option.map_eq_some_iff.1 infoByte
  simp only [Prod.mk.injEq] at hzz
  obtain ⟨hz0, hz1, hz2⟩ := hzz
  obtain ⟨v1, w1, hrun, hown, hg, _, hat⟩ := run_append_own_at (P := Tryz.prog) (W0.alloc (.cells (Lib.byteCells ys).toArray 5)) base 45 o.type 5 i0 (.int .u8 0) 1 1 Tryz.underlying45 hi hz0 hz1 hz2 rfl (by omega) v n (Lib.byteCells l) (HO.alloc _) ⟨W0.heap.size, 0, none⟩ m m (Lib.byteCells ys) (by rw [Lib.byteCells_length]; omega)
    (by simpa using World.news_of_block (cs := (Lib.byteCells ys).toArray) (t := 5) (fr := (0, 0)) (heap_alloc_new W0 (.cells (Lib.byteCells ys).toArray 5))) (fun u hu => by
      unfold Lib.byteCells at hu
      obtain ⟨c, _, rfl⟩ := List.mem_map.1 hu
      rfl) (by simp only [maxLen]; omega) (by omega) (by simp; omega)
  rw [if_pos hw]
  unfold Oper.wp execOp
  simp only [ho, resolve, invoke, builtin, Sem.run_bind, Sem.run_pure, Result.andThen_ok, List.map_toArray, List.map_cons, List.map_nil, hs, hx, hrun]
  exact h _ _ (by simpa [Lib.byteCells] using hown) ((HB.alloc hbase _).grown hg (by simp; omega) (own_base HO)) hg
end
theorem own_first (W : World) (n0 : Nat) (h : n0 ≤ W.heap.size) (cs : Array Value) (ys : Bs) (m : Nat) (hcs : cs = (Lib.byteCells ys).toArray) (hm : ys.length = m) (h9 : m ≤ 1048576) : (W.alloc (.cells cs 5)).ownsRow n0 5 1 (.slice (some ⟨W.heap.size, 0, none⟩) m m) m (Lib.byteCells ys) := by
  subst hcs
  refine ⟨by rw [Lib.byteCells_length]; omega, .inr ⟨W.heap.size, m, (Lib.byteCells ys).toArray, rfl, h, heap_alloc_new W _, Nat.le_refl _, by unfold maxLen; omega, by simp [Lib.byteCells_length, hm], ?_⟩⟩
  rw [List.take_of_length_le (by rw [List.toList_toArray, Lib.byteCells_length]; omega)]

theorem idx_hex (k : IntKind) (z : Int) (i : Nat) (hz : z = (i : Int)) (hi : i < 16) (w : World) :
    (Instr.index 9 (.string ⟨#[48, 49, 50, 51, 52, 53, 54, 55, 56, 57, 97, 98, 99, 100, 101, 102]⟩) (.int k z)).run Tryz.prog w = .ok (.int .u8 ((hexD i).toNat : Int)) w := by
  subst hz
  have hs : (⟨#[48, 49, 50, 51, 52, 53, 54, 55, 56, 57, 97, 98, 99, 100, 101, 102]⟩ : ByteArray).size = 16 := rfl
  have hg := hexes_get i hi
  simp [Instr.index, run_underlying Tryz.underlying9, asIntOf, hs, hi, hg]

set_option maxRecDepth 100000 in
set_option maxHeartbeats 4000000 in
theorem rquote_any (s : ByteArray) (w : World) (hs : s.size ≤ 34359738368) :
    Calls Tryz.prog 52 #[.string s] w fun e w' => e = .returned (.string (sB (quoteL s.data.toList))) ∧ Below w.heap.size w w' := by
  have hu9 := Tryz.underlying9
  obtain ⟨l, hl⟩ : ∃ l, s.data.toList = l := ⟨_, rfl⟩
  have hll : l.length = s.size := by rw [← hl, data_length]
  have HL := Aside0.mk hl
  have HLL := Aside0.mk hll
  rw [hl]
  have HF := Aside0.mk (own_first w w.heap.size (Nat.le_refl _) #[.int .u8 34] [34] 1 rfl rfl (by omega))
  clear hl hll
  go_enter Tryz.func52, Tryz.ntmps52
  go_wp2
  go_loopw [3, 4] (fun vv iv wr => ∃ (i : Int), iv = .int .i64 i ∧ 0 ≤ i ∧ i ≤ s.size ∧ Aside0 (wr.ownsRow w.heap.size 5 1 vv (34 :: (l.take i.toNat).flatMap escB).length (Lib.byteCells (34 :: (l.take i.toNat).flatMap escB))) ∧ Aside0 (Below w.heap.size w wr)) (fun _ iv _ => (s.size - intOf iv).toNat)
  case atStart => exact ⟨0, rfl, Int.le_refl _, by omega, HF, ⟨below_alloc (Below.refl _ _) _⟩⟩
  case round =>
    obtain ⟨i, rfl, i0, i1, HO, HW⟩ := hrel
    have hWz := HW.out.size
    have hfl := flat_len (l.take i.toNat)
    rw [List.length_take] at hfl
    obtain ⟨B, hBd⟩ : ∃ B, 34 :: (l.take i.toNat).flatMap escB = B := ⟨_, rfl⟩
    obtain ⟨N, hN⟩ : ∃ N, B.length = N := ⟨_, rfl⟩
    have hBl : N ≤ 140737488355000 := by rw [← hN, ← hBd]; simp only [List.length_cons]; omega
    rw [hBd, hN] at HO
    obtain ⟨A, c, hv⟩ := own_slice HO.out
    subst hv
    have HBn := Aside0.mk hN
    have HBl := Aside0.mk hBl
    have w4 : wrap64 (i + 1) = i + 1 := by unfold wrap64; omega
    by_cases hlt : i < (s.size : Int)
    · have d1 : decide (i < (s.size : Int)) = true := decide_eq_true hlt
      have hin : i.toNat < s.size := by omega
      have hbt := bt_at s i
      obtain ⟨q, hq⟩ : ∃ q, l[i.toNat]? = some q := ⟨_, List.getElem?_eq_getElem (by rw [HLL.out]; exact hin)⟩
      have hb := bt_get s i q (by rw [HL.out]; exact hq)
      have hi1 : (i + 1).toNat = i.toNat + 1 := by omega
      have het := esc_take hq
      have hfin : 34 :: (l.take (i.toNat + 1)).flatMap escB = B ++ escB q := by rw [het, ← hBd]; rfl
      have HFin := Aside0.mk hfin
      have HI1 := Aside0.mk hi1
      clear hq het hfin hi1 hBd hfl hBl hN
      have hq8 := q.toNat_lt
      by_cases hq1 : q = 34 ∨ q = 92
      · have he : escB q = [92, q] := by unfold escB; rw [if_pos hq1]
        have HE := Aside0.mk he
        clear he
        rcases hq1 with rfl | rfl
        · have hb : bt s i = 34 := hb
          go_wp2_with (at_builtin; refine append_bytes (w0 := w) w.heap.size rfl (.tmp 22) (.tmp 24) rfl _ N 2 B [92, 34] _ rfl rfl rfl rfl ?aO ?aB ?aS ?aL ?_; (case aO => exact HO.out); (case aB => exact HW.out); (case aS => exact HW.out.size); (case aL => have := HBl.out; omega); intro v1 w1 ho1 hb1 _; have HO1 := Aside0.mk ho1; have HB1 := Aside0.mk hb1; clear ho1 hb1)
          refine ⟨⟨i + 1, rfl, by omega, by omega, ⟨?_⟩, HB1⟩, by simp [intOf]; omega⟩
          rw [HI1.out, HFin.out, HE.out, List.length_append, HBn.out]
          exact HO1.out
        · have hb : bt s i = 92 := hb
          go_wp2_with (at_builtin; refine append_bytes (w0 := w) w.heap.size rfl (.tmp 22) (.tmp 24) rfl _ N 2 B [92, 92] _ rfl rfl rfl rfl ?aO ?aB ?aS ?aL ?_; (case aO => exact HO.out); (case aB => exact HW.out); (case aS => exact HW.out.size); (case aL => have := HBl.out; omega); intro v1 w1 ho1 hb1 _; have HO1 := Aside0.mk ho1; have HB1 := Aside0.mk hb1; clear ho1 hb1)
          refine ⟨⟨i + 1, rfl, by omega, by omega, ⟨?_⟩, HB1⟩, by simp [intOf]; omega⟩
          rw [HI1.out, HFin.out, HE.out, List.length_append, HBn.out]
          exact HO1.out
      · have n1 : ((q.toNat : Int) == 34) = false := by
          simp only [beq_eq_false_iff_ne, ne_eq]
          intro h
          exact hq1 (.inl (UInt8.toNat_inj.1 (by simpa using (by omega : q.toNat = 34))))
        have n2 : ((q.toNat : Int) == 92) = false := by
          simp only [beq_eq_false_iff_ne, ne_eq]
          intro h
          exact hq1 (.inr (UInt8.toNat_inj.1 (by simpa using (by omega : q.toNat = 92))))
        by_cases hq2 : 32 ≤ q.toNat ∧ q.toNat ≤ 126
        · have he : escB q = [q] := by unfold escB; rw [if_neg hq1, if_pos hq2]
          have HE := Aside0.mk he
          have r1 : decide ((32 : Int) ≤ (q.toNat : Int)) = true := decide_eq_true (by omega)
          have r2 : decide ((q.toNat : Int) ≤ 126) = true := decide_eq_true (by omega)
          clear he hq1
          go_wp2_with (at_builtin; refine append_bytes (w0 := w) w.heap.size rfl (.tmp 32) (.tmp 34) rfl _ N 1 B [q] _ rfl rfl rfl rfl ?aO ?aB ?aS ?aL ?_; (case aO => exact HO.out); (case aB => exact HW.out); (case aS => exact HW.out.size); (case aL => have := HBl.out; omega); intro v1 w1 ho1 hb1 _; have HO1 := Aside0.mk ho1; have HB1 := Aside0.mk hb1; clear ho1 hb1)
          refine ⟨⟨i + 1, rfl, by omega, by omega, ⟨?_⟩, HB1⟩, by simp [intOf]; omega⟩
          rw [HI1.out, HFin.out, HE.out, List.length_append, HBn.out]
          exact HO1.out
        · have he : escB q = [92, 120, hexD (q.toNat / 16), hexD (q.toNat % 16)] := by unfold escB; rw [if_neg hq1, if_neg hq2]
          have HE := Aside0.mk he
          have u1 : IntKind.u8.wrap ((q.toNat : Int) / 16) = (q.toNat : Int) / 16 := by simp [IntKind.wrap, IntKind.bits, IntKind.signed]; omega
          have u2 : (q.toNat : Int).tmod 16 = (q.toNat : Int) % 16 := Int.tmod_eq_emod_of_nonneg (by omega)
          have g1 := fun W => idx_hex .u8 ((q.toNat : Int) / 16) (q.toNat / 16) (by omega) (by omega) W
          have g2 := fun W => idx_hex .u8 ((q.toNat : Int) % 16) (q.toNat % 16) (by omega) (by omega) W
          clear he hq1
          by_cases hq3 : q.toNat < 32
          · have r1 : decide ((32 : Int) ≤ (q.toNat : Int)) = false := decide_eq_false (by omega)
            go_wp2
            go_region_held3 (fun _ => True) (trivial) (first
              | (refine append_bytes_step (w0 := w) (W0 := wr.drew) w.heap.size (by rfl) (.tmp 36) (.tmp 43) rfl _ N 4 B [92, 120, hexD (q.toNat / 16), hexD (q.toNat % 16)] #[.int .u8 92, .int .u8 120, .int .u8 (hexD (q.toNat / 16)).toNat, .int .u8 (hexD (q.toNat % 16)).toNat] rfl ?aW rfl ?aX rfl ?aO ?aB ?aS ?aL ?_; (case aW => first | rfl | (rw [hexes_get _ (by omega), hexes_get _ (by omega)]) | skip); (case aX => rfl); (case aO => exact HO.out); (case aB => exact below_drew HW.out); (case aS => exact HW.out.size); (case aL => have := HBl.out; omega); intro v1 w1 ho1 hb1 _; have HO1 := Aside0.mk ho1; have HB1 := Aside0.mk hb1; clear ho1 hb1))
            all_goals
              go_wp2
              refine ⟨⟨i + 1, rfl, by omega, by omega, ⟨?_⟩, HB1⟩, by simp [intOf]; omega⟩
              rw [HI1.out, HFin.out, HE.out, List.length_append, HBn.out]
              exact HO1.out
          · have r1 : decide ((32 : Int) ≤ (q.toNat : Int)) = true := decide_eq_true (by omega)
            have r2 : decide ((q.toNat : Int) ≤ 126) = false := decide_eq_false (by omega)
            go_wp2
            go_region_held3 (fun _ => True) (trivial) (first
              | (refine append_bytes_step (w0 := w) (W0 := wr.drew) w.heap.size (by rfl) (.tmp 36) (.tmp 43) rfl _ N 4 B [92, 120, hexD (q.toNat / 16), hexD (q.toNat % 16)] #[.int .u8 92, .int .u8 120, .int .u8 (hexD (q.toNat / 16)).toNat, .int .u8 (hexD (q.toNat % 16)).toNat] rfl ?aW rfl ?aX rfl ?aO ?aB ?aS ?aL ?_; (case aW => first | rfl | (rw [hexes_get _ (by omega), hexes_get _ (by omega)]) | skip); (case aX => rfl); (case aO => exact HO.out); (case aB => exact below_drew HW.out); (case aS => exact HW.out.size); (case aL => have := HBl.out; omega); intro v1 w1 ho1 hb1 _; have HO1 := Aside0.mk ho1; have HB1 := Aside0.mk hb1; clear ho1 hb1))
            all_goals
              go_wp2
              refine ⟨⟨i + 1, rfl, by omega, by omega, ⟨?_⟩, HB1⟩, by simp [intOf]; omega⟩
              rw [HI1.out, HFin.out, HE.out, List.length_append, HBn.out]
              exact HO1.out
    · have d1 : decide (i < (s.size : Int)) = false := decide_eq_false hlt
      have htk : l.take i.toNat = l := List.take_of_length_le (by rw [HLL.out]; omega)
      rw [htk] at hBd hfl
      have HQ := Aside0.mk (show quoteL l = B ++ [34] by rw [← hBd]; rfl)
      clear htk hfl hBd hN hBl
      go_wp2_with (at_builtin; refine append_bytes (w0 := w) w.heap.size rfl (.tmp 45) (.tmp 46) rfl _ N 1 B [34] _ rfl rfl rfl rfl ?aO ?aB ?aS ?aL ?_; (case aO => exact HO.out); (case aB => exact HW.out); (case aS => exact HW.out.size); (case aL => have := HBl.out; omega); intro v1 w1 ho1 hb1 _; have HO1 := Aside0.mk ho1; have HB1 := Aside0.mk hb1; clear ho1 hb1; obtain ⟨A1, c1, hv1⟩ := own_slice HO1.out; have hcv := own_text HO1.out; subst hv1)
      go_ret
      rw [HQ.out]
      exact ⟨rfl, HB1.out⟩
end Go.Proofs.YteglbmindbfkeaaGreatDoor.H
