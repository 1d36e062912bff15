/- shapeText of the program. -/
import Derived.Test.YteglbmindbfkeaaGreatDoorCc
import Derived.Deep.DeepCutAuto
namespace Go.Proofs.YteglbmindbfkeaaGreatDoor.H
open Go.RowKit Go.Proofs.YteglbmindbfkeaaGreatDoorW.PrintWords
set_option linter.unusedVariables false
set_option linter.unusedSimpArgs false
set_option maxRecDepth 100000 in
set_option maxHeartbeats 1000000 in
theorem fmtuint_any (u : Nat) (w : World) (hE : Env w) (hu64 : u < 18446744073709551616) : Calls Tryz.prog 47 #[.int .u64 (u : Int), .int .i64 10] w fun e w' => e = .returned (.string (sB (Lib.decDigits u))) ∧ Below w.heap.size w w' := by
  have h := fun W h => fmtuint_in u W h hu64
  have HE := Aside0.mk hE
  clear hE
  go_enter Tryz.func47, Tryz.ntmps47
  go_wp2_with (go_at_call 70; refine (h _ HE.out).mono ?_; rintro e w1 ⟨rfl, hB⟩; have HB := Aside0.mk hB; clear hB)
  go_ret
  exact ⟨rfl, HB.out⟩
theorem trim_10 (l : Bs) : Lib.trimSuffix (l ++ [10]) [10] = l := by
  unfold Lib.trimSuffix
  simp [Lib.hasSuffix]
theorem trimnl_any (l : Bs) (w : World) (hl : l.length ≤ 1099511627776) : Calls Tryz.prog 45 #[.string (sB (l ++ [10])), .string ⟨#[10]⟩] w fun e w' => e = .returned (.string (sB l)) ∧ w' = w := by
  have h := Tryz.strings_TrimSuffix (sB (l ++ [10])) ⟨#[10]⟩ w (by rw [sB_size, List.length_append]; simp; omega)
  rw [sB_data, show (ByteArray.data ⟨#[10]⟩).toList = [10] from rfl, trim_10] at h
  exact h
theorem ints_new {W : World} {k : Nat} (ns : List Int) (cs : Array Value) (hk : k = W.heap.size) (hcs : cs = (ns.map fun n => Value.int .i64 n).toArray) : IntsR (W.alloc (.cells cs 3)) (some ⟨k, 0, none⟩) ns := fun i x hx => by
  subst hk hcs
  refine ⟨_, _, rfl, ?_⟩
  rw [Nat.zero_add]
  exact (blk_cell (blk_new W _) i).trans (by simp [hx])
theorem ints_newD {W : World} {k : Nat} (ns : List Int) (cs : Array Value) (hk : k = W.heap.size) (hcs : cs = (ns.map fun n => Value.int .i64 n).toArray) : IntsR (W.alloc (.cells cs 3)).drew (some ⟨k, 0, none⟩) ns := ints_new ns cs hk hcs
theorem ints_new2 {W : World} {k : Nat} {o : Obj} (ns : List Int) (cs : Array Value) (hk : k = W.heap.size) (hcs : cs = (ns.map fun n => Value.int .i64 n).toArray) : IntsR ((W.alloc (.cells cs 3)).alloc o) (some ⟨k, 0, none⟩) ns := (ints_new ns cs hk hcs).below (below_alloc (Below.refl _ _) _)
theorem ints_new2D {W : World} {k : Nat} {o : Obj} (ns : List Int) (cs : Array Value) (hk : k = W.heap.size) (hcs : cs = (ns.map fun n => Value.int .i64 n).toArray) : IntsR ((W.alloc (.cells cs 3)).alloc o).drew (some ⟨k, 0, none⟩) ns := ints_new2 ns cs hk hcs
theorem dec_len20 {u : Nat} (h : u < 18446744073709551616) : (Lib.decDigits u).length ≤ 20 := by
  rw [Lib.decDigits_length]
  by_cases h1 : 1 ≤ u
  · have := Lib.numDigits_eq u h1 h
    split at this <;> omega
  · obtain rfl : u = 0 := by omega
    rw [← Lib.decDigits_length, Lib.decDigits_one (by omega)]
    decide
theorem line_len {wd : Bs} {ns : List Int} {k : Nat} (hw : wd.length ≤ 16) (hn : ∀ n ∈ ns, I64 n) (hk : ns.length ≤ k) : (sB (lineL wd ns)).size ≤ 16 + 22 * k := by
  rw [sB_size, lineL_nsF, List.length_append]
  have := nsF_len hn
  omega
theorem all_i64 {ns : List Int} (h : ∀ n ∈ ns, I64 n) : ∀ n ∈ ns, I64 n := h
/-- A shape's cells in its box. -/
structure ShBox (w : World) (b : Nat) (s : ShapeV) : Prop where
  c0 : w.cell? ⟨b, 0, none⟩ = some (.int .i64 s.sector)
  c1 : w.cell? ⟨b, 1, none⟩ = some (.int .i64 s.sectors)
  c2 : w.cell? ⟨b, 2, none⟩ = some (.int .i64 s.journal)
  c3 : w.cell? ⟨b, 3, none⟩ = some (.int .i64 s.pack)
  c4 : w.cell? ⟨b, 4, none⟩ = some (.int .i64 s.min)
  c5 : w.cell? ⟨b, 5, none⟩ = some (.int .i64 s.normal)
  c6 : w.cell? ⟨b, 6, none⟩ = some (.int .i64 s.max)
  c7 : w.cell? ⟨b, 7, none⟩ = some (.int .u64 (s.seed : Int))
  c8 : w.cell? ⟨b, 8, none⟩ = some (.int .i64 s.bits)
  c9 : w.cell? ⟨b, 9, none⟩ = some (.bool s.dedup)
theorem ShBox.new (w : World) (s : ShapeV) : ShBox (w.alloc (.cells (shC s) 26)) w.heap.size s := by
  have h := blk_new w (.cells (shC s) 26)
  exact ⟨blk_cell h 0, blk_cell h 1, blk_cell h 2, blk_cell h 3, blk_cell h 4, blk_cell h 5, blk_cell h 6, blk_cell h 7, blk_cell h 8, blk_cell h 9⟩
theorem ShBox.below {w w' : World} {b : Nat} {s : ShapeV} (h : ShBox w b s) (hb : Below w.heap.size w w') : ShBox w' b s :=
  ⟨cell_later hb h.c0, cell_later hb h.c1, cell_later hb h.c2, cell_later hb h.c3, cell_later hb h.c4, cell_later hb h.c5, cell_later hb h.c6, cell_later hb h.c7, cell_later hb h.c8, cell_later hb h.c9⟩
def cutL (s : ShapeV) : Bs := lineL wCut [s.min, s.normal, s.max] ++ 32 :: Lib.decDigits s.seed ++ [10]
theorem shapeL_cut (s : ShapeV) : shapeL s = (lineL wVolume [s.sector, s.sectors, s.journal, s.pack] ++ [10]) ++ cutL s ++ lineL wIndex [s.bits] ++ [32] ++ ddL s.dedup ++ [10] := by
  unfold shapeL cutL
  simp
theorem lineV_any (A : Option Addr) (c : Nat) (s : ShapeV) (w : World) (hn : ∀ n ∈ [s.sector, s.sectors, s.journal, s.pack], I64 n) (hE : Env w) (hI : IntsR w A [s.sector, s.sectors, s.journal, s.pack]) :
    Calls Tryz.prog 46 #[.string ⟨#[118, 111, 108, 117, 109, 101]⟩, .slice A 4 c] w fun e w' => e = .returned (.string (sB (lineL wVolume [s.sector, s.sectors, s.journal, s.pack] ++ [10]))) ∧ Below w.heap.size w w' :=
  line_any wVolume A c _ w hE hI hn (by simp) (by decide)
theorem lineI_any (A : Option Addr) (c : Nat) (s : ShapeV) (w : World) (hn : ∀ n ∈ [s.bits], I64 n) (hE : Env w) (hI : IntsR w A [s.bits]) :
    Calls Tryz.prog 46 #[.string ⟨#[105, 110, 100, 101, 120]⟩, .slice A 1 c] w fun e w' => e = .returned (.string (sB (lineL wIndex [s.bits] ++ [10]))) ∧ Below w.heap.size w w' :=
  line_any wIndex A c _ w hE hI hn (by simp) (by decide)
set_option maxRecDepth 100000 in
set_option maxHeartbeats 16000000 in
theorem shapeText_any (s : ShapeV) (w : World) (hE : Env w) (hs : ShOk s) : Calls Tryz.prog 16 #[shV s] w fun e w' => e = .returned (.string (sB (shapeL s))) ∧ Below w.heap.size w w' := by
  have HB0 := Aside0.mk (below_alloc (Below.refl w.heap.size w) (.cells (shC s) 26))
  have HE := Aside0.mk (hE.below HB0.out)
  have HX := Aside0.mk (ShBox.new w s)
  have hcut : ∀ n ∈ [s.min, s.normal, s.max], I64 n := by
    simp only [List.mem_cons, List.not_mem_nil, or_false]
    rintro n (rfl | rfl | rfl)
    · exact hs.min
    · exact hs.normal
    · exact hs.max
  have hvol : ∀ n ∈ [s.sector, s.sectors, s.journal, s.pack], I64 n := by
    simp only [List.mem_cons, List.not_mem_nil, or_false]
    rintro n (rfl | rfl | rfl | rfl)
    · exact hs.sector
    · exact hs.sectors
    · exact hs.journal
    · exact hs.pack
  have hidx : ∀ n ∈ [s.bits], I64 n := by
    simp only [List.mem_cons, List.not_mem_nil, or_false]
    rintro n rfl
    exact hs.bits
  have HCut := Aside0.mk hcut
  have HVol := Aside0.mk hvol
  have HIdx := Aside0.mk hidx
  have HSeed := Aside0.mk hs.seed
  have zc := line_len (wd := wCut) (k := 3) (by decide) hcut (by simp)
  have zv := line_len (wd := wVolume) (k := 4) (by decide) hvol (by simp)
  have zi := line_len (wd := wIndex) (k := 1) (by decide) hidx (by simp)
  have zd : (sB (Lib.decDigits s.seed)).size ≤ 20 := by rw [sB_size]; exact dec_len20 hs.seed
  unfold shV
  obtain ⟨V, hV⟩ : ∃ V, shC s = V := ⟨_, rfl⟩
  rw [hV] at HB0 HE HX ⊢
  have r9 := HX.out.c9
  clear hE hs hcut hvol hidx hV
  cases hd : s.dedup with
  | true =>
    rw [hd] at r9
    have HD := Aside0.mk hd
    clear hd
    go_enter Tryz.func16, Tryz.ntmps16
    go_wp2_with fail
    obtain ⟨w2, hw2⟩ : ∃ w2, w.alloc (.cells V 26) = w2 := ⟨_, rfl⟩
    rw [hw2] at HB0 HE HX ⊢
    clear hw2 r9
    go_cut [4] from 7 to 25 (fun cv wx => cv = .string (sB (cutL s)) ∧ Aside0 (Below w2.heap.size w2 wx))
    case first =>
      have r4 := HX.out.c4
      have r5 := HX.out.c5
      have r6 := HX.out.c6
      have r7 := HX.out.c7
      have t1 : ¬ 9223372036854775807 < (sB (lineL wCut [s.min, s.normal, s.max])).size + 1 := by omega
      have t2 : ¬ 9223372036854775807 < (sB (lineL wCut [s.min, s.normal, s.max])).size + 1 + (sB (Lib.decDigits s.seed)).size := by omega
      have t3 : ¬ 9223372036854775807 < (sB (lineL wCut [s.min, s.normal, s.max])).size + 1 + (sB (Lib.decDigits s.seed)).size + 1 := by omega
      clear zc zv zi zd
      go_region_held3 (fun w' => w'.cell? ⟨w.heap.size, 4, none⟩ = some (.int .i64 s.min) ∧ w'.cell? ⟨w.heap.size, 5, none⟩ = some (.int .i64 s.normal) ∧ w'.cell? ⟨w.heap.size, 6, none⟩ = some (.int .i64 s.max) ∧ w'.cell? ⟨w.heap.size, 7, none⟩ = some (.int .u64 (s.seed : Int))) (first
        | exact ⟨cell_later HB2.out r4, cell_later HB2.out r5, cell_later HB2.out r6, cell_later HB2.out r7⟩
        | exact ⟨cell_later (below_alloc HB1.out _) r4, cell_later (below_alloc HB1.out _) r5, cell_later (below_alloc HB1.out _) r6, cell_later (below_alloc HB1.out _) r7⟩
        | exact ⟨cell_later HB1.out r4, cell_later HB1.out r5, cell_later HB1.out r6, cell_later HB1.out r7⟩
        | exact ⟨cell_later (below_alloc (below_drew (Below.refl _ _)) _) r4, cell_later (below_alloc (below_drew (Below.refl _ _)) _) r5, cell_later (below_alloc (below_drew (Below.refl _ _)) _) r6, cell_later (below_alloc (below_drew (Below.refl _ _)) _) r7⟩
        | exact ⟨r4, r5, r6, r7⟩) (first
        | (go_at_call 45; refine (trimnl_any (lineL wCut [s.min, s.normal, s.max]) _ (by rw [← sB_size]; have := line_len (wd := wCut) (k := 3) (by decide) HCut.out (by simp); omega)).mono ?_; rintro e w9 ⟨rfl, rfl⟩)
        | (go_at_call 46; have HQ := HB1.out; refine (line_any wCut _ _ [s.min, s.normal, s.max] _ (HE.out.below (by first | exact HB1.out | exact below_alloc HB1.out _)) (by first | exact ints_new _ _ (by simp) rfl | exact (ints_new _ _ (by simp) rfl).below hBn) HCut.out (by simp) (by decide)).mono ?_; rintro e w4 ⟨rfl, hBm⟩; have HB2 := Aside0.mk (by first | exact below_step HB1.out hBm | exact below_step (below_alloc HB1.out _) hBm); clear HQ)
        | (go_at_call 46; refine (line_any wCut _ _ [s.min, s.normal, s.max] _ (HE.out.below (below_alloc (below_drew (Below.refl _ _)) _)) (ints_new _ _ (by simp) rfl) HCut.out (by simp) (by decide)).mono ?_; rintro e w3 ⟨rfl, hBn⟩; have HB1 := Aside0.mk (below_step (below_alloc (below_drew (Below.refl w2.heap.size w2)) _) hBn))
        | (go_at_call 47; have HQ := HB1.out; refine (fmtuint_any s.seed _ (HE.out.below HB1.out) HSeed.out).mono ?_; rintro e w4 ⟨rfl, hBm⟩; have HB2 := Aside0.mk (below_step HB1.out hBm); clear HQ)
        | (go_at_call 47; refine (fmtuint_any s.seed _ (HE.out.below (by first | exact below_drew (Below.refl _ _) | exact below_alloc (below_drew (Below.refl _ _)) _)) HSeed.out).mono ?_; rintro e w3 ⟨rfl, hBn⟩; have HB1 := Aside0.mk (by first | exact below_step (below_drew (Below.refl w2.heap.size w2)) hBn | exact below_step (below_alloc (below_drew (Below.refl w2.heap.size w2)) _) hBn)))
      all_goals
        go_wp2_with fail
        go_meet
        all_goals exact ⟨by rw [show (⟨#[32]⟩ : ByteArray) = sB [32] from rfl, show (⟨#[10]⟩ : ByteArray) = sB [10] from rfl, sB_app, sB_app, sB_app]; unfold cutL; simp, HB2⟩
    case rest =>
      obtain ⟨rfl, HW⟩ := hcut
      have r0 := HX.out.c0
      have r1 := HX.out.c1
      have r2 := HX.out.c2
      have r3 := HX.out.c3
      have r8 := HX.out.c8
      have zv1 : (sB (lineL wVolume [s.sector, s.sectors, s.journal, s.pack] ++ [10])).size ≤ 105 := by rw [sB_size, List.length_append, ← sB_size]; simp only [List.length_cons, List.length_nil]; omega
      have zc1 : (sB (cutL s)).size ≤ 110 := by
        unfold cutL
        rw [sB_size, List.length_append, List.length_append, List.length_cons, ← sB_size, ← sB_size]
        simp only [List.length_cons, List.length_nil]
        omega
      have t1 : ¬ 9223372036854775807 < (sB (lineL wVolume [s.sector, s.sectors, s.journal, s.pack] ++ [10])).size + (sB (cutL s)).size := by omega
      have t2 : ¬ 9223372036854775807 < (sB (lineL wVolume [s.sector, s.sectors, s.journal, s.pack] ++ [10])).size + (sB (cutL s)).size + (sB (lineL wIndex [s.bits])).size := by omega
      have t3 : ¬ 9223372036854775807 < (sB (lineL wVolume [s.sector, s.sectors, s.journal, s.pack] ++ [10])).size + (sB (cutL s)).size + (sB (lineL wIndex [s.bits])).size + 1 := by omega
      have t4 : ¬ 9223372036854775807 < (sB (lineL wVolume [s.sector, s.sectors, s.journal, s.pack] ++ [10])).size + (sB (cutL s)).size + (sB (lineL wIndex [s.bits])).size + 1 + 5 := by omega
      have t5 : ¬ 9223372036854775807 < (sB (lineL wVolume [s.sector, s.sectors, s.journal, s.pack] ++ [10])).size + (sB (cutL s)).size + (sB (lineL wIndex [s.bits])).size + 1 + 5 + 1 := by omega
      clear zc zv zi zd zv1 zc1
      go_wp2_with fail
      go_region_held3 (fun w' => w'.cell? ⟨w.heap.size, 0, none⟩ = some (.int .i64 s.sector) ∧ w'.cell? ⟨w.heap.size, 1, none⟩ = some (.int .i64 s.sectors) ∧ w'.cell? ⟨w.heap.size, 2, none⟩ = some (.int .i64 s.journal) ∧ w'.cell? ⟨w.heap.size, 3, none⟩ = some (.int .i64 s.pack) ∧ w'.cell? ⟨w.heap.size, 8, none⟩ = some (.int .i64 s.bits)) (first
        | exact ⟨cell_later HB2.out r0, cell_later HB2.out r1, cell_later HB2.out r2, cell_later HB2.out r3, cell_later HB2.out r8⟩
        | exact ⟨cell_later (below_alloc HB1.out _) r0, cell_later (below_alloc HB1.out _) r1, cell_later (below_alloc HB1.out _) r2, cell_later (below_alloc HB1.out _) r3, cell_later (below_alloc HB1.out _) r8⟩
        | exact ⟨cell_later HB1.out r0, cell_later HB1.out r1, cell_later HB1.out r2, cell_later HB1.out r3, cell_later HB1.out r8⟩
        | exact ⟨cell_later (below_alloc (below_alloc (below_drew HW.out) _) _) r0, cell_later (below_alloc (below_alloc (below_drew HW.out) _) _) r1, cell_later (below_alloc (below_alloc (below_drew HW.out) _) _) r2, cell_later (below_alloc (below_alloc (below_drew HW.out) _) _) r3, cell_later (below_alloc (below_alloc (below_drew HW.out) _) _) r8⟩
        | exact ⟨cell_later (below_alloc (below_drew HW.out) _) r0, cell_later (below_alloc (below_drew HW.out) _) r1, cell_later (below_alloc (below_drew HW.out) _) r2, cell_later (below_alloc (below_drew HW.out) _) r3, cell_later (below_alloc (below_drew HW.out) _) r8⟩
        | exact ⟨cell_later (below_drew HW.out) r0, cell_later (below_drew HW.out) r1, cell_later (below_drew HW.out) r2, cell_later (below_drew HW.out) r3, cell_later (below_drew HW.out) r8⟩) (first
        | (go_at_call 45; refine (trimnl_any (lineL wIndex [s.bits]) _ (by rw [← sB_size]; have := line_len (wd := wIndex) (k := 1) (by decide) HIdx.out (by simp); omega)).mono ?_; rintro e w9 ⟨rfl, rfl⟩)
        | (go_at_call 46; have HQ := HB1.out; (with_reducible show Calls _ _ #[Value.string ⟨#[118, 111, 108, 117, 109, 101]⟩, _] _ _); refine (lineV_any _ _ s _ HVol.out (HE.out.below (by first | exact HB1.out | exact below_alloc HB1.out _)) (by first | exact ints_new _ _ (by simp) rfl | exact ints_newD _ _ (by simp) rfl | exact ints_new2 _ _ (by simp) rfl | exact ints_new2D _ _ (by simp) rfl | exact (ints_new _ _ (by simp) rfl).below hBn | exact (ints_newD _ _ (by simp) rfl).below hBn | exact (ints_new2 _ _ (by simp) rfl).below hBn | exact (ints_new2D _ _ (by simp) rfl).below hBn)).mono ?_; rintro e w4 ⟨rfl, hBm⟩; have HB2 := Aside0.mk (by first | exact below_step HB1.out hBm | exact below_step (below_alloc HB1.out _) hBm); clear HQ)
        | (go_at_call 46; have HQ := HB1.out; (with_reducible show Calls _ _ #[Value.string ⟨#[105, 110, 100, 101, 120]⟩, _] _ _); refine (lineI_any _ _ s _ HIdx.out (HE.out.below (by first | exact HB1.out | exact below_alloc HB1.out _)) (by first | exact ints_new _ _ (by simp) rfl | exact ints_newD _ _ (by simp) rfl | exact ints_new2 _ _ (by simp) rfl | exact ints_new2D _ _ (by simp) rfl | exact (ints_new _ _ (by simp) rfl).below hBn | exact (ints_newD _ _ (by simp) rfl).below hBn | exact (ints_new2 _ _ (by simp) rfl).below hBn | exact (ints_new2D _ _ (by simp) rfl).below hBn)).mono ?_; rintro e w4 ⟨rfl, hBm⟩; have HB2 := Aside0.mk (by first | exact below_step HB1.out hBm | exact below_step (below_alloc HB1.out _) hBm); clear HQ)
        | (go_at_call 46; (with_reducible show Calls _ _ #[Value.string ⟨#[118, 111, 108, 117, 109, 101]⟩, _] _ _); refine (lineV_any _ _ s _ HVol.out (HE.out.below (by first | exact below_alloc (below_alloc (below_drew HW.out) _) _ | exact below_alloc (below_drew HW.out) _)) (by first | exact ints_new _ _ (by simp) rfl | exact ints_newD _ _ (by simp) rfl | exact ints_new2 _ _ (by simp) rfl | exact ints_new2D _ _ (by simp) rfl)).mono ?_; rintro e w3 ⟨rfl, hBn⟩; have HB1 := Aside0.mk (by first | exact below_step (below_alloc (below_alloc (below_drew HW.out) _) _) hBn | exact below_step (below_alloc (below_drew HW.out) _) hBn))
        | (go_at_call 46; (with_reducible show Calls _ _ #[Value.string ⟨#[105, 110, 100, 101, 120]⟩, _] _ _); refine (lineI_any _ _ s _ HIdx.out (HE.out.below (by first | exact below_alloc (below_alloc (below_drew HW.out) _) _ | exact below_alloc (below_drew HW.out) _)) (by first | exact ints_new _ _ (by simp) rfl | exact ints_newD _ _ (by simp) rfl | exact ints_new2 _ _ (by simp) rfl | exact ints_new2D _ _ (by simp) rfl)).mono ?_; rintro e w3 ⟨rfl, hBn⟩; have HB1 := Aside0.mk (by first | exact below_step (below_alloc (below_alloc (below_drew HW.out) _) _) hBn | exact below_step (below_alloc (below_drew HW.out) _) hBn)))
      all_goals
        go_wp2
        refine bodyPost_ret (v := .string (sB (shapeL s))) (by simp [results, Tryz.f16, go_sem]; rw [shapeL_cut, HD.out]; simp only [← sB_app]; rfl) rfl ⟨rfl, HB0.out.trans (HB2.out.mono HB0.out.size)⟩
  | false =>
    rw [hd] at r9
    have HD := Aside0.mk hd
    clear hd
    go_enter Tryz.func16, Tryz.ntmps16
    go_wp2_with fail
    obtain ⟨w2, hw2⟩ : ∃ w2, w.alloc (.cells V 26) = w2 := ⟨_, rfl⟩
    rw [hw2] at HB0 HE HX ⊢
    clear hw2 r9
    go_cut [4] from 7 to 25 (fun cv wx => cv = .string (sB (cutL s)) ∧ Aside0 (Below w2.heap.size w2 wx))
    case first =>
      have r4 := HX.out.c4
      have r5 := HX.out.c5
      have r6 := HX.out.c6
      have r7 := HX.out.c7
      have t1 : ¬ 9223372036854775807 < (sB (lineL wCut [s.min, s.normal, s.max])).size + 1 := by omega
      have t2 : ¬ 9223372036854775807 < (sB (lineL wCut [s.min, s.normal, s.max])).size + 1 + (sB (Lib.decDigits s.seed)).size := by omega
      have t3 : ¬ 9223372036854775807 < (sB (lineL wCut [s.min, s.normal, s.max])).size + 1 + (sB (Lib.decDigits s.seed)).size + 1 := by omega
      clear zc zv zi zd
      go_region_held3 (fun w' => w'.cell? ⟨w.heap.size, 4, none⟩ = some (.int .i64 s.min) ∧ w'.cell? ⟨w.heap.size, 5, none⟩ = some (.int .i64 s.normal) ∧ w'.cell? ⟨w.heap.size, 6, none⟩ = some (.int .i64 s.max) ∧ w'.cell? ⟨w.heap.size, 7, none⟩ = some (.int .u64 (s.seed : Int))) (first
        | exact ⟨cell_later HB2.out r4, cell_later HB2.out r5, cell_later HB2.out r6, cell_later HB2.out r7⟩
        | exact ⟨cell_later (below_alloc HB1.out _) r4, cell_later (below_alloc HB1.out _) r5, cell_later (below_alloc HB1.out _) r6, cell_later (below_alloc HB1.out _) r7⟩
        | exact ⟨cell_later HB1.out r4, cell_later HB1.out r5, cell_later HB1.out r6, cell_later HB1.out r7⟩
        | exact ⟨cell_later (below_alloc (below_drew (Below.refl _ _)) _) r4, cell_later (below_alloc (below_drew (Below.refl _ _)) _) r5, cell_later (below_alloc (below_drew (Below.refl _ _)) _) r6, cell_later (below_alloc (below_drew (Below.refl _ _)) _) r7⟩
        | exact ⟨r4, r5, r6, r7⟩) (first
        | (go_at_call 45; refine (trimnl_any (lineL wCut [s.min, s.normal, s.max]) _ (by rw [← sB_size]; have := line_len (wd := wCut) (k := 3) (by decide) HCut.out (by simp); omega)).mono ?_; rintro e w9 ⟨rfl, rfl⟩)
        | (go_at_call 46; have HQ := HB1.out; refine (line_any wCut _ _ [s.min, s.normal, s.max] _ (HE.out.below (by first | exact HB1.out | exact below_alloc HB1.out _)) (by first | exact ints_new _ _ (by simp) rfl | exact (ints_new _ _ (by simp) rfl).below hBn) HCut.out (by simp) (by decide)).mono ?_; rintro e w4 ⟨rfl, hBm⟩; have HB2 := Aside0.mk (by first | exact below_step HB1.out hBm | exact below_step (below_alloc HB1.out _) hBm); clear HQ)
        | (go_at_call 46; refine (line_any wCut _ _ [s.min, s.normal, s.max] _ (HE.out.below (below_alloc (below_drew (Below.refl _ _)) _)) (ints_new _ _ (by simp) rfl) HCut.out (by simp) (by decide)).mono ?_; rintro e w3 ⟨rfl, hBn⟩; have HB1 := Aside0.mk (below_step (below_alloc (below_drew (Below.refl w2.heap.size w2)) _) hBn))
        | (go_at_call 47; have HQ := HB1.out; refine (fmtuint_any s.seed _ (HE.out.below HB1.out) HSeed.out).mono ?_; rintro e w4 ⟨rfl, hBm⟩; have HB2 := Aside0.mk (below_step HB1.out hBm); clear HQ)
        | (go_at_call 47; refine (fmtuint_any s.seed _ (HE.out.below (by first | exact below_drew (Below.refl _ _) | exact below_alloc (below_drew (Below.refl _ _)) _)) HSeed.out).mono ?_; rintro e w3 ⟨rfl, hBn⟩; have HB1 := Aside0.mk (by first | exact below_step (below_drew (Below.refl w2.heap.size w2)) hBn | exact below_step (below_alloc (below_drew (Below.refl w2.heap.size w2)) _) hBn)))
      all_goals
        go_wp2_with fail
        go_meet
        all_goals exact ⟨by rw [show (⟨#[32]⟩ : ByteArray) = sB [32] from rfl, show (⟨#[10]⟩ : ByteArray) = sB [10] from rfl, sB_app, sB_app, sB_app]; unfold cutL; simp, HB2⟩
    case rest =>
      obtain ⟨rfl, HW⟩ := hcut
      have r0 := HX.out.c0
      have r1 := HX.out.c1
      have r2 := HX.out.c2
      have r3 := HX.out.c3
      have r8 := HX.out.c8
      have zv1 : (sB (lineL wVolume [s.sector, s.sectors, s.journal, s.pack] ++ [10])).size ≤ 105 := by rw [sB_size, List.length_append, ← sB_size]; simp only [List.length_cons, List.length_nil]; omega
      have zc1 : (sB (cutL s)).size ≤ 110 := by
        unfold cutL
        rw [sB_size, List.length_append, List.length_append, List.length_cons, ← sB_size, ← sB_size]
        simp only [List.length_cons, List.length_nil]
        omega
      have t1 : ¬ 9223372036854775807 < (sB (lineL wVolume [s.sector, s.sectors, s.journal, s.pack] ++ [10])).size + (sB (cutL s)).size := by omega
      have t2 : ¬ 9223372036854775807 < (sB (lineL wVolume [s.sector, s.sectors, s.journal, s.pack] ++ [10])).size + (sB (cutL s)).size + (sB (lineL wIndex [s.bits])).size := by omega
      have t3 : ¬ 9223372036854775807 < (sB (lineL wVolume [s.sector, s.sectors, s.journal, s.pack] ++ [10])).size + (sB (cutL s)).size + (sB (lineL wIndex [s.bits])).size + 1 := by omega
      have t4 : ¬ 9223372036854775807 < (sB (lineL wVolume [s.sector, s.sectors, s.journal, s.pack] ++ [10])).size + (sB (cutL s)).size + (sB (lineL wIndex [s.bits])).size + 1 + 5 := by omega
      have t5 : ¬ 9223372036854775807 < (sB (lineL wVolume [s.sector, s.sectors, s.journal, s.pack] ++ [10])).size + (sB (cutL s)).size + (sB (lineL wIndex [s.bits])).size + 1 + 5 + 1 := by omega
      clear zc zv zi zd zv1 zc1
      go_wp2_with fail
      go_region_held3 (fun w' => w'.cell? ⟨w.heap.size, 0, none⟩ = some (.int .i64 s.sector) ∧ w'.cell? ⟨w.heap.size, 1, none⟩ = some (.int .i64 s.sectors) ∧ w'.cell? ⟨w.heap.size, 2, none⟩ = some (.int .i64 s.journal) ∧ w'.cell? ⟨w.heap.size, 3, none⟩ = some (.int .i64 s.pack) ∧ w'.cell? ⟨w.heap.size, 8, none⟩ = some (.int .i64 s.bits)) (first
        | exact ⟨cell_later HB2.out r0, cell_later HB2.out r1, cell_later HB2.out r2, cell_later HB2.out r3, cell_later HB2.out r8⟩
        | exact ⟨cell_later (below_alloc HB1.out _) r0, cell_later (below_alloc HB1.out _) r1, cell_later (below_alloc HB1.out _) r2, cell_later (below_alloc HB1.out _) r3, cell_later (below_alloc HB1.out _) r8⟩
        | exact ⟨cell_later HB1.out r0, cell_later HB1.out r1, cell_later HB1.out r2, cell_later HB1.out r3, cell_later HB1.out r8⟩
        | exact ⟨cell_later (below_alloc (below_alloc (below_drew HW.out) _) _) r0, cell_later (below_alloc (below_alloc (below_drew HW.out) _) _) r1, cell_later (below_alloc (below_alloc (below_drew HW.out) _) _) r2, cell_later (below_alloc (below_alloc (below_drew HW.out) _) _) r3, cell_later (below_alloc (below_alloc (below_drew HW.out) _) _) r8⟩
        | exact ⟨cell_later (below_alloc (below_drew HW.out) _) r0, cell_later (below_alloc (below_drew HW.out) _) r1, cell_later (below_alloc (below_drew HW.out) _) r2, cell_later (below_alloc (below_drew HW.out) _) r3, cell_later (below_alloc (below_drew HW.out) _) r8⟩
        | exact ⟨cell_later (below_drew HW.out) r0, cell_later (below_drew HW.out) r1, cell_later (below_drew HW.out) r2, cell_later (below_drew HW.out) r3, cell_later (below_drew HW.out) r8⟩) (first
        | (go_at_call 45; refine (trimnl_any (lineL wIndex [s.bits]) _ (by rw [← sB_size]; have := line_len (wd := wIndex) (k := 1) (by decide) HIdx.out (by simp); omega)).mono ?_; rintro e w9 ⟨rfl, rfl⟩)
        | (go_at_call 46; have HQ := HB1.out; (with_reducible show Calls _ _ #[Value.string ⟨#[118, 111, 108, 117, 109, 101]⟩, _] _ _); refine (lineV_any _ _ s _ HVol.out (HE.out.below (by first | exact HB1.out | exact below_alloc HB1.out _)) (by first | exact ints_new _ _ (by simp) rfl | exact ints_newD _ _ (by simp) rfl | exact ints_new2 _ _ (by simp) rfl | exact ints_new2D _ _ (by simp) rfl | exact (ints_new _ _ (by simp) rfl).below hBn | exact (ints_newD _ _ (by simp) rfl).below hBn | exact (ints_new2 _ _ (by simp) rfl).below hBn | exact (ints_new2D _ _ (by simp) rfl).below hBn)).mono ?_; rintro e w4 ⟨rfl, hBm⟩; have HB2 := Aside0.mk (by first | exact below_step HB1.out hBm | exact below_step (below_alloc HB1.out _) hBm); clear HQ)
        | (go_at_call 46; have HQ := HB1.out; (with_reducible show Calls _ _ #[Value.string ⟨#[105, 110, 100, 101, 120]⟩, _] _ _); refine (lineI_any _ _ s _ HIdx.out (HE.out.below (by first | exact HB1.out | exact below_alloc HB1.out _)) (by first | exact ints_new _ _ (by simp) rfl | exact ints_newD _ _ (by simp) rfl | exact ints_new2 _ _ (by simp) rfl | exact ints_new2D _ _ (by simp) rfl | exact (ints_new _ _ (by simp) rfl).below hBn | exact (ints_newD _ _ (by simp) rfl).below hBn | exact (ints_new2 _ _ (by simp) rfl).below hBn | exact (ints_new2D _ _ (by simp) rfl).below hBn)).mono ?_; rintro e w4 ⟨rfl, hBm⟩; have HB2 := Aside0.mk (by first | exact below_step HB1.out hBm | exact below_step (below_alloc HB1.out _) hBm); clear HQ)
        | (go_at_call 46; (with_reducible show Calls _ _ #[Value.string ⟨#[118, 111, 108, 117, 109, 101]⟩, _] _ _); refine (lineV_any _ _ s _ HVol.out (HE.out.below (by first | exact below_alloc (below_alloc (below_drew HW.out) _) _ | exact below_alloc (below_drew HW.out) _)) (by first | exact ints_new _ _ (by simp) rfl | exact ints_newD _ _ (by simp) rfl | exact ints_new2 _ _ (by simp) rfl | exact ints_new2D _ _ (by simp) rfl)).mono ?_; rintro e w3 ⟨rfl, hBn⟩; have HB1 := Aside0.mk (by first | exact below_step (below_alloc (below_alloc (below_drew HW.out) _) _) hBn | exact below_step (below_alloc (below_drew HW.out) _) hBn))
        | (go_at_call 46; (with_reducible show Calls _ _ #[Value.string ⟨#[105, 110, 100, 101, 120]⟩, _] _ _); refine (lineI_any _ _ s _ HIdx.out (HE.out.below (by first | exact below_alloc (below_alloc (below_drew HW.out) _) _ | exact below_alloc (below_drew HW.out) _)) (by first | exact ints_new _ _ (by simp) rfl | exact ints_newD _ _ (by simp) rfl | exact ints_new2 _ _ (by simp) rfl | exact ints_new2D _ _ (by simp) rfl)).mono ?_; rintro e w3 ⟨rfl, hBn⟩; have HB1 := Aside0.mk (by first | exact below_step (below_alloc (below_alloc (below_drew HW.out) _) _) hBn | exact below_step (below_alloc (below_drew HW.out) _) hBn)))
      all_goals
        go_wp2
        refine bodyPost_ret (v := .string (sB (shapeL s))) (by simp [results, Tryz.f16, go_sem]; rw [shapeL_cut, HD.out]; simp only [← sB_app]; rfl) rfl ⟨rfl, HB0.out.trans (HB2.out.mono HB0.out.size)⟩
end Go.Proofs.YteglbmindbfkeaaGreatDoor.H
