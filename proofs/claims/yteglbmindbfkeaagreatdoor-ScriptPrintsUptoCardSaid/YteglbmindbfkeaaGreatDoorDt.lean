/- The law's comparison of lives: lives that are the same are told so. -/
import Derived.Test.YteglbmindbfkeaaGreatDoorDs
namespace Go.Proofs.YteglbmindbfkeaaGreatDoor.H
open Go.RowKit Go.Proofs.YteglbmindbfkeaaGreatDoorW.PrintWords
set_option linter.unusedVariables false
set_option linter.unusedSimpArgs false
set_option maxRecDepth 100000 in
set_option maxHeartbeats 4000000 in
theorem sameInts_true (A1 : Option Addr) (c1 : Nat) (A2 : Option Addr) (c2 : Nat) (ks : List Int) (w : World) (hA : IntsR w A1 ks) (hB : IntsR w A2 ks) (hn : ks.length ≤ 1048576) :
    Calls Tryz.prog 29 #[.slice A1 ks.length c1, .slice A2 ks.length c2] w fun e w' => e = .returned (.bool true) ∧ Below w.heap.size w w' := by
  have HA := Aside0.mk hA
  have HK := Aside0.mk hB
  obtain ⟨N, hN⟩ : ∃ N, ks.length = N := ⟨_, rfl⟩
  rw [hN] at hn ⊢
  have HN := Aside0.mk hN
  clear hA hB hN
  go_enter Tryz.func29, Tryz.ntmps29
  go_wp2_with fail
  go_loopw [13] (fun iv wr => ∃ (i : Int), iv = .int .i64 i ∧ 0 ≤ i ∧ i ≤ N ∧ Aside0 (Below w.heap.size w wr)) (fun iv _ => (N - intOf iv).toNat)
  case atStart => exact ⟨0, rfl, Int.le_refl _, by omega, ⟨Below.refl _ _⟩⟩
  case round =>
    obtain ⟨i, rfl, i0, i1, HB⟩ := hrel
    have w4 : wrap64 (i + 1) = i + 1 := by unfold wrap64; omega
    by_cases hlt : i < (N : Int)
    · have hlt1 : decide (i < (N : Int)) = true := decide_eq_true hlt
      obtain ⟨k, b, o, hk, _, rfl, q1⟩ := (HA.out.below HB.out).get (i := i.toNat) (by rw [HN.out]; omega)
      obtain ⟨b2, o2, rfl, q2⟩ := (HK.out.below HB.out) i.toNat k hk
      clear hk
      go_wp2_with fail
      go_region_held3 (fun W => W.cell? ⟨b, o + i.toNat, none⟩ = some (.int .i64 k) ∧ W.cell? ⟨b2, o2 + i.toNat, none⟩ = some (.int .i64 k)) (first | exact ⟨q1, q2⟩ | go_keep) (first | fail)
      go_wp2_with fail
      exact ⟨⟨i + 1, rfl, by omega, by omega, ⟨below_drew HB.out⟩⟩, by simp [intOf]; omega⟩
    · have hlt1 : decide (i < (N : Int)) = false := decide_eq_false hlt
      go_wp2_with fail
      exact bodyPost_ret (v := .bool true) (by simp [results, Tryz.f29, go_sem]) rfl ⟨rfl, HB.out⟩
set_option maxRecDepth 100000 in
set_option maxHeartbeats 4000000 in
theorem same_true (A : Option Addr) (c : Nat) (A' : Option Addr) (c' : Nat) (ls : List LifeV) (w : World) (hA : LivesR w A ls) (hB : LivesR w A' ls) (hok : LvOk ls) :
    Calls Tryz.prog 9 #[.slice A ls.length c, .slice A' ls.length c'] w fun e w' => e = .returned (.bool true) ∧ Below w.heap.size w w' := by
  have HA := Aside0.mk hA
  have HK := Aside0.mk hB
  have HO := Aside0.mk hok
  have hn := hok.num
  obtain ⟨N, hN⟩ : ∃ N, ls.length = N := ⟨_, rfl⟩
  rw [hN] at hn ⊢
  have HN := Aside0.mk hN
  clear hA hB hN hok
  go_enter Tryz.func9, Tryz.ntmps9
  go_wp2_with fail
  go_loopw [14] (fun iv wr => ∃ (i : Int), iv = .int .i64 i ∧ 0 ≤ i ∧ i ≤ N ∧ Aside0 (Below w.heap.size w wr)) (fun iv _ => (N - intOf iv).toNat)
  case atStart => exact ⟨0, rfl, Int.le_refl _, by omega, ⟨Below.refl _ _⟩⟩
  case round =>
    obtain ⟨i, rfl, i0, i1, HB⟩ := hrel
    have w4 : wrap64 (i + 1) = i + 1 := by unfold wrap64; omega
    by_cases hlt : i < (N : Int)
    · have hlt1 : decide (i < (N : Int)) = true := decide_eq_true hlt
      obtain ⟨l, b, o, B1, n1, B2, n2, hl, hlm, rfl, hcl⟩ := lives_get (HA.out.below HB.out) (i := i.toNat) (by rw [HN.out]; omega)
      obtain ⟨b', o', B1', n1', B2', n2', rfl, hcl'⟩ := (HK.out.below HB.out) i.toNat l hl
      have HLl := HO.out.each l hlm
      have p0 := hcl.c0
      have p1 := hcl.c1
      have p2 := hcl.c2
      have p0' := hcl'.c0
      have p1' := hcl'.c1
      have p2' := hcl'.c2
      have HI := Aside0.mk (fun W (h : Below wr.heap.size wr W) => sameInts_true B2 n2 B2' n2' l.keep W (hcl.keep.below h) (hcl'.keep.below h) HLl.kpn)
      have HOp := Aside0.mk (And.intro hcl.ops hcl'.ops)
      have hX := HLl.opn
      have hb4 := Below.refl wr.heap.size wr
      obtain ⟨X, hXX⟩ : ∃ X, l.ops.length = X := ⟨_, rfl⟩
      obtain ⟨Y, hYY⟩ : ∃ Y, l.keep.length = Y := ⟨_, rfl⟩
      rw [hXX] at p0 p0' hX
      rw [hYY] at p2 p2' HI
      have HXX := Aside0.mk hXX
      have HCL := Aside0.mk (And.intro p0 p0')
      clear hl hlm hcl hcl' HLl hXX hYY
      go_wp2_with fail
      go_region_held3 (fun W => W.cell? ⟨b, o + i.toNat * 3, none⟩ = some (.slice B1 X n1) ∧ W.cell? ⟨b, o + i.toNat * 3 + 1, none⟩ = some (.int .i64 l.stop) ∧ W.cell? ⟨b, o + i.toNat * 3 + 2, none⟩ = some (.slice B2 Y n2) ∧ W.cell? ⟨b', o' + i.toNat * 3, none⟩ = some (.slice B1' X n1') ∧ W.cell? ⟨b', o' + i.toNat * 3 + 1, none⟩ = some (.int .i64 l.stop) ∧ W.cell? ⟨b', o' + i.toNat * 3 + 2, none⟩ = some (.slice B2' Y n2') ∧ Below wr.heap.size wr W)
        (first | exact ⟨p0, p1, p2, p0', p1', p2', Below.refl _ _⟩ | exact ⟨p0, p1, p2, p0', p1', p2', below_drew (Below.refl _ _)⟩ | exact ⟨cell_later hBn p0, cell_later hBn p1, cell_later hBn p2, cell_later hBn p0', cell_later hBn p1', cell_later hBn p2', hBn⟩)
        (first | (go_at_call 29; refine (HI.out _ (below_drew (Below.refl _ _))).mono ?_; rintro e w2 ⟨rfl, hBn0⟩; have hBn := below_step (below_drew (Below.refl wr.heap.size wr)) hBn0; clear hBn0))
      rename_i hH
      have HB2 := Aside0.mk hH.2.2.2.2.2.2
      have r0 := hH.1
      have r0' := hH.2.2.2.1
      clear hH hBn hb4 p0 p1 p2 p0' p1' p2' HI
      go_wp2_with fail
      go_loopw [63] (fun kv wq => ∃ (k : Int), kv = .int .i64 k ∧ 0 ≤ k ∧ k ≤ X ∧ Aside0 (Below wr.heap.size wr wq)) (fun kv _ => (X - intOf kv).toNat)
      case atStart => exact ⟨0, rfl, Int.le_refl _, by omega, HB2⟩
      case round =>
        obtain ⟨k, rfl, k0, k1, HBq⟩ := hrel
        have wk4 : wrap64 (k + 1) = k + 1 := by unfold wrap64; omega
        clear r0 r0'
        by_cases hkt : k < (X : Int)
        · have hkt1 : decide (k < (X : Int)) = true := decide_eq_true hkt
          obtain ⟨x, gb, gk, hx, _, rfl, hox⟩ := (HOp.out.1.below HBq.out).get (i := k.toNat) (by rw [HXX.out]; omega)
          obtain ⟨hb, hk, rfl, hoy⟩ := (HOp.out.2.below HBq.out) k.toNat x hx
          have r0 := cell_later HBq.out HCL.out.1
          have r0' := cell_later HBq.out HCL.out.2
          obtain ⟨x0, x1, x2, x3, x4, x5, x6, x7⟩ := hox
          obtain ⟨y0, y1, y2, y3, y4, y5, y6, y7⟩ := hoy
          clear hx
          go_wp2_with fail
          go_region_held3 (fun W => W.cell? ⟨b, o + i.toNat * 3, none⟩ = some (.slice (some ⟨gb, gk, none⟩) X n1) ∧ W.cell? ⟨b', o' + i.toNat * 3, none⟩ = some (.slice (some ⟨hb, hk, none⟩) X n1') ∧ W.cell? ⟨gb, gk + k.toNat * 8, none⟩ = some (.int .i64 x.kind) ∧ W.cell? ⟨gb, gk + k.toNat * 8 + 1, none⟩ = some (.string (sB x.path)) ∧ W.cell? ⟨gb, gk + k.toNat * 8 + 2, none⟩ = some (.string (sB x.other)) ∧ W.cell? ⟨gb, gk + k.toNat * 8 + 3, none⟩ = some (.int .i64 x.handle) ∧ W.cell? ⟨gb, gk + k.toNat * 8 + 4, none⟩ = some (.int .i64 x.offset) ∧ W.cell? ⟨gb, gk + k.toNat * 8 + 5, none⟩ = some (.int .i64 x.n) ∧ W.cell? ⟨gb, gk + k.toNat * 8 + 6, none⟩ = some (.int .i64 x.flags) ∧ W.cell? ⟨gb, gk + k.toNat * 8 + 7, none⟩ = some (.string (sB x.data)) ∧ W.cell? ⟨hb, hk + k.toNat * 8, none⟩ = some (.int .i64 x.kind) ∧ W.cell? ⟨hb, hk + k.toNat * 8 + 1, none⟩ = some (.string (sB x.path)) ∧ W.cell? ⟨hb, hk + k.toNat * 8 + 2, none⟩ = some (.string (sB x.other)) ∧ W.cell? ⟨hb, hk + k.toNat * 8 + 3, none⟩ = some (.int .i64 x.handle) ∧ W.cell? ⟨hb, hk + k.toNat * 8 + 4, none⟩ = some (.int .i64 x.offset) ∧ W.cell? ⟨hb, hk + k.toNat * 8 + 5, none⟩ = some (.int .i64 x.n) ∧ W.cell? ⟨hb, hk + k.toNat * 8 + 6, none⟩ = some (.int .i64 x.flags) ∧ W.cell? ⟨hb, hk + k.toNat * 8 + 7, none⟩ = some (.string (sB x.data)))
            (first | exact ⟨r0, r0', x0, x1, x2, x3, x4, x5, x6, x7, y0, y1, y2, y3, y4, y5, y6, y7⟩ | go_keep) (first | fail)
          go_wp2_with fail
          exact ⟨⟨k + 1, rfl, by omega, by omega, ⟨below_drew HBq.out⟩⟩, by simp [intOf]; omega⟩
        · have hkt1 : decide (k < (X : Int)) = false := decide_eq_false hkt
          go_wp2_with fail
          exact ⟨⟨i + 1, rfl, by omega, by omega, ⟨below_step HB.out HBq.out⟩⟩, by simp [intOf]; omega⟩
    · have hlt1 : decide (i < (N : Int)) = false := decide_eq_false hlt
      go_wp2_with fail
      exact bodyPost_ret (v := .bool true) (by simp [results, Tryz.f9, go_sem]) rfl ⟨rfl, HB.out⟩
end Go.Proofs.YteglbmindbfkeaaGreatDoor.H
