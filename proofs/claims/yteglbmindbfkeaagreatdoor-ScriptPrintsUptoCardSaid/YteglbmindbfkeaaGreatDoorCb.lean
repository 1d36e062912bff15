/- Lives as they are read; few, tooMany, line. Conditions: a million operations, lives and numbers at the most. -/
import Derived.Test.YteglbmindbfkeaaGreatDoorCa
namespace Go.Proofs.YteglbmindbfkeaaGreatDoor.H
open Go.RowKit Go.Proofs.YteglbmindbfkeaaGreatDoorW.PrintWords
set_option linter.unusedVariables false
set_option linter.unusedSimpArgs false
/-- An operation's cells lie from a place on. -/
structure OpCl (w : World) (b k : Nat) (o : OpV) : Prop where
  c0 : w.cell? ⟨b, k, none⟩ = some (.int .i64 o.kind)
  c1 : w.cell? ⟨b, k + 1, none⟩ = some (.string (sB o.path))
  c2 : w.cell? ⟨b, k + 2, none⟩ = some (.string (sB o.other))
  c3 : w.cell? ⟨b, k + 3, none⟩ = some (.int .i64 o.handle)
  c4 : w.cell? ⟨b, k + 4, none⟩ = some (.int .i64 o.offset)
  c5 : w.cell? ⟨b, k + 5, none⟩ = some (.int .i64 o.n)
  c6 : w.cell? ⟨b, k + 6, none⟩ = some (.int .i64 o.flags)
  c7 : w.cell? ⟨b, k + 7, none⟩ = some (.string (sB o.data))
theorem OpCl.below {w w' : World} {b k : Nat} {o : OpV} (h : OpCl w b k o) (hb : Below w.heap.size w w') : OpCl w' b k o :=
  ⟨cell_later hb h.c0, cell_later hb h.c1, cell_later hb h.c2, cell_later hb h.c3, cell_later hb h.c4, cell_later hb h.c5, cell_later hb h.c6, cell_later hb h.c7⟩
def OpsR (w : World) (A : Option Addr) (ops : List OpV) : Prop := ∀ (i : Nat) (x : OpV), ops[i]? = some x → ∃ b o, A = some ⟨b, o, none⟩ ∧ OpCl w b (o + i * 8) x
def IntsR (w : World) (A : Option Addr) (ks : List Int) : Prop := ∀ (i : Nat) (k : Int), ks[i]? = some k → ∃ b o, A = some ⟨b, o, none⟩ ∧ w.cell? ⟨b, o + i, none⟩ = some (.int .i64 k)
/-- A life's cells lie from a place on; its operations, its numbers can be read. -/
structure LfCl (w : World) (b k : Nat) (l : LifeV) (A1 : Option Addr) (n1 : Nat) (A2 : Option Addr) (n2 : Nat) : Prop where
  c0 : w.cell? ⟨b, k, none⟩ = some (.slice A1 l.ops.length n1)
  c1 : w.cell? ⟨b, k + 1, none⟩ = some (.int .i64 l.stop)
  c2 : w.cell? ⟨b, k + 2, none⟩ = some (.slice A2 l.keep.length n2)
  ops : OpsR w A1 l.ops
  keep : IntsR w A2 l.keep
def LivesR (w : World) (A : Option Addr) (ls : List LifeV) : Prop := ∀ (i : Nat) (l : LifeV), ls[i]? = some l → ∃ b o A1 n1 A2 n2, A = some ⟨b, o, none⟩ ∧ LfCl w b (o + i * 3) l A1 n1 A2 n2
theorem OpsR.below {w w' : World} {A : Option Addr} {ops : List OpV} (h : OpsR w A ops) (hb : Below w.heap.size w w') : OpsR w' A ops := fun i x hx => by
  obtain ⟨b, o, h1, h2⟩ := h i x hx
  exact ⟨b, o, h1, h2.below hb⟩
theorem IntsR.below {w w' : World} {A : Option Addr} {ks : List Int} (h : IntsR w A ks) (hb : Below w.heap.size w w') : IntsR w' A ks := fun i x hx => by
  obtain ⟨b, o, h1, h2⟩ := h i x hx
  exact ⟨b, o, h1, cell_later hb h2⟩
theorem LfCl.below {w w' : World} {b k : Nat} {l : LifeV} {A1 : Option Addr} {n1 : Nat} {A2 : Option Addr} {n2 : Nat} (h : LfCl w b k l A1 n1 A2 n2) (hb : Below w.heap.size w w') : LfCl w' b k l A1 n1 A2 n2 :=
  ⟨cell_later hb h.c0, cell_later hb h.c1, cell_later hb h.c2, h.ops.below hb, h.keep.below hb⟩
theorem LivesR.below {w w' : World} {A : Option Addr} {ls : List LifeV} (h : LivesR w A ls) (hb : Below w.heap.size w w') : LivesR w' A ls := fun i x hx => by
  obtain ⟨b, o, A1, n1, A2, n2, h1, h2⟩ := h i x hx
  exact ⟨b, o, A1, n1, A2, n2, h1, h2.below hb⟩
/-- The lives are not too many, their numbers are ints, their texts not too long. -/
structure LfOk (l : LifeV) : Prop where
  ops : ∀ o ∈ l.ops, OpOk 1048576 o
  opn : l.ops.length ≤ 1048576
  stop : I64 l.stop
  keep : ∀ k ∈ l.keep, I64 k
  kpn : l.keep.length ≤ 1048576
structure LvOk (ls : List LifeV) : Prop where
  num : ls.length ≤ 1048576
  each : ∀ l ∈ ls, LfOk l
theorem opsN_take {ls : List LifeV} {i : Nat} {l : LifeV} (h : ls[i]? = some l) : opsN (ls.take (i + 1)) = opsN (ls.take i) + l.ops.length := by
  unfold opsN
  rw [List.take_add_one, h, Option.toList, List.map_append, List.sum_append]
  simp
theorem opsN_le {ls : List LifeV} (h : ∀ l ∈ ls, LfOk l) : opsN ls ≤ ls.length * 1048576 := by
  induction ls with
  | nil => simp [opsN]
  | cons l r ih =>
    have h1 := ih fun x hx => h x (List.mem_cons_of_mem _ hx)
    have h2 := (h l (List.mem_cons_self ..)).opn
    unfold opsN at h1 ⊢
    rw [List.map_cons, List.sum_cons, List.length_cons, Nat.add_mul]
    omega
theorem opsN_take_le {ls : List LifeV} (h : LvOk ls) (i : Nat) : opsN (ls.take i) ≤ 1099511627776 := by
  have h1 := opsN_le (ls := ls.take i) fun l hl => h.each l (List.mem_of_mem_take hl)
  have h2 : (ls.take i).length ≤ ls.length := by rw [List.length_take]; omega
  have h3 := h.num
  have := Nat.mul_le_mul_right 1048576 (Nat.le_trans h2 h3)
  omega
theorem lives_get {w : World} {A : Option Addr} {ls : List LifeV} (h : LivesR w A ls) {i : Nat} (hi : i < ls.length) : ∃ l b o A1 n1 A2 n2, ls[i]? = some l ∧ l ∈ ls ∧ A = some ⟨b, o, none⟩ ∧ LfCl w b (o + i * 3) l A1 n1 A2 n2 := by
  obtain ⟨b, o, A1, n1, A2, n2, h1, h2⟩ := h i _ (List.getElem?_eq_getElem hi)
  exact ⟨_, b, o, A1, n1, A2, n2, List.getElem?_eq_getElem hi, List.getElem_mem hi, h1, h2⟩
set_option maxRecDepth 100000 in
set_option maxHeartbeats 4000000 in
theorem few_any (A : Option Addr) (c : Nat) (ls : List LifeV) (w : World) (hL : LivesR w A ls) (hok : LvOk ls) :
    Calls Tryz.prog 14 #[.slice A ls.length c] w fun e w' => e = .returned (.bool (fewL ls)) ∧ Below w.heap.size w w' := by
  have HL := Aside0.mk hL
  have HB9 := Aside0.mk (opsN_take_le hok)
  have hn := hok.num
  have HOk := Aside0.mk hok
  obtain ⟨N, hN⟩ : ∃ N, ls.length = N := ⟨_, rfl⟩
  obtain ⟨R, hR⟩ : ∃ R, fewL ls = R := ⟨_, rfl⟩
  rw [hN] at hn ⊢
  rw [hR]
  have HN := Aside0.mk hN
  have HR := Aside0.mk hR
  clear hL hok hN hR
  go_enter Tryz.func14, Tryz.ntmps14
  go_wp2_with fail
  go_loopw [3, 8] (fun nv iv wr => ∃ i : Int, iv = .int .i64 i ∧ nv = .int .i64 ((opsN (ls.take i.toNat) : Nat) : Int) ∧ 0 ≤ i ∧ i ≤ N ∧ Aside0 (Below w.heap.size w wr)) (fun _ iv _ => (N - intOf iv).toNat)
  case atStart => exact ⟨0, rfl, by simp [opsN], Int.le_refl _, by omega, ⟨Below.refl _ _⟩⟩
  case round =>
    obtain ⟨i, rfl, rfl, i0, i1, HB⟩ := hrel
    have w4 : wrap64 (i + 1) = i + 1 := by unfold wrap64; omega
    have hk := HB9.out i.toNat
    by_cases hlt : i < (N : Int)
    · have hlt1 : decide (i < (N : Int)) = true := decide_eq_true hlt
      obtain ⟨l, b, o, A1, n1, A2, n2, hl, hlm, rfl, hc⟩ := lives_get (HL.out.below HB.out) (i := i.toNat) (by rw [HN.out]; omega)
      have HNx := Aside0.mk (show ((opsN (ls.take (i + 1).toNat) : Nat) : Int) = ((opsN (ls.take i.toNat) : Nat) : Int) + (l.ops.length : Int) by rw [show (i + 1).toNat = i.toNat + 1 by omega, opsN_take hl]; simp)
      have hol := (HOk.out.each l hlm).opn
      obtain ⟨M, hM⟩ : ∃ M, opsN (ls.take i.toNat) = M := ⟨_, rfl⟩
      obtain ⟨L, hL⟩ : ∃ L, l.ops.length = L := ⟨_, rfl⟩
      have c0 := hc.c0
      have c1 := hc.c1
      have c2 := hc.c2
      rw [hM] at hk HNx ⊢
      rw [hL] at hol HNx c0
      have w5 : wrap64 ((M : Int) + (L : Int)) = (M : Int) + (L : Int) := by unfold wrap64; omega
      clear hM hL hl hlm hc
      go_wp2
      exact ⟨⟨i + 1, rfl, by rw [HNx.out], by omega, by omega, ⟨below_alloc HB.out _⟩⟩, by simp [intOf]; omega⟩
    · have hlt1 : decide (i < (N : Int)) = false := decide_eq_false hlt
      have hfin : ls.take i.toNat = ls := List.take_of_length_le (by rw [HN.out]; omega)
      rw [hfin] at hk ⊢
      have HF := Aside0.mk (show R = (decide (N ≤ 16) && decide (opsN ls ≤ 1024)) by rw [← HR.out, ← HN.out]; rfl)
      obtain ⟨M, hM⟩ : ∃ M, opsN ls = M := ⟨_, rfl⟩
      rw [hM] at hk HF ⊢
      clear hfin hM
      by_cases h16 : N ≤ 16
      · by_cases hM : M ≤ 1024
        · have HV := Aside0.mk (show R = true by rw [HF.out, decide_eq_true h16, decide_eq_true hM]; rfl)
          go_wp2
          refine bodyPost_ret (v := .bool true) (by simp [results, Tryz.f14, go_sem] <;> omega) rfl ⟨?_, HB.out⟩
          rw [HV.out]
          try rfl
        · have HV := Aside0.mk (show R = false by rw [HF.out, decide_eq_false hM, Bool.and_false])
          go_wp2
          refine bodyPost_ret (v := .bool false) (by simp [results, Tryz.f14, go_sem] <;> omega) rfl ⟨?_, HB.out⟩
          rw [HV.out]
          try rfl
      · have HV := Aside0.mk (show R = false by rw [HF.out, decide_eq_false h16, Bool.false_and])
        go_wp2
        refine bodyPost_ret (v := .bool false) (by simp [results, Tryz.f14, go_sem] <;> omega) rfl ⟨?_, HB.out⟩
        rw [HV.out]
        try rfl
set_option maxRecDepth 100000 in
set_option maxHeartbeats 4000000 in
theorem toomany_any (A : Option Addr) (c : Nat) (ls : List LifeV) (w : World) (hL : LivesR w A ls) (hok : LvOk ls) :
    Calls Tryz.prog 21 #[.slice A ls.length c] w fun e w' => e = .returned (.bool (!fewL ls)) ∧ Below w.heap.size w w' := by
  have HL := Aside0.mk hL
  have HB9 := Aside0.mk (opsN_take_le hok)
  have hn := hok.num
  have HOk := Aside0.mk hok
  obtain ⟨N, hN⟩ : ∃ N, ls.length = N := ⟨_, rfl⟩
  obtain ⟨R, hR⟩ : ∃ R, fewL ls = R := ⟨_, rfl⟩
  rw [hN] at hn ⊢
  rw [hR]
  have HN := Aside0.mk hN
  have HR := Aside0.mk hR
  clear hL hok hN hR
  go_enter Tryz.func21, Tryz.ntmps21
  go_wp2_with fail
  go_loopw [3, 8] (fun nv iv wr => ∃ i : Int, iv = .int .i64 i ∧ nv = .int .i64 ((opsN (ls.take i.toNat) : Nat) : Int) ∧ 0 ≤ i ∧ i ≤ N ∧ Aside0 (Below w.heap.size w wr)) (fun _ iv _ => (N - intOf iv).toNat)
  case atStart => exact ⟨0, rfl, by simp [opsN], Int.le_refl _, by omega, ⟨Below.refl _ _⟩⟩
  case round =>
    obtain ⟨i, rfl, rfl, i0, i1, HB⟩ := hrel
    have w4 : wrap64 (i + 1) = i + 1 := by unfold wrap64; omega
    have hk := HB9.out i.toNat
    by_cases hlt : i < (N : Int)
    · have hlt1 : decide (i < (N : Int)) = true := decide_eq_true hlt
      obtain ⟨l, b, o, A1, n1, A2, n2, hl, hlm, rfl, hc⟩ := lives_get (HL.out.below HB.out) (i := i.toNat) (by rw [HN.out]; omega)
      have HNx := Aside0.mk (show ((opsN (ls.take (i + 1).toNat) : Nat) : Int) = ((opsN (ls.take i.toNat) : Nat) : Int) + (l.ops.length : Int) by rw [show (i + 1).toNat = i.toNat + 1 by omega, opsN_take hl]; simp)
      have hol := (HOk.out.each l hlm).opn
      obtain ⟨M, hM⟩ : ∃ M, opsN (ls.take i.toNat) = M := ⟨_, rfl⟩
      obtain ⟨L, hL⟩ : ∃ L, l.ops.length = L := ⟨_, rfl⟩
      have c0 := hc.c0
      have c1 := hc.c1
      have c2 := hc.c2
      rw [hM] at hk HNx ⊢
      rw [hL] at hol HNx c0
      have w5 : wrap64 ((M : Int) + (L : Int)) = (M : Int) + (L : Int) := by unfold wrap64; omega
      clear hM hL hl hlm hc
      go_wp2
      exact ⟨⟨i + 1, rfl, by rw [HNx.out], by omega, by omega, ⟨below_alloc HB.out _⟩⟩, by simp [intOf]; omega⟩
    · have hlt1 : decide (i < (N : Int)) = false := decide_eq_false hlt
      have hfin : ls.take i.toNat = ls := List.take_of_length_le (by rw [HN.out]; omega)
      rw [hfin] at hk ⊢
      have HF := Aside0.mk (show R = (decide (N ≤ 16) && decide (opsN ls ≤ 1024)) by rw [← HR.out, ← HN.out]; rfl)
      obtain ⟨M, hM⟩ : ∃ M, opsN ls = M := ⟨_, rfl⟩
      rw [hM] at hk HF ⊢
      clear hfin hM
      by_cases h16 : N ≤ 16
      · by_cases hM : M ≤ 1024
        · have HV := Aside0.mk (show R = true by rw [HF.out, decide_eq_true h16, decide_eq_true hM]; rfl)
          go_wp2
          refine bodyPost_ret (v := .bool false) (by simp [results, Tryz.f21, go_sem] <;> omega) rfl ⟨?_, HB.out⟩
          rw [HV.out]
          try rfl
        · have HV := Aside0.mk (show R = false by rw [HF.out, decide_eq_false hM, Bool.and_false])
          go_wp2
          refine bodyPost_ret (v := .bool true) (by simp [results, Tryz.f21, go_sem] <;> omega) rfl ⟨?_, HB.out⟩
          rw [HV.out]
          try rfl
      · have HV := Aside0.mk (show R = false by rw [HF.out, decide_eq_false h16, Bool.false_and])
        go_wp2
        refine bodyPost_ret (v := .bool true) (by simp [results, Tryz.f21, go_sem] <;> omega) rfl ⟨?_, HB.out⟩
        rw [HV.out]
        try rfl
def nsF (ns : List Int) : Bs := ns.flatMap fun n => 32 :: Lib.itoa n
theorem nsF_take {ns : List Int} {i : Nat} {k : Int} (h : ns[i]? = some k) : nsF (ns.take (i + 1)) = nsF (ns.take i) ++ 32 :: Lib.itoa k := by
  unfold nsF
  rw [List.take_add_one, h, Option.toList, List.flatMap_append]
  simp
theorem nsF_len {ns : List Int} (h : ∀ n ∈ ns, I64 n) : (nsF ns).length ≤ 22 * ns.length := by
  induction ns with
  | nil => simp [nsF]
  | cons n r ih =>
    have h1 := ih fun x hx => h x (List.mem_cons_of_mem _ hx)
    have h2 := h n (List.mem_cons_self ..)
    have h3 := Lib.itoa_length_le n h2.1 h2.2
    unfold nsF at h1 ⊢
    rw [List.flatMap_cons, List.length_append, List.length_cons, List.length_cons]
    omega
theorem lineL_nsF (wd : Bs) (ns : List Int) : lineL wd ns = wd ++ nsF ns := rfl
set_option maxRecDepth 100000 in
set_option maxHeartbeats 4000000 in
theorem line_any (wd : Bs) (A : Option Addr) (c : Nat) (ns : List Int) (w : World) (hE : Env w) (hI : IntsR w A ns) (hn : ∀ n ∈ ns, I64 n) (hl : ns.length ≤ 1048576) (hw : wd.length ≤ 16) :
    Calls Tryz.prog 46 #[.string (sB wd), .slice A ns.length c] w fun e w' => e = .returned (.string (sB (lineL wd ns ++ [10]))) ∧ Below w.heap.size w w' := by
  have HE := Aside0.mk hE
  have HI := Aside0.mk hI
  have HNs := Aside0.mk hn
  have HLn := Aside0.mk (show ∀ i, (nsF (ns.take i)).length ≤ 23068672 from fun i => by
    have h1 := nsF_len (ns := ns.take i) fun n h => hn n (List.mem_of_mem_take h)
    have h2 : (ns.take i).length ≤ ns.length := by rw [List.length_take]; omega
    omega)
  obtain ⟨N, hN⟩ : ∃ N, ns.length = N := ⟨_, rfl⟩
  rw [hN] at hl ⊢
  have HN := Aside0.mk hN
  have HW0 := Aside0.mk (show sB wd = sB (wd ++ nsF (ns.take (0 : Int).toNat)) by simp [nsF])
  clear hE hI hn hN
  obtain ⟨T, hT⟩ : ∃ T, sB wd = T := ⟨_, rfl⟩
  rw [hT] at HW0 ⊢
  clear hT
  go_enter Tryz.func46, Tryz.ntmps46
  go_wp2_with fail
  go_loopw [0, 9] (fun sv iv wr => ∃ i : Int, iv = .int .i64 i ∧ sv = .string (sB (wd ++ nsF (ns.take i.toNat))) ∧ 0 ≤ i ∧ i ≤ N ∧ Aside0 (Below w.heap.size w wr)) (fun _ iv _ => (N - intOf iv).toNat)
  case atStart => exact ⟨0, rfl, by rw [← HW0.out], Int.le_refl _, by omega, ⟨Below.refl _ _⟩⟩
  case round =>
    obtain ⟨i, rfl, rfl, i0, i1, HB⟩ := hrel
    have w4 : wrap64 (i + 1) = i + 1 := by unfold wrap64; omega
    have hz : (sB (wd ++ nsF (ns.take i.toNat))).size ≤ 23068688 := by rw [sB_size, List.length_append]; have := HLn.out i.toNat; omega
    by_cases hlt : i < (N : Int)
    · have hlt1 : decide (i < (N : Int)) = true := decide_eq_true hlt
      obtain ⟨k, hk⟩ : ∃ k, ns[i.toNat]? = some k := ⟨_, List.getElem?_eq_getElem (by rw [HN.out]; omega)⟩
      obtain ⟨b, o, rfl, hc⟩ := (HI.out.below HB.out) i.toNat k hk
      have hki := HNs.out k (List.mem_of_getElem? hk)
      have hIt := fun W h => itoa_any k W h hki.1 hki.2
      have hzk : (sB (Lib.itoa k)).size ≤ 21 := by rw [sB_size]; have := Lib.itoa_length_le k hki.1 hki.2; omega
      have hnx : sB (wd ++ nsF (ns.take i.toNat)) ++ ((⟨#[32]⟩ : ByteArray) ++ sB (Lib.itoa k)) = sB (wd ++ nsF (ns.take (i + 1).toNat)) := by
        rw [show (i + 1).toNat = i.toNat + 1 by omega, nsF_take hk, show (⟨#[32]⟩ : ByteArray) = sB [32] from rfl, sB_app, sB_app, List.append_assoc]
        rfl
      obtain ⟨S, hS⟩ : ∃ S, sB (wd ++ nsF (ns.take i.toNat)) = S := ⟨_, rfl⟩
      obtain ⟨Z, hZ⟩ : ∃ Z, sB (Lib.itoa k) = Z := ⟨_, rfl⟩
      rw [hS] at hz hnx ⊢
      rw [hZ] at hIt hzk hnx
      have HNx := Aside0.mk hnx
      have HEW := Aside0.mk (HE.out.below HB.out)
      have HIt := Aside0.mk hIt
      clear hk hki hnx hS hZ hIt
      go_wp2_with (go_at_call 42; refine (HIt.out _ HEW.out).mono ?_; rintro e w3 ⟨rfl, hB⟩; have HB3 := Aside0.mk (below_step HB.out hB); clear hB)
      exact ⟨⟨i + 1, rfl, by rw [HNx.out], by omega, by omega, HB3⟩, by simp [intOf]; omega⟩
    · have hlt1 : decide (i < (N : Int)) = false := decide_eq_false hlt
      have hfin : ns.take i.toNat = ns := List.take_of_length_le (by rw [HN.out]; omega)
      rw [hfin] at hz ⊢
      obtain ⟨S, hS⟩ : ∃ S, sB (wd ++ nsF ns) = S := ⟨_, rfl⟩
      rw [hS] at hz ⊢
      have HS := Aside0.mk hS
      clear hfin hS
      go_wp2
      refine bodyPost_ret (v := .string (S ++ ⟨#[10]⟩)) (by simp [results, Tryz.f46, go_sem]) rfl ⟨?_, HB.out⟩
      rw [← HS.out, show (⟨#[10]⟩ : ByteArray) = sB [10] from rfl, sB_app]
      rfl
end Go.Proofs.YteglbmindbfkeaaGreatDoor.H
