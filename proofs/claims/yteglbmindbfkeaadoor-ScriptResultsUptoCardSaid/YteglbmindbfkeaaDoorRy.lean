/- PrintResult of both at a List, and all kinds together; ScriptResults answers true. Condition: the texts are together no longer than 2^20 bytes. -/
import Derived.Test.YteglbmindbfkeaaDoorRx
namespace Go.Proofs.YteglbmindbfkeaaDoor.H
open Go.RowKit Go.Proofs.YteglbmindbfkeaaDoorW.PrintWords Go.Proofs.YteglbmindbfkeaaDoorW.PrintLast Go.Proofs.YteglbmindbfkeaaDoorW.PrintMore
set_option linter.unusedVariables false
set_option linter.unusedSimpArgs false
theorem joinS_pos {xs : List Bs} {i : Nat} (h0 : 0 < i) (hi : i ≤ xs.length) : 2 ≤ (joinS ((xs.map quoteL).take i)).length := by
  cases xs with
  | nil => simp at hi; omega
  | cons x r =>
    obtain ⟨k, rfl⟩ : ∃ k, i = k + 1 := ⟨i - 1, by omega⟩
    have := (quoteL_len x).1
    unfold joinS
    rw [List.map_cons, List.take_succ_cons, List.flatMap_cons, List.length_tail, List.length_append, List.length_cons]
    omega
theorem RdS.get {w : World} {A : Option Addr} {n : Nat} {xs : List Bs} (h : RdS w A n xs) {i : Nat} (hi : i < n) : ∃ x ad, xs[i]? = some x ∧ x ∈ xs ∧ A = some ad ∧ w.cell? (ad.add i) = some (.string (sB x)) := by
  have hl : i < xs.length := by rw [h.len]; exact hi
  obtain ⟨ad, h1, h2⟩ := h.at_ i _ (List.getElem?_eq_getElem hl)
  exact ⟨_, ad, List.getElem?_eq_getElem hl, List.getElem_mem hl, h1, h2⟩
theorem qmap_get {xs : List Bs} {i : Nat} {x : Bs} (h : xs[i]? = some x) : (xs.map quoteL)[i]? = some (quoteL x) := by rw [List.getElem?_map, h]; rfl
theorem take_snoc {α : Type} {xs : List α} {i : Nat} {x : α} (h : xs[i]? = some x) : xs.take (i + 1) = xs.take i ++ [x] := by rw [List.take_add_one, h]; rfl
/-- A row of texts of one's own is a row of texts. -/
theorem own_str {W : World} {b N g c : Nat} {xs : List Bs} (h : W.ownsRow b 9 1 (.slice (some ⟨g, 0, none⟩) N c) N (strsC xs)) : StrRow W g xs ∧ N ≤ c := by
  rcases h.2 with ⟨h0, _⟩ | ⟨g', cap, cur, hv, hb, hg, hcap, _, _, hc⟩
  · cases h0
  · injection hv with h1 _ h3
    cases h1
    subst h3
    refine ⟨⟨cur, hg, fun j x hx => ?_⟩, hcap⟩
    have h1 := strsC_get hx
    rw [← hc, List.getElem?_take] at h1
    split at h1
    · simpa using h1
    · cases h1
theorem own_some {W : World} {b N c : Nat} {A : Option Addr} {xs : List Bs} (h : W.ownsRow b 9 1 (.slice A N c) N (strsC xs)) (h0 : 0 < N) : ∃ g, A = some ⟨g, 0, none⟩ := by
  rcases h.2 with ⟨_, h1⟩ | ⟨g, cap, cur, hv, _⟩
  · omega
  · injection hv with h1
    exact ⟨g, h1⟩
set_option maxRecDepth 100000 in
set_option maxHeartbeats 8000000 in
theorem presult_7 (o : OpV) (r : ResV) (A : Option Addr) (c : Nat) (w : World) (hE : Env w) (hr : ResOk r) (hA : RdS w A r.names.length r.names) (h0 : r.err = 0) (hk : o.kind = 7) :
    Calls Tryd.prog 18 #[opV o, .agg (resC r A c)] w fun e w' => e = .returned (.string (sB (resL o r))) ∧ Below w.heap.size w w' := by
  have HL := Aside0.mk (resL_7 h0 hk)
  obtain ⟨V, hV⟩ : ∃ V, opC o = V := ⟨_, rfl⟩
  obtain ⟨R, hR⟩ : ∃ R, resC r A c = R := ⟨_, rfl⟩
  unfold opV
  rw [hV, hR]
  obtain ⟨w2, hw2⟩ : ∃ w2, (w.alloc (.cells V 23)).alloc (.cells R 39) = w2 := ⟨_, rfl⟩
  have hsz : (w.alloc (.cells V 23)).heap.size = w.heap.size + 1 := by simp
  have hb1 : w2.heap[w.heap.size + 1]? = some (.cells R 39 (0, 0)) := by rw [← hw2, ← hsz]; exact blk_new _ _
  have hb0 : w2.heap[w.heap.size]? = some (.cells V 23 (0, 0)) := by rw [← hw2]; exact blk_alloc (blk_new w _) _
  have HB0 := Aside0.mk (show Below w.heap.size w w2 by rw [← hw2]; exact below_alloc (below_alloc (Below.refl _ _) _) _)
  have k0 : w2.cell? ⟨w.heap.size, 0, none⟩ = some (.int .i64 o.kind) := (blk_cell hb0 0).trans (by rw [← hV]; rfl)
  have r0 : w2.cell? ⟨w.heap.size + 1, 0, none⟩ = some (.int .i64 r.err) := (blk_cell hb1 0).trans (by rw [← hR]; rfl)
  have r1 : w2.cell? ⟨w.heap.size + 1, 1, none⟩ = some (.int .i64 r.handle) := (blk_cell hb1 1).trans (by rw [← hR]; rfl)
  have r2 : w2.cell? ⟨w.heap.size + 1, 2, none⟩ = some (.int .i64 r.n) := (blk_cell hb1 2).trans (by rw [← hR]; rfl)
  have r3 : w2.cell? ⟨w.heap.size + 1, 3, none⟩ = some (.string (sB r.data)) := (blk_cell hb1 3).trans (by rw [← hR]; rfl)
  have r4 : w2.cell? ⟨w.heap.size + 1, 4, none⟩ = some (.int .i64 r.number) := (blk_cell hb1 4).trans (by rw [← hR]; rfl)
  have r5 : w2.cell? ⟨w.heap.size + 1, 5, none⟩ = some (.bool r.dir) := (blk_cell hb1 5).trans (by rw [← hR]; rfl)
  have r6 : w2.cell? ⟨w.heap.size + 1, 6, none⟩ = some (.int .i64 r.size) := (blk_cell hb1 6).trans (by rw [← hR]; rfl)
  have r7 : w2.cell? ⟨w.heap.size + 1, 7, none⟩ = some (.int .i64 r.links) := (blk_cell hb1 7).trans (by rw [← hR]; rfl)
  have r8 : w2.cell? ⟨w.heap.size + 1, 8, none⟩ = some (.slice A r.names.length c) := (blk_cell hb1 8).trans (by rw [← hR]; rfl)
  have HE := Aside0.mk (hE.below HB0.out)
  have HOk := Aside0.mk hr
  clear hb0 hb1 hV hR hE hr hsz
  have HA := Aside0.mk (hA.below HB0.out)
  obtain ⟨n, hn⟩ : ∃ n, r.names.length = n := ⟨_, rfl⟩
  have hn1 : n ≤ 1048576 := by have := names_count r.names; have := HOk.out.names; omega
  obtain ⟨xs, hxs⟩ : ∃ xs, r.names = xs := ⟨_, rfl⟩
  have HQl := Aside0.mk (show ∀ x ∈ xs, x.length ≤ 1048576 from fun x hx => Nat.le_trans (names_each hx) (by rw [← hxs]; exact HOk.out.names))
  have HJl := Aside0.mk (show ∀ i, (joinS ((xs.map quoteL).take i)).length ≤ 4194304 from fun i => by have := joinS_len xs i; have := HOk.out.names; rw [hxs] at this; omega)
  rw [hn, hxs] at HA
  rw [hn] at r8
  rw [hxs] at hn HL
  have HN := Aside0.mk hn
  rw [h0] at r0
  rw [hk] at k0
  clear h0 hk hA hn hxs
  subst hw2
  go_enter Tryd.func18, Tryd.ntmps18
  go_wp2_with fail
  obtain ⟨w2, hw2⟩ : ∃ w2, (w.alloc (.cells V 23)).alloc (.cells R 39) = w2 := ⟨_, rfl⟩
  rw [hw2] at HA HB0 HE ⊢
  clear hw2 r0 r1 r2 r3 r4 r5 r6 r7 r8 k0
  go_loopw [6, 58] (fun vv iv wr => ∃ i : Int, iv = .int .i64 i ∧ 0 ≤ i ∧ i ≤ n ∧ Aside0 (wr.ownsRow w2.heap.size 9 1 vv i.toNat (strsC ((xs.map quoteL).take i.toNat))) ∧ Aside0 (Below w2.heap.size w2 wr)) (fun _ iv _ => (n - intOf iv).toNat)
  case atStart => exact ⟨0, rfl, Int.le_refl _, by omega, ⟨World.ownsRow_nil _ _ _ _⟩, ⟨Below.refl _ _⟩⟩
  case round =>
    obtain ⟨i, rfl, i0, i1, HO, HW2⟩ := hrel
    obtain ⟨A6, c6, hv⟩ := own_slice HO.out
    subst hv
    have w4 : wrap64 (i + 1) = i + 1 := by unfold wrap64; omega
    by_cases hlt : i < (n : Int)
    · have hlt1 : decide (i < (n : Int)) = true := decide_eq_true hlt
      obtain ⟨x, ad, hx, hxm, hAd, c1⟩ := (HA.out.below HW2.out).get (i := i.toNat) (by omega)
      subst hAd
      have hQ := fun W => pquote_any (sB x) W (by rw [sB_size]; have := HQl.out x hxm; omega)
      rw [sB_data] at hQ
      have hxq : strsC ((xs.map quoteL).take (i + 1).toNat) = strsC ((xs.map quoteL).take i.toNat) ++ [.string (sB (quoteL x))] := by
        rw [show (i + 1).toNat = i.toNat + 1 by omega, take_snoc (qmap_get hx), strsC_app]
        rfl
      have HX := Aside0.mk hxq
      obtain ⟨Z, hZ⟩ : ∃ Z, sB (quoteL x) = Z := ⟨_, rfl⟩
      rw [hZ] at hQ HX
      clear hx hxm hxq hZ
      go_wp2_with (first
        | (go_at_call 14; refine (hQ _).mono ?_; rintro e w3 ⟨rfl, hB⟩; have HO3 := Aside0.mk (pw_own_below HO.out hB); have HW3 := Aside0.mk (below_step HW2.out hB); clear hB)
        | (at_builtin; refine print_append_cells (w0 := w2) w2.heap.size rfl (.tmp 62) (.tmp 65) 37 9 (.string ⟨#[]⟩) 1 16 rfl Tryd.underlying37 infoStr rfl (by omega) (by omega) _ i.toNat (strsC ((xs.map quoteL).take i.toNat)) [.string Z] rfl rfl rfl ?a1 ?aO ?aB ?aS ?aL ?_; (case a1 => intro u hu; simp at hu; subst hu; rfl); (case aO => exact HO3.out); (case aB => exact HW3.out); (case aS => exact HW3.out.size); (case aL => omega); intro v1 w1 ho1 hb1 _ _; have HO1 := Aside0.mk ho1; have HB1 := Aside0.mk hb1; clear ho1 hb1))
      refine ⟨⟨i + 1, rfl, by omega, by omega, ⟨?_⟩, HB1⟩, by simp [intOf]; omega⟩
      rw [HX.out, show (i + 1).toNat = i.toNat + 1 by omega]
      exact HO1.out
    · have hlt1 : decide (i < (n : Int)) = false := decide_eq_false hlt
      obtain rfl : i = (n : Int) := by omega
      have hfin : (xs.map quoteL).take ((n : Int)).toNat = xs.map quoteL := by rw [Int.toNat_natCast]; exact List.take_of_length_le (by rw [List.length_map, HN.out]; exact Nat.le_refl _)
      replace HO := Aside0.mk (show wr.ownsRow w2.heap.size 9 1 (.slice A6 n c6) n (strsC (xs.map quoteL)) by have := HO.out; rw [hfin] at this; exact this)
      have HF := Aside0.mk (show (joinS (xs.map quoteL)).length ≤ 4194304 by have := HJl.out (n : Int).toNat; rwa [hfin] at this)
      have HW := Aside0.mk (HB0.out.trans (HW2.out.mono HB0.out.size))
      clear hlt hfin
      by_cases hn0 : n = 0
      · subst hn0
        obtain rfl : xs = [] := List.eq_nil_of_length_eq_zero HN.out
        go_wp2_with fail
        refine bodyPost_ret (v := .string ⟨#[45]⟩) (by simp [results, Tryd.f18, go_sem]) rfl ⟨?_, HW.out⟩
        rw [HL.out]
        rfl
      · have hne : xs ≠ [] := fun e => by have := HN.out; rw [e] at this; simp at this; omega
        have HLn := Aside0.mk (show namesL xs = joinS (xs.map quoteL) from if_neg hne)
        obtain ⟨g6, rfl⟩ := own_some HO.out (by omega)
        obtain ⟨hrow, hcap⟩ := own_str HO.out
        have hJ := join_row hrow (by rw [List.length_map]; exact HN.out) (by omega) hcap (by simpa using hne) (by have := HF.out; omega)
        have HJ := Aside0.mk hJ
        have e0 : ((n : Int) == 0) = false := by simp; omega
        clear hJ hrow hcap hne hn0
        go_wp2_with (go_at_call 39; refine HJ.out.mono ?_; rintro e w5 ⟨rfl, hB⟩; have HB5 := Aside0.mk (HW.out.trans (hB.mono HW.out.size)); clear hB)
        refine bodyPost_ret (v := .string (sB (joinS (xs.map quoteL)))) (by simp [results, Tryd.f18, go_sem]) rfl ⟨?_, HB5.out⟩
        rw [HL.out, HLn.out]

set_option maxRecDepth 100000 in
set_option maxHeartbeats 8000000 in
theorem rresult_7 (o : OpV) (r : ResV) (A : Option Addr) (c : Nat) (w : World) (hE : Env w) (hr : ResOk r) (hA : RdS w A r.names.length r.names) (h0 : r.err = 0) (hk : o.kind = 7) :
    Calls Tryd.prog 19 #[opV o, .agg (resC r A c)] w fun e w' => e = .returned (.string (sB (resL o r))) ∧ Below w.heap.size w w' := by
  have HL := Aside0.mk (resL_7 h0 hk)
  obtain ⟨V, hV⟩ : ∃ V, opC o = V := ⟨_, rfl⟩
  obtain ⟨R, hR⟩ : ∃ R, resC r A c = R := ⟨_, rfl⟩
  unfold opV
  rw [hV, hR]
  obtain ⟨w2, hw2⟩ : ∃ w2, (w.alloc (.cells V 23)).alloc (.cells R 39) = w2 := ⟨_, rfl⟩
  have hsz : (w.alloc (.cells V 23)).heap.size = w.heap.size + 1 := by simp
  have hb1 : w2.heap[w.heap.size + 1]? = some (.cells R 39 (0, 0)) := by rw [← hw2, ← hsz]; exact blk_new _ _
  have hb0 : w2.heap[w.heap.size]? = some (.cells V 23 (0, 0)) := by rw [← hw2]; exact blk_alloc (blk_new w _) _
  have HB0 := Aside0.mk (show Below w.heap.size w w2 by rw [← hw2]; exact below_alloc (below_alloc (Below.refl _ _) _) _)
  have k0 : w2.cell? ⟨w.heap.size, 0, none⟩ = some (.int .i64 o.kind) := (blk_cell hb0 0).trans (by rw [← hV]; rfl)
  have r0 : w2.cell? ⟨w.heap.size + 1, 0, none⟩ = some (.int .i64 r.err) := (blk_cell hb1 0).trans (by rw [← hR]; rfl)
  have r1 : w2.cell? ⟨w.heap.size + 1, 1, none⟩ = some (.int .i64 r.handle) := (blk_cell hb1 1).trans (by rw [← hR]; rfl)
  have r2 : w2.cell? ⟨w.heap.size + 1, 2, none⟩ = some (.int .i64 r.n) := (blk_cell hb1 2).trans (by rw [← hR]; rfl)
  have r3 : w2.cell? ⟨w.heap.size + 1, 3, none⟩ = some (.string (sB r.data)) := (blk_cell hb1 3).trans (by rw [← hR]; rfl)
  have r4 : w2.cell? ⟨w.heap.size + 1, 4, none⟩ = some (.int .i64 r.number) := (blk_cell hb1 4).trans (by rw [← hR]; rfl)
  have r5 : w2.cell? ⟨w.heap.size + 1, 5, none⟩ = some (.bool r.dir) := (blk_cell hb1 5).trans (by rw [← hR]; rfl)
  have r6 : w2.cell? ⟨w.heap.size + 1, 6, none⟩ = some (.int .i64 r.size) := (blk_cell hb1 6).trans (by rw [← hR]; rfl)
  have r7 : w2.cell? ⟨w.heap.size + 1, 7, none⟩ = some (.int .i64 r.links) := (blk_cell hb1 7).trans (by rw [← hR]; rfl)
  have r8 : w2.cell? ⟨w.heap.size + 1, 8, none⟩ = some (.slice A r.names.length c) := (blk_cell hb1 8).trans (by rw [← hR]; rfl)
  have HE := Aside0.mk (hE.below HB0.out)
  have HOk := Aside0.mk hr
  clear hb0 hb1 hV hR hE hr hsz
  have HA := Aside0.mk (hA.below HB0.out)
  obtain ⟨n, hn⟩ : ∃ n, r.names.length = n := ⟨_, rfl⟩
  have hn1 : n ≤ 1048576 := by have := names_count r.names; have := HOk.out.names; omega
  obtain ⟨xs, hxs⟩ : ∃ xs, r.names = xs := ⟨_, rfl⟩
  have HQl := Aside0.mk (show ∀ x ∈ xs, x.length ≤ 1048576 from fun x hx => Nat.le_trans (names_each hx) (by rw [← hxs]; exact HOk.out.names))
  have HJl := Aside0.mk (show ∀ i, (joinS ((xs.map quoteL).take i)).length ≤ 4194304 from fun i => by have := joinS_len xs i; have := HOk.out.names; rw [hxs] at this; omega)
  rw [hn, hxs] at HA
  rw [hn] at r8
  rw [hxs] at hn HL
  have HN := Aside0.mk hn
  rw [h0] at r0
  rw [hk] at k0
  clear h0 hk hA hn hxs
  subst hw2
  go_enter Tryd.func19, Tryd.ntmps19
  go_wp2_with fail
  obtain ⟨w2, hw2⟩ : ∃ w2, (w.alloc (.cells V 23)).alloc (.cells R 39) = w2 := ⟨_, rfl⟩
  rw [hw2] at HA HB0 HE ⊢
  clear hw2 r0 r1 r2 r3 r4 r5 r6 r7 r8 k0
  go_loopw [6, 62] (fun sv iv wr => ∃ i : Int, iv = .int .i64 i ∧ sv = .string (sB (joinS ((xs.map quoteL).take i.toNat))) ∧ 0 ≤ i ∧ i ≤ n ∧ Aside0 (Below w2.heap.size w2 wr)) (fun _ iv _ => (n - intOf iv).toNat)
  case atStart => exact ⟨0, rfl, rfl, Int.le_refl _, by omega, ⟨Below.refl _ _⟩⟩
  case round =>
    obtain ⟨i, rfl, rfl, i0, i1, HW2⟩ := hrel
    have w4 : wrap64 (i + 1) = i + 1 := by unfold wrap64; omega
    by_cases hlt : i < (n : Int)
    · have hlt1 : decide (i < (n : Int)) = true := decide_eq_true hlt
      obtain ⟨x, ad, hx, hxm, hAd, c1⟩ := (HA.out.below HW2.out).get (i := i.toNat) (by omega)
      subst hAd
      have hxl := HQl.out x hxm
      have hQ := fun W => rquote_any (sB x) W (by rw [sB_size]; omega)
      rw [sB_data] at hQ
      have hZl : (sB (quoteL x)).size ≤ 4194306 := by rw [sB_size]; have := (quoteL_len x).2; omega
      have hSl : (sB (joinS ((xs.map quoteL).take i.toNat))).size ≤ 4194304 := by rw [sB_size]; exact HJl.out i.toNat
      have hjt := joinS_take (qmap_get hx)
      by_cases hi0 : i = 0
      · subst hi0
        replace c1 : wr.cell? ad = some (.string (sB x)) := by simpa [Addr.add] using c1
        have HX := Aside0.mk (show sB (joinS ((xs.map quoteL).take (0 + 1 : Int).toNat)) = sB (joinS ((xs.map quoteL).take (0 : Int).toNat)) ++ sB (quoteL x) by
          rw [show (0 + 1 : Int).toNat = (0 : Int).toNat + 1 by decide, hjt, if_pos (by decide), sB_app]
          rfl)
        obtain ⟨S, hS⟩ : ∃ S, sB (joinS ((xs.map quoteL).take (0 : Int).toNat)) = S := ⟨_, rfl⟩
        obtain ⟨Z, hZ⟩ : ∃ Z, sB (quoteL x) = Z := ⟨_, rfl⟩
        rw [hS] at hSl HX ⊢
        rw [hZ] at hQ hZl HX
        clear hx hxm hjt hS hZ hxl
        go_wp2_with (go_at_call 16; refine (hQ _).mono ?_; rintro e w3 ⟨rfl, hB⟩; have HW3 := Aside0.mk (below_step HW2.out hB); clear hB)
        exact ⟨⟨0 + 1, rfl, by rw [HX.out], by omega, by omega, HW3⟩, by simp [intOf]; omega⟩
      · have e0 : decide ((0 : Int) < i) = true := decide_eq_true (by omega)
        have HX := Aside0.mk (show sB (joinS ((xs.map quoteL).take (i + 1).toNat)) = sB (joinS ((xs.map quoteL).take i.toNat)) ++ (⟨#[32]⟩ : ByteArray) ++ sB (quoteL x) by
          rw [show (i + 1).toNat = i.toNat + 1 by omega, hjt, if_neg (by omega), show (⟨#[32]⟩ : ByteArray) = sB [32] from rfl, sB_app, sB_app, List.append_assoc]
          rfl)
        obtain ⟨S, hS⟩ : ∃ S, sB (joinS ((xs.map quoteL).take i.toNat)) = S := ⟨_, rfl⟩
        obtain ⟨Z, hZ⟩ : ∃ Z, sB (quoteL x) = Z := ⟨_, rfl⟩
        rw [hS] at hSl HX ⊢
        rw [hZ] at hQ hZl HX
        have hip : 0 < i := by omega
        clear hx hxm hjt hS hZ hxl hi0
        go_wp2_with (go_at_call 16; refine (hQ _).mono ?_; rintro e w3 ⟨rfl, hB⟩; have HW3 := Aside0.mk (below_step HW2.out hB); clear hB)
        exact ⟨⟨i + 1, rfl, by rw [HX.out], by omega, by omega, HW3⟩, by simp [intOf]; omega⟩
    · have hlt1 : decide (i < (n : Int)) = false := decide_eq_false hlt
      obtain rfl : i = (n : Int) := by omega
      have hfin : (xs.map quoteL).take ((n : Int)).toNat = xs.map quoteL := by rw [Int.toNat_natCast]; exact List.take_of_length_le (by rw [List.length_map, HN.out]; exact Nat.le_refl _)
      have hpos := fun h : 0 < n => joinS_pos (xs := xs) (i := n) h (by rw [HN.out]; exact Nat.le_refl _)
      rw [hfin]
      rw [← Int.toNat_natCast n, hfin] at hpos
      have HW := Aside0.mk (HB0.out.trans (HW2.out.mono HB0.out.size))
      clear hlt hfin
      by_cases hn0 : n = 0
      · subst hn0
        obtain rfl : xs = [] := List.eq_nil_of_length_eq_zero HN.out
        have hem : (sB (joinS (([] : List Bs).map quoteL))).toList.isEmpty = true := by rw [Lib.toList_data, sB_data]; rfl
        obtain ⟨S, hS⟩ : ∃ S, sB (joinS (([] : List Bs).map quoteL)) = S := ⟨_, rfl⟩
        rw [hS] at hem ⊢
        clear hpos hS
        go_wp2_with fail
        refine bodyPost_ret (v := .string ⟨#[45]⟩) (by simp [results, Tryd.f19, go_sem]) rfl ⟨?_, HW.out⟩
        rw [HL.out]
        rfl
      · have hne : xs ≠ [] := fun e => by have := HN.out; rw [e] at this; simp at this; omega
        have HLn := Aside0.mk (show namesL xs = joinS (xs.map quoteL) from if_neg hne)
        have hem : (sB (joinS (xs.map quoteL))).toList.isEmpty = false := by
          have h2 := hpos (by simp only [Int.toNat_natCast]; omega)
          rw [Lib.toList_data, sB_data]
          cases hc : joinS (xs.map quoteL) with
          | nil => rw [hc] at h2; simp at h2
          | cons => rfl
        obtain ⟨S, hS⟩ : ∃ S, sB (joinS (xs.map quoteL)) = S := ⟨_, rfl⟩
        rw [hS] at hem ⊢
        have HS := Aside0.mk hS
        clear hpos hne hn0 hS
        go_wp2_with fail
        refine bodyPost_ret (v := .string S) (by simp [results, Tryd.f19, go_sem]) rfl ⟨?_, HW.out⟩
        rw [HL.out, HLn.out, HS.out]

theorem presult_any (o : OpV) (r : ResV) (A : Option Addr) (c : Nat) (w : World) (hE : Env w) (hr : ResOk r) (hA : RdS w A r.names.length r.names) :
    Calls Tryd.prog 18 #[opV o, .agg (resC r A c)] w fun e w' => e = .returned (.string (sB (resL o r))) ∧ Below w.heap.size w w' := by
  by_cases h0 : r.err = 0
  · by_cases h1 : o.kind = 1
    · exact presult_1 o r A c w hE hr h0 h1
    · by_cases h3 : o.kind = 3
      · exact presult_3 o r A c w hE hr h0 h3
      · by_cases h4 : o.kind = 4
        · exact presult_4 o r A c w hE hr h0 h4
        · by_cases h6 : o.kind = 6
          · exact presult_6 o r A c w hE hr h0 h6
          · by_cases h7 : o.kind = 7
            · exact presult_7 o r A c w hE hr hA h0 h7
            · exact presult_ok o r A c w hE hr h0 h1 h3 h4 h6 h7
  · exact presult_err o r A c w hE hr h0
theorem rresult_any (o : OpV) (r : ResV) (A : Option Addr) (c : Nat) (w : World) (hE : Env w) (hr : ResOk r) (hA : RdS w A r.names.length r.names) :
    Calls Tryd.prog 19 #[opV o, .agg (resC r A c)] w fun e w' => e = .returned (.string (sB (resL o r))) ∧ Below w.heap.size w w' := by
  by_cases h0 : r.err = 0
  · by_cases h1 : o.kind = 1
    · exact rresult_1 o r A c w hE hr h0 h1
    · by_cases h3 : o.kind = 3
      · exact rresult_3 o r A c w hE hr h0 h3
      · by_cases h4 : o.kind = 4
        · exact rresult_4 o r A c w hE hr h0 h4
        · by_cases h6 : o.kind = 6
          · exact rresult_6 o r A c w hE hr h0 h6
          · by_cases h7 : o.kind = 7
            · exact rresult_7 o r A c w hE hr hA h0 h7
            · exact rresult_ok o r A c w hE hr h0 h1 h3 h4 h6 h7
  · exact rresult_err o r A c w hE hr h0
end Go.Proofs.YteglbmindbfkeaaDoor.H
