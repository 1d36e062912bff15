/- The law's same as a contract; a call that is read out of a script. -/
import Derived.Test.YtpcgmlnipeigjaaUk
import Derived.Test.YtpcgmlnipeigjaaSo
namespace Go.Proofs.Ytpcgmlnipeigjaa.H
open Go.RowKit Go.Shelf Go.Proofs.YtpcgmlnipeigjaaW.PrintWords Go.Proofs.YtpcgmlnipeigjaaW.PrintLast Go.Proofs.YtpcgmlnipeigjaaW.PrintMore
set_option linter.unusedVariables false
set_option linter.unusedSimpArgs false

set_option maxRecDepth 100000 in
set_option maxHeartbeats 4000000 in
theorem same_any (n0 X g Y h : Nat) (first res : Int) (l : List Int) (w : World) (hp : PrAt w X g Y h first l res) (d : Dj n0 X g Y h) (hs : Sane first l res) (hl : 0 < l.length) :
    Calls Try.prog 23 #[.pointer (some ⟨X, 0, none⟩), .pointer (some ⟨Y, 0, none⟩)] w fun e w' => DoesP n0 X g Y h first l w e w' := by
  have HP := Aside0.mk hp
  have HD := Aside0.mk d
  have HS := Aside0.mk hs
  clear hp d hs
  go_enter Try.func23, Try.ntmps23
  go_wp2_with (first
    | (go_at_call 22; refine (does_any n0 X g Y h first res 7 0 0 0 l _ HP.out HD.out HS.out hl (by omega) (by omega)).mono ?_; intro e w1 hQ; obtain ⟨rfl, l', res', hp1, hs1, hl1, hm1⟩ := hQ.out; have HP1 := Aside0.mk hp1; have HS1 := Aside0.mk hs1; have HL1 := Aside0.mk hl1; have HM1 := Aside0.mk hm1; clear hQ hp1 hs1 hl1 hm1)
    | (go_at_call 29; refine (bits_any X g first res' l' (cnt l') _ HP1.out.sp HS1.out.len).mono ?_; rintro e w2 ⟨rfl, hB⟩; have HP2 := Aside0.mk (HP1.out.below hB); have HM2 := Aside0.mk (HM1.out.trans (Mw.of_below hB (by have := HD.out.nx; have := HP1.out.sp.ltX; omega))); clear hB)
    | (go_at_call 49; refine (rbits_any Y h first res' l' _ HP2.out.rf HS1.out.len).mono ?_; rintro e w3 ⟨rfl, hB⟩; have HP3 := Aside0.mk (HP2.out.below hB); have HM3 := Aside0.mk (HM2.out.trans (Mw.of_below hB (by have := HD.out.nx; have := HP2.out.sp.ltX; omega))); clear hB)
    | (go_at_call 47; refine (lruns_any X g Y h first res' res' 1 l' (cnt l') _ HP3.out.sp HP3.out.rf ⟨HS1.out.f0, HS1.out.fl⟩ (by have := HL1.out; omega)).mono ?_; rintro e w4 ⟨rfl, hB⟩; have HP4 := Aside0.mk (HP3.out.below hB); have HM4 := Aside0.mk (HM3.out.trans (Mw.of_below hB (by have := HD.out.nx; have := HP3.out.sp.ltX; omega))); clear hB))
  go_ret
  exact ⟨by simp, l', res', HP4.out, HS1.out, HL1.out, HM4.out⟩
end Go.Proofs.Ytpcgmlnipeigjaa.H
