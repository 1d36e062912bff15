/-
  No cell of these rows narrows 'for every input' (looked for: loops, veiled, ifaces, maps, wideKeys, modest, calm, conditions, laid).
  DERIVED. THE GIVEN ROWS OF THIS SEAT. 5 by the template 'for every input the law returns true; each argument reads behind the call as it read before'; 0 by the template 'total and deterministic' (their statements: YtpadajjlakhnjaaTotals.lean).
  GIVEN WITH THE SEED: the statements are not yours to turn. If you find one false, say at which input.
  Laid BY PROGRAM, IN A SANDBOX (cutbox-rows.mjs): the forced cells as the released guide's own fill.sh prints them over the translation fea7956209df2bf2… (all of the seat's roots in one cut). By AI agents, Wed Nov 11 2026. No macro, syntax, notation, axiom, sorry.
-/
import Derived.Test.YtpadajjlakhnjaaChecked
import GoSem.Claim
import GoSem.ClaimJoined
import GoSem.ClaimMapViews
import Derived.JoinedTies
import Derived.KernelRfl
namespace Go.Proofs.Ytpadajjlakhnjaa
/- THE CELL 'sum', in the pinned program and in every row, IS THE sha256 OF THE DUMP (.gsa) THAT YtpadajjlakhnjaaProg.lean LOADS. Nothing in Lean hashes anything: it is a label: what it is worth is what the hold of that sum in a sandbox is worth. -/
noncomputable def Try.pinned : Pinned := { name := "ytpadajjlakhnjaa", sum := "fea7956209df2bf27dc9c3ce07329f4e41152261dfc75a581118e390ac07b048", checked := Try.checked }
namespace Rows
def none {H : Type} : Left H := { results := [], args := [] }

/-- 'deduplaw05.CutNexts': WHATEVER THE INPUT: true; the input reads as it did. -/
def cutNextsSpec : ChangeSpec := { name := "cutNexts", fn := fun _ => fun
  | [d1, d2] => { results := [.lit (.bool true)], args := [d1, d2] }
  | _ => none }
def cutNextsRow : OpenClaim := { program := "ytpadajjlakhnjaa", sum := "fea7956209df2bf27dc9c3ce07329f4e41152261dfc75a581118e390ac07b048", func := "dedup/deduplaw05.CutNexts", spec := "cutNexts", unfollowed := true, recurses := true, apart := false }
def CutNextsSaid : Prop := cutNextsRow.holds Try.pinned (OpenSpec.ofChange cutNextsSpec)

/-- ITS FALSE NEIGHBOUR: 'it returns false'. Refute it at one input. -/
def cutNextsWrong : ChangeSpec := { name := "cutNexts", fn := fun _ => fun
  | [d1, d2] => { results := [.lit (.bool false)], args := [d1, d2] }
  | _ => none }
def CutNextsWrongFalsely : Prop := cutNextsRow.holds Try.pinned (OpenSpec.ofChange cutNextsWrong)

/-- 'deduplaw05.CutLengths': WHATEVER THE INPUT: true; the input reads as it did. -/
def cutLengthsSpec : ChangeSpec := { name := "cutLengths", fn := fun _ => fun
  | [d1, d2, d3] => { results := [.lit (.bool true)], args := [d1, d2, d3] }
  | _ => none }
def cutLengthsRow : OpenClaim := { program := "ytpadajjlakhnjaa", sum := "fea7956209df2bf27dc9c3ce07329f4e41152261dfc75a581118e390ac07b048", func := "dedup/deduplaw05.CutLengths", spec := "cutLengths", unfollowed := true, recurses := true, apart := false }
def CutLengthsSaid : Prop := cutLengthsRow.holds Try.pinned (OpenSpec.ofChange cutLengthsSpec)

/-- ITS FALSE NEIGHBOUR: 'it returns false'. Refute it at one input. -/
def cutLengthsWrong : ChangeSpec := { name := "cutLengths", fn := fun _ => fun
  | [d1, d2, d3] => { results := [.lit (.bool false)], args := [d1, d2, d3] }
  | _ => none }
def CutLengthsWrongFalsely : Prop := cutLengthsRow.holds Try.pinned (OpenSpec.ofChange cutLengthsWrong)

/-- 'deduplaw05.CutAgain': WHATEVER THE INPUT: true; the input reads as it did. -/
def cutAgainSpec : ChangeSpec := { name := "cutAgain", fn := fun _ => fun
  | [d1, d2, d3, d4] => { results := [.lit (.bool true)], args := [d1, d2, d3, d4] }
  | _ => none }
def cutAgainRow : OpenClaim := { program := "ytpadajjlakhnjaa", sum := "fea7956209df2bf27dc9c3ce07329f4e41152261dfc75a581118e390ac07b048", func := "dedup/deduplaw05.CutAgain", spec := "cutAgain", unfollowed := true, recurses := true, apart := false }
def CutAgainSaid : Prop := cutAgainRow.holds Try.pinned (OpenSpec.ofChange cutAgainSpec)

/-- ITS FALSE NEIGHBOUR: 'it returns false'. Refute it at one input. -/
def cutAgainWrong : ChangeSpec := { name := "cutAgain", fn := fun _ => fun
  | [d1, d2, d3, d4] => { results := [.lit (.bool false)], args := [d1, d2, d3, d4] }
  | _ => none }
def CutAgainWrongFalsely : Prop := cutAgainRow.holds Try.pinned (OpenSpec.ofChange cutAgainWrong)

/-- 'deduplaw05.CutNobody': WHATEVER THE INPUT: true; the input reads as it did. -/
def cutNobodySpec : ChangeSpec := { name := "cutNobody", fn := fun _ => fun
  | [d] => { results := [.lit (.bool true)], args := [d] }
  | _ => none }
def cutNobodyRow : OpenClaim := { program := "ytpadajjlakhnjaa", sum := "fea7956209df2bf27dc9c3ce07329f4e41152261dfc75a581118e390ac07b048", func := "dedup/deduplaw05.CutNobody", spec := "cutNobody", unfollowed := true, recurses := true, apart := false }
def CutNobodySaid : Prop := cutNobodyRow.holds Try.pinned (OpenSpec.ofChange cutNobodySpec)

/-- ITS FALSE NEIGHBOUR: 'it returns false'. Refute it at one input. -/
def cutNobodyWrong : ChangeSpec := { name := "cutNobody", fn := fun _ => fun
  | [d] => { results := [.lit (.bool false)], args := [d] }
  | _ => none }
def CutNobodyWrongFalsely : Prop := cutNobodyRow.holds Try.pinned (OpenSpec.ofChange cutNobodyWrong)

/-- 'deduplaw05.CutPieces': WHATEVER THE INPUT: true; the input reads as it did. -/
def cutPiecesSpec : ChangeSpec := { name := "cutPieces", fn := fun _ => fun
  | [d1, d2] => { results := [.lit (.bool true)], args := [d1, d2] }
  | _ => none }
def cutPiecesRow : OpenClaim := { program := "ytpadajjlakhnjaa", sum := "fea7956209df2bf27dc9c3ce07329f4e41152261dfc75a581118e390ac07b048", func := "dedup/deduplaw05.CutPieces", spec := "cutPieces", unfollowed := true, recurses := true, apart := false }
def CutPiecesSaid : Prop := cutPiecesRow.holds Try.pinned (OpenSpec.ofChange cutPiecesSpec)

/-- ITS FALSE NEIGHBOUR: 'it returns false'. Refute it at one input. -/
def cutPiecesWrong : ChangeSpec := { name := "cutPieces", fn := fun _ => fun
  | [d1, d2] => { results := [.lit (.bool false)], args := [d1, d2] }
  | _ => none }
def CutPiecesWrongFalsely : Prop := cutPiecesRow.holds Try.pinned (OpenSpec.ofChange cutPiecesWrong)

/- THE SECOND FORM. 'bulk': how many values and letters a reading holds, each counted each time it is reached (what is shared counts as often as it is met; a slice's spare places count too). A statement '..UptoSaid' is the law's where the arguments, and the package variables that the reading takes, are together of bulk at most 1048576: NARROWER than '..Said'. Prove '..Said' where nothing that the law and all that it calls make is longer than what came in: it says more and counts as full. Else prove '..UptoSaid'. A law counts once. -/
mutual
def uptoBulk {H : Type} : DataW H → Nat
  | .lit (.string bytes) => bytes.length + 1
  | .lit _ => 1
  | .nil => 1
  | .ptr d => uptoBulk d + 1
  | .slice elems spare => uptoBulkAll elems + uptoBulkAll spare + 1
  | .agg parts => uptoBulkAll parts + 1
  | .iface _ d => uptoBulk d + 1
  | .map entries => uptoBulkEntries entries + 1
  | .held _ => 1
def uptoBulkAll {H : Type} : List (DataW H) → Nat
  | [] => 0
  | d :: r => uptoBulk d + uptoBulkAll r
def uptoBulkEntries {H : Type} : List (Lit × DataW H) → Nat
  | [] => 0
  | x :: r => uptoBulkEntry x + uptoBulkEntries r
def uptoBulkEntry {H : Type} : Lit × DataW H → Nat
  | (.string bytes, d) => bytes.length + uptoBulk d + 1
  | (_, d) => uptoBulk d + 1
 end
def uptoSmall : (H : Type) → List (DataW H) → Bool := fun _ ds => decide (uptoBulkAll ds ≤ 1048576)
def OpenSpec.upto (s : _root_.Go.ChangeSpec) : _root_.Go.OpenSpec := { _root_.Go.OpenSpec.ofChange s with cond := some uptoSmall }

/-- 'deduplaw05.CutNexts', WHERE WHAT IT READS IS OF BULK AT MOST 1048576: true; the input reads as it did. -/
def cutNextsUptoRow : OpenClaim := { program := "ytpadajjlakhnjaa", sum := "fea7956209df2bf27dc9c3ce07329f4e41152261dfc75a581118e390ac07b048", func := "dedup/deduplaw05.CutNexts", spec := "cutNexts", unfollowed := true, recurses := true, apart := false, narrowed := true }
def CutNextsUptoSaid : Prop := cutNextsUptoRow.holds Try.pinned (OpenSpec.upto cutNextsSpec)

/-- 'deduplaw05.CutLengths', WHERE WHAT IT READS IS OF BULK AT MOST 1048576: true; the input reads as it did. -/
def cutLengthsUptoRow : OpenClaim := { program := "ytpadajjlakhnjaa", sum := "fea7956209df2bf27dc9c3ce07329f4e41152261dfc75a581118e390ac07b048", func := "dedup/deduplaw05.CutLengths", spec := "cutLengths", unfollowed := true, recurses := true, apart := false, narrowed := true }
def CutLengthsUptoSaid : Prop := cutLengthsUptoRow.holds Try.pinned (OpenSpec.upto cutLengthsSpec)

/-- 'deduplaw05.CutAgain', WHERE WHAT IT READS IS OF BULK AT MOST 1048576: true; the input reads as it did. -/
def cutAgainUptoRow : OpenClaim := { program := "ytpadajjlakhnjaa", sum := "fea7956209df2bf27dc9c3ce07329f4e41152261dfc75a581118e390ac07b048", func := "dedup/deduplaw05.CutAgain", spec := "cutAgain", unfollowed := true, recurses := true, apart := false, narrowed := true }
def CutAgainUptoSaid : Prop := cutAgainUptoRow.holds Try.pinned (OpenSpec.upto cutAgainSpec)

/-- 'deduplaw05.CutNobody', WHERE WHAT IT READS IS OF BULK AT MOST 1048576: true; the input reads as it did. -/
def cutNobodyUptoRow : OpenClaim := { program := "ytpadajjlakhnjaa", sum := "fea7956209df2bf27dc9c3ce07329f4e41152261dfc75a581118e390ac07b048", func := "dedup/deduplaw05.CutNobody", spec := "cutNobody", unfollowed := true, recurses := true, apart := false, narrowed := true }
def CutNobodyUptoSaid : Prop := cutNobodyUptoRow.holds Try.pinned (OpenSpec.upto cutNobodySpec)

/-- 'deduplaw05.CutPieces', WHERE WHAT IT READS IS OF BULK AT MOST 1048576: true; the input reads as it did. -/
def cutPiecesUptoRow : OpenClaim := { program := "ytpadajjlakhnjaa", sum := "fea7956209df2bf27dc9c3ce07329f4e41152261dfc75a581118e390ac07b048", func := "dedup/deduplaw05.CutPieces", spec := "cutPieces", unfollowed := true, recurses := true, apart := false, narrowed := true }
def CutPiecesUptoSaid : Prop := cutPiecesUptoRow.holds Try.pinned (OpenSpec.upto cutPiecesSpec)

end Rows
end Go.Proofs.Ytpadajjlakhnjaa
