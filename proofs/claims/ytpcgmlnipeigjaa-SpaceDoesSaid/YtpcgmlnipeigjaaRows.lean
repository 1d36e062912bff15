/-
  No cell of these rows narrows 'for every input' (looked for: loops, veiled, ifaces, maps, wideKeys, modest, calm, conditions, laid).
  DERIVED. THE GIVEN ROWS OF THIS SEAT. 7 by the template 'for every input the law returns true; each argument reads behind the call as it read before'; 0 by the template 'total and deterministic' (their statements: YtpcgmlnipeigjaaTotals.lean).
  GIVEN WITH THE SEED: the statements are not yours to turn. If you find one false, say at which input.
  Laid BY PROGRAM, IN A SANDBOX (cutbox-rows.mjs): the forced cells as the released guide's own fill.sh prints them over the translation c5dfd7438159c634… (all of the seat's roots in one cut). By AI agents, Wed Nov 11 2026. No macro, syntax, notation, axiom, sorry.
-/
import Derived.Test.YtpcgmlnipeigjaaChecked
import GoSem.Claim
import GoSem.ClaimJoined
import GoSem.ClaimMapViews
import Derived.JoinedTies
import Derived.KernelRfl
namespace Go.Proofs.Ytpcgmlnipeigjaa
/- THE CELL 'sum', in the pinned program and in every row, IS THE sha256 OF THE DUMP (.gsa) THAT YtpcgmlnipeigjaaProg.lean LOADS. Nothing in Lean hashes anything: it is a label: what it is worth is what the hold of that sum in a sandbox is worth. -/
noncomputable def Try.pinned : Pinned := { name := "ytpcgmlnipeigjaa", sum := "c5dfd7438159c634c2e69037957cb53eb86d16f45b4bcb27ccbf442c62c906d1", checked := Try.checked }
namespace Rows
def none {H : Type} : Left H := { results := [], args := [] }

/-- 'deduplaw06.SpaceApart': WHATEVER THE INPUT: true; the input reads as it did. -/
def spaceApartSpec : ChangeSpec := { name := "spaceApart", fn := fun _ => fun
  | [d] => { results := [.lit (.bool true)], args := [d] }
  | _ => none }
def spaceApartRow : OpenClaim := { program := "ytpcgmlnipeigjaa", sum := "c5dfd7438159c634c2e69037957cb53eb86d16f45b4bcb27ccbf442c62c906d1", func := "dedup/deduplaw06.SpaceApart", spec := "spaceApart", unfollowed := true, recurses := true, apart := false }
def SpaceApartSaid : Prop := spaceApartRow.holds Try.pinned (OpenSpec.ofChange spaceApartSpec)

/-- ITS FALSE NEIGHBOUR: 'it returns false'. Refute it at one input. -/
def spaceApartWrong : ChangeSpec := { name := "spaceApart", fn := fun _ => fun
  | [d] => { results := [.lit (.bool false)], args := [d] }
  | _ => none }
def SpaceApartWrongFalsely : Prop := spaceApartRow.holds Try.pinned (OpenSpec.ofChange spaceApartWrong)

/-- 'deduplaw06.SpaceAdds': WHATEVER THE INPUT: true; the input reads as it did. -/
def spaceAddsSpec : ChangeSpec := { name := "spaceAdds", fn := fun _ => fun
  | [d] => { results := [.lit (.bool true)], args := [d] }
  | _ => none }
def spaceAddsRow : OpenClaim := { program := "ytpcgmlnipeigjaa", sum := "c5dfd7438159c634c2e69037957cb53eb86d16f45b4bcb27ccbf442c62c906d1", func := "dedup/deduplaw06.SpaceAdds", spec := "spaceAdds", unfollowed := true, recurses := true, apart := false }
def SpaceAddsSaid : Prop := spaceAddsRow.holds Try.pinned (OpenSpec.ofChange spaceAddsSpec)

/-- ITS FALSE NEIGHBOUR: 'it returns false'. Refute it at one input. -/
def spaceAddsWrong : ChangeSpec := { name := "spaceAdds", fn := fun _ => fun
  | [d] => { results := [.lit (.bool false)], args := [d] }
  | _ => none }
def SpaceAddsWrongFalsely : Prop := spaceAddsRow.holds Try.pinned (OpenSpec.ofChange spaceAddsWrong)

/-- 'deduplaw06.SpaceDoes': WHATEVER THE INPUT: true; the input reads as it did. -/
def spaceDoesSpec : ChangeSpec := { name := "spaceDoes", fn := fun _ => fun
  | [d] => { results := [.lit (.bool true)], args := [d] }
  | _ => none }
def spaceDoesRow : OpenClaim := { program := "ytpcgmlnipeigjaa", sum := "c5dfd7438159c634c2e69037957cb53eb86d16f45b4bcb27ccbf442c62c906d1", func := "dedup/deduplaw06.SpaceDoes", spec := "spaceDoes", unfollowed := true, recurses := true, apart := false }
def SpaceDoesSaid : Prop := spaceDoesRow.holds Try.pinned (OpenSpec.ofChange spaceDoesSpec)

/-- ITS FALSE NEIGHBOUR: 'it returns false'. Refute it at one input. -/
def spaceDoesWrong : ChangeSpec := { name := "spaceDoes", fn := fun _ => fun
  | [d] => { results := [.lit (.bool false)], args := [d] }
  | _ => none }
def SpaceDoesWrongFalsely : Prop := spaceDoesRow.holds Try.pinned (OpenSpec.ofChange spaceDoesWrong)

/-- 'deduplaw06.SpaceLooks': WHATEVER THE INPUT: true; the input reads as it did. -/
def spaceLooksSpec : ChangeSpec := { name := "spaceLooks", fn := fun _ => fun
  | [d] => { results := [.lit (.bool true)], args := [d] }
  | _ => none }
def spaceLooksRow : OpenClaim := { program := "ytpcgmlnipeigjaa", sum := "c5dfd7438159c634c2e69037957cb53eb86d16f45b4bcb27ccbf442c62c906d1", func := "dedup/deduplaw06.SpaceLooks", spec := "spaceLooks", unfollowed := true, recurses := true, apart := false }
def SpaceLooksSaid : Prop := spaceLooksRow.holds Try.pinned (OpenSpec.ofChange spaceLooksSpec)

/-- ITS FALSE NEIGHBOUR: 'it returns false'. Refute it at one input. -/
def spaceLooksWrong : ChangeSpec := { name := "spaceLooks", fn := fun _ => fun
  | [d] => { results := [.lit (.bool false)], args := [d] }
  | _ => none }
def SpaceLooksWrongFalsely : Prop := spaceLooksRow.holds Try.pinned (OpenSpec.ofChange spaceLooksWrong)

/-- 'deduplaw06.SpaceForks': WHATEVER THE INPUT: true; the input reads as it did. -/
def spaceForksSpec : ChangeSpec := { name := "spaceForks", fn := fun _ => fun
  | [d1, d2] => { results := [.lit (.bool true)], args := [d1, d2] }
  | _ => none }
def spaceForksRow : OpenClaim := { program := "ytpcgmlnipeigjaa", sum := "c5dfd7438159c634c2e69037957cb53eb86d16f45b4bcb27ccbf442c62c906d1", func := "dedup/deduplaw06.SpaceForks", spec := "spaceForks", unfollowed := true, recurses := true, apart := false }
def SpaceForksSaid : Prop := spaceForksRow.holds Try.pinned (OpenSpec.ofChange spaceForksSpec)

/-- ITS FALSE NEIGHBOUR: 'it returns false'. Refute it at one input. -/
def spaceForksWrong : ChangeSpec := { name := "spaceForks", fn := fun _ => fun
  | [d1, d2] => { results := [.lit (.bool false)], args := [d1, d2] }
  | _ => none }
def SpaceForksWrongFalsely : Prop := spaceForksRow.holds Try.pinned (OpenSpec.ofChange spaceForksWrong)

/-- 'deduplaw06.SpaceReserves': WHATEVER THE INPUT: true; the input reads as it did. -/
def spaceReservesSpec : ChangeSpec := { name := "spaceReserves", fn := fun _ => fun
  | [d1, d2] => { results := [.lit (.bool true)], args := [d1, d2] }
  | _ => none }
def spaceReservesRow : OpenClaim := { program := "ytpcgmlnipeigjaa", sum := "c5dfd7438159c634c2e69037957cb53eb86d16f45b4bcb27ccbf442c62c906d1", func := "dedup/deduplaw06.SpaceReserves", spec := "spaceReserves", unfollowed := true, recurses := true, apart := false }
def SpaceReservesSaid : Prop := spaceReservesRow.holds Try.pinned (OpenSpec.ofChange spaceReservesSpec)

/-- ITS FALSE NEIGHBOUR: 'it returns false'. Refute it at one input. -/
def spaceReservesWrong : ChangeSpec := { name := "spaceReserves", fn := fun _ => fun
  | [d1, d2] => { results := [.lit (.bool false)], args := [d1, d2] }
  | _ => none }
def SpaceReservesWrongFalsely : Prop := spaceReservesRow.holds Try.pinned (OpenSpec.ofChange spaceReservesWrong)

/-- 'deduplaw06.SpaceNobody': WHATEVER THE INPUT: true; the input reads as it did. -/
def spaceNobodySpec : ChangeSpec := { name := "spaceNobody", fn := fun _ => fun
  | [d] => { results := [.lit (.bool true)], args := [d] }
  | _ => none }
def spaceNobodyRow : OpenClaim := { program := "ytpcgmlnipeigjaa", sum := "c5dfd7438159c634c2e69037957cb53eb86d16f45b4bcb27ccbf442c62c906d1", func := "dedup/deduplaw06.SpaceNobody", spec := "spaceNobody", unfollowed := true, recurses := true, apart := false }
def SpaceNobodySaid : Prop := spaceNobodyRow.holds Try.pinned (OpenSpec.ofChange spaceNobodySpec)

/-- ITS FALSE NEIGHBOUR: 'it returns false'. Refute it at one input. -/
def spaceNobodyWrong : ChangeSpec := { name := "spaceNobody", fn := fun _ => fun
  | [d] => { results := [.lit (.bool false)], args := [d] }
  | _ => none }
def SpaceNobodyWrongFalsely : Prop := spaceNobodyRow.holds Try.pinned (OpenSpec.ofChange spaceNobodyWrong)

/- THE SECOND FORM. 'bulk': how many values and letters a reading holds, each counted each time it is reached (what is shared counts as often as it is met; a slice's spare places count too). A statement '..UptoSaid' is the law's where the arguments, and the package variables that the reading takes, are together of bulk at most 1048576: NARROWER than '..Said'. Prove '..Said' where nothing that the law and all that it calls make is longer than what came in: it says more and counts as full. Else prove '..UptoSaid'. A law counts once. -/
mutual
def uptoBulk {H : Type} : DataW H → Nat
  | .lit (.string bytes) => bytes.length + 1
  | .lit _ => 1
  | .nil => 1
  | .ptr d => uptoBulk d + 1
  | .slice elems spare => uptoBulkAll elems + uptoBulkAll spare + 1
  | .agg parts => uptoBulkAll parts + 1
  | .iface _ d => uptoBulk d + 1
  | .map entries => uptoBulkEntries entries + 1
  | .held _ => 1
def uptoBulkAll {H : Type} : List (DataW H) → Nat
  | [] => 0
  | d :: r => uptoBulk d + uptoBulkAll r
def uptoBulkEntries {H : Type} : List (Lit × DataW H) → Nat
  | [] => 0
  | x :: r => uptoBulkEntry x + uptoBulkEntries r
def uptoBulkEntry {H : Type} : Lit × DataW H → Nat
  | (.string bytes, d) => bytes.length + uptoBulk d + 1
  | (_, d) => uptoBulk d + 1
 end
def uptoSmall : (H : Type) → List (DataW H) → Bool := fun _ ds => decide (uptoBulkAll ds ≤ 1048576)
def OpenSpec.upto (s : _root_.Go.ChangeSpec) : _root_.Go.OpenSpec := { _root_.Go.OpenSpec.ofChange s with cond := some uptoSmall }

/-- 'deduplaw06.SpaceApart', WHERE WHAT IT READS IS OF BULK AT MOST 1048576: true; the input reads as it did. -/
def spaceApartUptoRow : OpenClaim := { program := "ytpcgmlnipeigjaa", sum := "c5dfd7438159c634c2e69037957cb53eb86d16f45b4bcb27ccbf442c62c906d1", func := "dedup/deduplaw06.SpaceApart", spec := "spaceApart", unfollowed := true, recurses := true, apart := false, narrowed := true }
def SpaceApartUptoSaid : Prop := spaceApartUptoRow.holds Try.pinned (OpenSpec.upto spaceApartSpec)

/-- 'deduplaw06.SpaceAdds', WHERE WHAT IT READS IS OF BULK AT MOST 1048576: true; the input reads as it did. -/
def spaceAddsUptoRow : OpenClaim := { program := "ytpcgmlnipeigjaa", sum := "c5dfd7438159c634c2e69037957cb53eb86d16f45b4bcb27ccbf442c62c906d1", func := "dedup/deduplaw06.SpaceAdds", spec := "spaceAdds", unfollowed := true, recurses := true, apart := false, narrowed := true }
def SpaceAddsUptoSaid : Prop := spaceAddsUptoRow.holds Try.pinned (OpenSpec.upto spaceAddsSpec)

/-- 'deduplaw06.SpaceDoes', WHERE WHAT IT READS IS OF BULK AT MOST 1048576: true; the input reads as it did. -/
def spaceDoesUptoRow : OpenClaim := { program := "ytpcgmlnipeigjaa", sum := "c5dfd7438159c634c2e69037957cb53eb86d16f45b4bcb27ccbf442c62c906d1", func := "dedup/deduplaw06.SpaceDoes", spec := "spaceDoes", unfollowed := true, recurses := true, apart := false, narrowed := true }
def SpaceDoesUptoSaid : Prop := spaceDoesUptoRow.holds Try.pinned (OpenSpec.upto spaceDoesSpec)

/-- 'deduplaw06.SpaceLooks', WHERE WHAT IT READS IS OF BULK AT MOST 1048576: true; the input reads as it did. -/
def spaceLooksUptoRow : OpenClaim := { program := "ytpcgmlnipeigjaa", sum := "c5dfd7438159c634c2e69037957cb53eb86d16f45b4bcb27ccbf442c62c906d1", func := "dedup/deduplaw06.SpaceLooks", spec := "spaceLooks", unfollowed := true, recurses := true, apart := false, narrowed := true }
def SpaceLooksUptoSaid : Prop := spaceLooksUptoRow.holds Try.pinned (OpenSpec.upto spaceLooksSpec)

/-- 'deduplaw06.SpaceForks', WHERE WHAT IT READS IS OF BULK AT MOST 1048576: true; the input reads as it did. -/
def spaceForksUptoRow : OpenClaim := { program := "ytpcgmlnipeigjaa", sum := "c5dfd7438159c634c2e69037957cb53eb86d16f45b4bcb27ccbf442c62c906d1", func := "dedup/deduplaw06.SpaceForks", spec := "spaceForks", unfollowed := true, recurses := true, apart := false, narrowed := true }
def SpaceForksUptoSaid : Prop := spaceForksUptoRow.holds Try.pinned (OpenSpec.upto spaceForksSpec)

/-- 'deduplaw06.SpaceReserves', WHERE WHAT IT READS IS OF BULK AT MOST 1048576: true; the input reads as it did. -/
def spaceReservesUptoRow : OpenClaim := { program := "ytpcgmlnipeigjaa", sum := "c5dfd7438159c634c2e69037957cb53eb86d16f45b4bcb27ccbf442c62c906d1", func := "dedup/deduplaw06.SpaceReserves", spec := "spaceReserves", unfollowed := true, recurses := true, apart := false, narrowed := true }
def SpaceReservesUptoSaid : Prop := spaceReservesUptoRow.holds Try.pinned (OpenSpec.upto spaceReservesSpec)

/-- 'deduplaw06.SpaceNobody', WHERE WHAT IT READS IS OF BULK AT MOST 1048576: true; the input reads as it did. -/
def spaceNobodyUptoRow : OpenClaim := { program := "ytpcgmlnipeigjaa", sum := "c5dfd7438159c634c2e69037957cb53eb86d16f45b4bcb27ccbf442c62c906d1", func := "dedup/deduplaw06.SpaceNobody", spec := "spaceNobody", unfollowed := true, recurses := true, apart := false, narrowed := true }
def SpaceNobodyUptoSaid : Prop := spaceNobodyUptoRow.holds Try.pinned (OpenSpec.upto spaceNobodySpec)

end Rows
end Go.Proofs.Ytpcgmlnipeigjaa
