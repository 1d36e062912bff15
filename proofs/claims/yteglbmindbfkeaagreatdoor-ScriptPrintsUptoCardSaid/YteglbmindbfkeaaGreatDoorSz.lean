/- For all rows of the seat: the start world that holds the five listed variables; what a world that met them gives. -/
import Derived.Test.YteglbmindbfkeaaGreatDoorRows
import Derived.Test.YteglbmindbfkeaaGreatDoorTie
import Derived.Test.YteglbmindbfkeaaGreatDoorCards
import Derived.Test.YteglbmindbfkeaaGreatDoorNa
import Derived.Stop.LaidErr
import Derived.LaidLaws
import Derived.Lib.LaidU8
import Derived.LaidMore
import Derived.LaidHandle
import Derived.LaidSub
import Derived.MakeChecks
import Derived.Deep.DeepHandedRow
import Derived.Deep.DeepWitnessRowRef
import Derived.WalkKit
import Derived.ProofKit
import Derived.OpenShut
import Derived.ShutString
import Derived.ChangeOld
import Derived.Below
import Derived.SizedLaws
import Derived.Lib.SmallJoins
import Derived.JoinedCond
import Derived.SevenTiedAt
namespace Go.Proofs.YteglbmindbfkeaaGreatDoor.Rw
open Go.RowKit Go.Proofs.YteglbmindbfkeaaGreatDoor.H
theorem own : ownKnob Tryz.prog.godebug = none := by kernel_rfl
theorem laidOut : laidOutB Tryz.prog = true := by kernel_rfl
def laid : List (String × DataW Unit) := [("math/bits.deBruijn32tab", Rows.laid_math_bits_deBruijn32tab), ("math/bits.deBruijn64tab", Rows.laid_math_bits_deBruijn64tab), ("internal/strconv.uint64pow10", Rows.laid_internal_strconv_uint64pow10), ("unicode/utf8.acceptRanges", Rows.laid_unicode_utf8_acceptRanges), ("strconv.ErrRange", Rows.laid_strconv_ErrRange), ("strconv.ErrSyntax", Rows.laid_strconv_ErrSyntax), ("unicode/utf8.first", Rows.laid_unicode_utf8_first)]
def valOf : DataW Unit → Value
  | .lit (.int k n) => .int k n
  | _ => .nilIface
def valsOf : DataW Unit → Array Value
  | .agg ds => (ds.map valOf).toArray
  | _ => #[]
abbrev rngS : ByteArray := { data := #[118, 97, 108, 117, 101, 32, 111, 117, 116, 32, 111, 102, 32, 114, 97, 110, 103, 101] }
abbrev synS : ByteArray := { data := #[105, 110, 118, 97, 108, 105, 100, 32, 115, 121, 110, 116, 97, 120] }
noncomputable def low : Nat := (World.holding Tryz.prog default ⟨#[], #[], []⟩).heap.size
noncomputable def start (os : Os) : World :=
  let w0 := World.holding Tryz.prog os ⟨#[.cells #[.string rngS] 156, .cells #[.string synS] 156], #[], []⟩
  let put (h : Array Obj) (g : Nat) (cs : Array Value) : Array Obj := h.modify g fun
    | .cells _ t frozen => .cells cs t frozen
    | o => o
  let h1 := put w0.heap 6 (valsOf Rows.laid_math_bits_deBruijn32tab)
  let h2 := put h1 7 (valsOf Rows.laid_math_bits_deBruijn64tab)
  let h3 := put h2 1 (valsOf Rows.laid_internal_strconv_uint64pow10)
  let h4 := put h3 3 #[.iface 154 (.pointer (some ⟨low, 0, none⟩))]
  let h5 := put h4 2 #[.iface 154 (.pointer (some ⟨low + 1, 0, none⟩))]
  let h6 := put h5 4 (Lib.firstTab.map fun z => Value.int .u8 z).toArray
  let h7 := put h6 5 ((List.range 16).flatMap fun i => [Value.int .u8 (Lib.accLo i), Value.int .u8 (Lib.accHi i)]).toArray
  { w0 with heap := h7 }
theorem start_met (os : Os) (args : Array Value) : laidMetH Tryz.prog laid ((start os).forCall (fun _ _ => 0) ⟨#[], args, []⟩).memory :=
  laidMetH_of_parts3 (fuel := 8) (laidMet_of_run' 8 (by kernel_rfl) (by kernel_rfl)) (by kernel_rfl) (by kernel_rfl)
theorem start_vars (os : Os) : ((start os).forCall (fun _ _ => 0) ⟨#[], #[], []⟩).variablesRefB Tryz.prog = true := by kernel_rfl
theorem number {W : World} (hsh : W.ShapedOpen Tryz.prog) : ∃ m, W.cell? ⟨0, 0, none⟩ = some (.int .i64 m) :=
  Go.Proofs.cell_of_shapedOpen_int (zero := #[.int .i64 0]) (t := 3) hsh (of_decide_eq_true (by kernel_rfl)) (by kernel_rfl) rfl (by kernel_rfl) (by kernel_rfl) Tryz.underlying3
theorem star : "*" ++ "errors.errorString" = "*errors.errorString" := by decide
theorem rowE (u : TypeId) (h : Tryz.prog.typeName? 3 u = some "*errors.errorString") : u = 154 :=
  typeName_ptr_named (nm := "errors.errorString") (by rw [star]; kernel_rfl) (by kernel_rfl) (by decide) u (by rw [star]; exact h)
theorem gS : Tryz.prog.globalNamed "strconv.ErrSyntax" = some 2 := by kernel_rfl
theorem gR : Tryz.prog.globalNamed "strconv.ErrRange" = some 3 := by kernel_rfl
theorem gST : (Tryz.prog.globals[2]?).map (·.type) = some 49 := by kernel_rfl
theorem gRT : (Tryz.prog.globals[3]?).map (·.type) = some 49 := by kernel_rfl
theorem gP : Tryz.prog.globalNamed "internal/strconv.uint64pow10" = some 1 := by kernel_rfl
theorem gPT : (Tryz.prog.globals[1]?).map (·.type) = some 140 := by kernel_rfl
theorem cE : Tryz.prog.cellsOf 156 = 1 := by kernel_rfl
theorem cS : Tryz.prog.cellsOf 9 = 1 := by kernel_rfl
theorem cU : Tryz.prog.cellsOf 22 = 1 := by kernel_rfl
theorem cP : Tryz.prog.cellsOf 140 = 20 := by kernel_rfl
theorem env_of {W : World} (hL : laidMetH Tryz.prog laid W) (hsh : W.ShapedOpen Tryz.prog) : Env W := by
  rw [MakeChecks.laidMetH_plain Tryz.prog laid W (by kernel_rfl)] at hL
  have h3 := (hL.tail).tail
  have h4 := h3.tail.tail
  have h5 := h4.tail
  refine ⟨?_, ?_, ?_, number hsh⟩
  · exact Lib.tabIs_of_head (k := .u64) (zs := Lib.pow10Tab) gP gPT Tryz.underlying140 Tryz.underlying22 cU cP h3
  · obtain ⟨a0, s0, hv0, _⟩ := laid_sentinel h5 gS gST Tryz.underlying49 rowE Tryz.underlying154 Tryz.underlying156 rfl rfl Tryz.underlying9 cE cS
    exact ⟨_, _, hv0⟩
  · obtain ⟨a0, s0, hv0, _⟩ := laid_sentinel h4 gR gRT Tryz.underlying49 rowE Tryz.underlying154 Tryz.underlying156 rfl rfl Tryz.underlying9 cE cS
    exact ⟨_, _, hv0⟩
end Go.Proofs.YteglbmindbfkeaaGreatDoor.Rw
