/- For all rows of the seat: the start world that holds the five listed variables; what a world that met them gives. -/
import Derived.Test.YteglbmindbfkeaaDoorRows
import Derived.Test.YteglbmindbfkeaaDoorTie
import Derived.Test.YteglbmindbfkeaaDoorCards
import Derived.Test.YteglbmindbfkeaaDoorNa
import Derived.Stop.LaidErr
import Derived.LaidLaws
import Derived.Lib.LaidU8
import Derived.LaidMore
import Derived.LaidHandle
import Derived.LaidSub
import Derived.MakeChecks
import Derived.Deep.DeepHandedRow
import Derived.Deep.DeepWitnessRowRef
import Derived.WalkKit
import Derived.ProofKit
import Derived.OpenShut
import Derived.ShutString
import Derived.ChangeOld
import Derived.Below
import Derived.SizedLaws
import Derived.Lib.SmallJoins
import Derived.JoinedCond
import Derived.SevenTiedAt
namespace Go.Proofs.YteglbmindbfkeaaDoor.Rw
open Go.RowKit Go.Proofs.YteglbmindbfkeaaDoor.H
theorem own : ownKnob Tryd.prog.godebug = none := by kernel_rfl
theorem laidOut : laidOutB Tryd.prog = true := by kernel_rfl
def laid : List (String × DataW Unit) := [("math/bits.deBruijn32tab", Rows.laid_math_bits_deBruijn32tab), ("math/bits.deBruijn64tab", Rows.laid_math_bits_deBruijn64tab), ("internal/strconv.uint64pow10", Rows.laid_internal_strconv_uint64pow10), ("strconv.ErrRange", Rows.laid_strconv_ErrRange), ("strconv.ErrSyntax", Rows.laid_strconv_ErrSyntax)]
def valOf : DataW Unit → Value
  | .lit (.int k n) => .int k n
  | _ => .nilIface
def valsOf : DataW Unit → Array Value
  | .agg ds => (ds.map valOf).toArray
  | _ => #[]
abbrev rngS : ByteArray := { data := #[118, 97, 108, 117, 101, 32, 111, 117, 116, 32, 111, 102, 32, 114, 97, 110, 103, 101] }
abbrev synS : ByteArray := { data := #[105, 110, 118, 97, 108, 105, 100, 32, 115, 121, 110, 116, 97, 120] }
noncomputable def low : Nat := (World.holding Tryd.prog default ⟨#[], #[], []⟩).heap.size
noncomputable def start (os : Os) : World :=
  let w0 := World.holding Tryd.prog os ⟨#[.cells #[.string rngS] 117, .cells #[.string synS] 117], #[], []⟩
  let put (h : Array Obj) (g : Nat) (cs : Array Value) : Array Obj := h.modify g fun
    | .cells _ t frozen => .cells cs t frozen
    | o => o
  let h1 := put w0.heap 4 (valsOf Rows.laid_math_bits_deBruijn32tab)
  let h2 := put h1 5 (valsOf Rows.laid_math_bits_deBruijn64tab)
  let h3 := put h2 1 (valsOf Rows.laid_internal_strconv_uint64pow10)
  let h4 := put h3 3 #[.iface 115 (.pointer (some ⟨low, 0, none⟩))]
  let h5 := put h4 2 #[.iface 115 (.pointer (some ⟨low + 1, 0, none⟩))]
  { w0 with heap := h5 }
theorem start_met (os : Os) (args : Array Value) : laidMetH Tryd.prog laid ((start os).forCall (fun _ _ => 0) ⟨#[], args, []⟩).memory :=
  laidMetH_of_parts3 (fuel := 8) (laidMet_of_run' 8 (by kernel_rfl) (by kernel_rfl)) (by kernel_rfl) (by kernel_rfl)
theorem start_vars (os : Os) : ((start os).forCall (fun _ _ => 0) ⟨#[], #[], []⟩).variablesRefB Tryd.prog = true := by kernel_rfl
theorem number {W : World} (hsh : W.ShapedOpen Tryd.prog) : ∃ m, W.cell? ⟨0, 0, none⟩ = some (.int .i64 m) :=
  Go.Proofs.cell_of_shapedOpen_int (zero := #[.int .i64 0]) (t := 3) hsh (of_decide_eq_true (by kernel_rfl)) (by kernel_rfl) rfl (by kernel_rfl) (by kernel_rfl) Tryd.underlying3
theorem star : "*" ++ "errors.errorString" = "*errors.errorString" := by decide
theorem rowE (u : TypeId) (h : Tryd.prog.typeName? 3 u = some "*errors.errorString") : u = 115 :=
  typeName_ptr_named (nm := "errors.errorString") (by rw [star]; kernel_rfl) (by kernel_rfl) (by decide) u (by rw [star]; exact h)
theorem gS : Tryd.prog.globalNamed "strconv.ErrSyntax" = some 2 := by kernel_rfl
theorem gR : Tryd.prog.globalNamed "strconv.ErrRange" = some 3 := by kernel_rfl
theorem gST : (Tryd.prog.globals[2]?).map (·.type) = some 70 := by kernel_rfl
theorem gRT : (Tryd.prog.globals[3]?).map (·.type) = some 70 := by kernel_rfl
theorem gP : Tryd.prog.globalNamed "internal/strconv.uint64pow10" = some 1 := by kernel_rfl
theorem gPT : (Tryd.prog.globals[1]?).map (·.type) = some 102 := by kernel_rfl
theorem cE : Tryd.prog.cellsOf 117 = 1 := by kernel_rfl
theorem cS : Tryd.prog.cellsOf 9 = 1 := by kernel_rfl
theorem cU : Tryd.prog.cellsOf 79 = 1 := by kernel_rfl
theorem cP : Tryd.prog.cellsOf 102 = 20 := by kernel_rfl
theorem env_of {W : World} (hL : laidMetH Tryd.prog laid W) (hsh : W.ShapedOpen Tryd.prog) : Env W := by
  rw [MakeChecks.laidMetH_plain Tryd.prog laid W (by kernel_rfl)] at hL
  have h3 := (hL.tail).tail
  have h4 := h3.tail
  have h5 := h4.tail
  refine ⟨?_, ?_, ?_, number hsh⟩
  · exact Lib.tabIs_of_head (k := .u64) (zs := Lib.pow10Tab) gP gPT Tryd.underlying102 Tryd.underlying79 cU cP h3
  · obtain ⟨a0, s0, hv0, _⟩ := laid_sentinel h5 gS gST Tryd.underlying70 rowE Tryd.underlying115 Tryd.underlying117 rfl rfl Tryd.underlying9 cE cS
    exact ⟨_, _, hv0⟩
  · obtain ⟨a0, s0, hv0, _⟩ := laid_sentinel h4 gR gRT Tryd.underlying70 rowE Tryd.underlying115 Tryd.underlying117 rfl rfl Tryd.underlying9 cE cS
    exact ⟨_, _, hv0⟩
end Go.Proofs.YteglbmindbfkeaaDoor.Rw
