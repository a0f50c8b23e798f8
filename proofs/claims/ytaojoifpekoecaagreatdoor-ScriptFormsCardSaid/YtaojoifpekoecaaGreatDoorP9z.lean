/-
  The witness of the row. No condition.
-/
import Derived.Test.YtaojoifpekoecaaGreatDoorRows
import Derived.ProofKit
import Derived.OpenVars
import Derived.OpenShut
import Derived.LaidMore
import Derived.Lay
import Derived.LaidOnce
import Derived.Clock
import Derived.Carry
namespace Go.Proofs.YtaojoifpekoecaaGreatDoor
open Go.ChangeShapes Go.WideShapes Go.ChangeAt Go.RowKit Go.Clock

/-! the witness -/
noncomputable section
abbrev eZ : Value := .agg #[.int .u8 0, .int .i64 0, .int .i64 0, .string ByteArray.empty, .string ByteArray.empty, .bool false, .int .u8 0, .int .u8 0, .int .u8 0, .int .u32 0, .int .u32 0, .string ByteArray.empty, .slice none 0 0, .int .u8 0, .int .u64 0, .int .u64 0, .string ByteArray.empty]
abbrev wZ (os : Os) : World := World.laidAll Tryz.prog os Rows.scriptFormsRow.laid
abbrev fZ (os : Os) : World := (wZ os).forCall (fun _ _ => 0) ⟨#[], #[eZ], []⟩
theorem z1 (os : Os) : (fZ os).variablesZipB Tryz.prog = true := by kernel_rfl
theorem z2 (os : Os) : ((fZ os).heap.toList.drop Tryz.prog.globals.size).take ((begin Tryz.prog (fun _ _ => 0) default).world.heap.size - Tryz.prog.globals.size) =
      (begin Tryz.prog (fun _ _ => 0) default).world.heap.toList.drop Tryz.prog.globals.size := by kernel_rfl
theorem z3 (os : Os) : Input.okWideB Tryz.prog (fZ os) 3 ⟨#[], #[eZ], []⟩ = true := by kernel_rfl
theorem z4 (os : Os) {H : Type} (enc : TypeId × Value → H) : Rows.scriptFormsSpec.preB enc Tryz.prog Tryz.f3 [] false (fZ os).memory #[eZ] 8 = true := by kernel_rfl
theorem z5 (os : Os) {H : Type} (enc : TypeId × Value → H) : Rows.scriptFormsSpec.sizedB enc Tryz.prog Tryz.f3 false (fZ os).memory #[eZ] 8 = true := by kernel_rfl
theorem z6 (os : Os) : (World.holding Tryz.prog os ⟨#[], #[], []⟩).layFits Tryz.prog Rows.scriptFormsRow.laid [] = true := by kernel_rfl
theorem z7 (os : Os) : (World.holding Tryz.prog os ⟨#[], #[], []⟩).layIfaces Tryz.prog Rows.scriptFormsRow.laid (wZ os) = true := by kernel_rfl
end
end Go.Proofs.YtaojoifpekoecaaGreatDoor
