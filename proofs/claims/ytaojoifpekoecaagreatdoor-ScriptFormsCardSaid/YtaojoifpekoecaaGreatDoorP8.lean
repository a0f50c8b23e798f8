/-
  From the row's condition on listed variables to what the walk asks. Condition: the row's.
-/
import Derived.Test.YtaojoifpekoecaaGreatDoorN2
import Derived.Test.YtaojoifpekoecaaGreatDoorFJ
import Derived.Test.YtaojoifpekoecaaGreatDoorP7b
import Derived.Test.YtaojoifpekoecaaGreatDoorRows
import Derived.ProofKit
import Derived.OpenVars
import Derived.OpenShut
import Derived.LaidMore
import Derived.Lay
import Derived.LaidOnce
import Derived.Clock
import Derived.Lib.LaidTab
namespace Go.Proofs.YtaojoifpekoecaaGreatDoor
open Go.ChangeShapes Go.WideShapes Go.ChangeAt Go.RowKit Go.Clock Go.Ev

theorem own : ownKnob Tryz.prog.godebug = none := by kernel_rfl
theorem laidOut : laidOutB Tryz.prog = true := Go.Ev.laidOut

def zs10 : List Int := [1, 10, 100, 1000, 10000, 100000, 1000000, 10000000, 100000000, 1000000000, 10000000000, 100000000000, 1000000000000, 10000000000000, 100000000000000, 1000000000000000, 10000000000000000, 100000000000000000, 1000000000000000000, 10000000000000000000]
theorem powW {W : World} (h : laidMetH Tryz.prog Rows.scriptFormsRow.laid W) : Pow W := by
  rw [MakeChecks.laidMetH_plain _ _ _ (by kernel_rfl)] at h
  have ht : Lib.TabIs Tryz.prog W "internal/strconv.uint64pow10" .u64 zs10 :=
    Lib.tabIs_of_head (g := 3) (t := 251) (e := 26) (n := 20) (by kernel_rfl) (by kernel_rfl) Tryz.underlying251 Tryz.underlying26 (by kernel_rfl) (by kernel_rfl) h
  rw [show zs10 = Lib.pow10Tab by decide] at ht
  exact ht
theorem mxW {W : World} (hsh : W.ShapedOpen Tryz.prog) : Mx W := Tryz.laysM146.s1_3 W hsh
/-- pow10's cells, from the row's condition -/
theorem laidW {W : World} (h : laidMetH Tryz.prog Rows.scriptFormsRow.laid W) (hsh : W.ShapedOpen Tryz.prog) : LaidW W := by
  rw [MakeChecks.laidMetH_plain _ _ _ (by kernel_rfl)] at h
  have ht : Lib.TabIs Tryz.prog W "internal/strconv.uint64pow10" .u64 zs10 :=
    Lib.tabIs_of_head (g := 3) (t := 251) (e := 26) (n := 20) (by kernel_rfl) (by kernel_rfl) Tryz.underlying251 Tryz.underlying26 (by kernel_rfl) (by kernel_rfl) h
  obtain ⟨cs, hh, hs, _⟩ := hsh.1 3 ((List.replicate 20 (Value.int .u64 0)).toArray) 251 (by decide +kernel) (by kernel_rfl)
  unfold Lib.TabIs World.var? at ht
  rw [show Tryz.prog.globalNamed "internal/strconv.uint64pow10" = some 3 by kernel_rfl] at ht
  simp only [Option.bind_some, hh] at ht
  have hcs := Option.some.inj ht
  intro A o hm
  have e : (A, o) = (3, AO.cells (zs10.map fun z => AV.int .u64 z) 251 .ro) := List.mem_singleton.1 hm
  cases e
  refine ⟨cs, (0, 0), hh, by rw [hcs]; rfl, fun i x hx => ?_, trivial⟩
  rw [List.getElem?_map] at hx
  obtain ⟨z, hz, rfl⟩ := Option.map_eq_some_iff.1 hx
  refine ⟨.int .u64 z, ?_, .int _ _⟩
  rw [hcs, Nat.zero_add, List.getElem?_toArray, List.getElem?_map, hz]
  rfl
end Go.Proofs.YtaojoifpekoecaaGreatDoor
