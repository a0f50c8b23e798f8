/-
  The closed facts of the row of ScriptForms. No condition.
-/
import Derived.Test.YtaojoifpekoecaaGreatDoorRows
import Derived.JoinedOf
import Derived.Test.YtaojoifpekoecaaGreatDoorP7b
namespace Go.Proofs.YtaojoifpekoecaaGreatDoor
open Go
noncomputable section
abbrev cR : OpenClaim := Rows.scriptFormsRow
abbrev cS : ChangeSpec := Rows.scriptFormsSpec
theorem am {a b : Bool} (ha : a = true) (hb : b = true) : (a && b) = true := by rw [ha, hb]; rfl
theorem j0 : (cR.wf (OpenSpec.ofChange cS)) = true := by kernel_rfl
theorem j1 : (laidOutB Tryz.prog) = true := Go.Ev.laidOut
theorem j2 : (mapsRowed Tryz.prog) = true := by kernel_rfl
theorem j3 : (Tryz.f3.params.all (Tryz.prog.readableRec ·)) = true := by kernel_rfl
theorem j4 : (namedTie Tryz.prog cR.named cS.vars) = true := by kernel_rfl
theorem j5 : ((cR.stops == [])) = true := by kernel_rfl
theorem j6 : ((Tryz.prog.stops == [])) = true := by kernel_rfl
theorem j7 : ((cR.knobs == [])) = true := by kernel_rfl
theorem j8 : ((Tryz.prog.stopKnobs == [])) = true := by kernel_rfl
theorem j9 : ((cR.inPlace == Tryz.prog.inPlace 3)) = true := by
  rw [show Tryz.prog.inPlace 3 = _ from Go.Ev.inPlace3]
  decide +kernel
theorem j10 : ((cR.unfollowed == Tryz.prog.unfollowed 3)) = true := by
  rw [show Tryz.prog.unfollowed 3 = true from Go.Ev.unfollowed3]
  rfl
theorem j11 : ((cR.recurses == Tryz.prog.recurses 3)) = true := by
  rw [show Tryz.prog.recurses 3 = true from Go.Ev.recurses3]
  rfl
theorem j12 : ((cR.named == Tryz.prog.varsNamed 3)) = true := by
  rw [show Tryz.prog.varsNamed 3 = _ from Go.Ev.varsNamed3]
  decide +kernel
theorem j13 : ((cR.maps == (Tryz.f3.params.toList ++ cS.plain.varTypes Tryz.prog).any (Tryz.prog.mapsRec ·))) = true := by kernel_rfl
theorem j14 : ((cR.ifaces == (Tryz.f3.params.toList ++ cS.plain.varTypes Tryz.prog).any (Tryz.prog.ifacesRec ·))) = true := by kernel_rfl
theorem j15 : ((cR.mapsOut == Tryz.prog.mapsAmong Tryz.f3.resultTypes.toList)) = true := by kernel_rfl
theorem j16 : ((cR.loops == (Tryz.f3.params.toList ++ cS.plain.varTypes Tryz.prog).any (Tryz.prog.loopsFrom ·))) = true := by kernel_rfl
theorem j17 : ((cR.wideKeys == (Tryz.f3.params.toList ++ cS.plain.varTypes Tryz.prog ++ Tryz.f3.resultTypes.toList).any (Tryz.prog.wideKeysFrom ·))) = true := by kernel_rfl
theorem j18 : (cS.vars.all (Tryz.prog.varReadable ·)) = true := by kernel_rfl
theorem j19 : (Tryz.f3.resultTypes.all (fun t => Tryz.prog.readableRec t && decide (t < Tryz.prog.types.size))) = true := by kernel_rfl
theorem j20 : ((cR.ifacesOut == Tryz.f3.resultTypes.toList.any (Tryz.prog.ifacesRec ·))) = true := by kernel_rfl
theorem j21 : ((cR.loopsOut == Tryz.f3.resultTypes.toList.any (Tryz.prog.loopsFrom ·))) = true := by kernel_rfl
theorem j22 : ((cR.plainKeys == Tryz.prog.plainKeys)) = true := by kernel_rfl
theorem j23 : (cR.shortTexts.isNone) = true := by kernel_rfl
theorem j24 : (Tryz.prog.stopsHeard) = true := by kernel_rfl
theorem j25 : (Tryz.prog.mayEnter) = true := by kernel_rfl
theorem j26 : ((cR.lifted == Tryz.prog.liftsFinal)) = true := by kernel_rfl
theorem j27 : ((Tryz.prog.make == some cR.make)) = true := by kernel_rfl
theorem j28 : ((cR.kinds == (if cR.domain.isEmpty then [] else Tryz.f3.params.toList.map fun t => match Tryz.prog.underlying t with | some (.int k) => some k | _ => none))) = true := by kernel_rfl
theorem j29 : ((cR.pinned == cR.pinnedBy)) = true := by kernel_rfl
theorem j30 : ((cR.veiled == (Tryz.f3.params.toList ++ cS.plain.varTypes Tryz.prog ++ Tryz.f3.resultTypes.toList).any (Tryz.prog.veiledRec ·))) = true := by kernel_rfl
theorem j31 : (cR.veiledFits Tryz.prog Tryz.f3.params.toList (Tryz.f3.params.toList ++ cS.plain.varTypes Tryz.prog ++ Tryz.f3.resultTypes.toList)) = true := by kernel_rfl
end
end Go.Proofs.YtaojoifpekoecaaGreatDoor
