/-
  The top of the run of works, checked by the kernel. No condition.
-/
import Derived.Test.YtkgcnjcehhpkpaaGreatDoorW0
namespace Go.Ev
noncomputable section
theorem tTop : (match (ev 100000).call 5 [] wTop with | some (.bool b, _) => b | _ => false) = true := by decide +kernel -- 27183
end
end Go.Ev

