/-
  The top of the run of works, checked by the kernel. No condition.
-/
import Derived.Test.YtaojoifpekoecaaGreatDoorW0
namespace Go.Ev
noncomputable section
set_option maxHeartbeats 4000000
theorem tTop : (match (ev 100000).call 6 [] wTop with | some (.bool b, _) => b | _ => false) = true := by decide +kernel -- 27183
end
end Go.Ev

