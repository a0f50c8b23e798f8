/-
  The closed facts of the row, together. No condition.
-/
import Derived.Test.YtaojoifpekoecaaGreatDoorP7
namespace Go.Proofs.YtaojoifpekoecaaGreatDoor
open Go
noncomputable section
set_option maxHeartbeats 4000000
set_option maxRecDepth 100000 in
theorem joined : joinedFacts Tryz.prog 3 Tryz.f3 cS cR = true :=
  (am (am (am (am (am (am (am (am (am (am (am (am (am (am (am (am (am (am (am (am (am (am (am (am (am (am (am (am (am (am (am j0 j1) j2) j3) j4) j5) j6) j7) j8) j9) j10) j11) j12) j13) j14) j15) j16) j17) j18) j19) j20) j21) j22) j23) j24) j25) j26) j27) j28) j29) j30) j31)
end
end Go.Proofs.YtaojoifpekoecaaGreatDoor
