/-
  A part of the entries, run by the kernel. No condition.
-/
import Derived.Test.YtaojoifpekoecaaGreatDoorW0
namespace Go.Ev
noncomputable section
set_option maxHeartbeats 4000000
theorem t2 : entRun 100000 E2 [] = true := by decide +kernel -- 3406
theorem t6 : entRun 100000 E6 [] = true := by decide +kernel -- 2507
theorem t24 : entRun 100000 E24 [] = true := by decide +kernel -- 2522
theorem t26 : entRun 100000 E26 [] = true := by decide +kernel -- 2507
theorem t40 : entRun 100000 E40 [] = true := by decide +kernel -- 2228
theorem t44 : entRun 100000 E44 [] = true := by decide +kernel -- 32024
theorem t46 : entRun 100000 E46 [] = true := by decide +kernel -- 19096
theorem t47 : entRun 100000 E47 [] = true := by decide +kernel -- 22931
theorem t52 : entRun 100000 E52 [] = true := by decide +kernel -- 701
theorem t59 : entRun 100000 E59 [] = true := by decide +kernel -- 701
theorem t69 : entRun 100000 E69 [] = true := by decide +kernel -- 830
theorem t76 : entRun 100000 E76 [] = true := by decide +kernel -- 830
theorem t84 : entRun 100000 E84 [] = true := by decide +kernel -- 830
theorem t92 : entRun 100000 E92 [] = true := by decide +kernel -- 830
theorem t102 : entRun 100000 E102 [E103] = true := by decide +kernel -- 11223
theorem t106 : entRun 100000 E106 [] = true := by decide +kernel -- 347
theorem t114 : entRun 100000 E114 [] = true := by decide +kernel -- 347
theorem t122 : entRun 100000 E122 [] = true := by decide +kernel -- 347
theorem t137 : entRun 100000 E137 [] = true := by decide +kernel -- 1882
theorem t149 : entRun 100000 E149 [] = true := by decide +kernel -- 1882
theorem t156 : entRun 100000 E156 [] = true := by decide +kernel -- 4164
theorem t165 : entRun 100000 E165 [] = true := by decide +kernel -- 1945
theorem t171 : entRun 100000 E171 [E172, E173, E174, E175, E176, E177, E178, E179, E180, E181, E182, E183, E184, E185] = true := by decide +kernel -- 44613
theorem t173 : entRun 100000 E173 [] = true := by decide +kernel -- 1927
theorem t181 : entRun 100000 E181 [] = true := by decide +kernel -- 1927
end
end Go.Ev

