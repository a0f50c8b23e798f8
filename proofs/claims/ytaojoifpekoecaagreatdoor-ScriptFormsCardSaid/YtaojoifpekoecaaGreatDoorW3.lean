/-
  A part of the entries, run by the kernel. No condition.
-/
import Derived.Test.YtaojoifpekoecaaGreatDoorW0
namespace Go.Ev
noncomputable section
set_option maxHeartbeats 4000000
theorem t17 : entRun 100000 E17 [] = true := by decide +kernel -- 2522
theorem t19 : entRun 100000 E19 [] = true := by decide +kernel -- 2507
theorem t25 : entRun 100000 E25 [] = true := by decide +kernel -- 2781
theorem t33 : entRun 100000 E33 [] = true := by decide +kernel -- 4383
theorem t37 : entRun 100000 E37 [] = true := by decide +kernel -- 2522
theorem t38 : entRun 100000 E38 [] = true := by decide +kernel -- 2507
theorem t56 : entRun 100000 E56 [] = true := by decide +kernel -- 701
theorem t64 : entRun 100000 E64 [] = true := by decide +kernel -- 701
theorem t80 : entRun 100000 E80 [] = true := by decide +kernel -- 830
theorem t88 : entRun 100000 E88 [] = true := by decide +kernel -- 830
theorem t96 : entRun 100000 E96 [] = true := by decide +kernel -- 830
theorem t99 : entRun 100000 E99 [] = true := by decide +kernel -- 17624
theorem t103 : entRun 100000 E103 [E104, E105, E106, E107, E108, E109, E110, E111, E112, E113, E114, E115, E116, E117, E118, E119, E120, E121, E122, E123, E124, E125, E126, E127, E128, E129, E130, E131] = true := by decide +kernel -- 44764
theorem t112 : entRun 100000 E112 [] = true := by decide +kernel -- 347
theorem t120 : entRun 100000 E120 [] = true := by decide +kernel -- 347
theorem t135 : entRun 100000 E135 [] = true := by decide +kernel -- 1882
theorem t145 : entRun 100000 E145 [E146] = true := by decide +kernel -- 10565
theorem t147 : entRun 100000 E147 [] = true := by decide +kernel -- 1882
theorem t163 : entRun 100000 E163 [] = true := by decide +kernel -- 1945
theorem t168 : entRun 100000 E168 [] = true := by decide +kernel -- 30285
theorem t179 : entRun 100000 E179 [] = true := by decide +kernel -- 1927
theorem t187 : entRun 100000 E187 [] = true := by decide +kernel -- 1703
theorem t195 : entRun 100000 E195 [] = true := by decide +kernel -- 1943
theorem t197 : entRun 100000 E197 [] = true := by decide +kernel -- 26577
end
end Go.Ev

