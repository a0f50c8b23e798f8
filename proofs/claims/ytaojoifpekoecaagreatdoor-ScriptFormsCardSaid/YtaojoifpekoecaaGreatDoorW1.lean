/-
  A part of the entries, run by the kernel. No condition.
-/
import Derived.Test.YtaojoifpekoecaaGreatDoorW0
namespace Go.Ev
noncomputable section
set_option maxHeartbeats 4000000
theorem t9 : entRun 100000 E9 [] = true := by decide +kernel -- 2522
theorem t12 : entRun 100000 E12 [] = true := by decide +kernel -- 2507
theorem t29 : entRun 100000 E29 [] = true := by decide +kernel -- 2522
theorem t30 : entRun 100000 E30 [] = true := by decide +kernel -- 2507
theorem t55 : entRun 100000 E55 [] = true := by decide +kernel -- 701
theorem t63 : entRun 100000 E63 [] = true := by decide +kernel -- 701
theorem t68 : entRun 100000 E68 [] = true := by decide +kernel -- 28377
theorem t72 : entRun 100000 E72 [] = true := by decide +kernel -- 830
theorem t79 : entRun 100000 E79 [] = true := by decide +kernel -- 830
theorem t87 : entRun 100000 E87 [] = true := by decide +kernel -- 830
theorem t95 : entRun 100000 E95 [] = true := by decide +kernel -- 830
theorem t100 : entRun 100000 E100 [] = true := by decide +kernel -- 6437
theorem t101 : entRun 100000 E101 [] = true := by decide +kernel -- 1882
theorem t110 : entRun 100000 E110 [] = true := by decide +kernel -- 347
theorem t118 : entRun 100000 E118 [] = true := by decide +kernel -- 347
theorem t126 : entRun 100000 E126 [] = true := by decide +kernel -- 347
theorem t128 : entRun 100000 E128 [] = true := by decide +kernel -- 18118
theorem t140 : entRun 100000 E140 [] = true := by decide +kernel -- 1882
theorem t152 : entRun 100000 E152 [] = true := by decide +kernel -- 1882
theorem t155 : entRun 100000 E155 [] = true := by decide +kernel -- 9632
theorem t159 : entRun 100000 E159 [] = true := by decide +kernel -- 2013
theorem t176 : entRun 100000 E176 [] = true := by decide +kernel -- 1927
theorem t186 : entRun 100000 E186 [] = true := by decide +kernel -- 28223
theorem t190 : entRun 100000 E190 [E191, E192, E193, E194, E195, E196] = true := by decide +kernel -- 44869
theorem t192 : entRun 100000 E192 [] = true := by decide +kernel -- 1943
end
end Go.Ev

