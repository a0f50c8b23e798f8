/-
  A part of the entries, run by the kernel. No condition.
-/
import Derived.Test.YtaojoifpekoecaaGreatDoorW0
namespace Go.Ev
noncomputable section
set_option maxHeartbeats 4000000
theorem t0 : entRun 100000 E0 [E1, E2, E3, E4, E5, E6, E7, E8, E9, E10, E11, E12, E13, E14, E15, E16, E17, E18, E19, E20, E21, E22, E23, E24, E25, E26, E27, E28, E29, E30, E31, E32, E33, E34, E35, E36, E37, E38, E39, E40, E41, E42, E44, E45, E47, E48, E49, E50, E102, E132, E144, E145, E158, E159, E160, E168, E169, E170, E186, E187, E188, E189, E197] = true := by decide +kernel -- 43378
theorem t3 : entRun 100000 E3 [] = true := by decide +kernel -- 2045
theorem t7 : entRun 100000 E7 [] = true := by decide +kernel -- 2522
theorem t8 : entRun 100000 E8 [] = true := by decide +kernel -- 2507
theorem t27 : entRun 100000 E27 [] = true := by decide +kernel -- 2522
theorem t28 : entRun 100000 E28 [] = true := by decide +kernel -- 2507
theorem t54 : entRun 100000 E54 [] = true := by decide +kernel -- 701
theorem t62 : entRun 100000 E62 [] = true := by decide +kernel -- 701
theorem t66 : entRun 100000 E66 [] = true := by decide +kernel -- 5960
theorem t71 : entRun 100000 E71 [] = true := by decide +kernel -- 830
theorem t78 : entRun 100000 E78 [] = true := by decide +kernel -- 830
theorem t86 : entRun 100000 E86 [] = true := by decide +kernel -- 830
theorem t94 : entRun 100000 E94 [] = true := by decide +kernel -- 830
theorem t109 : entRun 100000 E109 [] = true := by decide +kernel -- 347
theorem t117 : entRun 100000 E117 [] = true := by decide +kernel -- 347
theorem t125 : entRun 100000 E125 [] = true := by decide +kernel -- 347
theorem t130 : entRun 100000 E130 [] = true := by decide +kernel -- 21322
theorem t139 : entRun 100000 E139 [] = true := by decide +kernel -- 1882
theorem t144 : entRun 100000 E144 [] = true := by decide +kernel -- 38957
theorem t151 : entRun 100000 E151 [] = true := by decide +kernel -- 1882
theorem t169 : entRun 100000 E169 [] = true := by decide +kernel -- 12728
theorem t175 : entRun 100000 E175 [] = true := by decide +kernel -- 1927
theorem t183 : entRun 100000 E183 [] = true := by decide +kernel -- 1927
theorem t191 : entRun 100000 E191 [] = true := by decide +kernel -- 1943
theorem t196 : entRun 100000 E196 [] = true := by decide +kernel -- 13173
end
end Go.Ev

