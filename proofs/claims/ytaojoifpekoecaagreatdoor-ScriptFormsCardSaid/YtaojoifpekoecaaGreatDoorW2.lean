/-
  A part of the entries, run by the kernel. No condition.
-/
import Derived.Test.YtaojoifpekoecaaGreatDoorW0
namespace Go.Ev
noncomputable section
set_option maxHeartbeats 4000000
theorem t1 : entRun 100000 E1 [] = true := by decide +kernel -- 2317
theorem t4 : entRun 100000 E4 [] = true := by decide +kernel -- 2507
theorem t10 : entRun 100000 E10 [] = true := by decide +kernel -- 3696
theorem t11 : entRun 100000 E11 [] = true := by decide +kernel -- 3696
theorem t22 : entRun 100000 E22 [] = true := by decide +kernel -- 2522
theorem t23 : entRun 100000 E23 [] = true := by decide +kernel -- 2507
theorem t41 : entRun 100000 E41 [] = true := by decide +kernel -- 18241
theorem t45 : entRun 100000 E45 [E46] = true := by decide +kernel -- 28658
theorem t48 : entRun 100000 E48 [] = true := by decide +kernel -- 27553
theorem t53 : entRun 100000 E53 [] = true := by decide +kernel -- 701
theorem t60 : entRun 100000 E60 [] = true := by decide +kernel -- 701
theorem t70 : entRun 100000 E70 [] = true := by decide +kernel -- 830
theorem t77 : entRun 100000 E77 [] = true := by decide +kernel -- 830
theorem t85 : entRun 100000 E85 [] = true := by decide +kernel -- 830
theorem t93 : entRun 100000 E93 [] = true := by decide +kernel -- 830
theorem t107 : entRun 100000 E107 [] = true := by decide +kernel -- 347
theorem t115 : entRun 100000 E115 [] = true := by decide +kernel -- 347
theorem t123 : entRun 100000 E123 [] = true := by decide +kernel -- 347
theorem t132 : entRun 100000 E132 [E133, E134, E135, E136, E137, E138, E139, E140, E141, E142, E143] = true := by decide +kernel -- 44781
theorem t138 : entRun 100000 E138 [] = true := by decide +kernel -- 1882
theorem t150 : entRun 100000 E150 [] = true := by decide +kernel -- 1882
theorem t166 : entRun 100000 E166 [] = true := by decide +kernel -- 1945
theorem t174 : entRun 100000 E174 [] = true := by decide +kernel -- 1927
theorem t182 : entRun 100000 E182 [] = true := by decide +kernel -- 1927
theorem t189 : entRun 100000 E189 [E190] = true := by decide +kernel -- 10767
end
end Go.Ev

