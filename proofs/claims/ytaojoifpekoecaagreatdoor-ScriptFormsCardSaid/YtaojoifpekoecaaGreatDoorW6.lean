/-
  A part of the entries, run by the kernel. No condition.
-/
import Derived.Test.YtaojoifpekoecaaGreatDoorW0
namespace Go.Ev
noncomputable section
set_option maxHeartbeats 4000000
theorem t15 : entRun 100000 E15 [] = true := by decide +kernel -- 2522
theorem t16 : entRun 100000 E16 [] = true := by decide +kernel -- 2507
theorem t35 : entRun 100000 E35 [] = true := by decide +kernel -- 2522
theorem t36 : entRun 100000 E36 [] = true := by decide +kernel -- 2507
theorem t43 : entRun 100000 E43 [] = true := by decide +kernel -- 9627
theorem t50 : entRun 100000 E50 [E51] = true := by decide +kernel -- 21796
theorem t58 : entRun 100000 E58 [] = true := by decide +kernel -- 701
theorem t74 : entRun 100000 E74 [] = true := by decide +kernel -- 830
theorem t82 : entRun 100000 E82 [] = true := by decide +kernel -- 830
theorem t90 : entRun 100000 E90 [] = true := by decide +kernel -- 830
theorem t98 : entRun 100000 E98 [] = true := by decide +kernel -- 830
theorem t105 : entRun 100000 E105 [] = true := by decide +kernel -- 347
theorem t113 : entRun 100000 E113 [] = true := by decide +kernel -- 347
theorem t121 : entRun 100000 E121 [] = true := by decide +kernel -- 347
theorem t134 : entRun 100000 E134 [] = true := by decide +kernel -- 1882
theorem t142 : entRun 100000 E142 [] = true := by decide +kernel -- 1882
theorem t154 : entRun 100000 E154 [] = true := by decide +kernel -- 1882
theorem t160 : entRun 100000 E160 [E161] = true := by decide +kernel -- 11901
theorem t161 : entRun 100000 E161 [E162, E163, E164, E165, E166, E167] = true := by decide +kernel -- 44302
theorem t162 : entRun 100000 E162 [] = true := by decide +kernel -- 1945
theorem t178 : entRun 100000 E178 [] = true := by decide +kernel -- 1927
theorem t184 : entRun 100000 E184 [] = true := by decide +kernel -- 12985
theorem t185 : entRun 100000 E185 [] = true := by decide +kernel -- 37971
theorem t194 : entRun 100000 E194 [] = true := by decide +kernel -- 1943
end
end Go.Ev

