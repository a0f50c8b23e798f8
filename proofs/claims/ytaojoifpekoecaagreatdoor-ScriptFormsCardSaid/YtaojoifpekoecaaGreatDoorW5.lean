/-
  A part of the entries, run by the kernel. No condition.
-/
import Derived.Test.YtaojoifpekoecaaGreatDoorW0
namespace Go.Ev
noncomputable section
set_option maxHeartbeats 4000000
theorem t13 : entRun 100000 E13 [] = true := by decide +kernel -- 2522
theorem t14 : entRun 100000 E14 [] = true := by decide +kernel -- 2507
theorem t31 : entRun 100000 E31 [] = true := by decide +kernel -- 2522
theorem t34 : entRun 100000 E34 [] = true := by decide +kernel -- 2507
theorem t49 : entRun 100000 E49 [] = true := by decide +kernel -- 22468
theorem t51 : entRun 100000 E51 [E52, E53, E54, E55, E56, E57, E58, E59, E60, E61, E62, E63, E64, E65, E66, E67, E68, E69, E70, E71, E72, E73, E74, E75, E76, E77, E78, E79, E80, E81, E82, E83, E84, E85, E86, E87, E88, E89, E90, E91, E92, E93, E94, E95, E96, E97, E98, E99, E100, E101] = true := by decide +kernel -- 44514
theorem t57 : entRun 100000 E57 [] = true := by decide +kernel -- 701
theorem t73 : entRun 100000 E73 [] = true := by decide +kernel -- 830
theorem t81 : entRun 100000 E81 [] = true := by decide +kernel -- 830
theorem t89 : entRun 100000 E89 [] = true := by decide +kernel -- 830
theorem t97 : entRun 100000 E97 [] = true := by decide +kernel -- 830
theorem t104 : entRun 100000 E104 [] = true := by decide +kernel -- 347
theorem t111 : entRun 100000 E111 [] = true := by decide +kernel -- 347
theorem t119 : entRun 100000 E119 [] = true := by decide +kernel -- 347
theorem t127 : entRun 100000 E127 [] = true := by decide +kernel -- 347
theorem t133 : entRun 100000 E133 [] = true := by decide +kernel -- 1882
theorem t141 : entRun 100000 E141 [] = true := by decide +kernel -- 1882
theorem t143 : entRun 100000 E143 [] = true := by decide +kernel -- 12826
theorem t153 : entRun 100000 E153 [] = true := by decide +kernel -- 1882
theorem t157 : entRun 100000 E157 [] = true := by decide +kernel -- 1945
theorem t158 : entRun 100000 E158 [] = true := by decide +kernel -- 37716
theorem t170 : entRun 100000 E170 [E171] = true := by decide +kernel -- 7159
theorem t177 : entRun 100000 E177 [] = true := by decide +kernel -- 1927
theorem t188 : entRun 100000 E188 [] = true := by decide +kernel -- 11582
theorem t193 : entRun 100000 E193 [] = true := by decide +kernel -- 1943
end
end Go.Ev

