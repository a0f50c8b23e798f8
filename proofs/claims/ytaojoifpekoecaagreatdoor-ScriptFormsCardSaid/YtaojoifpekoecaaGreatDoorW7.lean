/-
  A part of the entries, run by the kernel. No condition.
-/
import Derived.Test.YtaojoifpekoecaaGreatDoorW0
namespace Go.Ev
noncomputable section
set_option maxHeartbeats 4000000
theorem t5 : entRun 100000 E5 [] = true := by decide +kernel -- 2522
theorem t18 : entRun 100000 E18 [] = true := by decide +kernel -- 4989
theorem t20 : entRun 100000 E20 [] = true := by decide +kernel -- 2522
theorem t21 : entRun 100000 E21 [] = true := by decide +kernel -- 2507
theorem t32 : entRun 100000 E32 [] = true := by decide +kernel -- 2494
theorem t39 : entRun 100000 E39 [] = true := by decide +kernel -- 2522
theorem t42 : entRun 100000 E42 [E43] = true := by decide +kernel -- 38755
theorem t61 : entRun 100000 E61 [] = true := by decide +kernel -- 701
theorem t65 : entRun 100000 E65 [] = true := by decide +kernel -- 20646
theorem t67 : entRun 100000 E67 [] = true := by decide +kernel -- 830
theorem t75 : entRun 100000 E75 [] = true := by decide +kernel -- 830
theorem t83 : entRun 100000 E83 [] = true := by decide +kernel -- 830
theorem t91 : entRun 100000 E91 [] = true := by decide +kernel -- 830
theorem t108 : entRun 100000 E108 [] = true := by decide +kernel -- 347
theorem t116 : entRun 100000 E116 [] = true := by decide +kernel -- 347
theorem t124 : entRun 100000 E124 [] = true := by decide +kernel -- 347
theorem t129 : entRun 100000 E129 [] = true := by decide +kernel -- 12823
theorem t131 : entRun 100000 E131 [] = true := by decide +kernel -- 779
theorem t136 : entRun 100000 E136 [] = true := by decide +kernel -- 1882
theorem t146 : entRun 100000 E146 [E147, E148, E149, E150, E151, E152, E153, E154, E155, E156, E157] = true := by decide +kernel -- 44126
theorem t148 : entRun 100000 E148 [] = true := by decide +kernel -- 1882
theorem t164 : entRun 100000 E164 [] = true := by decide +kernel -- 1945
theorem t167 : entRun 100000 E167 [] = true := by decide +kernel -- 13272
theorem t172 : entRun 100000 E172 [] = true := by decide +kernel -- 1927
theorem t180 : entRun 100000 E180 [] = true := by decide +kernel -- 1927
end
end Go.Ev

