/-
  works returns true, whatever the tape, where pow10 lies in memory. Condition: the listed table lies in memory.
-/
import Derived.Test.YtaojoifpekoecaaGreatDoorWF
import Derived.Test.YtaojoifpekoecaaGreatDoorW1
import Derived.Test.YtaojoifpekoecaaGreatDoorW2
import Derived.Test.YtaojoifpekoecaaGreatDoorW3
import Derived.Test.YtaojoifpekoecaaGreatDoorW4
import Derived.Test.YtaojoifpekoecaaGreatDoorW5
import Derived.Test.YtaojoifpekoecaaGreatDoorW6
import Derived.Test.YtaojoifpekoecaaGreatDoorW7
import Derived.Test.YtaojoifpekoecaaGreatDoorW8
import Derived.Test.YtaojoifpekoecaaGreatDoorWT
namespace Go.Ev
theorem ents_nil : ∀ y ∈ ([] : List Ent), EntOk y := fun _ h => by cases h
theorem ents_cons {x : Ent} {l : List Ent} (h : EntOk x) (t : ∀ y ∈ l, EntOk y) : ∀ y ∈ x :: l, EntOk y := fun y hy => by
  rcases List.mem_cons.1 hy with e | e
  · rw [e]; exact h
  · exact t y e
theorem k1 : EntOk E1 := entOk_of_run t1 ents_nil
theorem k2 : EntOk E2 := entOk_of_run t2 ents_nil
theorem k3 : EntOk E3 := entOk_of_run t3 ents_nil
theorem k4 : EntOk E4 := entOk_of_run t4 ents_nil
theorem k5 : EntOk E5 := entOk_of_run t5 ents_nil
theorem k6 : EntOk E6 := entOk_of_run t6 ents_nil
theorem k7 : EntOk E7 := entOk_of_run t7 ents_nil
theorem k8 : EntOk E8 := entOk_of_run t8 ents_nil
theorem k9 : EntOk E9 := entOk_of_run t9 ents_nil
theorem k10 : EntOk E10 := entOk_of_run t10 ents_nil
theorem k11 : EntOk E11 := entOk_of_run t11 ents_nil
theorem k12 : EntOk E12 := entOk_of_run t12 ents_nil
theorem k13 : EntOk E13 := entOk_of_run t13 ents_nil
theorem k14 : EntOk E14 := entOk_of_run t14 ents_nil
theorem k15 : EntOk E15 := entOk_of_run t15 ents_nil
theorem k16 : EntOk E16 := entOk_of_run t16 ents_nil
theorem k17 : EntOk E17 := entOk_of_run t17 ents_nil
theorem k18 : EntOk E18 := entOk_of_run t18 ents_nil
theorem k19 : EntOk E19 := entOk_of_run t19 ents_nil
theorem k20 : EntOk E20 := entOk_of_run t20 ents_nil
theorem k21 : EntOk E21 := entOk_of_run t21 ents_nil
theorem k22 : EntOk E22 := entOk_of_run t22 ents_nil
theorem k23 : EntOk E23 := entOk_of_run t23 ents_nil
theorem k24 : EntOk E24 := entOk_of_run t24 ents_nil
theorem k25 : EntOk E25 := entOk_of_run t25 ents_nil
theorem k26 : EntOk E26 := entOk_of_run t26 ents_nil
theorem k27 : EntOk E27 := entOk_of_run t27 ents_nil
theorem k28 : EntOk E28 := entOk_of_run t28 ents_nil
theorem k29 : EntOk E29 := entOk_of_run t29 ents_nil
theorem k30 : EntOk E30 := entOk_of_run t30 ents_nil
theorem k31 : EntOk E31 := entOk_of_run t31 ents_nil
theorem k32 : EntOk E32 := entOk_of_run t32 ents_nil
theorem k33 : EntOk E33 := entOk_of_run t33 ents_nil
theorem k34 : EntOk E34 := entOk_of_run t34 ents_nil
theorem k35 : EntOk E35 := entOk_of_run t35 ents_nil
theorem k36 : EntOk E36 := entOk_of_run t36 ents_nil
theorem k37 : EntOk E37 := entOk_of_run t37 ents_nil
theorem k38 : EntOk E38 := entOk_of_run t38 ents_nil
theorem k39 : EntOk E39 := entOk_of_run t39 ents_nil
theorem k40 : EntOk E40 := entOk_of_run t40 ents_nil
theorem k41 : EntOk E41 := entOk_of_run t41 ents_nil
theorem k43 : EntOk E43 := entOk_of_run t43 ents_nil
theorem k42 : EntOk E42 := entOk_of_run t42 (ents_cons k43 ents_nil)
theorem k44 : EntOk E44 := entOk_of_run t44 ents_nil
theorem k46 : EntOk E46 := entOk_of_run t46 ents_nil
theorem k45 : EntOk E45 := entOk_of_run t45 (ents_cons k46 ents_nil)
theorem k47 : EntOk E47 := entOk_of_run t47 ents_nil
theorem k48 : EntOk E48 := entOk_of_run t48 ents_nil
theorem k49 : EntOk E49 := entOk_of_run t49 ents_nil
theorem k52 : EntOk E52 := entOk_of_run t52 ents_nil
theorem k53 : EntOk E53 := entOk_of_run t53 ents_nil
theorem k54 : EntOk E54 := entOk_of_run t54 ents_nil
theorem k55 : EntOk E55 := entOk_of_run t55 ents_nil
theorem k56 : EntOk E56 := entOk_of_run t56 ents_nil
theorem k57 : EntOk E57 := entOk_of_run t57 ents_nil
theorem k58 : EntOk E58 := entOk_of_run t58 ents_nil
theorem k59 : EntOk E59 := entOk_of_run t59 ents_nil
theorem k60 : EntOk E60 := entOk_of_run t60 ents_nil
theorem k61 : EntOk E61 := entOk_of_run t61 ents_nil
theorem k62 : EntOk E62 := entOk_of_run t62 ents_nil
theorem k63 : EntOk E63 := entOk_of_run t63 ents_nil
theorem k64 : EntOk E64 := entOk_of_run t64 ents_nil
theorem k65 : EntOk E65 := entOk_of_run t65 ents_nil
theorem k66 : EntOk E66 := entOk_of_run t66 ents_nil
theorem k67 : EntOk E67 := entOk_of_run t67 ents_nil
theorem k68 : EntOk E68 := entOk_of_run t68 ents_nil
theorem k69 : EntOk E69 := entOk_of_run t69 ents_nil
theorem k70 : EntOk E70 := entOk_of_run t70 ents_nil
theorem k71 : EntOk E71 := entOk_of_run t71 ents_nil
theorem k72 : EntOk E72 := entOk_of_run t72 ents_nil
theorem k73 : EntOk E73 := entOk_of_run t73 ents_nil
theorem k74 : EntOk E74 := entOk_of_run t74 ents_nil
theorem k75 : EntOk E75 := entOk_of_run t75 ents_nil
theorem k76 : EntOk E76 := entOk_of_run t76 ents_nil
theorem k77 : EntOk E77 := entOk_of_run t77 ents_nil
theorem k78 : EntOk E78 := entOk_of_run t78 ents_nil
theorem k79 : EntOk E79 := entOk_of_run t79 ents_nil
theorem k80 : EntOk E80 := entOk_of_run t80 ents_nil
theorem k81 : EntOk E81 := entOk_of_run t81 ents_nil
theorem k82 : EntOk E82 := entOk_of_run t82 ents_nil
theorem k83 : EntOk E83 := entOk_of_run t83 ents_nil
theorem k84 : EntOk E84 := entOk_of_run t84 ents_nil
theorem k85 : EntOk E85 := entOk_of_run t85 ents_nil
theorem k86 : EntOk E86 := entOk_of_run t86 ents_nil
theorem k87 : EntOk E87 := entOk_of_run t87 ents_nil
theorem k88 : EntOk E88 := entOk_of_run t88 ents_nil
theorem k89 : EntOk E89 := entOk_of_run t89 ents_nil
theorem k90 : EntOk E90 := entOk_of_run t90 ents_nil
theorem k91 : EntOk E91 := entOk_of_run t91 ents_nil
theorem k92 : EntOk E92 := entOk_of_run t92 ents_nil
theorem k93 : EntOk E93 := entOk_of_run t93 ents_nil
theorem k94 : EntOk E94 := entOk_of_run t94 ents_nil
theorem k95 : EntOk E95 := entOk_of_run t95 ents_nil
theorem k96 : EntOk E96 := entOk_of_run t96 ents_nil
theorem k97 : EntOk E97 := entOk_of_run t97 ents_nil
theorem k98 : EntOk E98 := entOk_of_run t98 ents_nil
theorem k99 : EntOk E99 := entOk_of_run t99 ents_nil
theorem k100 : EntOk E100 := entOk_of_run t100 ents_nil
theorem k101 : EntOk E101 := entOk_of_run t101 ents_nil
theorem k51 : EntOk E51 := entOk_of_run t51 (ents_cons k52 (ents_cons k53 (ents_cons k54 (ents_cons k55 (ents_cons k56 (ents_cons k57 (ents_cons k58 (ents_cons k59 (ents_cons k60 (ents_cons k61 (ents_cons k62 (ents_cons k63 (ents_cons k64 (ents_cons k65 (ents_cons k66 (ents_cons k67 (ents_cons k68 (ents_cons k69 (ents_cons k70 (ents_cons k71 (ents_cons k72 (ents_cons k73 (ents_cons k74 (ents_cons k75 (ents_cons k76 (ents_cons k77 (ents_cons k78 (ents_cons k79 (ents_cons k80 (ents_cons k81 (ents_cons k82 (ents_cons k83 (ents_cons k84 (ents_cons k85 (ents_cons k86 (ents_cons k87 (ents_cons k88 (ents_cons k89 (ents_cons k90 (ents_cons k91 (ents_cons k92 (ents_cons k93 (ents_cons k94 (ents_cons k95 (ents_cons k96 (ents_cons k97 (ents_cons k98 (ents_cons k99 (ents_cons k100 (ents_cons k101 ents_nil))))))))))))))))))))))))))))))))))))))))))))))))))
theorem k50 : EntOk E50 := entOk_of_run t50 (ents_cons k51 ents_nil)
theorem k104 : EntOk E104 := entOk_of_run t104 ents_nil
theorem k105 : EntOk E105 := entOk_of_run t105 ents_nil
theorem k106 : EntOk E106 := entOk_of_run t106 ents_nil
theorem k107 : EntOk E107 := entOk_of_run t107 ents_nil
theorem k108 : EntOk E108 := entOk_of_run t108 ents_nil
theorem k109 : EntOk E109 := entOk_of_run t109 ents_nil
theorem k110 : EntOk E110 := entOk_of_run t110 ents_nil
theorem k111 : EntOk E111 := entOk_of_run t111 ents_nil
theorem k112 : EntOk E112 := entOk_of_run t112 ents_nil
theorem k113 : EntOk E113 := entOk_of_run t113 ents_nil
theorem k114 : EntOk E114 := entOk_of_run t114 ents_nil
theorem k115 : EntOk E115 := entOk_of_run t115 ents_nil
theorem k116 : EntOk E116 := entOk_of_run t116 ents_nil
theorem k117 : EntOk E117 := entOk_of_run t117 ents_nil
theorem k118 : EntOk E118 := entOk_of_run t118 ents_nil
theorem k119 : EntOk E119 := entOk_of_run t119 ents_nil
theorem k120 : EntOk E120 := entOk_of_run t120 ents_nil
theorem k121 : EntOk E121 := entOk_of_run t121 ents_nil
theorem k122 : EntOk E122 := entOk_of_run t122 ents_nil
theorem k123 : EntOk E123 := entOk_of_run t123 ents_nil
theorem k124 : EntOk E124 := entOk_of_run t124 ents_nil
theorem k125 : EntOk E125 := entOk_of_run t125 ents_nil
theorem k126 : EntOk E126 := entOk_of_run t126 ents_nil
theorem k127 : EntOk E127 := entOk_of_run t127 ents_nil
theorem k128 : EntOk E128 := entOk_of_run t128 ents_nil
theorem k129 : EntOk E129 := entOk_of_run t129 ents_nil
theorem k130 : EntOk E130 := entOk_of_run t130 ents_nil
theorem k131 : EntOk E131 := entOk_of_run t131 ents_nil
theorem k103 : EntOk E103 := entOk_of_run t103 (ents_cons k104 (ents_cons k105 (ents_cons k106 (ents_cons k107 (ents_cons k108 (ents_cons k109 (ents_cons k110 (ents_cons k111 (ents_cons k112 (ents_cons k113 (ents_cons k114 (ents_cons k115 (ents_cons k116 (ents_cons k117 (ents_cons k118 (ents_cons k119 (ents_cons k120 (ents_cons k121 (ents_cons k122 (ents_cons k123 (ents_cons k124 (ents_cons k125 (ents_cons k126 (ents_cons k127 (ents_cons k128 (ents_cons k129 (ents_cons k130 (ents_cons k131 ents_nil))))))))))))))))))))))))))))
theorem k102 : EntOk E102 := entOk_of_run t102 (ents_cons k103 ents_nil)
theorem k133 : EntOk E133 := entOk_of_run t133 ents_nil
theorem k134 : EntOk E134 := entOk_of_run t134 ents_nil
theorem k135 : EntOk E135 := entOk_of_run t135 ents_nil
theorem k136 : EntOk E136 := entOk_of_run t136 ents_nil
theorem k137 : EntOk E137 := entOk_of_run t137 ents_nil
theorem k138 : EntOk E138 := entOk_of_run t138 ents_nil
theorem k139 : EntOk E139 := entOk_of_run t139 ents_nil
theorem k140 : EntOk E140 := entOk_of_run t140 ents_nil
theorem k141 : EntOk E141 := entOk_of_run t141 ents_nil
theorem k142 : EntOk E142 := entOk_of_run t142 ents_nil
theorem k143 : EntOk E143 := entOk_of_run t143 ents_nil
theorem k132 : EntOk E132 := entOk_of_run t132 (ents_cons k133 (ents_cons k134 (ents_cons k135 (ents_cons k136 (ents_cons k137 (ents_cons k138 (ents_cons k139 (ents_cons k140 (ents_cons k141 (ents_cons k142 (ents_cons k143 ents_nil)))))))))))
theorem k144 : EntOk E144 := entOk_of_run t144 ents_nil
theorem k147 : EntOk E147 := entOk_of_run t147 ents_nil
theorem k148 : EntOk E148 := entOk_of_run t148 ents_nil
theorem k149 : EntOk E149 := entOk_of_run t149 ents_nil
theorem k150 : EntOk E150 := entOk_of_run t150 ents_nil
theorem k151 : EntOk E151 := entOk_of_run t151 ents_nil
theorem k152 : EntOk E152 := entOk_of_run t152 ents_nil
theorem k153 : EntOk E153 := entOk_of_run t153 ents_nil
theorem k154 : EntOk E154 := entOk_of_run t154 ents_nil
theorem k155 : EntOk E155 := entOk_of_run t155 ents_nil
theorem k156 : EntOk E156 := entOk_of_run t156 ents_nil
theorem k157 : EntOk E157 := entOk_of_run t157 ents_nil
theorem k146 : EntOk E146 := entOk_of_run t146 (ents_cons k147 (ents_cons k148 (ents_cons k149 (ents_cons k150 (ents_cons k151 (ents_cons k152 (ents_cons k153 (ents_cons k154 (ents_cons k155 (ents_cons k156 (ents_cons k157 ents_nil)))))))))))
theorem k145 : EntOk E145 := entOk_of_run t145 (ents_cons k146 ents_nil)
theorem k158 : EntOk E158 := entOk_of_run t158 ents_nil
theorem k159 : EntOk E159 := entOk_of_run t159 ents_nil
theorem k162 : EntOk E162 := entOk_of_run t162 ents_nil
theorem k163 : EntOk E163 := entOk_of_run t163 ents_nil
theorem k164 : EntOk E164 := entOk_of_run t164 ents_nil
theorem k165 : EntOk E165 := entOk_of_run t165 ents_nil
theorem k166 : EntOk E166 := entOk_of_run t166 ents_nil
theorem k167 : EntOk E167 := entOk_of_run t167 ents_nil
theorem k161 : EntOk E161 := entOk_of_run t161 (ents_cons k162 (ents_cons k163 (ents_cons k164 (ents_cons k165 (ents_cons k166 (ents_cons k167 ents_nil))))))
theorem k160 : EntOk E160 := entOk_of_run t160 (ents_cons k161 ents_nil)
theorem k168 : EntOk E168 := entOk_of_run t168 ents_nil
theorem k169 : EntOk E169 := entOk_of_run t169 ents_nil
theorem k172 : EntOk E172 := entOk_of_run t172 ents_nil
theorem k173 : EntOk E173 := entOk_of_run t173 ents_nil
theorem k174 : EntOk E174 := entOk_of_run t174 ents_nil
theorem k175 : EntOk E175 := entOk_of_run t175 ents_nil
theorem k176 : EntOk E176 := entOk_of_run t176 ents_nil
theorem k177 : EntOk E177 := entOk_of_run t177 ents_nil
theorem k178 : EntOk E178 := entOk_of_run t178 ents_nil
theorem k179 : EntOk E179 := entOk_of_run t179 ents_nil
theorem k180 : EntOk E180 := entOk_of_run t180 ents_nil
theorem k181 : EntOk E181 := entOk_of_run t181 ents_nil
theorem k182 : EntOk E182 := entOk_of_run t182 ents_nil
theorem k183 : EntOk E183 := entOk_of_run t183 ents_nil
theorem k184 : EntOk E184 := entOk_of_run t184 ents_nil
theorem k185 : EntOk E185 := entOk_of_run t185 ents_nil
theorem k171 : EntOk E171 := entOk_of_run t171 (ents_cons k172 (ents_cons k173 (ents_cons k174 (ents_cons k175 (ents_cons k176 (ents_cons k177 (ents_cons k178 (ents_cons k179 (ents_cons k180 (ents_cons k181 (ents_cons k182 (ents_cons k183 (ents_cons k184 (ents_cons k185 ents_nil))))))))))))))
theorem k170 : EntOk E170 := entOk_of_run t170 (ents_cons k171 ents_nil)
theorem k186 : EntOk E186 := entOk_of_run t186 ents_nil
theorem k187 : EntOk E187 := entOk_of_run t187 ents_nil
theorem k188 : EntOk E188 := entOk_of_run t188 ents_nil
theorem k191 : EntOk E191 := entOk_of_run t191 ents_nil
theorem k192 : EntOk E192 := entOk_of_run t192 ents_nil
theorem k193 : EntOk E193 := entOk_of_run t193 ents_nil
theorem k194 : EntOk E194 := entOk_of_run t194 ents_nil
theorem k195 : EntOk E195 := entOk_of_run t195 ents_nil
theorem k196 : EntOk E196 := entOk_of_run t196 ents_nil
theorem k190 : EntOk E190 := entOk_of_run t190 (ents_cons k191 (ents_cons k192 (ents_cons k193 (ents_cons k194 (ents_cons k195 (ents_cons k196 ents_nil))))))
theorem k189 : EntOk E189 := entOk_of_run t189 (ents_cons k190 ents_nil)
theorem k197 : EntOk E197 := entOk_of_run t197 ents_nil
theorem k0 : EntOk E0 := entOk_of_run t0 (ents_cons k1 (ents_cons k2 (ents_cons k3 (ents_cons k4 (ents_cons k5 (ents_cons k6 (ents_cons k7 (ents_cons k8 (ents_cons k9 (ents_cons k10 (ents_cons k11 (ents_cons k12 (ents_cons k13 (ents_cons k14 (ents_cons k15 (ents_cons k16 (ents_cons k17 (ents_cons k18 (ents_cons k19 (ents_cons k20 (ents_cons k21 (ents_cons k22 (ents_cons k23 (ents_cons k24 (ents_cons k25 (ents_cons k26 (ents_cons k27 (ents_cons k28 (ents_cons k29 (ents_cons k30 (ents_cons k31 (ents_cons k32 (ents_cons k33 (ents_cons k34 (ents_cons k35 (ents_cons k36 (ents_cons k37 (ents_cons k38 (ents_cons k39 (ents_cons k40 (ents_cons k41 (ents_cons k42 (ents_cons k44 (ents_cons k45 (ents_cons k47 (ents_cons k48 (ents_cons k49 (ents_cons k50 (ents_cons k102 (ents_cons k132 (ents_cons k144 (ents_cons k145 (ents_cons k158 (ents_cons k159 (ents_cons k160 (ents_cons k168 (ents_cons k169 (ents_cons k170 (ents_cons k186 (ents_cons k187 (ents_cons k188 (ents_cons k189 (ents_cons k197 ents_nil)))))))))))))))))))))))))))))))))))))))))))))))))))))))))))))))
theorem topGood : Good wTop := fun y hy => by
  have h : wTop.orc = [E0] := layAll_orc _ _
  rw [h] at hy
  exact (ents_cons k0 ents_nil) y hy
/-- THE RUN: whatever the tape, works returns true -/
theorem works_ok {σ : Sg} {w : World} (hG : Glob σ) (hr : HR σ wTop w) : Calls PP 6 #[] w (fun e w' => ∃ σ' W', e = .returned (.bool true) ∧ Post σ wTop w σ' W' w') := by
  have h := tTop
  split at h
  · rename_i b W' hc
    subst h
    refine (calls_of_ev hc topGood hG hr .nil).mono fun e w' ⟨v', σ', h1, h2, h3⟩ => ⟨σ', W', ?_, h3⟩
    cases h2
    exact h1
  · cases h
end Go.Ev

