/-
  The card of ScriptForms holds. Condition: the card's own.
-/
import Derived.Test.YtaojoifpekoecaaGreatDoorP10
import Derived.Test.YtaojoifpekoecaaGreatDoorP11
import Derived.Test.YtaojoifpekoecaaGreatDoorCards
namespace Go.Proofs.YtaojoifpekoecaaGreatDoor
open Go
theorem goes_none {P : Program} (hn : P.funcs.toList.all (fun f => !f.goes) = true) (f : FuncId) : P.goes f = false := by
  have hg : ∀ fn ∈ P.funcs.toList, fn.goes = false := fun fn h => by simpa using List.all_eq_true.1 hn fn h
  unfold Program.goes
  have h1 : ((P.closure f).any fun g => (P.funcs[g]?).any Func.goes) = false := by
    rw [List.any_eq_false]
    intro g _
    cases hq : P.funcs[g]? with
    | none => simp
    | some fn =>
      have hm : fn ∈ P.funcs.toList := Array.mem_toList_iff.2 (Array.mem_of_getElem? hq)
      simp [hg fn hm]
  have h2 : P.funcs.any Func.goes = false := by
    rw [← Array.any_toList, List.any_eq_false]
    intro fn hm
    simp [hg fn hm]
  rw [h1, h2]; simp
theorem x1 : Rows.scriptFormsRow.wfByText (OpenSpec.ofChange Rows.scriptFormsSpec) = true := by kernel_rfl
theorem x2 : Tryz.pinned.checked.prog.mainIs = some (true, "4a71f810bdace1ca2448f725cd297a1ab035b51de5fd36af195dad462f2cec44".toList) := by kernel_rfl
theorem x3 : true = Tryz.pinned.checked.prog.looks [] := by kernel_rfl
theorem x5 : Tryz.pinned.checked.prog.funcNamed "bellwether/bellwetherlaw28.ScriptForms" = some 3 := by kernel_rfl
theorem noGo : Tryz.prog.funcs.toList.all (fun f => !f.goes) = true := by decide +kernel
theorem x4 : false = Rows.scriptFormsRow.goesBy Tryz.pinned.checked.prog := by
  have h : Tryz.prog.goesFrom "bellwether/bellwetherlaw28.ScriptForms" = false := by
    unfold Program.goesFrom
    rw [show Tryz.prog.funcNamed "bellwether/bellwetherlaw28.ScriptForms" = some 3 from x5]
    rw [Option.any_some]
    exact goes_none noGo 3
  unfold OpenClaim.goesBy Program.goesAt
  have h2 : Tryz.pinned.checked.prog.goesFrom Rows.scriptFormsRow.func = false := h
  rw [h2]
  rfl
theorem x6 : Tryz.prog.wantsStandIn 30 = false := by kernel_rfl
/-- THE CARD of ScriptForms -/
theorem scriptForms_card : Rows.ScriptFormsCardSaid :=
  Claim7.holds_tied_plain_at .later [] [.data, .data, .data, .pinned, .data, .sentinel, .sentinel] true (true, "4a71f810bdace1ca2448f725cd297a1ab035b51de5fd36af195dad462f2cec44") true holds (fun _ h => by cases h) x1 (fun _ h => by cases h) row_tie rfl ⟨rfl, rfl⟩ x2 rfl
    (fun f fn hf hfn => by
      obtain rfl : f = 3 := Option.some.inj (x5.symm.trans hf) |>.symm
      obtain rfl : fn = Tryz.f3 := (Option.some.inj (Tryz.func3.symm.trans hfn)).symm
      exact ⟨x3, fun j t ht => by
        rw [Tryz.params3] at ht
        match j, ht with
        | 0, ht => cases ht; exact x6
        | j + 1, ht => simp at ht⟩)
    x4
end Go.Proofs.YtaojoifpekoecaaGreatDoor
