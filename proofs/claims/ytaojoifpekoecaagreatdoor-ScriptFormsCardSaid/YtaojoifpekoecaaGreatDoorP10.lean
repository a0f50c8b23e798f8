/-
  The row of ScriptForms holds. Condition: the row's own.
-/
import Derived.Test.YtaojoifpekoecaaGreatDoorFK
import Derived.Test.YtaojoifpekoecaaGreatDoorFL
import Derived.Test.YtaojoifpekoecaaGreatDoorP7j
import Derived.Test.YtaojoifpekoecaaGreatDoorP8
import Derived.Test.YtaojoifpekoecaaGreatDoorP9z
namespace Go.Proofs.YtaojoifpekoecaaGreatDoor
open Go.ChangeShapes Go.WideShapes Go.ChangeAt Go.RowKit Go.Clock Go.Ev
set_option maxRecDepth 100000 in
theorem lifted (os : Os) (started : os.Started) (H : Type) (enc : TypeId × Value → H) (F : Stop.Interp) :
    ReturnsInHanded { calm := true } Tryz.checked os 3 .any (fun w args => (Rows.scriptFormsSpec.pre enc Tryz.prog Tryz.f3 [] false w args ∧ laidMetH Tryz.prog Rows.scriptFormsRow.laid w) ∧ sizedMet enc Tryz.prog Tryz.f3 (OpenSpec.ofChange Rows.scriptFormsSpec) false w args)
      ((OpenSpec.ofChange Rows.scriptFormsSpec).postWith enc Tryz.prog Tryz.f3 F (outsideKept [.timePasses]) false true false) := by
  refine returns_of_change (C := Tryz.checked) (X := fun w _ => laidMetH Tryz.prog Rows.scriptFormsRow.laid w) (fun _ _ _ hh h => h.of_heap hh) own started (by kernel_rfl) Tryz.func3
    (witness_at (enc := enc) (C := Tryz.checked) (X := fun w _ => laidMetH Tryz.prog Rows.scriptFormsRow.laid w) (wZ os) #[eZ] 8 (World.laidAll_os _ _ _) (World.shaped_of_ZipB (z1 os) (z2 os)) (z3 os) (z4 os enc) (z5 os enc)
      (by rw [MakeChecks.laidMetH_plain _ _ _ (by kernel_rfl)]; exact laidMet_laidAll _ (z6 os) (z7 os))) ?_
  intro W base args ds gs before hval0 hW _ hwt hL hsh
  have hW' := hW
  obtain ⟨p, q, hA0, hV, rfl, _, _⟩ := hW
  have hA : DataW.TrodAll enc Tryz.prog W 0 (fun _ => true) true Tryz.f3.params.toList args.toList ds p := hA0
  rw [Tryz.params3] at hA
  obtain ⟨v0, d0, rfl, rfl, h0⟩ := trodAll_one hA
  obtain ⟨rfl, rfl⟩ := trodVars_none hV
  have l0 : Light Tryz.prog 30 d0 := Light.arg (j := 0) hwt (by show (Tryz.f3.params.toList ++ _)[0]? = _; rw [Tryz.params3]; rfl) rfl
  have h0k := h0
  have hlt0 : ∀ x ∈ p, x.block < W.heap.size := fun x hx => by simpa using hW'.lt x (by simp [hx])
  obtain ⟨e, bv, rfl, hf, hbv⟩ := open_event h0 l0
  have hLW := laidW hL hsh
  refine (law3 e bv W hf hbv (powW hL) (mxW hsh) (fun w hw => works_law (hLW.below hw (Nat.le_refl _)))).mono fun e W' ⟨he, hb⟩ => ?_
  subst he
  have hs : Since W.heap.size W W' := Since.of_below hb
  exact ⟨_, rfl, ⟨_, _, _, [], p, [], hW', trodAll_mk1 (shut_bool Tryz.underlying4 _),
    trodAll_mk1 (Below.trod laidOut (by kernel_rfl) (of_decide_eq_true (by kernel_rfl)) h0k hs.2 hlt0), hs.2.trodVars laidOut (by kernel_rfl) hV, hs.2.frame _, fun h => by cases h⟩, hs.1⟩

theorem holds : Rows.scriptFormsRow.holds Tryz.pinned (OpenSpec.ofChange Rows.scriptFormsSpec) :=
  holds_of_wide_time 3 Tryz.f3 rfl rfl rfl rfl rfl rfl rfl ⟨rfl, rfl, rfl, rfl, rfl⟩ rfl rfl rfl rfl rfl (by kernel_rfl) Tryz.func3 joined
    (of_decide_eq_true (by kernel_rfl)) (by unfold Func.isWrapper; first | (rw [if_pos (by decide +kernel)]; kernel_rfl) | (rw [if_neg (by decide +kernel)]; exact ⟨rfl, rfl⟩))
    (fun os started H enc _ F => lifted os started H enc F)
end Go.Proofs.YtaojoifpekoecaaGreatDoor
