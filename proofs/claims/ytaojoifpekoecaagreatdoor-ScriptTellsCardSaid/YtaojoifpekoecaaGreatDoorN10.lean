/-
  The row of ScriptTells holds. Condition: the row's own.
-/
import Derived.Test.YtaojoifpekoecaaGreatDoorT19
import Derived.Test.YtaojoifpekoecaaGreatDoorO2
import Derived.Test.YtaojoifpekoecaaGreatDoorN7j
import Derived.Test.YtaojoifpekoecaaGreatDoorN8
import Derived.Test.YtaojoifpekoecaaGreatDoorN9z
namespace Go.Proofs.YtaojoifpekoecaaGreatDoor
open Go.ChangeShapes Go.WideShapes Go.ChangeAt Go.RowKit Go.Clock Go.Ev
set_option maxRecDepth 100000 in
theorem lifted (os : Os) (started : os.Started) (H : Type) (enc : TypeId × Value → H) (F : Stop.Interp) :
    ReturnsInHanded { calm := true } Tryz.checked os 4 .any (fun w args => (Rows.scriptTellsSpec.pre enc Tryz.prog Tryz.f4 [] false w args ∧ laidMetH Tryz.prog Rows.scriptTellsRow.laid w) ∧ sizedMet enc Tryz.prog Tryz.f4 (OpenSpec.ofChange Rows.scriptTellsSpec) false w args)
      ((OpenSpec.ofChange Rows.scriptTellsSpec).postWith enc Tryz.prog Tryz.f4 F (outsideKept [.timePasses]) false true false) := by
  refine returns_of_change (C := Tryz.checked) (X := fun w _ => laidMetH Tryz.prog Rows.scriptTellsRow.laid w) (fun _ _ _ hh h => h.of_heap hh) own started (by kernel_rfl) Tryz.func4
    (witness_at (enc := enc) (C := Tryz.checked) (X := fun w _ => laidMetH Tryz.prog Rows.scriptTellsRow.laid w) (wZ os) #[tZ, sZ] 8 (World.laidAll_os _ _ _) (World.shaped_of_ZipB (z1 os) (z2 os)) (z3 os) (z4 os enc) (z5 os enc)
      (by rw [MakeChecks.laidMetH_plain _ _ _ (by kernel_rfl)]; exact laidMet_laidAll _ (z6 os) (z7 os))) ?_
  intro W base args ds gs before hval0 hW _ hwt hL hsh
  have hW' := hW
  obtain ⟨p, q, hA0, hV, rfl, _, _⟩ := hW
  have hA : DataW.TrodAll enc Tryz.prog W 0 (fun _ => true) true Tryz.f4.params.toList args.toList ds p := hA0
  rw [Tryz.params4] at hA
  obtain ⟨v0, v1, d0, d1, p0, p1, rfl, rfl, rfl, h0, h1⟩ := trodAll_two hA
  obtain ⟨rfl, rfl⟩ := trodVars_none hV
  have l0 : Light Tryz.prog 45 d0 := Light.arg (j := 0) hwt (by show (Tryz.f4.params.toList ++ _)[0]? = _; rw [Tryz.params4]; rfl) rfl
  have l1 : Light Tryz.prog 48 d1 := Light.arg (j := 1) hwt (by show (Tryz.f4.params.toList ++ _)[1]? = _; rw [Tryz.params4]; rfl) rfl
  have h0k := h0
  have h1k := h1
  have hlt0 : ∀ x ∈ p0, x.block < W.heap.size := fun x hx => by simpa using hW'.lt x (by simp [hx])
  have hlt1 : ∀ x ∈ p1, x.block < W.heap.size := fun x hx => by simpa using hW'.lt x (by simp [hx])
  obtain ⟨err, a, b, is, text, ms, bs, mv, bv, rfl, he, ha, hb, htx, hms, hbs⟩ := open_told h0 l0
  obtain ⟨cl, mf, wi, id, qs, qv, rfl, hc, hmf, hwi, hid, hqs⟩ := open_setup h1 l1
  have hLW := laidW hL hsh
  refine (law4 err a b is text ms bs mv bv cl mf wi id qv qs W he ha hb htx hms hbs hc hmf hwi hid hqs (powW hL) (fun w hw => works_law (hLW.below hw (Nat.le_refl _)))).mono fun e W' ⟨he, hb⟩ => ?_
  subst he
  have hs : Since W.heap.size W W' := Since.of_below hb
  exact ⟨_, rfl, ⟨_, _, _, [], p0 ++ p1, [], hW', trodAll_mk1 (shut_bool Tryz.underlying4 _),
    trodAll_mk2 (Below.trod laidOut (by kernel_rfl) (of_decide_eq_true (by kernel_rfl)) h0k hs.2 hlt0) (Below.trod laidOut (by kernel_rfl) (of_decide_eq_true (by kernel_rfl)) h1k hs.2 hlt1), hs.2.trodVars laidOut (by kernel_rfl) hV, hs.2.frame _, fun h => by cases h⟩, hs.1⟩

theorem holds : Rows.scriptTellsRow.holds Tryz.pinned (OpenSpec.ofChange Rows.scriptTellsSpec) :=
  holds_of_wide_time 4 Tryz.f4 rfl rfl rfl rfl rfl rfl rfl ⟨rfl, rfl, rfl, rfl, rfl⟩ rfl rfl rfl rfl rfl (by kernel_rfl) Tryz.func4 joined
    (of_decide_eq_true (by kernel_rfl)) (by unfold Func.isWrapper; first | (rw [if_pos (by decide +kernel)]; kernel_rfl) | (rw [if_neg (by decide +kernel)]; exact ⟨rfl, rfl⟩))
    (fun os started H enc _ F => lifted os started H enc F)
end Go.Proofs.YtaojoifpekoecaaGreatDoor

