/-
  The row of ScriptNil holds. Condition: the row's own.
-/
import Derived.Test.YtkgcnjcehhpkpaaGreatDoorN4
import Derived.Test.YtkgcnjcehhpkpaaGreatDoorN7
import Derived.Test.YtkgcnjcehhpkpaaGreatDoorN9
import Derived.Test.YtkgcnjcehhpkpaaGreatDoorN9z
namespace Go.Proofs.YtkgcnjcehhpkpaaGreatDoor
open Go.ChangeShapes Go.WideShapes Go.ChangeAt Go.RowKit Go.Clock Go.Ev
set_option maxRecDepth 100000 in
theorem lifted (os : Os) (started : os.Started) (H : Type) (enc : TypeId × Value → H) (F : Stop.Interp) :
    ReturnsInHanded { calm := true } Tryz.checked os 3 .any (fun w args => (Rows.scriptNilSpec.pre enc Tryz.prog Tryz.f3 [] false w args ∧ laidMetH Tryz.prog Rows.scriptNilRow.laid w) ∧ sizedMet enc Tryz.prog Tryz.f3 (OpenSpec.ofChange Rows.scriptNilSpec) false w args)
      ((OpenSpec.ofChange Rows.scriptNilSpec).postWith enc Tryz.prog Tryz.f3 F (outsideKept [.timePasses]) false true false) := by
  refine returns_of_change (C := Tryz.checked) (X := fun w _ => laidMetH Tryz.prog Rows.scriptNilRow.laid w) (fun _ _ _ hh h => h.of_heap hh) own started (by kernel_rfl) Tryz.func3
    (witness_at (enc := enc) (C := Tryz.checked) (X := fun w _ => laidMetH Tryz.prog Rows.scriptNilRow.laid w) (wZ os) #[evZ, .int .i64 1] 8 (World.laidAll_os _ _ _) (World.shaped_of_ZipB (z1 os) (z2 os)) (z3 os) (z4 os enc) (z5 os enc)
      (by rw [MakeChecks.laidMetH_plain _ _ _ (by kernel_rfl)]; exact laidMet_laidAll _ (z6 os) (z7 os))) ?_
  intro W base args ds gs before hval0 hW _ _ hL hsh
  have hval : ∀ (j : Nat) t v, Tryz.f3.params[j]? = some t → args[j]? = some v → Value.okWide Tryz.prog W .any base t v := hval0
  have hW' := hW
  obtain ⟨p, q, hA0, hV, rfl, _, _⟩ := hW
  have hA : DataW.TrodAll enc Tryz.prog W 0 (fun _ => true) true Tryz.f3.params.toList args.toList ds p := hA0
  rw [Tryz.params3] at hA hval
  obtain ⟨v0, v1, d0, d1, p0, p1, rfl, rfl, rfl, h0, h1⟩ := trodAll_two hA
  obtain ⟨x, rfl, rfl, rfl, wx⟩ := open_int Tryz.underlying3 (hval 1 3 v1 rfl rfl) h1
  obtain ⟨rfl, rfl⟩ := trodVars_none hV
  have h0k := h0
  have hlt : ∀ x ∈ p0, x.block < W.heap.size := fun x hx => by simpa using hW'.lt x (by simp [hx])
  obtain ⟨k, N, c1, c5, c6, c7, c8, c9, c10, c13, c14, c15, name, text, cond, id, pp, bl, bc, rfl⟩ := open_event (hval 0 30 v0 rfl rfl)
  have hLW := laidW hL hsh
  have h9 : 9 ≤ W.heap.size := by
    obtain ⟨cs, hh, _⟩ := hsh.1 8 ((List.replicate 9 (Value.string ByteArray.empty)).toArray) 658 (by decide +kernel) (by kernel_rfl)
    exact (Array.getElem?_eq_some_iff.1 hh).1
  refine (law W hLW h9 k N c1 c5 c6 c7 c8 c9 c10 c13 c14 c15 name text cond id pp bl bc x).mono fun e W' ⟨he, hb⟩ => ?_
  subst he
  have hs : Since W.heap.size W W' := Since.of_below hb
  exact ⟨_, rfl, ⟨_, _, _, [], p0 ++ [], [], hW', trodAll_mk1 (shut_bool Tryz.underlying4 _),
    trodAll_mk2 (Below.trod laidOut (by kernel_rfl) (of_decide_eq_true (by kernel_rfl)) h0k hs.2 hlt) (shut_int Tryz.underlying3 wx), hs.2.trodVars laidOut (by kernel_rfl) hV, hs.2.frame _, fun h => by cases h⟩, hs.1⟩

theorem holds : Rows.scriptNilRow.holds Tryz.pinned (OpenSpec.ofChange Rows.scriptNilSpec) :=
  holds_of_wide_time 3 Tryz.f3 rfl rfl rfl rfl rfl rfl rfl ⟨rfl, rfl, rfl, rfl, rfl⟩ rfl rfl rfl rfl rfl (by kernel_rfl) Tryz.func3 joined
    (of_decide_eq_true (by kernel_rfl)) (by unfold Func.isWrapper; first | (rw [if_pos (by decide +kernel)]; kernel_rfl) | (rw [if_neg (by decide +kernel)]; exact ⟨rfl, rfl⟩))
    (fun os started H enc _ F => lifted os started H enc F)
end Go.Proofs.YtkgcnjcehhpkpaaGreatDoor

