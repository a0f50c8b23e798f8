/-
  works as a contract of the kit's. Condition: the listed table lies in memory.
-/
import Derived.Test.YtaojoifpekoecaaGreatDoorWJ
import Derived.Below
namespace Go.Ev
open Go.Proofs
open Go.RowKit (Below)

noncomputable section
def capG : Nat → Nat
  | 3 => 20
  | _ => 0
def sg0 : Sg := fun g => if g < 9 then some ⟨g, 0, capG g⟩ else none
theorem sg0_blk {A : Nat} {e : En} (h : sg0 A = some e) : e = ⟨A, 0, capG A⟩ ∧ A < 9 := by
  unfold sg0 at h
  split at h
  · cases h; exact ⟨rfl, by assumption⟩
  · cases h

theorem glob0 : Glob sg0 := fun g hg => by
  have h9 : PP.globals.size = 9 := by kernel_rfl
  rw [h9] at hg
  exact ⟨capG g, by unfold sg0; rw [if_pos hg]⟩

/-- the listed tables lie in the world -/
def LaidW (w : World) : Prop := ∀ A o, (A, o) ∈ gl → ObjR sg0 o ⟨A, 0, capG A⟩ w

theorem LaidW.below {B : Nat} {w w' : World} (h : LaidW w) (hb : Below B w w') (hB : w.heap.size ≤ B) : LaidW w' := fun A o hm =>
  (h A o hm).mono (Le.refl _) (hb.block _ (Nat.lt_of_lt_of_le (h A o hm).lt hB))

theorem get_lay {l : List (Nat × AO)} {n : Nat} {orc : List Ent} {A : Nat} {o : AO} (h : (layAll { h := .e, n := n, orc := orc } l).get A = some o) : (A, o) ∈ l := by
  rcases layAll_get l { h := .e, n := n, orc := orc } A with ⟨_, h2⟩ | ⟨_, p, h2, h3⟩
  · rw [h2] at h; cases h
  · rw [h3] at h; cases h; exact h2

theorem gl_small {A : Nat} {o : AO} (h : (A, o) ∈ gl) : A < 9 ∧ o.ro = true := by
  have hall : gl.all (fun x => Nat.blt x.1 9 && x.2.ro) = true := by decide +kernel
  have := List.all_eq_true.1 hall _ h
  simp only [Bool.and_eq_true] at this
  exact ⟨by simpa [Nat.blt_eq] using this.1, this.2⟩

theorem hr0 {w : World} (h : LaidW w) : HR sg0 wTop w := by
  unfold wTop
  refine ⟨fun A o e h1 h2 => ?_, fun A B o p e f _ _ h3 h4 h5 => ?_, fun A hA => ⟨?_, ?_⟩⟩
  · obtain ⟨rfl, _⟩ := sg0_blk h2
    exact h A o (get_lay h1)
  · obtain ⟨rfl, _⟩ := sg0_blk h3
    obtain ⟨rfl, _⟩ := sg0_blk h4
    exact h5
  · rw [layAll_n] at hA
    have hA : 20 ≤ A := hA
    unfold sg0; rw [if_neg (by omega)]
  · rw [layAll_n] at hA
    have hA : 20 ≤ A := hA
    cases hq : (layAll { h := .e, n := 20, orc := [E0] } gl).get A with
    | none => rfl
    | some o => have := (gl_small (get_lay hq)).1; omega

/-- where all that is known is for reading alone, nothing old is written -/
theorem below_of_post {σ σ' : Sg} {W W' : AW} {w w' : World} (h : Post σ W w σ' W' w') (hro : ∀ A o, W.get A = some o → o.ro = true) : Below w.heap.size w w' :=
  ⟨h.ext.os, h.ext.tape, h.ext.output, h.ext.size, fun b hb => h.ext.frame b hb fun A e _ ⟨o, h1, h2⟩ => by rw [hro A o h1] at h2; cases h2⟩
/-- works, as a contract of the kit's -/
theorem works_law {w : World} (h : LaidW w) : Calls PP 6 #[] w fun e w' => e = .returned (.bool true) ∧ Below w.heap.size w w' :=
  (works_ok glob0 (hr0 h)).mono fun _ _ ⟨_, _, he, hp⟩ => ⟨he, below_of_post hp fun _ _ hA => (gl_small (get_lay hA)).2⟩
end
end Go.Ev

