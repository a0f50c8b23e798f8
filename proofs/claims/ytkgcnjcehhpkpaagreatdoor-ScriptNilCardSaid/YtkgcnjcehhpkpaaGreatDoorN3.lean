/-
  works as a contract of the kit's. Condition: the listed table lies in memory.
-/
import Derived.Test.YtkgcnjcehhpkpaaGreatDoorN1
import Derived.Test.YtkgcnjcehhpkpaaGreatDoorN2
import Derived.Test.YtkgcnjcehhpkpaaGreatDoorWJ
import Derived.Deep.Light
namespace Go.Proofs.YtkgcnjcehhpkpaaGreatDoor
open Go.RowKit Go.Ev
theorem cell_first (w : World) (c : Array Value) (t : TypeId) (o : Obj) (j : Nat) : ((w.alloc (.cells c t)).alloc o).cell? ⟨w.heap.size, j, none⟩ = c[j]? := by
  rw [World.cell?_alloc_past _ _ _ (by simp)]
  show (match (w.heap.push (.cells c t))[w.heap.size]? with | some (.cells cs _ _) => cs[j]? | _ => none) = _
  rw [Array.getElem?_push_size]
theorem works_law {w : World} (h : LaidW w) : Calls Tryz.prog 5 #[] w fun e w' => e = .returned (.bool true) ∧ Below w.heap.size w w' :=
  (works_ok glob0 (hr0 h)).mono fun _ _ ⟨_, _, he, hp⟩ => ⟨he, below_of_post hp fun _ _ hA => (gl_small (get_lay hA)).2⟩
end Go.Proofs.YtkgcnjcehhpkpaaGreatDoor

