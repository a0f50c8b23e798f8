/-
  Vast, Way, Do, Plain, SameTold, New at no client: what they return at what ScriptNil hands them. Conditions: as each theorem says.
-/
import Derived.Test.YtkgcnjcehhpkpaaGreatDoorProg
import Derived.WalkKit
import Derived.LoopN
namespace Go.Proofs.YtkgcnjcehhpkpaaGreatDoor
open Go.RowKit
def IsB (e : Ending) : Prop := ∃ b, e = .returned (.bool b)
set_option maxHeartbeats 1000000
/-- Vast of one event: some bool; nothing old is written -/
theorem vast (w : World) (B : Nat) (k N : Int) (name text cond id : ByteArray) (cap : Nat)
  (h0 : w.cell? ⟨B, 0, none⟩ = some (.int .u8 k)) (h2 : w.cell? ⟨B, 2, none⟩ = some (.int .i64 N)) (h3 : w.cell? ⟨B, 3, none⟩ = some (.string name)) (h4 : w.cell? ⟨B, 4, none⟩ = some (.string text))
  (h11 : w.cell? ⟨B, 11, none⟩ = some (.string id)) (p : Option Addr) (bl bc : Nat) (h12 : w.cell? ⟨B, 12, none⟩ = some (.slice p bl bc)) (h16 : w.cell? ⟨B, 16, none⟩ = some (.string cond)) :
    Calls Tryz.prog 4 #[.slice (some ⟨B, 0, none⟩) 1 cap] w fun e w' => IsB e ∧ Below w.heap.size w w' := by
  go_enter Tryz.func4, Tryz.ntmps4
  go_wp2
  refine wp_loop_rounds 2 ?_
  rw [rounds_succ]
  go_wp2
  all_goals first
    | (go_ret; exact ⟨⟨_, rfl⟩, Below.refl _ _⟩)
    | (rw [rounds_succ]
       go_wp2
       all_goals (go_ret; exact ⟨⟨_, rfl⟩, Below.refl _ _⟩))
theorem way_nil (w : World) : Calls Tryz.prog 6 #[.pointer none, .int .i64 0] w fun e w' => e = .returned (.tuple #[.int .i64 0, .int .i64 0]) ∧ Below w.heap.size w w' := by
  go_enter Tryz.func6, Tryz.ntmps6
  go_wp2
  go_ret2
  exact ⟨rfl, Below.refl _ _⟩
/-- what is told where there is no net -/
def toldNil : Value := .agg #[.int .i64 2, .bool false, .string { data := #[] }, .int .i64 0, .int .i64 0, .slice none 0 0, .slice none 0 0]
theorem do_nil (w : World) (c : Array Value) (_hc : c.size = 17) : Calls Tryz.prog 10 #[.pointer none, .agg c] w fun e w' => e = .returned toldNil ∧ Below w.heap.size w w' := by
  go_enter Tryz.func10, Tryz.ntmps10
  go_wp2
  apply bodyPost_ret
  · simp [results, Tryz.results10, go_sem]
    rfl
  · rfl
  · exact ⟨rfl, ((Below.refl _ _).alloc (Nat.le_refl _) _).alloc (by simp) _⟩
theorem plain (w : World) : Calls Tryz.prog 7 #[] w fun e w' => e = .returned (.agg #[.int .i64 1, .int .u32 512, .int .u32 8, .int .u32 0, .slice (some ⟨w.heap.size + 1, 0, none⟩) 1 1]) ∧
    Below w.heap.size w w' ∧ w'.heap[w.heap.size + 1]? = some (.cells #[.string { data := #[113] }, .int .i64 4, .int .i64 0, .string { data := #[] }] 66) := by
  go_enter Tryz.func7, Tryz.ntmps7
  go_wp2
  apply bodyPost_ret
  · simp [results, Tryz.results7, go_sem]
    rfl
  · rfl
  · refine ⟨rfl, ((Below.refl _ _).alloc (Nat.le_refl _) _).alloc (by simp) _, ?_⟩
    show ((w.heap.push _).push _)[w.heap.size + 1]? = _
    rw [Array.getElem?_push]
    simp
theorem same0 (w : World) : Calls Tryz.prog 9 #[toldNil, toldNil] w fun e w' => e = .returned (.bool true) ∧ Below w.heap.size w w' := by
  unfold toldNil
  go_enter Tryz.func9, Tryz.ntmps9
  go_wp2
  refine wp_loop_rounds 1 ?_
  rw [rounds_succ]
  go_wp2
  refine wp_loop_rounds 1 ?_
  rw [rounds_succ]
  go_wp2
  go_ret
  exact ⟨rfl, ((Below.refl _ _).alloc (Nat.le_refl _) _).alloc (by simp) _⟩
theorem new_arg (w : World) (n : Int) (h : n < 1 ∨ 4 < n) (a b c d : Value) : Calls Tryz.prog 8 #[.agg #[.int .i64 n, a, b, c, d]] w fun e w' => e = .returned (.tuple #[.pointer none, .int .i64 1]) ∧ Below w.heap.size w w' := by
  go_enter Tryz.func8, Tryz.ntmps8
  go_wp2
  all_goals go_ret2
  all_goals exact ⟨rfl, (Below.refl _ _).alloc (Nat.le_refl _) _⟩
end Go.Proofs.YtkgcnjcehhpkpaaGreatDoor

