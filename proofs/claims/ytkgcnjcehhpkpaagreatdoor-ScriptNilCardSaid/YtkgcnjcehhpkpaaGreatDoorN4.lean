/-
  ScriptNil returns true and writes nothing old. Condition: the listed table lies in memory.
-/
import Derived.Test.YtkgcnjcehhpkpaaGreatDoorN3
import Derived.Deep.Light
import Derived.Deep.WholeRow
namespace Go.Proofs.YtkgcnjcehhpkpaaGreatDoor
open Go.RowKit Go.Ev
set_option maxHeartbeats 1000000
theorem info30 : (Tryz.prog.info? 30).map (·.size) = some 17 := by kernel_rfl
theorem law_in (w : World) (hL : LaidW w) (h9 : 9 ≤ w.heap.size) (k N : Int) (c1 c5 c6 c7 c8 c9 c10 c13 c14 c15 : Value) (name text cond id : ByteArray) (p : Option Addr) (bl bc : Nat) (n : Int) (hn4 : 1 ≤ n ∧ n ≤ 4) :
    Calls Tryz.prog 3 #[.agg #[.int .u8 k, c1, .int .i64 N, .string name, .string text, c5, c6, c7, c8, c9, c10, .string id, .slice p bl bc, c13, c14, c15, .string cond], .int .i64 n] w fun e w' => e = .returned (.bool true) ∧ Below w.heap.size w w' := by
  have hg := heap_alloc_last w (.cells #[.int .u8 k, c1, .int .i64 N, .string name, .string text, c5, c6, c7, c8, c9, c10, .string id, .slice p bl bc, c13, c14, c15, .string cond] 30)
  go_enter Tryz.func3, Tryz.ntmps3
  go_wp2_with (refine wpList_load_row rfl 30 _ rfl w.heap.size rfl 30 _ (0, 0) _ hg Tryz.underlying30 rfl info30 ?_)
  refine (vast _ (w.heap.size + 1) k N name text cond id 1 ?_ ?_ ?_ ?_ ?_ p bl bc ?_ ?_).mono ?_
  iterate 7 (go_simp)
  rintro e w1 ⟨⟨b, rfl⟩, h1⟩
  have b1 : Below w.heap.size w w1 := (((Below.refl _ _).alloc (Nat.le_refl _) _).alloc (by simp) _).trans (h1.mono (by simp; omega))
  have q : w1.heap[w.heap.size]? = some (.cells #[.int .u8 k, c1, .int .i64 N, .string name, .string text, c5, c6, c7, c8, c9, c10, .string id, .slice p bl bc, c13, c14, c15, .string cond] 30) := (h1.block _ (by simp; omega)).trans ((Below.heap_alloc _ _ _ (by simp)).trans hg)
  have s1 : w.heap.size + 2 ≤ w1.heap.size := by have := h1.size; simpa using this
  clear h1
  have hL1 := hL.below b1 (Nat.le_refl _)
  cases b
  · go_wp2_with fail
    refine (way_nil _).mono ?_
    rintro e w2 ⟨rfl, h2⟩
    go_wp2_with fail
    refine (plain _).mono ?_
    rintro e w3 ⟨rfl, h3, hq⟩
    have b13 : Below w1.heap.size w1 w3 := h2.trans (h3.mono h2.size)
    have s3 := b13.size
    have s2 := h2.size
    have s23 : w2.heap.size + 2 ≤ w3.heap.size := by
      have := (Array.getElem?_eq_some_iff.1 hq).1
      omega
    have L3 : LaidW w3 := hL1.below b13 (Nat.le_refl _)
    clear h2 h3
    go_wp2_with fail
    have hq' : (w3.alloc (.cells #[.int .i64 n, .int .u32 512, .int .u32 8, .int .u32 0, .slice (some ⟨w2.heap.size + 1, 0, none⟩) 1 1] 39)).heap[w2.heap.size + 1]? = some (.cells #[.string { data := #[113] }, .int .i64 4, .int .i64 0, .string { data := #[] }] 66) := by
      rw [Below.heap_alloc _ _ _ (by omega)]; exact hq
    refine (new_ok14 (L3.below ((Below.refl _ _).alloc (Nat.le_refl _) _) (Nat.le_refl _)) (by omega) hq' n hn4.1 hn4.2).mono ?_
    rintro e w4 ⟨⟨a, rfl⟩, h4⟩
    have b4 : Below w3.heap.size w3 w4 := ((Below.refl _ _).alloc (Nat.le_refl _) _).trans (h4.mono (by simp))
    have hg4 := (b4.block w.heap.size (by omega)).trans ((b13.block w.heap.size (by omega)).trans q)
    have L4 : LaidW w4 := L3.below b4 (Nat.le_refl _)
    have s4 := b4.size
    clear h4
    go_wp2_with (refine wpList_load_row rfl 30 _ rfl w.heap.size rfl 30 _ (0, 0) _ hg4 Tryz.underlying30 rfl info30 ?_)
    refine (do_nil _ _ rfl).mono ?_
    rintro e w5 ⟨rfl, h5⟩
    have s5 := h5.size
    go_wp2_with fail
    refine (same0 _).mono ?_
    rintro e w6 ⟨rfl, h6⟩
    have s6 := h6.size
    go_wp2_with fail
    refine (works_law ((L4.below h5 (Nat.le_refl _)).below h6 (Nat.le_refl _))).mono ?_
    rintro e w7 ⟨rfl, h7⟩
    go_wp2
    go_ret
    exact ⟨rfl, (((b1.trans (b13.mono (by omega))).trans (b4.mono (by omega))).trans (h5.mono (by omega))).trans ((h6.mono (by omega)).trans (h7.mono (by omega)))⟩
  · go_wp2_with fail
    refine (works_law hL1).mono ?_
    rintro e w2 ⟨rfl, h2⟩
    go_wp2
    go_ret
    exact ⟨rfl, b1.trans (h2.mono (by omega))⟩
theorem law_lo (w : World) (hL : LaidW w) (k N : Int) (c1 c5 c6 c7 c8 c9 c10 c13 c14 c15 : Value) (name text cond id : ByteArray) (p : Option Addr) (bl bc : Nat) (n : Int) (hn6 : n < 1) :
    Calls Tryz.prog 3 #[.agg #[.int .u8 k, c1, .int .i64 N, .string name, .string text, c5, c6, c7, c8, c9, c10, .string id, .slice p bl bc, c13, c14, c15, .string cond], .int .i64 n] w fun e w' => e = .returned (.bool true) ∧ Below w.heap.size w w' := by
  have hg := heap_alloc_last w (.cells #[.int .u8 k, c1, .int .i64 N, .string name, .string text, c5, c6, c7, c8, c9, c10, .string id, .slice p bl bc, c13, c14, c15, .string cond] 30)
  go_enter Tryz.func3, Tryz.ntmps3
  go_wp2_with (refine wpList_load_row rfl 30 _ rfl w.heap.size rfl 30 _ (0, 0) _ hg Tryz.underlying30 rfl info30 ?_)
  refine (vast _ (w.heap.size + 1) k N name text cond id 1 ?_ ?_ ?_ ?_ ?_ p bl bc ?_ ?_).mono ?_
  iterate 7 (go_simp)
  rintro e w1 ⟨⟨b, rfl⟩, h1⟩
  have b1 : Below w.heap.size w w1 := (((Below.refl _ _).alloc (Nat.le_refl _) _).alloc (by simp) _).trans (h1.mono (by simp; omega))
  have q : w1.heap[w.heap.size]? = some (.cells #[.int .u8 k, c1, .int .i64 N, .string name, .string text, c5, c6, c7, c8, c9, c10, .string id, .slice p bl bc, c13, c14, c15, .string cond] 30) := (h1.block _ (by simp; omega)).trans ((Below.heap_alloc _ _ _ (by simp)).trans hg)
  have s1 : w.heap.size + 2 ≤ w1.heap.size := by have := h1.size; simpa using this
  clear h1
  have hL1 := hL.below b1 (Nat.le_refl _)
  cases b
  · go_wp2_with fail
    refine (way_nil _).mono ?_
    rintro e w2 ⟨rfl, h2⟩
    go_wp2_with fail
    refine (plain _).mono ?_
    rintro e w3 ⟨rfl, h3, hq⟩
    have b13 : Below w1.heap.size w1 w3 := h2.trans (h3.mono h2.size)
    have s3 := b13.size
    have s2 := h2.size
    have s23 : w2.heap.size + 2 ≤ w3.heap.size := by
      have := (Array.getElem?_eq_some_iff.1 hq).1
      omega
    have L3 : LaidW w3 := hL1.below b13 (Nat.le_refl _)
    clear h2 h3
    go_wp2_with fail
    refine (new_arg _ n (by omega) _ _ _ _).mono ?_
    rintro e w4 ⟨rfl, h4⟩
    have b4 : Below w3.heap.size w3 w4 := ((Below.refl _ _).alloc (Nat.le_refl _) _).trans (h4.mono (by simp))
    have hg4 := (b4.block w.heap.size (by omega)).trans ((b13.block w.heap.size (by omega)).trans q)
    have L4 : LaidW w4 := L3.below b4 (Nat.le_refl _)
    have s4 := b4.size
    clear h4
    go_wp2_with (refine wpList_load_row rfl 30 _ rfl w.heap.size rfl 30 _ (0, 0) _ hg4 Tryz.underlying30 rfl info30 ?_)
    refine (do_nil _ _ rfl).mono ?_
    rintro e w5 ⟨rfl, h5⟩
    have s5 := h5.size
    go_wp2_with fail
    refine (same0 _).mono ?_
    rintro e w6 ⟨rfl, h6⟩
    have s6 := h6.size
    go_wp2_with fail
    refine (works_law ((L4.below h5 (Nat.le_refl _)).below h6 (Nat.le_refl _))).mono ?_
    rintro e w7 ⟨rfl, h7⟩
    go_wp2
    go_ret
    exact ⟨rfl, (((b1.trans (b13.mono (by omega))).trans (b4.mono (by omega))).trans (h5.mono (by omega))).trans ((h6.mono (by omega)).trans (h7.mono (by omega)))⟩
  · go_wp2_with fail
    refine (works_law hL1).mono ?_
    rintro e w2 ⟨rfl, h2⟩
    go_wp2
    go_ret
    exact ⟨rfl, b1.trans (h2.mono (by omega))⟩
theorem law_hi (w : World) (hL : LaidW w) (k N : Int) (c1 c5 c6 c7 c8 c9 c10 c13 c14 c15 : Value) (name text cond id : ByteArray) (p : Option Addr) (bl bc : Nat) (n : Int) (hn6 : 4 < n) :
    Calls Tryz.prog 3 #[.agg #[.int .u8 k, c1, .int .i64 N, .string name, .string text, c5, c6, c7, c8, c9, c10, .string id, .slice p bl bc, c13, c14, c15, .string cond], .int .i64 n] w fun e w' => e = .returned (.bool true) ∧ Below w.heap.size w w' := by
  have hg := heap_alloc_last w (.cells #[.int .u8 k, c1, .int .i64 N, .string name, .string text, c5, c6, c7, c8, c9, c10, .string id, .slice p bl bc, c13, c14, c15, .string cond] 30)
  go_enter Tryz.func3, Tryz.ntmps3
  go_wp2_with (refine wpList_load_row rfl 30 _ rfl w.heap.size rfl 30 _ (0, 0) _ hg Tryz.underlying30 rfl info30 ?_)
  refine (vast _ (w.heap.size + 1) k N name text cond id 1 ?_ ?_ ?_ ?_ ?_ p bl bc ?_ ?_).mono ?_
  iterate 7 (go_simp)
  rintro e w1 ⟨⟨b, rfl⟩, h1⟩
  have b1 : Below w.heap.size w w1 := (((Below.refl _ _).alloc (Nat.le_refl _) _).alloc (by simp) _).trans (h1.mono (by simp; omega))
  have q : w1.heap[w.heap.size]? = some (.cells #[.int .u8 k, c1, .int .i64 N, .string name, .string text, c5, c6, c7, c8, c9, c10, .string id, .slice p bl bc, c13, c14, c15, .string cond] 30) := (h1.block _ (by simp; omega)).trans ((Below.heap_alloc _ _ _ (by simp)).trans hg)
  have s1 : w.heap.size + 2 ≤ w1.heap.size := by have := h1.size; simpa using this
  clear h1
  have hL1 := hL.below b1 (Nat.le_refl _)
  cases b
  · go_wp2_with fail
    refine (way_nil _).mono ?_
    rintro e w2 ⟨rfl, h2⟩
    go_wp2_with fail
    refine (plain _).mono ?_
    rintro e w3 ⟨rfl, h3, hq⟩
    have b13 : Below w1.heap.size w1 w3 := h2.trans (h3.mono h2.size)
    have s3 := b13.size
    have s2 := h2.size
    have s23 : w2.heap.size + 2 ≤ w3.heap.size := by
      have := (Array.getElem?_eq_some_iff.1 hq).1
      omega
    have L3 : LaidW w3 := hL1.below b13 (Nat.le_refl _)
    clear h2 h3
    go_wp2_with fail
    have hn7 : 1 ≤ n := by omega
    refine (new_arg _ n (by omega) _ _ _ _).mono ?_
    rintro e w4 ⟨rfl, h4⟩
    have b4 : Below w3.heap.size w3 w4 := ((Below.refl _ _).alloc (Nat.le_refl _) _).trans (h4.mono (by simp))
    have hg4 := (b4.block w.heap.size (by omega)).trans ((b13.block w.heap.size (by omega)).trans q)
    have L4 : LaidW w4 := L3.below b4 (Nat.le_refl _)
    have s4 := b4.size
    clear h4
    go_wp2_with (refine wpList_load_row rfl 30 _ rfl w.heap.size rfl 30 _ (0, 0) _ hg4 Tryz.underlying30 rfl info30 ?_)
    refine (do_nil _ _ rfl).mono ?_
    rintro e w5 ⟨rfl, h5⟩
    have s5 := h5.size
    go_wp2_with fail
    refine (same0 _).mono ?_
    rintro e w6 ⟨rfl, h6⟩
    have s6 := h6.size
    go_wp2_with fail
    refine (works_law ((L4.below h5 (Nat.le_refl _)).below h6 (Nat.le_refl _))).mono ?_
    rintro e w7 ⟨rfl, h7⟩
    go_wp2
    go_ret
    refine ⟨by
      show Ending.returned (Value.bool (!decide (n ≤ 4))) = _
      rw [decide_eq_false (by omega)]
      rfl, (((b1.trans (b13.mono (by omega))).trans (b4.mono (by omega))).trans (h5.mono (by omega))).trans ((h6.mono (by omega)).trans (h7.mono (by omega)))⟩
  · go_wp2_with fail
    refine (works_law hL1).mono ?_
    rintro e w2 ⟨rfl, h2⟩
    go_wp2
    go_ret
    exact ⟨rfl, b1.trans (h2.mono (by omega))⟩
theorem law (w : World) (hL : LaidW w) (h9 : 9 ≤ w.heap.size) (k N : Int) (c1 c5 c6 c7 c8 c9 c10 c13 c14 c15 : Value) (name text cond id : ByteArray) (p : Option Addr) (bl bc : Nat) (n : Int) :
    Calls Tryz.prog 3 #[.agg #[.int .u8 k, c1, .int .i64 N, .string name, .string text, c5, c6, c7, c8, c9, c10, .string id, .slice p bl bc, c13, c14, c15, .string cond], .int .i64 n] w fun e w' => e = .returned (.bool true) ∧ Below w.heap.size w w' := by
  by_cases h1 : 1 ≤ n ∧ n ≤ 4
  · exact law_in w hL h9 k N c1 c5 c6 c7 c8 c9 c10 c13 c14 c15 name text cond id p bl bc n h1
  · by_cases h2 : n < 1
    · exact law_lo w hL k N c1 c5 c6 c7 c8 c9 c10 c13 c14 c15 name text cond id p bl bc n h2
    · exact law_hi w hL k N c1 c5 c6 c7 c8 c9 c10 c13 c14 c15 name text cond id p bl bc n (by omega)
end Go.Proofs.YtkgcnjcehhpkpaaGreatDoor

