/-
  number, answer, Join and points. Conditions: as each theorem says.
-/
import Derived.Test.YtaojoifpekoecaaGreatDoorT3
namespace Go.Proofs.YtaojoifpekoecaaGreatDoor
open Go.RowKit Go.Shelf
set_option maxHeartbeats 1000000
theorem num_int (n : Int) (h0 : -9223372036854775808 ≤ n) (h1 : n ≤ 9223372036854775807) (w : World) (htab : Pow w) :
    Calls Tryz.prog 40 #[.int .i64 n] w fun e w' => e = .returned (S (Lib.itoa n)) ∧ Below w.heap.size w w' := by
  by_cases hn : n < 0
  · go_enter Tryz.func40, Tryz.ntmps40
    go_wp2_with (go_at_call 74; refine (Tryz.strconv_Itoa n h0 h1 _ htab).mono ?_; rintro e w' ⟨rfl, k, os, rfl⟩)
    go_wp2
    go_ret
    exact ⟨rfl, Lib.below_grow _ _ (Nat.le_refl _) _ _⟩
  · obtain ⟨u, rfl⟩ : ∃ u : Nat, n = u := ⟨n.toNat, by omega⟩
    go_enter Tryz.func40, Tryz.ntmps40
    go_wp2_with (go_at_call 75; refine (fmtUint u (by omega) _ htab).mono ?_; rintro e w' ⟨rfl, hb⟩)
    go_wp2
    go_ret
    refine ⟨?_, hb⟩
    rw [Lib.itoa_nonneg]
    rfl
theorem num_u8 (u : Nat) (h1 : u < 256) (w : World) (htab : Pow w) :
    Calls Tryz.prog 63 #[.int .u8 u] w fun e w' => e = .returned (S (Lib.decDigits u)) ∧ Below w.heap.size w w' := by
  go_enter Tryz.func63, Tryz.ntmps63
  go_wp2_with (go_at_call 75; refine (fmtUint u (by omega) _ htab).mono ?_; rintro e w' ⟨rfl, hb⟩)
  go_wp2
  go_ret
  exact ⟨rfl, hb⟩
theorem num_u32 (u : Nat) (h1 : u < 4294967296) (w : World) (htab : Pow w) :
    Calls Tryz.prog 41 #[.int .u32 u] w fun e w' => e = .returned (S (Lib.decDigits u)) ∧ Below w.heap.size w w' := by
  go_enter Tryz.func41, Tryz.ntmps41
  go_wp2_with (go_at_call 75; refine (fmtUint u (by omega) _ htab).mono ?_; rintro e w' ⟨rfl, hb⟩)
  go_wp2
  go_ret
  exact ⟨rfl, hb⟩
theorem num_u64 (u : Nat) (h1 : u < 18446744073709551616) (w : World) (htab : Pow w) :
    Calls Tryz.prog 93 #[.int .u64 u] w fun e w' => e = .returned (S (Lib.decDigits u)) ∧ Below w.heap.size w w' := by
  go_enter Tryz.func93, Tryz.ntmps93
  go_wp2_with (go_at_call 75; refine (fmtUint u (by omega) _ htab).mono ?_; rintro e w' ⟨rfl, hb⟩)
  go_wp2
  go_ret
  exact ⟨rfl, hb⟩
def ansW (b : Bool) : List UInt8 := if b then [121, 101, 115] else [110, 111]
theorem answer (b : Bool) (w : World) :
    Calls Tryz.prog 46 #[.bool b] w fun e w' => e = .returned (S (ansW b)) ∧ Below w.heap.size w w' := by
  cases b
  · go_enter Tryz.func46, Tryz.ntmps46
    go_wp2
    go_ret
    exact ⟨rfl, Below.refl _ _⟩
  · go_enter Tryz.func46, Tryz.ntmps46
    go_wp2
    go_ret
    exact ⟨rfl, Below.refl _ _⟩
/-- a slice of texts that lies in the world -/
def StrsV (w : World) (v : Value) (xs : List (List UInt8)) : Prop :=
  ∃ a c, v = .slice a xs.length c ∧ xs.length ≤ c ∧ (xs ≠ [] → ∃ b o, a = some ⟨b, o, none⟩ ∧ b < w.heap.size ∧ ∀ (j : Nat) x, xs[j]? = some x → w.cell? ⟨b, o + j, none⟩ = some (S x))
theorem join_any (v : Value) (xs : List (List UInt8)) (sep : List UInt8) (w : World) (h : StrsV w v xs) (hN : xs.length ≤ 100000000) (hlen : (Lib.join xs sep).length ≤ 140737488355328) :
    Calls Tryz.prog 39 #[v, S sep] w fun e w' => e = .returned (S (Lib.join xs sep)) ∧ Below w.heap.size w w' := by
  obtain ⟨a, c, rfl, hc, hv⟩ := h
  by_cases h0 : xs = []
  · subst h0
    refine (Tryz.strings_Join_none a c ⟨sep.toArray⟩ w).mono fun e w' ⟨he, hw⟩ => ⟨he, hw ▸ Below.refl _ _⟩
  · obtain ⟨b, o, rfl, hlt, hcell⟩ := hv h0
    have e : (xs.map fun x => (⟨x.toArray⟩ : ByteArray)).map (·.data.toList) = xs := by
      rw [List.map_map]; exact List.map_id' xs
    have := Tryz.strings_Join b o c (xs.map fun x => (⟨x.toArray⟩ : ByteArray)) ⟨sep.toArray⟩ w (fun j x hx => by
      rw [List.getElem?_map] at hx
      obtain ⟨y, hy, rfl⟩ := Option.map_eq_some_iff.1 hx
      exact hcell j y hy) hlt (by simpa using Nat.le_trans hN (by decide)) (by simpa using hc) (by rw [e]; exact hlen)
    rw [e, List.length_map] at this
    exact this
theorem points (v : Value) (xs : List (List UInt8)) (w : World) (h : StrsV w v xs) (hN : xs.length ≤ 100000000) (hlen : (Lib.join xs [46]).length ≤ 140737488355328) :
    Calls Tryz.prog 76 #[v] w fun e w' => e = .returned (S (Lib.join xs [46])) ∧ Below w.heap.size w w' := by
  go_enter Tryz.func76, Tryz.ntmps76
  go_wp2_with (go_at_call 39; refine (join_any v xs [46] _ h hN hlen).mono ?_; rintro e w' ⟨rfl, hb⟩)
  go_wp2
  go_ret
  exact ⟨rfl, hb⟩
end Go.Proofs.YtaojoifpekoecaaGreatDoor

