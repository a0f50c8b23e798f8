/-
  The reference's Together. Conditions: as each theorem says.
-/
import Derived.Test.YtaojoifpekoecaaGreatDoorT12
namespace Go.Proofs.YtaojoifpekoecaaGreatDoor
open Go.RowKit Go.Shelf
def togW (xs : List (List UInt8)) (sep nw : List UInt8) : List UInt8 := if xs = [] then nw else Lib.join xs sep
theorem join_step (xs : List (List UInt8)) (sep x : List UInt8) (k : Nat) (hk : 1 ≤ k) (hx : xs[k]? = some x) : Lib.join (xs.take (k + 1)) sep = (Lib.join (xs.take k) sep ++ sep) ++ x := by
  cases xs with
  | nil => simp at hx
  | cons y r =>
    obtain ⟨j, rfl⟩ : ∃ j, k = j + 1 := ⟨k - 1, by omega⟩
    rw [List.take_succ_cons, List.take_succ_cons, Lib.join_cons, Lib.join_cons, Lib.joinTail_take_succ sep r j x (by simpa using hx)]
    simp [List.append_assoc]
theorem join_take_le (xs : List (List UInt8)) (sep : List UInt8) (k : Nat) : (Lib.join (xs.take k) sep).length ≤ (Lib.join xs sep).length := by
  cases xs with
  | nil => simp
  | cons y r =>
    cases k with
    | zero => simp [Lib.join_nil]
    | succ k =>
      rw [List.take_succ_cons, Lib.join_cons, Lib.join_cons, List.length_append, List.length_append]
      have := Lib.joinTail_take_le sep r k
      omega
set_option maxHeartbeats 1000000
set_option maxRecDepth 100000 in
theorem together1 (b o c : Nat) (xs : List (List UInt8)) (sep nw : List UInt8) (h0 : xs ≠ []) (hn : xs.length ≤ 100000000) (w : World) (hbl : b < w.heap.size) (hc : ∀ (j : Nat) x, xs[j]? = some x → w.cell? ⟨b, o + j, none⟩ = some (S x))
    (hlen : (Lib.join xs sep).length ≤ 140737488355328) (hsep : sep.length ≤ 1000) (hall : ∀ x ∈ xs, x.length ≤ 140737488355328) :
    Calls Tryz.prog 25 #[.slice (some ⟨b, o, none⟩) xs.length c, S sep, S nw] w fun e w' => e = .returned (S (Lib.join xs sep)) ∧ Below w.heap.size w w' := by
  have hlp : 0 < xs.length := List.length_pos_iff.2 h0
  have hz : ((xs.length : Int) == 0) = false := beq_eq_false_iff_ne.2 (by omega)
  have hp0 : (0 : Int) < (xs.length : Int) := by omega
  obtain ⟨x0, hx0⟩ : ∃ x, xs[0]? = some x := ⟨_, List.getElem?_eq_getElem hlp⟩
  have hc0 := hc 0 x0 hx0
  rw [Nat.add_zero] at hc0
  go_enter Tryz.func25, Tryz.ntmps25
  go_wp2
  go_loopw [7, 8] (fun sv i wr => ∃ k : Nat, 1 ≤ k ∧ k ≤ xs.length ∧ i = .int .i64 k ∧ sv = S (Lib.join (xs.take k) sep) ∧ Below w.heap.size w wr)
    (fun _ i _ => xs.length - (intOf i).toNat)
  case atStart => exact ⟨1, Nat.le_refl _, hlp, rfl, by
      cases xs with
      | nil => cases hx0
      | cons y r => cases hx0; rw [List.take_succ_cons, List.take_zero, Lib.join_one], Below.refl _ _⟩
  case round =>
    obtain ⟨k, hk1, hk, rfl, rfl, hb⟩ := hrel
    by_cases hlt : k < xs.length
    · obtain ⟨x, hx⟩ : ∃ x, xs[k]? = some x := ⟨_, List.getElem?_eq_getElem hlt⟩
      have hce : wr.cell? ⟨b, o + k, none⟩ = some (S x) := (hb.cell hbl).trans (hc k x hx)
      have hst := join_step xs sep x k hk1 hx
      obtain ⟨r, hr⟩ : ∃ r : ByteArray, r = ⟨(Lib.join (xs.take k) sep).toArray⟩ := ⟨_, rfl⟩
      obtain ⟨q, hq⟩ : ∃ q : ByteArray, q = ⟨sep.toArray⟩ := ⟨_, rfl⟩
      obtain ⟨y, hy⟩ : ∃ y : ByteArray, y = ⟨x.toArray⟩ := ⟨_, rfl⟩
      have hrs : r.size ≤ 140737488355328 := by rw [hr]; show (List.toArray _).size ≤ _; rw [List.size_toArray]; exact Nat.le_trans (join_take_le xs sep k) hlen
      have hqs : q.size ≤ 1000 := by rw [hq]; show (List.toArray _).size ≤ _; rw [List.size_toArray]; exact hsep
      have hys : y.size ≤ 140737488355328 := by rw [hy]; show (List.toArray _).size ≤ _; rw [List.size_toArray]; exact hall x (List.mem_of_getElem? hx)
      have hfin : (.string (r ++ q ++ y) : Value) = S (Lib.join (xs.take (k + 1)) sep) := by rw [hst, hr, hq, hy, ByteArray.mk_append_mk, ByteArray.mk_append_mk]
      have hcat1 : ¬ 9223372036854775807 < r.size + q.size := by omega
      have hcat2 : ¬ 9223372036854775807 < r.size + q.size + y.size := by omega
      have e1 : S (Lib.join (xs.take k) sep) = .string r := by rw [hr]
      have e2 : S sep = .string q := by rw [hq]
      have e3 : S x = .string y := by rw [hy]
      rw [e3] at hce
      rw [e1, e2]
      clear hr hq hy hst e1 e2 e3
      go_wp2
      go_roundw
      case rel => exact ⟨k + 1, by omega, by omega, by go_num, by first | exact hfin | rfl, hb⟩
      case measure => simp [intOf]; omega
    · have hke : k = xs.length := by omega
      subst hke
      rw [List.take_length]
      go_wp2
      go_ret
      exact ⟨rfl, hb⟩
theorem together (v : Value) (xs : List (List UInt8)) (sep nw : List UInt8) (hn : xs.length ≤ 100000000) (w : World) (h : StrsV w v xs)
    (hlen : (Lib.join xs sep).length ≤ 140737488355328) (hsep : sep.length ≤ 1000) (hall : ∀ x ∈ xs, x.length ≤ 140737488355328) :
    Calls Tryz.prog 25 #[v, S sep, S nw] w fun e w' => e = .returned (S (togW xs sep nw)) ∧ Below w.heap.size w w' := by
  obtain ⟨a, c, rfl, _, hv⟩ := h
  by_cases h0 : xs = []
  · subst h0
    go_enter Tryz.func25, Tryz.ntmps25
    go_wp2
    go_ret
    exact ⟨rfl, Below.refl _ _⟩
  · obtain ⟨b, o, rfl, hlt, hc⟩ := hv h0
    rw [togW, if_neg h0]
    exact together1 b o c xs sep nw h0 hn w hlt hc hlen hsep hall
theorem joinTail_mem (sep : List UInt8) : ∀ (r : List (List UInt8)) (x : List UInt8), x ∈ r → x.length ≤ (Lib.joinTail sep r).length
  | [], x, h => by cases h
  | y :: r, x, h => by
    have e : Lib.joinTail sep (y :: r) = (sep ++ y) ++ Lib.joinTail sep r := rfl
    rw [e, List.length_append, List.length_append]
    rcases List.mem_cons.1 h with h | h
    · subst h; omega
    · have := joinTail_mem sep r x h; omega
theorem join_mem (xs : List (List UInt8)) (sep x : List UInt8) (h : x ∈ xs) : x.length ≤ (Lib.join xs sep).length := by
  cases xs with
  | nil => cases h
  | cons y r =>
    rw [Lib.join_cons, List.length_append]
    rcases List.mem_cons.1 h with h | h
    · subst h; omega
    · have := joinTail_mem sep r x h; omega
theorem tog (v : Value) (xs : List (List UInt8)) (sep nw : List UInt8) (hn : xs.length ≤ 100000000) (w : World) (h : StrsV w v xs)
    (hlen : (Lib.join xs sep).length ≤ 140737488355328) (hsep : sep.length ≤ 1000) :
    Calls Tryz.prog 25 #[v, S sep, S nw] w fun e w' => e = .returned (S (togW xs sep nw)) ∧ Below w.heap.size w w' :=
  together v xs sep nw hn w h hlen hsep fun x hx => Nat.le_trans (join_mem xs sep x hx) hlen
theorem numberN (n : Nat) (h : n < 9223372036854775808) (w : World) :
    Calls Tryz.prog 45 #[.int .i64 n] w fun e w' => e = .returned (S (Lib.decDigits n)) ∧ Below w.heap.size w w' := by
  have := number n (by omega) (by omega) w
  rwa [Lib.itoa_nonneg] at this
end Go.Proofs.YtaojoifpekoecaaGreatDoor

