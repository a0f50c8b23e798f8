/-
  hex: bytes and strings as words. Conditions: as each theorem says.
-/
import Derived.Test.YtaojoifpekoecaaGreatDoorT2
namespace Go.Proofs.YtaojoifpekoecaaGreatDoor
open Go.RowKit Go.Shelf
def hexd (n : Nat) : UInt8 := UInt8.ofNat (if n < 10 then 48 + n else 87 + n)
def hexL (l : List UInt8) : List UInt8 := l.flatMap fun b => [hexd (b.toNat / 16), hexd (b.toNat % 16)]
def hexW (l : List UInt8) : List UInt8 := if l = [] then [45] else hexL l
abbrev signs : ByteArray := { data := #[48, 49, 50, 51, 52, 53, 54, 55, 56, 57, 97, 98, 99, 100, 101, 102] }
theorem signs_at : ∀ i : Fin 16, signs.data.toList[i.val]? = some (hexd i.val) := by decide +kernel
theorem signs_get (n : Nat) (h : n < signs.size) : signs[n] = hexd n := by
  have h16 : n < 16 := h
  have := signs_at ⟨n, h16⟩
  have e : signs.data.toList[n]? = some signs[n] := by
    rw [List.getElem?_eq_getElem (by simpa using h16)]; rfl
  rw [e] at this
  exact Option.some.inj this
theorem hexL_length (l : List UInt8) : (hexL l).length = 2 * l.length := by
  induction l with
  | nil => rfl
  | cons b l ih => simp only [hexL, List.flatMap_cons, List.length_append, List.length_cons, List.length_nil] at ih ⊢; omega
theorem hexL_take_succ (l : List UInt8) (k : Nat) (b : UInt8) (h : l[k]? = some b) : hexL (l.take (k + 1)) = hexL (l.take k) ++ [hexd (b.toNat / 16)] ++ [hexd (b.toNat % 16)] := by
  rw [List.take_add_one, h]
  simp [hexL]
theorem byteCells_snoc (l : List UInt8) (b : UInt8) : Lib.byteCells (l ++ [b]) = Lib.byteCells l ++ [.int .u8 (b.toNat : Int)] := by simp [Lib.byteCells]
theorem byteCells_length (l : List UInt8) : (Lib.byteCells l).length = l.length := by simp [Lib.byteCells]
theorem ba_at (s : ByteArray) (k : Nat) (h : k < s.size) : s.data.toList[k]? = some s[k] := by
  rw [List.getElem?_eq_getElem (by simpa using h)]; rfl
set_option maxHeartbeats 2000000
theorem hex_str1 (s : ByteArray) (hs : s.size ≤ 100000000) (h0 : s.size ≠ 0) (w : World) :
    Calls Tryz.prog 47 #[.string s] w fun e w' => e = .returned (S (hexW s.data.toList)) ∧ Below w.heap.size w w' := by
  have hz : ((s.size : Int) == 0) = false := beq_eq_false_iff_ne.2 (by omega)
  go_enter Tryz.func47, Tryz.ntmps47
  go_wp2
  go_loopw [10] (fun i wr => ∃ k : Nat, k ≤ s.size ∧ i = .int .i64 k ∧ Lib.IsBuilder 103 5 w.heap.size w.heap.size (Lib.byteCells (hexL (s.data.toList.take k))) wr ∧ Below w.heap.size w wr)
    (fun i _ => s.size - (intOf i).toNat)
  case atStart => exact ⟨0, Nat.zero_le _, rfl, Lib.fresh_isBuilder 103 5 w, (Below.refl _ _).alloc (Nat.le_refl _) _⟩
  case round =>
    obtain ⟨k, hk, rfl, hB, hb⟩ := hrel
    have hl : (Lib.byteCells (hexL (s.data.toList.take k))).length = 2 * k := by rw [byteCells_length, hexL_length, List.length_take]; simp; omega
    have hsz := hb.size
    go_wp2_with (first
      | (go_at_call 78; refine (writeByte w.heap.size w.heap.size _ _ _ hB (by omega) hsz).mono ?_)
      | (go_at_call 60; refine (Tryz.Builder_String_any w.heap.size w.heap.size _ _ hB hsz).mono ?_))
    · rintro e w1 ⟨rfl, hB1, hb1⟩
      have hlt : k < s.size := by assumption
      have h256 := s[k].toNat_lt
      simp only [signs_get, ← byteCells_snoc] at hB1
      have hl1 : (Lib.byteCells (hexL (s.data.toList.take k) ++ [hexd (s[k].toNat / 16)])).length = 2 * k + 1 := by rw [byteCells_snoc, List.length_append, hl]; rfl
      have hsz1 := hb1.size
      go_wp2_with (first
        | (go_at_call 78; refine (writeByte w.heap.size w.heap.size _ _ _ (.inr hB1) (by rw [hl1]; omega) (by omega)).mono ?_))
      · rintro e w2 ⟨rfl, hB2, hb2⟩
        simp only [signs_get, ← byteCells_snoc] at hB2
        rw [← hexL_take_succ _ k s[k] (ba_at s k hlt)] at hB2
        have hb3 := (hb.trans hb1).trans hb2
        go_wp2
        go_roundw
        case rel => exact ⟨k + 1, by omega, by go_num, .inr hB2, hb3⟩
        case measure => simp [intOf]; omega
    · exfalso
      rename_i hno
      have h256 := s[k].toNat_lt
      exact hno ⟨by omega, by omega⟩
    · rintro e w1 ⟨rfl, hb1⟩
      go_wp2
      go_ret
      have hke : k = s.size := by omega
      refine ⟨?_, hb.trans hb1⟩
      have : s.data.toList.take k = s.data.toList := List.take_of_length_le (by simp; omega)
      rw [this, hexW, if_neg (fun h => h0 (by simpa using congrArg List.length h))]
      rfl
theorem hex_str (s : ByteArray) (hs : s.size ≤ 100000000) (w : World) :
    Calls Tryz.prog 47 #[.string s] w fun e w' => e = .returned (S (hexW s.data.toList)) ∧ Below w.heap.size w w' := by
  by_cases h0 : s.size = 0
  · have he : s.data.toList = [] := List.length_eq_zero_iff.1 (by simpa using h0)
    have hz : ((s.size : Int) == 0) = true := by rw [h0]; rfl
    rw [he]
    go_enter Tryz.func47, Tryz.ntmps47
    go_wp2
    go_ret
    exact ⟨rfl, Below.refl _ _⟩
  · exact hex_str1 s hs h0 w
/-- a slice of bytes that can be read -/
def BytesV (w : World) (v : Value) (l : List UInt8) : Prop :=
  ∃ a c, v = .slice a l.length c ∧ (l ≠ [] → ∃ b o, a = some ⟨b, o, none⟩ ∧ b < w.heap.size ∧ ∀ (j : Nat) x, l[j]? = some x → w.cell? ⟨b, o + j, none⟩ = some (.int .u8 (x.toNat : Int)))
theorem BytesV.below {w w' : World} {v : Value} {l : List UInt8} {B : Nat} (h : BytesV w v l) (hb : Below B w w') (hB : w.heap.size ≤ B) : BytesV w' v l := by
  obtain ⟨a, c, hv, h⟩ := h
  refine ⟨a, c, hv, fun hl => ?_⟩
  obtain ⟨b, o, ha, hlt, hc⟩ := h hl
  exact ⟨b, o, ha, Nat.lt_of_lt_of_le hlt hb.size, fun j x hx => (hb.cell (by show b < B; omega)).trans (hc j x hx)⟩
theorem hex_bytes1 (b o c : Nat) (l : List UInt8) (hs : l.length ≤ 100000000) (h0 : l.length ≠ 0) (w : World) (hbl : b < w.heap.size) (hc : ∀ (j : Nat) x, l[j]? = some x → w.cell? ⟨b, o + j, none⟩ = some (.int .u8 (x.toNat : Int))) :
    Calls Tryz.prog 79 #[.slice (some ⟨b, o, none⟩) l.length c] w fun e w' => e = .returned (S (hexW l)) ∧ Below w.heap.size w w' := by
  have hz : ((l.length : Int) == 0) = false := beq_eq_false_iff_ne.2 (by omega)
  go_enter Tryz.func79, Tryz.ntmps79
  go_wp2
  go_loopw [10] (fun i wr => ∃ k : Nat, k ≤ l.length ∧ i = .int .i64 k ∧ Lib.IsBuilder 103 5 w.heap.size w.heap.size (Lib.byteCells (hexL (l.take k))) wr ∧ Below w.heap.size w wr)
    (fun i _ => l.length - (intOf i).toNat)
  case atStart => exact ⟨0, Nat.zero_le _, rfl, Lib.fresh_isBuilder 103 5 w, (Below.refl _ _).alloc (Nat.le_refl _) _⟩
  case round =>
    obtain ⟨k, hk, rfl, hB, hb⟩ := hrel
    have hl : (Lib.byteCells (hexL (l.take k))).length = 2 * k := by rw [byteCells_length, hexL_length, List.length_take]; omega
    have hsz := hb.size
    have hce : ∀ h : k < l.length, wr.cell? ⟨b, o + k, none⟩ = some (.int .u8 (l[k].toNat : Int)) := fun h => (hb.cell hbl).trans (hc k _ (List.getElem?_eq_getElem h))
    go_wp2_with (first
      | (go_at_call 78; refine (writeByte w.heap.size w.heap.size _ _ _ hB (by omega) hsz).mono ?_)
      | (go_at_call 60; refine (Tryz.Builder_String_any w.heap.size w.heap.size _ _ hB hsz).mono ?_))
    · rintro e w1 ⟨rfl, hB1, hb1⟩
      have hlt : k < l.length := by assumption
      have h256 := l[k].toNat_lt
      simp only [signs_get, ← byteCells_snoc] at hB1
      have hl1 : (Lib.byteCells (hexL (l.take k) ++ [hexd (l[k].toNat / 16)])).length = 2 * k + 1 := by rw [byteCells_snoc, List.length_append, hl]; rfl
      have hsz1 := hb1.size
      have hce1 : w1.cell? ⟨b, o + k, none⟩ = some (.int .u8 (l[k].toNat : Int)) := (hb1.cell hbl).trans (hce hlt)
      go_wp2_with (first
        | (go_at_call 78; refine (writeByte w.heap.size w.heap.size _ _ _ (.inr hB1) (by rw [hl1]; omega) (by omega)).mono ?_))
      · rintro e w2 ⟨rfl, hB2, hb2⟩
        simp only [signs_get, ← byteCells_snoc] at hB2
        rw [← hexL_take_succ _ k l[k] (List.getElem?_eq_getElem hlt)] at hB2
        have hb3 := (hb.trans hb1).trans hb2
        go_wp2
        go_roundw
        case rel => exact ⟨k + 1, by omega, by go_num, .inr hB2, hb3⟩
        case measure => simp [intOf]; omega
    · exfalso
      rename_i hno
      have hlt : k < l.length := by assumption
      have h256 := l[k].toNat_lt
      exact hno ⟨by omega, by omega⟩
    · rintro e w1 ⟨rfl, hb1⟩
      go_wp2
      go_ret
      have hke : k = l.length := by omega
      refine ⟨?_, hb.trans hb1⟩
      have : l.take k = l := List.take_of_length_le (by omega)
      rw [this, hexW, if_neg (fun h => h0 (by simp [h]))]
      rfl
theorem hex_bytes (v : Value) (l : List UInt8) (w : World) (h : BytesV w v l) (hs : l.length ≤ 100000000) :
    Calls Tryz.prog 79 #[v] w fun e w' => e = .returned (S (hexW l)) ∧ Below w.heap.size w w' := by
  obtain ⟨a, c, rfl, hv⟩ := h
  by_cases h0 : l = []
  · subst h0
    go_enter Tryz.func79, Tryz.ntmps79
    go_wp2
    go_ret
    exact ⟨rfl, Below.refl _ _⟩
  · obtain ⟨b, o, rfl, hlt, hc⟩ := hv h0
    exact hex_bytes1 b o c l hs (fun h => h0 (List.length_eq_zero_iff.1 h)) w hlt hc
end Go.Proofs.YtaojoifpekoecaaGreatDoor

