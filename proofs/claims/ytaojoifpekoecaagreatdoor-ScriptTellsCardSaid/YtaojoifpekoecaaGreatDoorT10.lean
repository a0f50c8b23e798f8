/-
  The reference's digits, Number and yes. Conditions: as each theorem says.
-/
import Derived.Test.YtaojoifpekoecaaGreatDoorT9
namespace Go.Proofs.YtaojoifpekoecaaGreatDoor
open Go.RowKit Go.Shelf
abbrev D10 : ByteArray := { data := #[48, 49, 50, 51, 52, 53, 54, 55, 56, 57] }
theorem d10_at : ∀ i : Fin 10, ((D10.data.toList.drop i.val).take 1) = [UInt8.ofNat (48 + i.val)] := by decide +kernel
theorem d10_slice (n : Int) (h0 : 0 ≤ n) (h : n < 10) (W : World) : (Instr.sliceAt 9 (.string D10) (some (.int .u64 n)) (some (.int .u64 (n + 1))) none).run Tryz.prog W = .ok (S [48 + UInt8.ofNat n.toNat]) W := by
  rw [run_sliceAt_string W 9 _ _ _ _ Tryz.underlying9, run_slice_string W 9 D10 .u64 .u64 n (n + 1) Tryz.underlying9 h0 (by omega) (by show n + 1 ≤ 10; omega)]
  have := d10_at ⟨n.toNat, by omega⟩
  have e : D10.extract n.toNat (n + 1).toNat = ⟨((D10.data.toList.drop n.toNat).take ((n + 1).toNat - n.toNat)).toArray⟩ := ByteArray.extract_mk [48, 49, 50, 51, 52, 53, 54, 55, 56, 57] _ _
  rw [e, show (n + 1).toNat - n.toNat = 1 by omega, this]
  simp [UInt8.ofNat_add]
theorem dec_one (u : Nat) (h : u < 10) : Lib.decDigits u = [48 + UInt8.ofNat u] := by rw [Lib.decDigits_one h, UInt8.ofNat_add]; rfl
set_option maxHeartbeats 400000
set_option maxRecDepth 100000 in
theorem digits (u : Nat) : ∀ w : World, u < 18446744073709551616 → Calls Tryz.prog 77 #[.int .u64 u] w fun e w' => e = .returned (S (Lib.decDigits u)) ∧ Below w.heap.size w w' := by
  induction u using Nat.strongRecOn with
  | ind u ih =>
    intro w hu
    by_cases h : u < 10
    · clear ih
      have hsl := d10_slice u (by omega) (by omega)
      rw [Int.toNat_natCast] at hsl
      rw [dec_one u h]
      go_enter Tryz.func77, Tryz.ntmps77
      go_wp2_with fail
      go_ret
      exact ⟨rfl, Below.refl _ _⟩
    · obtain ⟨q, hq⟩ : ∃ q, q = u / 10 := ⟨_, rfl⟩
      obtain ⟨m, hm⟩ : ∃ m, m = u % 10 := ⟨_, rfl⟩
      have ih' := ih q (by omega)
      clear ih
      have hql : q < 18446744073709551616 := by omega
      have hm1 : m < 10 := by omega
      obtain ⟨r, hr, hsl⟩ : ∃ r : ByteArray, r = ⟨[48 + UInt8.ofNat m].toArray⟩ ∧ ∀ W, (Instr.sliceAt 9 (.string D10) (some (.int .u64 (m : Int))) (some (.int .u64 ((m : Int) + 1))) none).run Tryz.prog W = .ok (.string r) W := ⟨_, rfl, fun W => by have := d10_slice m (by omega) (by omega) W; rwa [Int.toNat_natCast] at this⟩
      have ht : (u : Int).tmod 10 = (m : Int) := by rw [Int.tmod_eq_emod_of_nonneg (by omega)]; omega
      have hqi : IntKind.u64.wrap ((u : Int) / 10) = (q : Int) := by rw [IntKind.wrap_u64]; omega
      have hw : IntKind.u64.wrap ((m : Int) + 1) = (m : Int) + 1 := by rw [IntKind.wrap_u64]; omega
      have hk : Lib.decDigits u = Lib.decDigits q ++ [48 + UInt8.ofNat m] := by
        rw [Lib.decDigits, dif_neg h, UInt8.ofNat_add, ← hq, ← hm]; rfl
      clear hq hm
      have hnd : Lib.nDigits q ≤ 20 := by
        rcases Nat.eq_zero_or_pos q with h0 | h0
        · subst h0; rw [Lib.nDigits_small (by omega)]; omega
        · have := Lib.numDigits_eq q h0 hql; split at this <;> omega
      have hsz : (⟨(Lib.decDigits q).toArray⟩ : ByteArray).size ≤ 20 := by show (Lib.decDigits q).toArray.size ≤ 20; rw [List.size_toArray, Lib.decDigits_length]; exact hnd
      obtain ⟨dq, hdq⟩ : ∃ dq : ByteArray, dq = ⟨(Lib.decDigits q).toArray⟩ := ⟨_, rfl⟩
      have ih2 : ∀ W : World, Calls Tryz.prog 77 #[.int .u64 q] W fun e w' => e = .returned (.string dq) ∧ Below W.heap.size W w' := fun W => by rw [hdq]; exact ih' W hql
      have hcat : ¬ 9223372036854775807 < dq.size + r.size := by
        have h1 : r.size = 1 := by rw [hr]; rfl
        have h2 : dq.size ≤ 20 := by rw [hdq]; exact hsz
        omega
      have hfin : (.string (dq ++ r) : Value) = S (Lib.decDigits u) := by
        rw [hk, hdq, hr, ByteArray.mk_append_mk]
      clear ih' hdq hr hk
      go_enter Tryz.func77, Tryz.ntmps77
      go_wp2_with fail
      go_region_held3 (fun _ => True) (trivial) (first | (go_at_call 77; refine (ih2 _).mono ?_; rintro e w' ⟨rfl, hb1⟩))
      go_wp2
      go_ret
      exact ⟨rfl, (Below.refl w.heap.size w).drew.trans (hb1.mono (Nat.le_refl _))⟩
theorem short_dec (u : Nat) (hu : u < 18446744073709551616) : (Lib.decDigits u).length ≤ 20 := by
  rw [Lib.decDigits_length]
  rcases Nat.eq_zero_or_pos u with h0 | h0
  · subst h0; rw [Lib.nDigits_small (by omega)]; omega
  · have := Lib.numDigits_eq u h0 hu; split at this <;> omega
theorem number (n : Int) (h0 : -9223372036854775808 ≤ n) (h1 : n ≤ 9223372036854775807) (w : World) :
    Calls Tryz.prog 45 #[.int .i64 n] w fun e w' => e = .returned (S (Lib.itoa n)) ∧ Below w.heap.size w w' := by
  by_cases hn : n < 0
  · obtain ⟨u, hu⟩ : ∃ u : Nat, n = -(u : Int) := ⟨n.natAbs, by omega⟩
    have hwr : IntKind.u64.wrap (-IntKind.u64.wrap n) = (u : Int) := by rw [IntKind.wrap_u64, IntKind.wrap_u64]; omega
    have hl := short_dec u (by omega)
    have hit : Lib.itoa n = 45 :: Lib.decDigits u := by rw [Lib.itoa, if_pos hn, show n.natAbs = u by omega]
    obtain ⟨r, hr⟩ : ∃ r : ByteArray, r = ⟨(Lib.decDigits u).toArray⟩ := ⟨_, rfl⟩
    have hd : ∀ W, Calls Tryz.prog 77 #[.int .u64 u] W fun e w' => e = .returned (.string r) ∧ Below W.heap.size W w' := fun W => by rw [hr]; exact digits u W (by omega)
    have hrs : r.size ≤ 20 := by rw [hr]; show (Lib.decDigits u).toArray.size ≤ 20; simpa using hl
    have hcat : ¬ 9223372036854775807 < 1 + r.size := by omega
    have hfin : (.string ((⟨#[45]⟩ : ByteArray) ++ r) : Value) = S (Lib.itoa n) := by rw [hit, hr, show (⟨#[45]⟩ : ByteArray) = ⟨[45].toArray⟩ from rfl, ByteArray.mk_append_mk]; rfl
    clear hr hit hu hl
    go_enter Tryz.func45, Tryz.ntmps45
    go_wp2_with (go_at_call 77; refine (hd _).mono ?_; rintro e w' ⟨rfl, hb1⟩)
    go_ret
    exact ⟨by rw [← hfin]; rfl, hb1⟩
  · obtain ⟨u, rfl⟩ : ∃ u : Nat, n = u := ⟨n.toNat, by omega⟩
    go_enter Tryz.func45, Tryz.ntmps45
    go_wp2_with (go_at_call 77; refine (digits u _ (by omega)).mono ?_; rintro e w' ⟨rfl, hb1⟩)
    go_ret
    refine ⟨?_, hb1⟩
    rw [Lib.itoa_nonneg]
    rfl
theorem yes (b : Bool) (w : World) :
    Calls Tryz.prog 54 #[.bool b] w fun e w' => e = .returned (S (ansW b)) ∧ Below w.heap.size w w' := by
  cases b
  · go_enter Tryz.func54, Tryz.ntmps54
    go_wp2
    go_ret
    exact ⟨rfl, Below.refl _ _⟩
  · go_enter Tryz.func54, Tryz.ntmps54
    go_wp2
    go_ret
    exact ⟨rfl, Below.refl _ _⟩
end Go.Proofs.YtaojoifpekoecaaGreatDoor

