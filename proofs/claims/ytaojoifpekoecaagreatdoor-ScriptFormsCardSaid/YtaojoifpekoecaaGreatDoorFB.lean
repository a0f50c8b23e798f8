/-
  Words: numbers, bytes, messages, outcomes told as text, by the program and by the reference. Conditions: as each theorem says.
-/
import Derived.Test.YtaojoifpekoecaaGreatDoorFA
import Derived.Test.YtaojoifpekoecaaGreatDoorProg
import Derived.WalkKit
import Derived.LoopN
import Derived.Laws.Rows
import Derived.Lib.AppendIntMem
import Derived.Deep.Light
import Derived.Shelf.Strings.BuilderX
import Derived.Shelf.Strings.Builder1
import Derived.Deep.RegionHeld3
import Derived.Deep.MidRow
import Derived.Deep.WholeRow
import Derived.Lib.ConvBytes
import Derived.Deep.QuietTactic
namespace Go.Proofs.YtaojoifpekoecaaGreatDoor
open Go.RowKit Go.Shelf Go.Sort
abbrev Pow (w : World) : Prop := Lib.TabIs Tryz.prog w "internal/strconv.uint64pow10" .u64 Lib.pow10Tab
abbrev S (l : List UInt8) : Value := .string ⟨l.toArray⟩
set_option maxHeartbeats 1000000
/-- internal/strconv.FormatUint at base 10 -/
theorem fmtUint_in (u : Nat) (hu64 : u < 18446744073709551616) (w : World) (htab : Pow w) :
    Calls Tryz.prog 103 #[.int .u64 u, .int .i64 10] w fun e w' => e = .returned (S (Lib.decDigits u)) ∧ Below w.heap.size w w' := by
  by_cases hs : u < 100
  · go_enter Tryz.func103, Tryz.ntmps103
    go_wp2_with (go_at_call 139; refine (Tryz.internal_strconv_small u hs _).mono ?_; rintro e w' ⟨rfl, rfl⟩)
    go_ret
    exact ⟨rfl, Below.refl _ _⟩
  · have hu1 : 1 ≤ u := by omega
    have hnd20 : Lib.nDigits u ≤ 20 := by have := Lib.numDigits_eq u hu1 hu64; split at this <;> omega
    have hsl : ∀ W, (Instr.sliceAt 198 (.pointer (some ⟨w.heap.size, 0, none⟩)) none (some (.int .i64 (Lib.nDigits u : Int))) none).run Tryz.prog W = .ok (.slice (some ⟨w.heap.size, 0, none⟩) (Lib.nDigits u) 24) W := fun W => by
      rw [run_sliceAt_array_h W 198 ⟨w.heap.size, 0, none⟩ (by simp [Program.arrayLen, Program.elem, Tryz.underlying198]) .i64 (Lib.nDigits u : Int) (by omega) (by simp [Program.arrayLen, Tryz.underlying198]; omega)]
      go_simp
    have hH0 := Lib.holds_zero0 w 198 (Lib.nDigits u) (by omega)
    have hfmt := Tryz.internal_strconv_formatBase10 w.heap.size 0 24 u (Array.replicate (Lib.nDigits u) 0) (w.alloc (.cells Lib.zeros24 198)) hH0 (by rw [Array.size_replicate]; exact Lib.lt_pow_nDigits u) hu64 (by rw [Array.size_replicate]; omega)
    rw [Array.size_replicate] at hfmt
    have HH0 := Lib.hid hH0
    clear hH0
    go_enter Tryz.func103, Tryz.ntmps103
    go_wp2_with (first
      | (go_at_call 140; refine (Tryz.internal_strconv_numDigits u hu1 hu64 _ (Lib.tabIs_alloc htab _)).mono ?_; rintro e w' ⟨rfl, rfl⟩))
    go_at_call 141
    refine hfmt.mono ?_
    rintro e w' ⟨rfl, k, v', dk, rfl, hF⟩
    have hcv : (convert 23 9 (.slice (some ⟨w.heap.size, 0, none⟩) (Lib.nDigits u) 24)).run Tryz.prog ((putRow (fun (b : UInt8) => Value.int .u8 (b.toNat : Int)) (w.alloc (.cells Lib.zeros24 198)) w.heap.size 0 dk).drewN k) = .ok (S (Lib.decDigits u)) ((putRow (fun (b : UInt8) => Value.int .u8 (b.toNat : Int)) (w.alloc (.cells Lib.zeros24 198)) w.heap.size 0 dk).drewN k) := by
      have h := run_convert_bytes_back (P := Tryz.prog) ((putRow (fun (b : UInt8) => Value.int .u8 (b.toNat : Int)) (w.alloc (.cells Lib.zeros24 198)) w.heap.size 0 dk).drewN k) 23 9 5 ⟨w.heap.size, 0, none⟩ 24 (Lib.decDigits u) Tryz.underlying23 Tryz.underlying5 Tryz.underlying9 (fun j hj => by
        rw [Lib.row_is_numeral hF j hj, Lib.add_plain, World.cell?_drewN]
        exact cell?_putRow (fun (b : UInt8) => Value.int .u8 (b.toNat : Int)) _ w.heap.size 0 _ dk HH0.out (by rw [hF.size, Array.size_replicate]) j (by rw [hF.size]; rw [Lib.decDigits_length] at hj; exact hj))
      rw [Lib.decDigits_length] at h
      exact h
    go_wp2
    go_ret
    obtain ⟨os, eo⟩ := Lib.fin_at w (.cells Lib.zeros24 198) dk k 0
    rw [eo]
    exact ⟨rfl, Lib.below_grow _ _ (Nat.le_refl _) _ _⟩
/-- strconv.FormatUint at base 10 -/
theorem fmtUint (u : Nat) (hu64 : u < 18446744073709551616) (w : World) (htab : Pow w) :
    Calls Tryz.prog 75 #[.int .u64 u, .int .i64 10] w fun e w' => e = .returned (S (Lib.decDigits u)) ∧ Below w.heap.size w w' := by
  go_enter Tryz.func75, Tryz.ntmps75
  go_wp2_with (go_at_call 103; refine (fmtUint_in u hu64 _ htab).mono ?_; rintro e w' ⟨rfl, hb⟩)
  go_ret
  exact ⟨rfl, hb⟩
end Go.Proofs.YtaojoifpekoecaaGreatDoor



namespace Go.Proofs.YtaojoifpekoecaaGreatDoor
open Go.RowKit Go.Shelf
theorem sizeBuilder : (Tryz.prog.info? 103).map (·.size) = some 2 := by kernel_rfl
theorem liesBuilder : liesAt Tryz.prog Tryz.prog.depth 103 (2 / Tryz.prog.cellsOf 103) 0 103 1 = true := by kernel_rfl
theorem infoByte : (Tryz.prog.info? 5).map (fun i => (i.zero, i.size, i.bytes)) = some (some (.int .u8 0), 1, 1) := by kernel_rfl
set_option maxHeartbeats 2000000
set_option maxRecDepth 100000 in
theorem copyCheck_used (b : Nat) (w : World) (h0 : w.cell? ⟨b, 0, none⟩ = some (.pointer (some ⟨b, 0, none⟩))) :
    Calls Tryz.prog 86 #[.pointer (some ⟨b, 0, none⟩)] w fun e w' => e = .returned (.tuple #[]) ∧ w' = w := by
  obtain ⟨j, hj, _⟩ := Option.map_eq_some_iff.1 sizeBuilder
  go_enter Tryz.func86, Tryz.ntmps86
  go_wp2
  rw [Lib.run_neq_ptr_same w _ Tryz.underlying101 hj]
  go_wp2
  go_end0
  exact ⟨rfl, rfl⟩
set_option maxRecDepth 100000 in
theorem copyCheck_fresh (b : Nat) (w : World) (h0 : w.cell? ⟨b, 0, none⟩ = some (.pointer none)) (hsh : w.shape? b = some (103, 2)) (hfz : w.frozen? ⟨b, 0, none⟩ = false) :
    Calls Tryz.prog 86 #[.pointer (some ⟨b, 0, none⟩)] w fun e w' => e = .returned (.tuple #[]) ∧ w' = w.setCell ⟨b, 0, none⟩ (.pointer (some ⟨b, 0, none⟩)) := by
  obtain ⟨j, hj, hjs⟩ := Option.map_eq_some_iff.1 sizeBuilder
  go_enter Tryz.func86, Tryz.ntmps86
  go_wp2
  rw [Lib.run_to_unsafe w ⟨b, 0, none⟩ Tryz.underlying101 Tryz.underlying172 hj (by rw [hjs]; decide) hsh (Nat.zero_lt_succ 1)]
  simp only [Result.andThen]
  rw [Oper.upon_value]
  go_wp2
  rw [run_callFunc_extern Tryz.func106 (by kernel_rfl) (by kernel_rfl) (by kernel_rfl) (e := Extern.AbiNoEscape.same) (by kernel_rfl)]
  rw [Lib.run_noEscape]
  simp only [Result.andThen]
  rw [Oper.upon_value]
  go_wp2
  rw [Lib.run_from_unsafe w ⟨b, 0, none⟩ Tryz.underlying172 Tryz.underlying101 hj hsh liesBuilder]
  simp only [Result.andThen]
  rw [Oper.upon_value]
  go_wp2
  go_end0
  exact ⟨rfl, rfl⟩
theorem copyCheck (B b : Nat) (bs : List Value) (w : World) (h : Lib.IsBuilder 103 5 B b bs w) :
    Calls Tryz.prog 86 #[.pointer (some ⟨b, 0, none⟩)] w fun e w' => e = .returned (.tuple #[]) ∧ (Lib.BuilderAt 103 5 B b (.pointer (some ⟨b, 0, none⟩)) bs w' ∧ Below B w w') := by
  rcases h with h | h
  · refine (copyCheck_fresh b w h.cell0 h.shape h.frozen0).mono ?_
    rintro e w' ⟨rfl, rfl⟩
    exact ⟨rfl, h.used _, (Below.refl B w).setCell (p := ⟨b, 0, none⟩) h.1 _⟩
  · refine (copyCheck_used b w h.cell0).mono ?_
    rintro e w' ⟨rfl, rfl⟩
    exact ⟨rfl, h, Below.refl B _⟩
set_option maxRecDepth 100000 in
theorem writeByte (B b : Nat) (bs : List Value) (c : Int) (w : World) (h : Lib.IsBuilder 103 5 B b bs w) (hlen : bs.length + 1 ≤ 140737488355328) (hBw : B ≤ w.heap.size) :
    Calls Tryz.prog 78 #[.pointer (some ⟨b, 0, none⟩), .int .u8 c] w fun e w' => e = .returned .nilIface ∧ (Lib.BuilderAt 103 5 B b (.pointer (some ⟨b, 0, none⟩)) (bs ++ [.int .u8 c]) w' ∧ Below B w w') := by
  obtain ⟨i0, hi, hz0, hz1, hz2⟩ := info_parts infoByte
  go_enter Tryz.func78, Tryz.ntmps78
  go_wp2_with (go_at_call 86; refine (copyCheck B b bs _ h).mono ?_)
  rintro e w1 ⟨rfl, h1, hb1⟩
  obtain ⟨hB, v, hbk, hown, hne⟩ := h1
  have c0 : w1.cell? ⟨b, 0, none⟩ = some (.pointer (some ⟨b, 0, none⟩)) := by rw [Lib.cell_of_heap hbk]; rfl
  have c1 : w1.cell? ⟨b, 1, none⟩ = some v := by rw [Lib.cell_of_heap hbk]; rfl
  go_wp2_with (at_builtin; refine wpList_append_own _ rfl _ _ 23 rfl B 5 i0 (.int .u8 0) 1 1 Tryz.underlying23 hi hz0 hz1 hz2 rfl (by decide) _ _ _ rfl (hown.alloc _) ⟨w1.heap.size, 0, none⟩ 1 1 [.int .u8 c] rfl rfl ?c1 ?c2 ?c3 ?c4 ?c5 ?_)
  case c1 =>
    intro j u hj
    match j, hj with
    | 0, hj => simp at hj; subst hj; simp [Addr.add]
  case c2 => intro u hu; simp at hu; subst hu; rfl
  case c3 => unfold maxLen; omega
  case c4 => omega
  case c5 => have := hb1.size; simp; omega
  intro v' w2 hown' hgrow _
  have hlt : b < w1.heap.size := by
    rcases Nat.lt_or_ge b w1.heap.size with h' | h'
    · exact h'
    · simp [Array.getElem?_eq_none h'] at hbk
  have hb2 : w2.heap[b]? = some (.cells #[.pointer (some ⟨b, 0, none⟩), v] 103 (0, 0)) := by
    rw [hgrow.block b (by simp; omega) (fun e => hne e.symm), Lib.alloc_old w1 _ b hlt]
    exact hbk
  have d0 : w2.cell? ⟨b, 0, none⟩ = some (.pointer (some ⟨b, 0, none⟩)) := by rw [Lib.cell_of_heap hb2]; rfl
  have d1 : w2.cell? ⟨b, 1, none⟩ = some v := by rw [Lib.cell_of_heap hb2]; rfl
  have f1 : w2.frozen? ⟨b, 1, none⟩ = false := Lib.frozen_of_heap hb2 1
  obtain ⟨g, cap, rfl⟩ : ∃ g cap, v' = .slice (some ⟨g, 0, none⟩) (bs.length + 1) cap := by
    rcases hown'.2 with ⟨_, h0⟩ | ⟨g, cap, cur, hv, _⟩
    · omega
    · exact ⟨g, cap, hv⟩
  go_wp2
  go_ret
  refine ⟨rfl, ?_, ?_⟩
  · exact Lib.BuilderAt.put (T := 103) (e := 5) hB hb2 (bs' := bs ++ [.int .u8 c]) (by simpa using hown') (by decide)
  · exact ((hb1.alloc (by have := hb1.size; omega) _).grown hgrow (by have := hb1.size; simp; omega) (fun k hk => (hown.lt k hk).1)).setCell (p := ⟨b, 1, none⟩) hB _
end Go.Proofs.YtaojoifpekoecaaGreatDoor



namespace Go.Proofs.YtaojoifpekoecaaGreatDoor
open Go.RowKit Go.Shelf
def hexd (n : Nat) : UInt8 := UInt8.ofNat (if n < 10 then 48 + n else 87 + n)
def hexL (l : List UInt8) : List UInt8 := l.flatMap fun b => [hexd (b.toNat / 16), hexd (b.toNat % 16)]
def hexW (l : List UInt8) : List UInt8 := if l = [] then [45] else hexL l
abbrev signs : ByteArray := { data := #[48, 49, 50, 51, 52, 53, 54, 55, 56, 57, 97, 98, 99, 100, 101, 102] }
theorem signs_at : ∀ i : Fin 16, signs.data.toList[i.val]? = some (hexd i.val) := by decide +kernel
theorem signs_get (n : Nat) (h : n < signs.size) : signs[n] = hexd n := by
  have h16 : n < 16 := h
  have := signs_at ⟨n, h16⟩
  have e : signs.data.toList[n]? = some signs[n] := by
    rw [List.getElem?_eq_getElem (by simpa using h16)]; rfl
  rw [e] at this
  exact Option.some.inj this
theorem hexL_length (l : List UInt8) : (hexL l).length = 2 * l.length := by
  induction l with
  | nil => rfl
  | cons b l ih => simp only [hexL, List.flatMap_cons, List.length_append, List.length_cons, List.length_nil] at ih ⊢; omega
theorem hexL_take_succ (l : List UInt8) (k : Nat) (b : UInt8) (h : l[k]? = some b) : hexL (l.take (k + 1)) = hexL (l.take k) ++ [hexd (b.toNat / 16)] ++ [hexd (b.toNat % 16)] := by
  rw [List.take_add_one, h]
  simp [hexL]
theorem byteCells_snoc (l : List UInt8) (b : UInt8) : Lib.byteCells (l ++ [b]) = Lib.byteCells l ++ [.int .u8 (b.toNat : Int)] := by simp [Lib.byteCells]
theorem byteCells_length (l : List UInt8) : (Lib.byteCells l).length = l.length := by simp [Lib.byteCells]
theorem ba_at (s : ByteArray) (k : Nat) (h : k < s.size) : s.data.toList[k]? = some s[k] := by
  rw [List.getElem?_eq_getElem (by simpa using h)]; rfl
set_option maxHeartbeats 2000000
theorem hex_str1 (s : ByteArray) (hs : s.size ≤ 100000000) (h0 : s.size ≠ 0) (w : World) :
    Calls Tryz.prog 47 #[.string s] w fun e w' => e = .returned (S (hexW s.data.toList)) ∧ Below w.heap.size w w' := by
  have hz : ((s.size : Int) == 0) = false := beq_eq_false_iff_ne.2 (by omega)
  go_enter Tryz.func47, Tryz.ntmps47
  go_wp2
  go_loopw [10] (fun i wr => ∃ k : Nat, k ≤ s.size ∧ i = .int .i64 k ∧ Lib.IsBuilder 103 5 w.heap.size w.heap.size (Lib.byteCells (hexL (s.data.toList.take k))) wr ∧ Below w.heap.size w wr)
    (fun i _ => s.size - (intOf i).toNat)
  case atStart => exact ⟨0, Nat.zero_le _, rfl, Lib.fresh_isBuilder 103 5 w, (Below.refl _ _).alloc (Nat.le_refl _) _⟩
  case round =>
    obtain ⟨k, hk, rfl, hB, hb⟩ := hrel
    have hl : (Lib.byteCells (hexL (s.data.toList.take k))).length = 2 * k := by rw [byteCells_length, hexL_length, List.length_take]; simp; omega
    have hsz := hb.size
    go_wp2_with (first
      | (go_at_call 78; refine (writeByte w.heap.size w.heap.size _ _ _ hB (by omega) hsz).mono ?_)
      | (go_at_call 60; refine (Tryz.Builder_String_any w.heap.size w.heap.size _ _ hB hsz).mono ?_))
    · rintro e w1 ⟨rfl, hB1, hb1⟩
      have hlt : k < s.size := by assumption
      have h256 := s[k].toNat_lt
      simp only [signs_get, ← byteCells_snoc] at hB1
      have hl1 : (Lib.byteCells (hexL (s.data.toList.take k) ++ [hexd (s[k].toNat / 16)])).length = 2 * k + 1 := by rw [byteCells_snoc, List.length_append, hl]; rfl
      have hsz1 := hb1.size
      go_wp2_with (first
        | (go_at_call 78; refine (writeByte w.heap.size w.heap.size _ _ _ (.inr hB1) (by rw [hl1]; omega) (by omega)).mono ?_))
      · rintro e w2 ⟨rfl, hB2, hb2⟩
        simp only [signs_get, ← byteCells_snoc] at hB2
        rw [← hexL_take_succ _ k s[k] (ba_at s k hlt)] at hB2
        have hb3 := (hb.trans hb1).trans hb2
        go_wp2
        go_roundw
        case rel => exact ⟨k + 1, by omega, by go_num, .inr hB2, hb3⟩
        case measure => simp [intOf]; omega
    · exfalso
      rename_i hno
      have h256 := s[k].toNat_lt
      exact hno ⟨by omega, by omega⟩
    · rintro e w1 ⟨rfl, hb1⟩
      go_wp2
      go_ret
      have hke : k = s.size := by omega
      refine ⟨?_, hb.trans hb1⟩
      have : s.data.toList.take k = s.data.toList := List.take_of_length_le (by simp; omega)
      rw [this, hexW, if_neg (fun h => h0 (by simpa using congrArg List.length h))]
      rfl
theorem hex_str (s : ByteArray) (hs : s.size ≤ 100000000) (w : World) :
    Calls Tryz.prog 47 #[.string s] w fun e w' => e = .returned (S (hexW s.data.toList)) ∧ Below w.heap.size w w' := by
  by_cases h0 : s.size = 0
  · have he : s.data.toList = [] := List.length_eq_zero_iff.1 (by simpa using h0)
    have hz : ((s.size : Int) == 0) = true := by rw [h0]; rfl
    rw [he]
    go_enter Tryz.func47, Tryz.ntmps47
    go_wp2
    go_ret
    exact ⟨rfl, Below.refl _ _⟩
  · exact hex_str1 s hs h0 w
/-- a slice of bytes that can be read -/
def BytesV (w : World) (v : Value) (l : List UInt8) : Prop :=
  ∃ a c, v = .slice a l.length c ∧ (l ≠ [] → ∃ b o, a = some ⟨b, o, none⟩ ∧ b < w.heap.size ∧ ∀ (j : Nat) x, l[j]? = some x → w.cell? ⟨b, o + j, none⟩ = some (.int .u8 (x.toNat : Int)))
theorem BytesV.below {w w' : World} {v : Value} {l : List UInt8} {B : Nat} (h : BytesV w v l) (hb : Below B w w') (hB : w.heap.size ≤ B) : BytesV w' v l := by
  obtain ⟨a, c, hv, h⟩ := h
  refine ⟨a, c, hv, fun hl => ?_⟩
  obtain ⟨b, o, ha, hlt, hc⟩ := h hl
  exact ⟨b, o, ha, Nat.lt_of_lt_of_le hlt hb.size, fun j x hx => (hb.cell (by show b < B; omega)).trans (hc j x hx)⟩
theorem hex_bytes1 (b o c : Nat) (l : List UInt8) (hs : l.length ≤ 100000000) (h0 : l.length ≠ 0) (w : World) (hbl : b < w.heap.size) (hc : ∀ (j : Nat) x, l[j]? = some x → w.cell? ⟨b, o + j, none⟩ = some (.int .u8 (x.toNat : Int))) :
    Calls Tryz.prog 79 #[.slice (some ⟨b, o, none⟩) l.length c] w fun e w' => e = .returned (S (hexW l)) ∧ Below w.heap.size w w' := by
  have hz : ((l.length : Int) == 0) = false := beq_eq_false_iff_ne.2 (by omega)
  go_enter Tryz.func79, Tryz.ntmps79
  go_wp2
  go_loopw [10] (fun i wr => ∃ k : Nat, k ≤ l.length ∧ i = .int .i64 k ∧ Lib.IsBuilder 103 5 w.heap.size w.heap.size (Lib.byteCells (hexL (l.take k))) wr ∧ Below w.heap.size w wr)
    (fun i _ => l.length - (intOf i).toNat)
  case atStart => exact ⟨0, Nat.zero_le _, rfl, Lib.fresh_isBuilder 103 5 w, (Below.refl _ _).alloc (Nat.le_refl _) _⟩
  case round =>
    obtain ⟨k, hk, rfl, hB, hb⟩ := hrel
    have hl : (Lib.byteCells (hexL (l.take k))).length = 2 * k := by rw [byteCells_length, hexL_length, List.length_take]; omega
    have hsz := hb.size
    have hce : ∀ h : k < l.length, wr.cell? ⟨b, o + k, none⟩ = some (.int .u8 (l[k].toNat : Int)) := fun h => (hb.cell hbl).trans (hc k _ (List.getElem?_eq_getElem h))
    go_wp2_with (first
      | (go_at_call 78; refine (writeByte w.heap.size w.heap.size _ _ _ hB (by omega) hsz).mono ?_)
      | (go_at_call 60; refine (Tryz.Builder_String_any w.heap.size w.heap.size _ _ hB hsz).mono ?_))
    · rintro e w1 ⟨rfl, hB1, hb1⟩
      have hlt : k < l.length := by assumption
      have h256 := l[k].toNat_lt
      simp only [signs_get, ← byteCells_snoc] at hB1
      have hl1 : (Lib.byteCells (hexL (l.take k) ++ [hexd (l[k].toNat / 16)])).length = 2 * k + 1 := by rw [byteCells_snoc, List.length_append, hl]; rfl
      have hsz1 := hb1.size
      have hce1 : w1.cell? ⟨b, o + k, none⟩ = some (.int .u8 (l[k].toNat : Int)) := (hb1.cell hbl).trans (hce hlt)
      go_wp2_with (first
        | (go_at_call 78; refine (writeByte w.heap.size w.heap.size _ _ _ (.inr hB1) (by rw [hl1]; omega) (by omega)).mono ?_))
      · rintro e w2 ⟨rfl, hB2, hb2⟩
        simp only [signs_get, ← byteCells_snoc] at hB2
        rw [← hexL_take_succ _ k l[k] (List.getElem?_eq_getElem hlt)] at hB2
        have hb3 := (hb.trans hb1).trans hb2
        go_wp2
        go_roundw
        case rel => exact ⟨k + 1, by omega, by go_num, .inr hB2, hb3⟩
        case measure => simp [intOf]; omega
    · exfalso
      rename_i hno
      have hlt : k < l.length := by assumption
      have h256 := l[k].toNat_lt
      exact hno ⟨by omega, by omega⟩
    · rintro e w1 ⟨rfl, hb1⟩
      go_wp2
      go_ret
      have hke : k = l.length := by omega
      refine ⟨?_, hb.trans hb1⟩
      have : l.take k = l := List.take_of_length_le (by omega)
      rw [this, hexW, if_neg (fun h => h0 (by simp [h]))]
      rfl
theorem hex_bytes (v : Value) (l : List UInt8) (w : World) (h : BytesV w v l) (hs : l.length ≤ 100000000) :
    Calls Tryz.prog 79 #[v] w fun e w' => e = .returned (S (hexW l)) ∧ Below w.heap.size w w' := by
  obtain ⟨a, c, rfl, hv⟩ := h
  by_cases h0 : l = []
  · subst h0
    go_enter Tryz.func79, Tryz.ntmps79
    go_wp2
    go_ret
    exact ⟨rfl, Below.refl _ _⟩
  · obtain ⟨b, o, rfl, hlt, hc⟩ := hv h0
    exact hex_bytes1 b o c l hs (fun h => h0 (List.length_eq_zero_iff.1 h)) w hlt hc
end Go.Proofs.YtaojoifpekoecaaGreatDoor



namespace Go.Proofs.YtaojoifpekoecaaGreatDoor
open Go.RowKit Go.Shelf
set_option maxHeartbeats 1000000
theorem num_int (n : Int) (h0 : -9223372036854775808 ≤ n) (h1 : n ≤ 9223372036854775807) (w : World) (htab : Pow w) :
    Calls Tryz.prog 40 #[.int .i64 n] w fun e w' => e = .returned (S (Lib.itoa n)) ∧ Below w.heap.size w w' := by
  by_cases hn : n < 0
  · go_enter Tryz.func40, Tryz.ntmps40
    go_wp2_with (go_at_call 74; refine (Tryz.strconv_Itoa n h0 h1 _ htab).mono ?_; rintro e w' ⟨rfl, k, os, rfl⟩)
    go_wp2
    go_ret
    exact ⟨rfl, Lib.below_grow _ _ (Nat.le_refl _) _ _⟩
  · obtain ⟨u, rfl⟩ : ∃ u : Nat, n = u := ⟨n.toNat, by omega⟩
    go_enter Tryz.func40, Tryz.ntmps40
    go_wp2_with (go_at_call 75; refine (fmtUint u (by omega) _ htab).mono ?_; rintro e w' ⟨rfl, hb⟩)
    go_wp2
    go_ret
    refine ⟨?_, hb⟩
    rw [Lib.itoa_nonneg]
    rfl
theorem num_u8 (u : Nat) (h1 : u < 256) (w : World) (htab : Pow w) :
    Calls Tryz.prog 63 #[.int .u8 u] w fun e w' => e = .returned (S (Lib.decDigits u)) ∧ Below w.heap.size w w' := by
  go_enter Tryz.func63, Tryz.ntmps63
  go_wp2_with (go_at_call 75; refine (fmtUint u (by omega) _ htab).mono ?_; rintro e w' ⟨rfl, hb⟩)
  go_wp2
  go_ret
  exact ⟨rfl, hb⟩
theorem num_u32 (u : Nat) (h1 : u < 4294967296) (w : World) (htab : Pow w) :
    Calls Tryz.prog 41 #[.int .u32 u] w fun e w' => e = .returned (S (Lib.decDigits u)) ∧ Below w.heap.size w w' := by
  go_enter Tryz.func41, Tryz.ntmps41
  go_wp2_with (go_at_call 75; refine (fmtUint u (by omega) _ htab).mono ?_; rintro e w' ⟨rfl, hb⟩)
  go_wp2
  go_ret
  exact ⟨rfl, hb⟩
theorem num_u64 (u : Nat) (h1 : u < 18446744073709551616) (w : World) (htab : Pow w) :
    Calls Tryz.prog 93 #[.int .u64 u] w fun e w' => e = .returned (S (Lib.decDigits u)) ∧ Below w.heap.size w w' := by
  go_enter Tryz.func93, Tryz.ntmps93
  go_wp2_with (go_at_call 75; refine (fmtUint u (by omega) _ htab).mono ?_; rintro e w' ⟨rfl, hb⟩)
  go_wp2
  go_ret
  exact ⟨rfl, hb⟩
def ansW (b : Bool) : List UInt8 := if b then [121, 101, 115] else [110, 111]
theorem answer (b : Bool) (w : World) :
    Calls Tryz.prog 46 #[.bool b] w fun e w' => e = .returned (S (ansW b)) ∧ Below w.heap.size w w' := by
  cases b
  · go_enter Tryz.func46, Tryz.ntmps46
    go_wp2
    go_ret
    exact ⟨rfl, Below.refl _ _⟩
  · go_enter Tryz.func46, Tryz.ntmps46
    go_wp2
    go_ret
    exact ⟨rfl, Below.refl _ _⟩
/-- a slice of texts that lies in the world -/
def StrsV (w : World) (v : Value) (xs : List (List UInt8)) : Prop :=
  ∃ a c, v = .slice a xs.length c ∧ xs.length ≤ c ∧ (xs ≠ [] → ∃ b o, a = some ⟨b, o, none⟩ ∧ b < w.heap.size ∧ ∀ (j : Nat) x, xs[j]? = some x → w.cell? ⟨b, o + j, none⟩ = some (S x))
theorem join_any (v : Value) (xs : List (List UInt8)) (sep : List UInt8) (w : World) (h : StrsV w v xs) (hN : xs.length ≤ 100000000) (hlen : (Lib.join xs sep).length ≤ 140737488355328) :
    Calls Tryz.prog 39 #[v, S sep] w fun e w' => e = .returned (S (Lib.join xs sep)) ∧ Below w.heap.size w w' := by
  obtain ⟨a, c, rfl, hc, hv⟩ := h
  by_cases h0 : xs = []
  · subst h0
    refine (Tryz.strings_Join_none a c ⟨sep.toArray⟩ w).mono fun e w' ⟨he, hw⟩ => ⟨he, hw ▸ Below.refl _ _⟩
  · obtain ⟨b, o, rfl, hlt, hcell⟩ := hv h0
    have e : (xs.map fun x => (⟨x.toArray⟩ : ByteArray)).map (·.data.toList) = xs := by
      rw [List.map_map]; exact List.map_id' xs
    have := Tryz.strings_Join b o c (xs.map fun x => (⟨x.toArray⟩ : ByteArray)) ⟨sep.toArray⟩ w (fun j x hx => by
      rw [List.getElem?_map] at hx
      obtain ⟨y, hy, rfl⟩ := Option.map_eq_some_iff.1 hx
      exact hcell j y hy) hlt (by simpa using Nat.le_trans hN (by decide)) (by simpa using hc) (by rw [e]; exact hlen)
    rw [e, List.length_map] at this
    exact this
theorem points (v : Value) (xs : List (List UInt8)) (w : World) (h : StrsV w v xs) (hN : xs.length ≤ 100000000) (hlen : (Lib.join xs [46]).length ≤ 140737488355328) :
    Calls Tryz.prog 76 #[v] w fun e w' => e = .returned (S (Lib.join xs [46])) ∧ Below w.heap.size w w' := by
  go_enter Tryz.func76, Tryz.ntmps76
  go_wp2_with (go_at_call 39; refine (join_any v xs [46] _ h hN hlen).mono ?_; rintro e w' ⟨rfl, hb⟩)
  go_wp2
  go_ret
  exact ⟨rfl, hb⟩
end Go.Proofs.YtaojoifpekoecaaGreatDoor



namespace Go.Proofs.YtaojoifpekoecaaGreatDoor
open Go.RowKit Go.Shelf
theorem powG : Tryz.prog.globalNamed "internal/strconv.uint64pow10" = some 3 := by kernel_rfl
theorem Pow.below {w w' : World} {B : Nat} (h : Pow w) (hb : Below B w w') (hB : w.heap.size ≤ B) : Pow w' := by
  unfold Pow Lib.TabIs World.var? at *
  rw [powG] at h ⊢
  simp only [Option.bind_some] at h ⊢
  have h0 : 3 < w.heap.size := by
    cases hq : w.heap[3]? with
    | none => rw [hq] at h; cases h
    | some o => exact (Array.getElem?_eq_some_iff.1 hq).1
  rw [hb.block 3 (by omega)]
  exact h
theorem hex_strL (l : List UInt8) (hs : l.length ≤ 100000000) (w : World) :
    Calls Tryz.prog 47 #[S l] w fun e w' => e = .returned (S (hexW l)) ∧ Below w.heap.size w w' :=
  hex_str ⟨l.toArray⟩ (by show l.toArray.size ≤ _; simpa using hs) w
theorem strs_new (w : World) (xs : List (List UInt8)) (t : TypeId) : StrsV (w.alloc (.cells (xs.map S).toArray t)) (.slice (some ⟨w.heap.size, 0, none⟩) xs.length xs.length) xs :=
  ⟨_, _, rfl, Nat.le_refl _, fun _ => ⟨w.heap.size, 0, rfl, by simp, fun j x hx => by rw [World.cell?_alloc_new]; simp [hx]⟩⟩
/-- what a word's walk keeps: the parameter's cells, the table, what was there -/
def Kp (w : World) (c : Array Value) (w' : World) : Prop := w'.heap[w.heap.size]?.bind (fun o => match o with | .cells c _ _ => some c | _ => none) = some c ∧ Pow w' ∧ Below w.heap.size w w' ∧ w.heap.size + 1 ≤ w'.heap.size
theorem Kp.step {w w1 w2 : World} {c : Array Value} (h : Kp w c w1) (hb : Below w1.heap.size w1 w2) : Kp w c w2 := by
  obtain ⟨h1, h2, h3, h4⟩ := h
  refine ⟨?_, h2.below hb (Nat.le_refl _), h3.trans (hb.mono (by omega)), Nat.le_trans h4 hb.size⟩
  rw [hb.block _ (by omega)]; exact h1
theorem Kp.cell {w w1 : World} {c : Array Value} (h : Kp w c w1) (j : Nat) : w1.cell? ⟨w.heap.size, j, none⟩ = c[j]? := by
  have h1 := h.1
  unfold World.cell?
  cases hq : w1.heap[w.heap.size]? with
  | none => rw [hq] at h1; cases h1
  | some o =>
    rw [hq] at h1
    cases o with
    | cells c' t fr => simp only [Option.bind_some, Option.some.injEq] at h1; subst h1; rfl
    | _ => simp at h1
theorem Kp.init {w : World} (h : Pow w) (c : Array Value) (t : TypeId) : Kp w c (w.alloc (.cells c t)) :=
  ⟨by rw [heap_alloc_new]; rfl, h.below ((Below.refl _ _).alloc (Nat.le_refl _) _) (Nat.le_refl _), (Below.refl _ _).alloc (Nat.le_refl _) _, by simp⟩
theorem Kp.drew {w w1 : World} {c : Array Value} (h : Kp w c w1) : Kp w c w1.drew := h.step (Below.refl _ _).drew
theorem Kp.pow {w w1 : World} {c : Array Value} (h : Kp w c w1) : Pow w1 := h.2.1
theorem Kp.below {w w1 : World} {c : Array Value} (h : Kp w c w1) : Below w.heap.size w w1 := h.2.2.1
theorem Kp.five {w w1 : World} {a b c d e : Value} (h : Kp w #[a, b, c, d, e] w1) : w1.cell? ⟨w.heap.size, 0, none⟩ = some a ∧ w1.cell? ⟨w.heap.size, 1, none⟩ = some b ∧ w1.cell? ⟨w.heap.size, 2, none⟩ = some c ∧ w1.cell? ⟨w.heap.size, 3, none⟩ = some d ∧ w1.cell? ⟨w.heap.size, 4, none⟩ = some e ∧ Kp w #[a, b, c, d, e] w1 :=
  ⟨h.cell 0, h.cell 1, h.cell 2, h.cell 3, h.cell 4, h⟩
def msgW (p t c : Nat) (id body : List UInt8) : List UInt8 := Lib.join [Lib.decDigits p, Lib.decDigits t, Lib.decDigits c, hexW id, hexW body] [46]
set_option maxHeartbeats 4000000
theorem msgWord (p t c : Nat) (id body : List UInt8) (bv : Value) (w : World) (hp : p < 256) (ht : t < 4294967296) (hc : c < 4294967296) (hid : id.length ≤ 100000000) (hbody : body.length ≤ 100000000)
    (htab : Pow w) (hb : BytesV w bv body) (hlen : (msgW p t c id body).length ≤ 140737488355328) :
    Calls Tryz.prog 49 #[.agg #[.int .u8 p, .int .u32 t, .int .u32 c, S id, bv]] w fun e w' => e = .returned (S (msgW p t c id body)) ∧ Below w.heap.size w w' := by
  have k0 := (Kp.init htab #[.int .u8 p, .int .u32 t, .int .u32 c, S id, bv] 25).drew
  go_enter Tryz.func49, Tryz.ntmps49
  go_wp2_with fail
  go_region_held3 (fun w' => w'.cell? ⟨w.heap.size, 0, none⟩ = some (.int .u8 p) ∧ w'.cell? ⟨w.heap.size, 1, none⟩ = some (.int .u32 t) ∧ w'.cell? ⟨w.heap.size, 2, none⟩ = some (.int .u32 c) ∧ w'.cell? ⟨w.heap.size, 3, none⟩ = some (S id) ∧ w'.cell? ⟨w.heap.size, 4, none⟩ = some bv ∧ Kp w #[.int .u8 p, .int .u32 t, .int .u32 c, S id, bv] w')
    (first
      | exact Kp.five k0
      | exact Kp.five (Kp.step (by assumption : _ ∧ _ ∧ _ ∧ _ ∧ _ ∧ Kp _ _ _).2.2.2.2.2 (by assumption))
      | exact Kp.five (Kp.step (by assumption : _ ∧ _ ∧ _ ∧ _ ∧ _ ∧ Kp _ _ _).2.2.2.2.2 ((Below.refl _ _).alloc (Nat.le_refl _) _)))
    (first
      | (go_at_call 63; refine (num_u8 p hp _ (Kp.pow (by assumption : _ ∧ _ ∧ _ ∧ _ ∧ _ ∧ Kp _ _ _).2.2.2.2.2)).mono ?_; rintro e w' ⟨rfl, hb1⟩)
      | (go_at_call 41; refine (num_u32 _ (by assumption) _ (Kp.pow (by assumption : _ ∧ _ ∧ _ ∧ _ ∧ _ ∧ Kp _ _ _).2.2.2.2.2)).mono ?_; rintro e w' ⟨rfl, hb1⟩)
      | (go_at_call 47; refine (hex_strL id hid _).mono ?_; rintro e w' ⟨rfl, hb1⟩)
      | (go_at_call 79; refine (hex_bytes bv body _ (hb.below (Kp.below (by assumption : _ ∧ _ ∧ _ ∧ _ ∧ _ ∧ Kp _ _ _).2.2.2.2.2) (Nat.le_refl _)) hbody).mono ?_; rintro e w' ⟨rfl, hb1⟩)
      | (go_at_call 76; refine (points _ [Lib.decDigits p, Lib.decDigits t, Lib.decDigits c, hexW id, hexW body] _ (strs_new _ _ _) (by simp) hlen).mono ?_; rintro e w' ⟨rfl, hb1⟩))
  have hk := (by assumption : _ ∧ _ ∧ _ ∧ _ ∧ _ ∧ Kp _ _ _).2.2.2.2.2.below
  go_wp2
  go_ret
  exact ⟨rfl, hk⟩
end Go.Proofs.YtaojoifpekoecaaGreatDoor



namespace Go.Proofs.YtaojoifpekoecaaGreatDoor
open Go.RowKit Go.Shelf
theorem Kp.four {w w1 : World} {a b c d : Value} (h : Kp w #[a, b, c, d] w1) : w1.cell? ⟨w.heap.size, 0, none⟩ = some a ∧ w1.cell? ⟨w.heap.size, 1, none⟩ = some b ∧ w1.cell? ⟨w.heap.size, 2, none⟩ = some c ∧ w1.cell? ⟨w.heap.size, 3, none⟩ = some d ∧ Kp w #[a, b, c, d] w1 :=
  ⟨h.cell 0, h.cell 1, h.cell 2, h.cell 3, h⟩
set_option maxHeartbeats 4000000
def outW (k a b : Nat) (cond : List UInt8) : List UInt8 := Lib.join [Lib.decDigits k, Lib.decDigits a, Lib.decDigits b, hexW cond] [46]
theorem outcomeWord (k a b : Nat) (cond : List UInt8) (w : World) (hk : k < 256) (ha : a < 18446744073709551616) (hb : b < 18446744073709551616) (hc : cond.length ≤ 100000000) (htab : Pow w) (hlen : (outW k a b cond).length ≤ 140737488355328) :
    Calls Tryz.prog 64 #[.agg #[.int .u8 k, .int .u64 a, .int .u64 b, S cond]] w fun e w' => e = .returned (S (outW k a b cond)) ∧ Below w.heap.size w w' := by
  have k0 := (Kp.init htab #[.int .u8 k, .int .u64 a, .int .u64 b, S cond] 28).drew
  go_enter Tryz.func64, Tryz.ntmps64
  go_wp2_with fail
  go_region_held3 (fun w' => w'.cell? ⟨w.heap.size, 0, none⟩ = some (.int .u8 k) ∧ w'.cell? ⟨w.heap.size, 1, none⟩ = some (.int .u64 a) ∧ w'.cell? ⟨w.heap.size, 2, none⟩ = some (.int .u64 b) ∧ w'.cell? ⟨w.heap.size, 3, none⟩ = some (S cond) ∧ Kp w #[.int .u8 k, .int .u64 a, .int .u64 b, S cond] w')
    (first
      | exact Kp.four k0
      | exact Kp.four (Kp.step (by assumption : _ ∧ _ ∧ _ ∧ _ ∧ Kp _ _ _).2.2.2.2 (by assumption))
      | exact Kp.four (Kp.step (by assumption : _ ∧ _ ∧ _ ∧ _ ∧ Kp _ _ _).2.2.2.2 ((Below.refl _ _).alloc (Nat.le_refl _) _)))
    (first
      | (go_at_call 63; refine (num_u8 k hk _ (by assumption : _ ∧ _ ∧ _ ∧ _ ∧ Kp _ _ _).2.2.2.2.pow).mono ?_; rintro e w' ⟨rfl, hb1⟩)
      | (go_at_call 93; refine (num_u64 _ (by assumption) _ (by assumption : _ ∧ _ ∧ _ ∧ _ ∧ Kp _ _ _).2.2.2.2.pow).mono ?_; rintro e w' ⟨rfl, hb1⟩)
      | (go_at_call 47; refine (hex_strL cond hc _).mono ?_; rintro e w' ⟨rfl, hb1⟩)
      | (go_at_call 76; refine (points _ [Lib.decDigits k, Lib.decDigits a, Lib.decDigits b, hexW cond] _ (strs_new _ _ _) (by simp) hlen).mono ?_; rintro e w' ⟨rfl, hb1⟩))
  have hk := (by assumption : _ ∧ _ ∧ _ ∧ _ ∧ Kp _ _ _).2.2.2.2.below
  go_wp2
  go_ret
  exact ⟨rfl, hk⟩
def queW (name dead : List UInt8) (room limit : Int) : List UInt8 := Lib.join [hexW name, Lib.itoa room, Lib.itoa limit, hexW dead] [46]
def becW (who : Int) (link tag : List UInt8) (k a b : Nat) (cond : List UInt8) : List UInt8 := Lib.join [Lib.itoa who, hexW link, hexW tag, outW k a b cond] [46]
end Go.Proofs.YtaojoifpekoecaaGreatDoor



namespace Go.Proofs.YtaojoifpekoecaaGreatDoor
open Go.RowKit Go.Shelf
/-- a slice of structs of n cells that lies in the world -/
def SliceV {α : Type} (n : Nat) (EV : World → List Value → α → Prop) (w : World) (v : Value) (xs : List α) : Prop :=
  ∃ a c, v = .slice a xs.length c ∧ (xs ≠ [] → ∃ b o, a = some ⟨b, o, none⟩ ∧ b < w.heap.size ∧ ∀ (j : Nat) x, xs[j]? = some x → ∃ cs, cs.length = n ∧ cs.all (·.oneCell') = true ∧ w.rangeAt b (o + j * n) cs ∧ EV w cs x)
theorem rangeAt_below {w w' : World} {B b o : Nat} {cs : List Value} (h : w.rangeAt b o cs) (hb : Below B w w') (hlt : b < B) : w'.rangeAt b o cs := fun j v hv => (hb.cell hlt).trans (h j v hv)
theorem infoStr : (Tryz.prog.info? 9).map (fun i => (i.zero, i.size, i.bytes)) = some (some (.string { data := #[] }), 1, 16) := by kernel_rfl
theorem strs_own {w : World} {B : Nat} {v : Value} {ws : List (List UInt8)} (h : w.ownsRow B 9 1 v ws.length (ws.map S)) : StrsV w v ws := by
  obtain ⟨_, ⟨rfl, h0⟩ | ⟨g, cap, cur, rfl, _, hg, hc, _, hcs, ht⟩⟩ := h
  · have : ws = [] := List.length_eq_zero_iff.1 h0
    subst this
    exact ⟨none, 0, rfl, Nat.le_refl _, fun h => absurd rfl h⟩
  · refine ⟨_, cap, rfl, hc, fun _ => ⟨g, 0, rfl, (Array.getElem?_eq_some_iff.1 hg).1, fun j x hx => ?_⟩⟩
    have : (cur.toList.take (ws.length * 1))[j]? = some (S x) := by rw [ht, List.getElem?_map, hx]; rfl
    rw [Nat.mul_one, List.getElem?_take] at this
    split at this
    · unfold World.cell?
      rw [hg, Nat.zero_add]
      simpa using this
    · cases this
set_option maxHeartbeats 600000
end Go.Proofs.YtaojoifpekoecaaGreatDoor



namespace Go.Proofs.YtaojoifpekoecaaGreatDoor
open Go.RowKit Go.Shelf
structure MsgD where
  p : Nat
  t : Nat
  c : Nat
  id : List UInt8
  body : List UInt8
structure BecD where
  who : Int
  link : List UInt8
  tag : List UInt8
  k : Nat
  a : Nat
  b : Nat
  cond : List UInt8
structure QueD where
  name : List UInt8
  room : Int
  limit : Int
  dead : List UInt8
abbrev MsgD.w (m : MsgD) : List UInt8 := msgW m.p m.t m.c m.id m.body
abbrev BecD.w (m : BecD) : List UInt8 := becW m.who m.link m.tag m.k m.a m.b m.cond
abbrev QueD.w (m : QueD) : List UInt8 := queW m.name m.dead m.room m.limit
def I64 (n : Int) : Prop := -9223372036854775808 ≤ n ∧ n ≤ 9223372036854775807
def Short (l : List UInt8) : Prop := l.length ≤ 100000000
def Fits (l : List UInt8) : Prop := l.length ≤ 140737488355328
def MsgE (w : World) (cs : List Value) (m : MsgD) : Prop := ∃ bv, cs = [.int .u8 m.p, .int .u32 m.t, .int .u32 m.c, S m.id, bv] ∧ BytesV w bv m.body ∧ m.p < 256 ∧ m.t < 4294967296 ∧ m.c < 4294967296 ∧ Short m.id ∧ Short m.body ∧ Fits m.w
def BecE (_ : World) (cs : List Value) (m : BecD) : Prop := cs = [.int .i64 m.who, S m.link, S m.tag, .int .u8 m.k, .int .u64 m.a, .int .u64 m.b, S m.cond] ∧ I64 m.who ∧ Short m.link ∧ Short m.tag ∧ m.k < 256 ∧ m.a < 18446744073709551616 ∧ m.b < 18446744073709551616 ∧ Short m.cond ∧ Fits (outW m.k m.a m.b m.cond) ∧ Fits m.w
def QueE (_ : World) (cs : List Value) (m : QueD) : Prop := cs = [S m.name, .int .i64 m.room, .int .i64 m.limit, S m.dead] ∧ Short m.name ∧ Short m.dead ∧ I64 m.room ∧ I64 m.limit ∧ Fits m.w
theorem MsgE.st {w w' : World} {cs : List Value} {m : MsgD} (hb : Below w.heap.size w w') (h : MsgE w cs m) : MsgE w' cs m := by
  obtain ⟨bv, h1, h2, h3⟩ := h
  exact ⟨bv, h1, h2.below hb (Nat.le_refl _), h3⟩
theorem BecE.st {w w' : World} {cs : List Value} {m : BecD} (_ : Below w.heap.size w w') (h : BecE w cs m) : BecE w' cs m := h
theorem QueE.st {w w' : World} {cs : List Value} {m : QueD} (_ : Below w.heap.size w w') (h : QueE w cs m) : QueE w' cs m := h
theorem SliceV.below {α : Type} {n : Nat} {EV : World → List Value → α → Prop} (hst : ∀ {w w' : World} {cs x}, Below w.heap.size w w' → EV w cs x → EV w' cs x) {w w' : World} {v : Value} {xs : List α} (h : SliceV n EV w v xs) (hb : Below w.heap.size w w') : SliceV n EV w' v xs := by
  obtain ⟨a, c, hv, h⟩ := h
  refine ⟨a, c, hv, fun h0 => ?_⟩
  obtain ⟨b, o, ha, hlt, hel⟩ := h h0
  refine ⟨b, o, ha, Nat.lt_of_lt_of_le hlt hb.size, fun j x hx => ?_⟩
  obtain ⟨cs, h1, h2, h3, h4⟩ := hel j x hx
  exact ⟨cs, h1, h2, rangeAt_below h3 hb hlt, hst hb h4⟩
set_option maxHeartbeats 1000000
end Go.Proofs.YtaojoifpekoecaaGreatDoor



namespace Go.Proofs.YtaojoifpekoecaaGreatDoor
open Go.RowKit Go.Shelf
set_option maxHeartbeats 1000000
end Go.Proofs.YtaojoifpekoecaaGreatDoor



namespace Go.Proofs.YtaojoifpekoecaaGreatDoor
open Go.RowKit Go.Shelf
abbrev D10 : ByteArray := { data := #[48, 49, 50, 51, 52, 53, 54, 55, 56, 57] }
theorem d10_at : ∀ i : Fin 10, ((D10.data.toList.drop i.val).take 1) = [UInt8.ofNat (48 + i.val)] := by decide +kernel
theorem d10_slice (n : Int) (h0 : 0 ≤ n) (h : n < 10) (W : World) : (Instr.sliceAt 9 (.string D10) (some (.int .u64 n)) (some (.int .u64 (n + 1))) none).run Tryz.prog W = .ok (S [48 + UInt8.ofNat n.toNat]) W := by
  rw [run_sliceAt_string W 9 _ _ _ _ Tryz.underlying9, run_slice_string W 9 D10 .u64 .u64 n (n + 1) Tryz.underlying9 h0 (by omega) (by show n + 1 ≤ 10; omega)]
  have := d10_at ⟨n.toNat, by omega⟩
  have e : D10.extract n.toNat (n + 1).toNat = ⟨((D10.data.toList.drop n.toNat).take ((n + 1).toNat - n.toNat)).toArray⟩ := ByteArray.extract_mk [48, 49, 50, 51, 52, 53, 54, 55, 56, 57] _ _
  rw [e, show (n + 1).toNat - n.toNat = 1 by omega, this]
  simp [UInt8.ofNat_add]
theorem dec_one (u : Nat) (h : u < 10) : Lib.decDigits u = [48 + UInt8.ofNat u] := by rw [Lib.decDigits_one h, UInt8.ofNat_add]; rfl
set_option maxHeartbeats 400000
set_option maxRecDepth 100000 in
theorem digits (u : Nat) : ∀ w : World, u < 18446744073709551616 → Calls Tryz.prog 77 #[.int .u64 u] w fun e w' => e = .returned (S (Lib.decDigits u)) ∧ Below w.heap.size w w' := by
  induction u using Nat.strongRecOn with
  | ind u ih =>
    intro w hu
    by_cases h : u < 10
    · clear ih
      have hsl := d10_slice u (by omega) (by omega)
      rw [Int.toNat_natCast] at hsl
      rw [dec_one u h]
      go_enter Tryz.func77, Tryz.ntmps77
      go_wp2_with fail
      go_ret
      exact ⟨rfl, Below.refl _ _⟩
    · obtain ⟨q, hq⟩ : ∃ q, q = u / 10 := ⟨_, rfl⟩
      obtain ⟨m, hm⟩ : ∃ m, m = u % 10 := ⟨_, rfl⟩
      have ih' := ih q (by omega)
      clear ih
      have hql : q < 18446744073709551616 := by omega
      have hm1 : m < 10 := by omega
      obtain ⟨r, hr, hsl⟩ : ∃ r : ByteArray, r = ⟨[48 + UInt8.ofNat m].toArray⟩ ∧ ∀ W, (Instr.sliceAt 9 (.string D10) (some (.int .u64 (m : Int))) (some (.int .u64 ((m : Int) + 1))) none).run Tryz.prog W = .ok (.string r) W := ⟨_, rfl, fun W => by have := d10_slice m (by omega) (by omega) W; rwa [Int.toNat_natCast] at this⟩
      have ht : (u : Int).tmod 10 = (m : Int) := by rw [Int.tmod_eq_emod_of_nonneg (by omega)]; omega
      have hqi : IntKind.u64.wrap ((u : Int) / 10) = (q : Int) := by rw [IntKind.wrap_u64]; omega
      have hw : IntKind.u64.wrap ((m : Int) + 1) = (m : Int) + 1 := by rw [IntKind.wrap_u64]; omega
      have hk : Lib.decDigits u = Lib.decDigits q ++ [48 + UInt8.ofNat m] := by
        rw [Lib.decDigits, dif_neg h, UInt8.ofNat_add, ← hq, ← hm]; rfl
      clear hq hm
      have hnd : Lib.nDigits q ≤ 20 := by
        rcases Nat.eq_zero_or_pos q with h0 | h0
        · subst h0; rw [Lib.nDigits_small (by omega)]; omega
        · have := Lib.numDigits_eq q h0 hql; split at this <;> omega
      have hsz : (⟨(Lib.decDigits q).toArray⟩ : ByteArray).size ≤ 20 := by show (Lib.decDigits q).toArray.size ≤ 20; rw [List.size_toArray, Lib.decDigits_length]; exact hnd
      obtain ⟨dq, hdq⟩ : ∃ dq : ByteArray, dq = ⟨(Lib.decDigits q).toArray⟩ := ⟨_, rfl⟩
      have ih2 : ∀ W : World, Calls Tryz.prog 77 #[.int .u64 q] W fun e w' => e = .returned (.string dq) ∧ Below W.heap.size W w' := fun W => by rw [hdq]; exact ih' W hql
      have hcat : ¬ 9223372036854775807 < dq.size + r.size := by
        have h1 : r.size = 1 := by rw [hr]; rfl
        have h2 : dq.size ≤ 20 := by rw [hdq]; exact hsz
        omega
      have hfin : (.string (dq ++ r) : Value) = S (Lib.decDigits u) := by
        rw [hk, hdq, hr, ByteArray.mk_append_mk]
      clear ih' hdq hr hk
      go_enter Tryz.func77, Tryz.ntmps77
      go_wp2_with fail
      go_region_held3 (fun _ => True) (trivial) (first | (go_at_call 77; refine (ih2 _).mono ?_; rintro e w' ⟨rfl, hb1⟩))
      go_wp2
      go_ret
      exact ⟨rfl, (Below.refl w.heap.size w).drew.trans (hb1.mono (Nat.le_refl _))⟩
theorem short_dec (u : Nat) (hu : u < 18446744073709551616) : (Lib.decDigits u).length ≤ 20 := by
  rw [Lib.decDigits_length]
  rcases Nat.eq_zero_or_pos u with h0 | h0
  · subst h0; rw [Lib.nDigits_small (by omega)]; omega
  · have := Lib.numDigits_eq u h0 hu; split at this <;> omega
theorem number (n : Int) (h0 : -9223372036854775808 ≤ n) (h1 : n ≤ 9223372036854775807) (w : World) :
    Calls Tryz.prog 45 #[.int .i64 n] w fun e w' => e = .returned (S (Lib.itoa n)) ∧ Below w.heap.size w w' := by
  by_cases hn : n < 0
  · obtain ⟨u, hu⟩ : ∃ u : Nat, n = -(u : Int) := ⟨n.natAbs, by omega⟩
    have hwr : IntKind.u64.wrap (-IntKind.u64.wrap n) = (u : Int) := by rw [IntKind.wrap_u64, IntKind.wrap_u64]; omega
    have hl := short_dec u (by omega)
    have hit : Lib.itoa n = 45 :: Lib.decDigits u := by rw [Lib.itoa, if_pos hn, show n.natAbs = u by omega]
    obtain ⟨r, hr⟩ : ∃ r : ByteArray, r = ⟨(Lib.decDigits u).toArray⟩ := ⟨_, rfl⟩
    have hd : ∀ W, Calls Tryz.prog 77 #[.int .u64 u] W fun e w' => e = .returned (.string r) ∧ Below W.heap.size W w' := fun W => by rw [hr]; exact digits u W (by omega)
    have hrs : r.size ≤ 20 := by rw [hr]; show (Lib.decDigits u).toArray.size ≤ 20; simpa using hl
    have hcat : ¬ 9223372036854775807 < 1 + r.size := by omega
    have hfin : (.string ((⟨#[45]⟩ : ByteArray) ++ r) : Value) = S (Lib.itoa n) := by rw [hit, hr, show (⟨#[45]⟩ : ByteArray) = ⟨[45].toArray⟩ from rfl, ByteArray.mk_append_mk]; rfl
    clear hr hit hu hl
    go_enter Tryz.func45, Tryz.ntmps45
    go_wp2_with (go_at_call 77; refine (hd _).mono ?_; rintro e w' ⟨rfl, hb1⟩)
    go_ret
    exact ⟨by rw [← hfin]; rfl, hb1⟩
  · obtain ⟨u, rfl⟩ : ∃ u : Nat, n = u := ⟨n.toNat, by omega⟩
    go_enter Tryz.func45, Tryz.ntmps45
    go_wp2_with (go_at_call 77; refine (digits u _ (by omega)).mono ?_; rintro e w' ⟨rfl, hb1⟩)
    go_ret
    refine ⟨?_, hb1⟩
    rw [Lib.itoa_nonneg]
    rfl
theorem yes (b : Bool) (w : World) :
    Calls Tryz.prog 54 #[.bool b] w fun e w' => e = .returned (S (ansW b)) ∧ Below w.heap.size w w' := by
  cases b
  · go_enter Tryz.func54, Tryz.ntmps54
    go_wp2
    go_ret
    exact ⟨rfl, Below.refl _ _⟩
  · go_enter Tryz.func54, Tryz.ntmps54
    go_wp2
    go_ret
    exact ⟨rfl, Below.refl _ _⟩
end Go.Proofs.YtaojoifpekoecaaGreatDoor



namespace Go.Proofs.YtaojoifpekoecaaGreatDoor
open Go.RowKit Go.Shelf
theorem hexL_at (l : List UInt8) : ∀ (q : Nat) (x : UInt8), l[q]? = some x → (hexL l)[2 * q]? = some (hexd (x.toNat / 16)) ∧ (hexL l)[2 * q + 1]? = some (hexd (x.toNat % 16)) := by
  induction l with
  | nil => intro q x h; simp at h
  | cons b l ih =>
    intro q x h
    cases q with
    | zero => cases h; exact ⟨rfl, rfl⟩
    | succ q =>
      obtain ⟨h1, h2⟩ := ih q x (by simpa using h)
      have e : hexL (b :: l) = hexd (b.toNat / 16) :: hexd (b.toNat % 16) :: hexL l := rfl
      rw [e]
      exact ⟨by rw [show 2 * (q + 1) = 2 * q + 1 + 1 by omega]; simpa using h1, by rw [show 2 * (q + 1) + 1 = 2 * q + 1 + 1 + 1 by omega]; simpa using h2⟩
theorem take_step (l : List UInt8) (k : Nat) (y : UInt8) (h : (hexL l)[k]? = some y) : (Lib.byteCells (hexL l)).take (k + 1) = (Lib.byteCells (hexL l)).take k ++ [.int .u8 (y.toNat : Int)] := by
  rw [List.take_add_one]
  have : (Lib.byteCells (hexL l))[k]? = some (.int .u8 (y.toNat : Int)) := by simp [Lib.byteCells, h]
  rw [this]; rfl
set_option maxHeartbeats 1000000
set_option maxRecDepth 100000 in
theorem octets1 (b o c : Nat) (l : List UInt8) (h0 : l ≠ []) (hs : l.length ≤ 100000000) (w : World) (hbl : b < w.heap.size) (hc : ∀ (j : Nat) x, l[j]? = some x → w.cell? ⟨b, o + j, none⟩ = some (.int .u8 (x.toNat : Int))) :
    Calls Tryz.prog 80 #[.slice (some ⟨b, o, none⟩) l.length c] w fun e w' => e = .returned (S (hexW l)) ∧ Below w.heap.size w w' := by
  obtain ⟨i0, hi, hz0, hz1, hz2⟩ := info_parts infoByte
  have hlp : 0 < l.length := List.length_pos_iff.2 h0
  go_enter Tryz.func80, Tryz.ntmps80
  go_wp2
  go_loopw [4, 5] (fun v i wr => ∃ k : Nat, k ≤ 2 * l.length ∧ i = .int .i64 k ∧ wr.ownsRow w.heap.size 5 1 v k ((Lib.byteCells (hexL l)).take k) ∧ Below w.heap.size w wr)
    (fun _ i _ => 2 * l.length - (intOf i).toNat)
  case atStart => exact ⟨0, Nat.zero_le _, rfl, ⟨rfl, .inr ⟨w.heap.size, 0, #[], rfl, Nat.le_refl _, heap_alloc_last w _, Nat.le_refl _, by decide, rfl, rfl⟩⟩, (Below.refl _ _).alloc (Nat.le_refl _) _⟩
  case round =>
    obtain ⟨k, hk, rfl, hown, hb⟩ := hrel
    have hsz := hb.size
    by_cases hlt : k < 2 * l.length
    · obtain ⟨q, hq⟩ : ∃ q, q = k / 2 := ⟨_, rfl⟩
      have hql : q < l.length := by omega
      have hd : (k : Int).tdiv 2 = (q : Int) := by rw [Int.tdiv_eq_ediv_of_nonneg (by omega)]; omega
      obtain ⟨x, hx⟩ : ∃ x : UInt8, l[q]? = some x := ⟨_, List.getElem?_eq_getElem hql⟩
      have hce : wr.cell? ⟨b, o + q, none⟩ = some (.int .u8 (x.toNat : Int)) := (hb.cell hbl).trans (hc q x hx)
      have hat := hexL_at l q x hx
      have h256 := x.toNat_lt
      by_cases hp : k % 2 = 0
      · have hm : (k : Int).tmod 2 = 0 := by rw [Int.tmod_eq_emod_of_nonneg (by omega)]; omega
        have hstep := take_step l k (hexd (x.toNat / 16 % 16)) (by rw [show k = 2 * q by omega, hat.1, Nat.mod_eq_of_lt (by omega)])
        clear hq hat
        go_wp2_with (first
          | (at_builtin; refine wpList_append_own _ rfl _ _ 23 rfl w.heap.size 5 i0 (.int .u8 0) 1 1 Tryz.underlying23 hi hz0 hz1 hz2 rfl (by decide) _ _ _ rfl (hown.alloc _) ⟨wr.heap.size, 0, none⟩ 1 1 [.int .u8 ((signs[x.toNat / 16 % 16]'(by show x.toNat / 16 % 16 < 16; omega)).toNat : Int)] rfl rfl ?c1 ?c2 ?c3 ?c4 ?c5 ?_))
        case c1 =>
          intro j u hj
          match j, hj with
          | 0, hj => simp at hj; subst hj; simp [Addr.add]
        case c2 => intro u hu; simp at hu; subst hu; rfl
        case c3 => unfold maxLen; omega
        case c4 => omega
        case c5 => simp; omega
        intro v' w2 hown2 hgrow _
        have hb2 : Below w.heap.size w w2 := hb.trans (((Below.refl w.heap.size wr).alloc hsz _).grown hgrow (by simp; omega) (fun k hk => (hown.lt k hk).1))
        rw [signs_get, ← hstep] at hown2
        go_wp2
        go_roundw
        case rel => exact ⟨k + 1, by omega, by go_num, hown2, hb2⟩
        case measure => simp [intOf]; omega
      · have hm : (k : Int).tmod 2 = 1 := by rw [Int.tmod_eq_emod_of_nonneg (by omega)]; omega
        have hstep := take_step l k (hexd (x.toNat % 16)) (by rw [show k = 2 * q + 1 by omega, hat.2])
        clear hq hat
        go_wp2_with (first
          | (at_builtin; refine wpList_append_own _ rfl _ _ 23 rfl w.heap.size 5 i0 (.int .u8 0) 1 1 Tryz.underlying23 hi hz0 hz1 hz2 rfl (by decide) _ _ _ rfl (hown.alloc _) ⟨wr.heap.size, 0, none⟩ 1 1 [.int .u8 ((signs[x.toNat % 16]'(by show x.toNat % 16 < 16; omega)).toNat : Int)] rfl rfl ?c1 ?c2 ?c3 ?c4 ?c5 ?_))
        case c1 =>
          intro j u hj
          match j, hj with
          | 0, hj => simp at hj; subst hj; simp [Addr.add]
        case c2 => intro u hu; simp at hu; subst hu; rfl
        case c3 => unfold maxLen; omega
        case c4 => omega
        case c5 => simp; omega
        intro v' w2 hown2 hgrow _
        have hb2 : Below w.heap.size w w2 := hb.trans (((Below.refl w.heap.size wr).alloc hsz _).grown hgrow (by simp; omega) (fun k hk => (hown.lt k hk).1))
        rw [signs_get, ← hstep] at hown2
        go_wp2
        go_roundw
        case rel => exact ⟨k + 1, by omega, by go_num, hown2, hb2⟩
        case measure => simp [intOf]; omega
    · have hke : k = 2 * l.length := by omega
      have hbc : (Lib.byteCells (hexL l)).length = 2 * l.length := by rw [byteCells_length, hexL_length]
      rw [hke, List.take_of_length_le (by omega)] at hown
      obtain ⟨_, ⟨_, hz⟩ | ⟨g, cap, cur, rfl, _, hg, hcap, _, hcs, ht⟩⟩ := hown
      · omega
      rw [Nat.mul_one] at ht
      have hcvr : (convert 23 9 (.slice (some ⟨g, 0, none⟩) (2 * l.length) cap)).run Tryz.prog wr = .ok (S (hexL l)) wr := by
        have h := run_convert_bytes_back (P := Tryz.prog) wr 23 9 5 ⟨g, 0, none⟩ cap (hexL l) Tryz.underlying23 Tryz.underlying5 Tryz.underlying9 (fun j hj => by
          rw [Lib.add_plain, Nat.zero_add]
          have hj2 : j < 2 * l.length := by rw [hexL_length] at hj; omega
          have : (cur.toList.take (2 * l.length))[j]? = some (.int .u8 ((hexL l)[j].toNat : Int)) := by rw [ht]; simp [Lib.byteCells, hj]
          rw [List.getElem?_take, if_pos (by omega)] at this
          unfold World.cell?
          rw [hg]
          simpa using this)
        rw [hexL_length] at h
        exact h
      have hn0 : ((2 * (l.length : Int)) == 0) = false := beq_eq_false_iff_ne.2 (by omega)
      have hfin : hexW l = hexL l := if_neg h0
      clear hbc ht hcs
      subst hke
      go_wp2
      go_ret
      exact ⟨by rw [hfin]; rfl, hb⟩
end Go.Proofs.YtaojoifpekoecaaGreatDoor



namespace Go.Proofs.YtaojoifpekoecaaGreatDoor
open Go.RowKit Go.Shelf
set_option maxHeartbeats 1000000
theorem octets (v : Value) (l : List UInt8) (w : World) (h : BytesV w v l) (hs : l.length ≤ 100000000) :
    Calls Tryz.prog 80 #[v] w fun e w' => e = .returned (S (hexW l)) ∧ Below w.heap.size w w' := by
  obtain ⟨a, c, rfl, hv⟩ := h
  by_cases h0 : l = []
  · subst h0
    go_enter Tryz.func80, Tryz.ntmps80
    go_wp2
    refine wp_loop_rounds 1 ?_
    rw [rounds_succ]
    go_wp2
    go_ret
    exact ⟨rfl, (Below.refl _ _).alloc (Nat.le_refl _) _⟩
  · obtain ⟨b, o, rfl, hlt, hc⟩ := hv h0
    exact octets1 b o c l h0 hs w hlt hc
theorem conv_bytes (l : List UInt8) (w : World) : ∃ W2 cap, (convert 9 23 (S l)).run Tryz.prog w = .ok (.slice (some ⟨w.heap.size, 0, none⟩) l.length cap) W2 ∧ Below w.heap.size w W2 ∧ BytesV W2 (.slice (some ⟨w.heap.size, 0, none⟩) l.length cap) l := by
  have h := Lib.run_convert_string_bytes (P := Tryz.prog) w 9 23 5 ⟨l.toArray⟩ Tryz.underlying9 Tryz.underlying23 Tryz.underlying5
  have hs : (⟨l.toArray⟩ : ByteArray).size = l.length := by show l.toArray.size = _; simp
  rw [hs] at h
  refine ⟨_, _, h, ⟨rfl, rfl, rfl, by rw [Lib.bytesWorld_size]; omega, fun k hk => Lib.bytesWorld_at_old w 5 _ k hk⟩, _, _, rfl, fun _ => ⟨w.heap.size, 0, rfl, by rw [Lib.bytesWorld_size]; omega, fun j x hx => ?_⟩⟩
  have hj : j < l.length := (List.getElem?_eq_some_iff.1 hx).1
  rw [Nat.zero_add, Lib.bytesWorld_cell w 5 ⟨l.toArray⟩ j (by rw [hs]; exact hj)]
  simp [List.getD, hx]
set_option maxRecDepth 100000 in
theorem str (l : List UInt8) (w : World) (hs : l.length ≤ 100000000) :
    Calls Tryz.prog 55 #[S l] w fun e w' => e = .returned (S (hexW l)) ∧ Below w.heap.size w w' := by
  obtain ⟨W2, cap, hcv, hb2, hby⟩ := conv_bytes l w
  go_enter Tryz.func55, Tryz.ntmps55
  go_wp2_with (go_at_call 80; refine (octets _ l _ hby hs).mono ?_; rintro e w' ⟨rfl, hb⟩)
  go_ret
  exact ⟨rfl, hb2.trans (hb.mono hb2.size)⟩
end Go.Proofs.YtaojoifpekoecaaGreatDoor



namespace Go.Proofs.YtaojoifpekoecaaGreatDoor
open Go.RowKit Go.Shelf
def togW (xs : List (List UInt8)) (sep nw : List UInt8) : List UInt8 := if xs = [] then nw else Lib.join xs sep
theorem join_step (xs : List (List UInt8)) (sep x : List UInt8) (k : Nat) (hk : 1 ≤ k) (hx : xs[k]? = some x) : Lib.join (xs.take (k + 1)) sep = (Lib.join (xs.take k) sep ++ sep) ++ x := by
  cases xs with
  | nil => simp at hx
  | cons y r =>
    obtain ⟨j, rfl⟩ : ∃ j, k = j + 1 := ⟨k - 1, by omega⟩
    rw [List.take_succ_cons, List.take_succ_cons, Lib.join_cons, Lib.join_cons, Lib.joinTail_take_succ sep r j x (by simpa using hx)]
    simp [List.append_assoc]
theorem join_take_le (xs : List (List UInt8)) (sep : List UInt8) (k : Nat) : (Lib.join (xs.take k) sep).length ≤ (Lib.join xs sep).length := by
  cases xs with
  | nil => simp
  | cons y r =>
    cases k with
    | zero => simp [Lib.join_nil]
    | succ k =>
      rw [List.take_succ_cons, Lib.join_cons, Lib.join_cons, List.length_append, List.length_append]
      have := Lib.joinTail_take_le sep r k
      omega
set_option maxHeartbeats 1000000
set_option maxRecDepth 100000 in
theorem together1 (b o c : Nat) (xs : List (List UInt8)) (sep nw : List UInt8) (h0 : xs ≠ []) (hn : xs.length ≤ 100000000) (w : World) (hbl : b < w.heap.size) (hc : ∀ (j : Nat) x, xs[j]? = some x → w.cell? ⟨b, o + j, none⟩ = some (S x))
    (hlen : (Lib.join xs sep).length ≤ 140737488355328) (hsep : sep.length ≤ 1000) (hall : ∀ x ∈ xs, x.length ≤ 140737488355328) :
    Calls Tryz.prog 25 #[.slice (some ⟨b, o, none⟩) xs.length c, S sep, S nw] w fun e w' => e = .returned (S (Lib.join xs sep)) ∧ Below w.heap.size w w' := by
  have hlp : 0 < xs.length := List.length_pos_iff.2 h0
  have hz : ((xs.length : Int) == 0) = false := beq_eq_false_iff_ne.2 (by omega)
  have hp0 : (0 : Int) < (xs.length : Int) := by omega
  obtain ⟨x0, hx0⟩ : ∃ x, xs[0]? = some x := ⟨_, List.getElem?_eq_getElem hlp⟩
  have hc0 := hc 0 x0 hx0
  rw [Nat.add_zero] at hc0
  go_enter Tryz.func25, Tryz.ntmps25
  go_wp2
  go_loopw [7, 8] (fun sv i wr => ∃ k : Nat, 1 ≤ k ∧ k ≤ xs.length ∧ i = .int .i64 k ∧ sv = S (Lib.join (xs.take k) sep) ∧ Below w.heap.size w wr)
    (fun _ i _ => xs.length - (intOf i).toNat)
  case atStart => exact ⟨1, Nat.le_refl _, hlp, rfl, by
      cases xs with
      | nil => cases hx0
      | cons y r => cases hx0; rw [List.take_succ_cons, List.take_zero, Lib.join_one], Below.refl _ _⟩
  case round =>
    obtain ⟨k, hk1, hk, rfl, rfl, hb⟩ := hrel
    by_cases hlt : k < xs.length
    · obtain ⟨x, hx⟩ : ∃ x, xs[k]? = some x := ⟨_, List.getElem?_eq_getElem hlt⟩
      have hce : wr.cell? ⟨b, o + k, none⟩ = some (S x) := (hb.cell hbl).trans (hc k x hx)
      have hst := join_step xs sep x k hk1 hx
      obtain ⟨r, hr⟩ : ∃ r : ByteArray, r = ⟨(Lib.join (xs.take k) sep).toArray⟩ := ⟨_, rfl⟩
      obtain ⟨q, hq⟩ : ∃ q : ByteArray, q = ⟨sep.toArray⟩ := ⟨_, rfl⟩
      obtain ⟨y, hy⟩ : ∃ y : ByteArray, y = ⟨x.toArray⟩ := ⟨_, rfl⟩
      have hrs : r.size ≤ 140737488355328 := by rw [hr]; show (List.toArray _).size ≤ _; rw [List.size_toArray]; exact Nat.le_trans (join_take_le xs sep k) hlen
      have hqs : q.size ≤ 1000 := by rw [hq]; show (List.toArray _).size ≤ _; rw [List.size_toArray]; exact hsep
      have hys : y.size ≤ 140737488355328 := by rw [hy]; show (List.toArray _).size ≤ _; rw [List.size_toArray]; exact hall x (List.mem_of_getElem? hx)
      have hfin : (.string (r ++ q ++ y) : Value) = S (Lib.join (xs.take (k + 1)) sep) := by rw [hst, hr, hq, hy, ByteArray.mk_append_mk, ByteArray.mk_append_mk]
      have hcat1 : ¬ 9223372036854775807 < r.size + q.size := by omega
      have hcat2 : ¬ 9223372036854775807 < r.size + q.size + y.size := by omega
      have e1 : S (Lib.join (xs.take k) sep) = .string r := by rw [hr]
      have e2 : S sep = .string q := by rw [hq]
      have e3 : S x = .string y := by rw [hy]
      rw [e3] at hce
      rw [e1, e2]
      clear hr hq hy hst e1 e2 e3
      go_wp2
      go_roundw
      case rel => exact ⟨k + 1, by omega, by omega, by go_num, by first | exact hfin | rfl, hb⟩
      case measure => simp [intOf]; omega
    · have hke : k = xs.length := by omega
      subst hke
      rw [List.take_length]
      go_wp2
      go_ret
      exact ⟨rfl, hb⟩
theorem together (v : Value) (xs : List (List UInt8)) (sep nw : List UInt8) (hn : xs.length ≤ 100000000) (w : World) (h : StrsV w v xs)
    (hlen : (Lib.join xs sep).length ≤ 140737488355328) (hsep : sep.length ≤ 1000) (hall : ∀ x ∈ xs, x.length ≤ 140737488355328) :
    Calls Tryz.prog 25 #[v, S sep, S nw] w fun e w' => e = .returned (S (togW xs sep nw)) ∧ Below w.heap.size w w' := by
  obtain ⟨a, c, rfl, _, hv⟩ := h
  by_cases h0 : xs = []
  · subst h0
    go_enter Tryz.func25, Tryz.ntmps25
    go_wp2
    go_ret
    exact ⟨rfl, Below.refl _ _⟩
  · obtain ⟨b, o, rfl, hlt, hc⟩ := hv h0
    rw [togW, if_neg h0]
    exact together1 b o c xs sep nw h0 hn w hlt hc hlen hsep hall
theorem joinTail_mem (sep : List UInt8) : ∀ (r : List (List UInt8)) (x : List UInt8), x ∈ r → x.length ≤ (Lib.joinTail sep r).length
  | [], x, h => by cases h
  | y :: r, x, h => by
    have e : Lib.joinTail sep (y :: r) = (sep ++ y) ++ Lib.joinTail sep r := rfl
    rw [e, List.length_append, List.length_append]
    rcases List.mem_cons.1 h with h | h
    · subst h; omega
    · have := joinTail_mem sep r x h; omega
theorem join_mem (xs : List (List UInt8)) (sep x : List UInt8) (h : x ∈ xs) : x.length ≤ (Lib.join xs sep).length := by
  cases xs with
  | nil => cases h
  | cons y r =>
    rw [Lib.join_cons, List.length_append]
    rcases List.mem_cons.1 h with h | h
    · subst h; omega
    · have := joinTail_mem sep r x h; omega
theorem tog (v : Value) (xs : List (List UInt8)) (sep nw : List UInt8) (hn : xs.length ≤ 100000000) (w : World) (h : StrsV w v xs)
    (hlen : (Lib.join xs sep).length ≤ 140737488355328) (hsep : sep.length ≤ 1000) :
    Calls Tryz.prog 25 #[v, S sep, S nw] w fun e w' => e = .returned (S (togW xs sep nw)) ∧ Below w.heap.size w w' :=
  together v xs sep nw hn w h hlen hsep fun x hx => Nat.le_trans (join_mem xs sep x hx) hlen
theorem numberN (n : Nat) (h : n < 9223372036854775808) (w : World) :
    Calls Tryz.prog 45 #[.int .i64 n] w fun e w' => e = .returned (S (Lib.decDigits n)) ∧ Below w.heap.size w w' := by
  have := number n (by omega) (by omega) w
  rwa [Lib.itoa_nonneg] at this
end Go.Proofs.YtaojoifpekoecaaGreatDoor



namespace Go.Proofs.YtaojoifpekoecaaGreatDoor
open Go.RowKit Go.Shelf
set_option maxHeartbeats 400000
theorem numberW (n : Nat) (h : n < 9223372036854775808) (w : World) :
    Calls Tryz.prog 45 #[.int .i64 (IntKind.i64.wrap n)] w fun e w' => e = .returned (S (Lib.decDigits n)) ∧ Below w.heap.size w w' := by
  have h1 : IntKind.i64.wrap (n : Int) = n := by rw [IntKind.wrap_i64]; omega
  rw [h1]; exact numberN n h w
theorem outcome (k a b : Nat) (cond : List UInt8) (w : World) (hk : k < 256) (ha : a < 18446744073709551616) (hb : b < 18446744073709551616) (hc : cond.length ≤ 100000000) (htab : Pow w) (hlen : (outW k a b cond).length ≤ 140737488355328) :
    Calls Tryz.prog 66 #[.agg #[.int .u8 k, .int .u64 a, .int .u64 b, S cond]] w fun e w' => e = .returned (S (outW k a b cond)) ∧ Below w.heap.size w w' := by
  have k0 := (Kp.init htab #[.int .u8 k, .int .u64 a, .int .u64 b, S cond] 28).drew
  have ht : togW [Lib.decDigits k, Lib.decDigits a, Lib.decDigits b, hexW cond] [46] [] = outW k a b cond := if_neg (by simp)
  go_enter Tryz.func66, Tryz.ntmps66
  go_wp2_with fail
  go_region_held3 (fun w' => w'.cell? ⟨w.heap.size, 0, none⟩ = some (.int .u8 k) ∧ w'.cell? ⟨w.heap.size, 1, none⟩ = some (.int .u64 a) ∧ w'.cell? ⟨w.heap.size, 2, none⟩ = some (.int .u64 b) ∧ w'.cell? ⟨w.heap.size, 3, none⟩ = some (S cond) ∧ Kp w #[.int .u8 k, .int .u64 a, .int .u64 b, S cond] w')
    (first
      | exact Kp.four k0
      | exact Kp.four (Kp.step (by assumption : _ ∧ _ ∧ _ ∧ _ ∧ Kp _ _ _).2.2.2.2 (by assumption))
      | exact Kp.four (Kp.step (by assumption : _ ∧ _ ∧ _ ∧ _ ∧ Kp _ _ _).2.2.2.2 ((Below.refl _ _).alloc (Nat.le_refl _) _)))
    (first
      | (go_at_call 45; refine (numberW k (by omega) _).mono ?_; rintro e w' ⟨rfl, hb1⟩)
      | (go_at_call 77; refine (digits _ _ (by assumption)).mono ?_; rintro e w' ⟨rfl, hb1⟩)
      | (go_at_call 55; refine (str cond _ hc).mono ?_; rintro e w' ⟨rfl, hb1⟩)
      | (go_at_call 25; refine (tog _ [Lib.decDigits k, Lib.decDigits a, Lib.decDigits b, hexW cond] [46] [] (by simp) _ (strs_new _ _ _) hlen (by simp)).mono ?_; rintro e w' ⟨rfl, hb1⟩))
  have hk := (by assumption : _ ∧ _ ∧ _ ∧ _ ∧ Kp _ _ _).2.2.2.2.below
  go_wp2
  go_ret
  exact ⟨by rw [← ht]; rfl, hk⟩
theorem msg (p t c : Nat) (id body : List UInt8) (bv : Value) (w : World) (hp : p < 256) (ht : t < 4294967296) (hc : c < 4294967296) (hid : id.length ≤ 100000000) (hbody : body.length ≤ 100000000) (hb : BytesV w bv body) (htab : Pow w) (hlen : (msgW p t c id body).length ≤ 140737488355328) :
    Calls Tryz.prog 52 #[.agg #[.int .u8 p, .int .u32 t, .int .u32 c, S id, bv]] w fun e w' => e = .returned (S (msgW p t c id body)) ∧ Below w.heap.size w w' := by
  have k0 := (Kp.init htab #[.int .u8 p, .int .u32 t, .int .u32 c, S id, bv] 25).drew
  have htg : togW [Lib.decDigits p, Lib.decDigits t, Lib.decDigits c, hexW id, hexW body] [46] [] = msgW p t c id body := if_neg (by simp)
  go_enter Tryz.func52, Tryz.ntmps52
  go_wp2_with fail
  go_region_held3 (fun w' => w'.cell? ⟨w.heap.size, 0, none⟩ = some (.int .u8 p) ∧ w'.cell? ⟨w.heap.size, 1, none⟩ = some (.int .u32 t) ∧ w'.cell? ⟨w.heap.size, 2, none⟩ = some (.int .u32 c) ∧ w'.cell? ⟨w.heap.size, 3, none⟩ = some (S id) ∧ w'.cell? ⟨w.heap.size, 4, none⟩ = some (bv) ∧ Kp w #[.int .u8 p, .int .u32 t, .int .u32 c, S id, bv] w')
    (first
      | exact Kp.five k0
      | exact Kp.five (Kp.step (by assumption : _ ∧ _ ∧ _ ∧ _ ∧ _ ∧ Kp _ _ _).2.2.2.2.2 (by assumption))
      | exact Kp.five (Kp.step (by assumption : _ ∧ _ ∧ _ ∧ _ ∧ _ ∧ Kp _ _ _).2.2.2.2.2 ((Below.refl _ _).alloc (Nat.le_refl _) _)))
    (first
      | (go_at_call 45; refine (numberW _ (by omega) _).mono ?_; rintro e w' ⟨rfl, hb1⟩)
      | (go_at_call 55; refine (str id _ hid).mono ?_; rintro e w' ⟨rfl, hb1⟩)
      | (go_at_call 80; refine (octets bv body _ (hb.below (by assumption : _ ∧ _ ∧ _ ∧ _ ∧ _ ∧ Kp _ _ _).2.2.2.2.2.below (Nat.le_refl _)) hbody).mono ?_; rintro e w' ⟨rfl, hb1⟩)
      | (go_at_call 25; refine (tog _ [Lib.decDigits p, Lib.decDigits t, Lib.decDigits c, hexW id, hexW body] [46] [] (by simp) _ (strs_new _ _ _) hlen (by simp)).mono ?_; rintro e w' ⟨rfl, hb1⟩))
  have hk := (by assumption : _ ∧ _ ∧ _ ∧ _ ∧ _ ∧ Kp _ _ _).2.2.2.2.2.below
  go_wp2
  go_ret
  exact ⟨by rw [← htg]; rfl, hk⟩
end Go.Proofs.YtaojoifpekoecaaGreatDoor



namespace Go.Proofs.YtaojoifpekoecaaGreatDoor
open Go.RowKit Go.Shelf
set_option maxHeartbeats 400000
theorem Kp.grow {w w1 w2 : World} {c : Array Value} (h : Kp w c w1) (ht : Pow w) (hb : Below (w.heap.size + 1) w1 w2) : Kp w c w2 := by
  obtain ⟨h1, h2, h3, h4⟩ := h
  have h5 := h3.trans (hb.mono (Nat.le_succ _))
  refine ⟨?_, ht.below h5 (Nat.le_refl _), h5, Nat.le_trans h4 hb.size⟩
  rw [hb.block _ (Nat.lt_succ_self _)]; exact h1
theorem StrsV.below {w w' : World} {v : Value} {xs : List (List UInt8)} (h : StrsV w v xs) (hb : Below w.heap.size w w') : StrsV w' v xs := by
  obtain ⟨a, c, h1, h2, h⟩ := h
  refine ⟨a, c, h1, h2, fun h0 => ?_⟩
  obtain ⟨b, o, h3, h4, h5⟩ := h h0
  exact ⟨b, o, h3, Nat.lt_of_lt_of_le h4 hb.size, fun j x hx => (hb.cell h4).trans (h5 j x hx)⟩
def Kq (w : World) (c : Array Value) (v : Value) (xs : List (List UInt8)) (w' : World) : Prop := Kp w c w' ∧ StrsV w' v xs
theorem Kq.step {w w1 w2 : World} {c : Array Value} {v : Value} {xs : List (List UInt8)} (h : Kq w c v xs w1) (hb : Below w1.heap.size w1 w2) : Kq w c v xs w2 := ⟨h.1.step hb, h.2.below hb⟩
theorem Kq.five {w w1 : World} {a b c d e v : Value} {xs : List (List UInt8)} (h : Kq w #[a, b, c, d, e] v xs w1) : w1.cell? ⟨w.heap.size, 0, none⟩ = some a ∧ w1.cell? ⟨w.heap.size, 1, none⟩ = some b ∧ w1.cell? ⟨w.heap.size, 2, none⟩ = some c ∧ w1.cell? ⟨w.heap.size, 3, none⟩ = some d ∧ w1.cell? ⟨w.heap.size, 4, none⟩ = some e ∧ Kq w #[a, b, c, d, e] v xs w1 :=
  ⟨h.1.cell 0, h.1.cell 1, h.1.cell 2, h.1.cell 3, h.1.cell 4, h⟩
end Go.Proofs.YtaojoifpekoecaaGreatDoor



namespace Go.Proofs.YtaojoifpekoecaaGreatDoor
open Go.RowKit Go.Shelf
set_option maxHeartbeats 400000
def Kr (w : World) (c : Array Value) (v : Value) (xs : List (List UInt8)) (u : Value) (ys : List (List UInt8)) (w' : World) : Prop := Kp w c w' ∧ StrsV w' v xs ∧ StrsV w' u ys
theorem Kr.step {w w1 w2 : World} {c : Array Value} {v u : Value} {xs ys : List (List UInt8)} (h : Kr w c v xs u ys w1) (hb : Below w1.heap.size w1 w2) : Kr w c v xs u ys w2 := ⟨h.1.step hb, h.2.1.below hb, h.2.2.below hb⟩
end Go.Proofs.YtaojoifpekoecaaGreatDoor



namespace Go.Proofs.YtaojoifpekoecaaGreatDoor
open Go.RowKit Go.Shelf
set_option maxHeartbeats 400000
/-- a string's length is a Go length -/
def Lim (l : List UInt8) : Prop := l.length ≤ 281474976710656
def QueE0 (_ : World) (cs : List Value) (m : QueD) : Prop := cs = [S m.name, .int .i64 m.room, .int .i64 m.limit, S m.dead] ∧ I64 m.room ∧ I64 m.limit ∧ Lim m.name ∧ Lim m.dead
theorem Below.drewN {B : Nat} {a w : World} (h : Below B a w) (n : Nat) : Below B a (w.drewN n) := h.trans ⟨rfl, rfl, rfl, Nat.le_refl _, fun _ _ => rfl⟩
end Go.Proofs.YtaojoifpekoecaaGreatDoor



namespace Go.Proofs.YtaojoifpekoecaaGreatDoor
open Go.RowKit Go.Shelf
theorem joinTail_len (sep : List UInt8) (B : Nat) : ∀ (r : List (List UInt8)), (∀ x ∈ r, x.length ≤ B) → (Lib.joinTail sep r).length ≤ r.length * (B + sep.length)
  | [], _ => by simp [Lib.joinTail]
  | y :: r, h => by
    have e : Lib.joinTail sep (y :: r) = (sep ++ y) ++ Lib.joinTail sep r := rfl
    have h1 := h y (List.mem_cons_self ..)
    have h2 := joinTail_len sep B r (fun x hx => h x (List.mem_cons_of_mem _ hx))
    rw [e, List.length_append, List.length_append, List.length_cons, Nat.succ_mul]
    omega
theorem join_len (xs : List (List UInt8)) (sep : List UInt8) (B n : Nat) (hn : xs.length ≤ n) (h : ∀ x ∈ xs, x.length ≤ B) : (Lib.join xs sep).length ≤ n * (B + sep.length) := by
  refine Nat.le_trans ?_ (Nat.mul_le_mul_right _ hn)
  cases xs with
  | nil => simp [Lib.join_nil]
  | cons y r =>
    have h1 := h y (List.mem_cons_self ..)
    have h2 := joinTail_len sep B r (fun x hx => h x (List.mem_cons_of_mem _ hx))
    rw [Lib.join_cons, List.length_append, List.length_cons, Nat.succ_mul]
    omega
theorem hexL_len (l : List UInt8) : (hexL l).length = 2 * l.length := by
  induction l with
  | nil => rfl
  | cons a l ih => simp [hexL] at ih ⊢ <;> omega
theorem hexW_len (l : List UInt8) : (hexW l).length ≤ 2 * l.length + 1 := by
  unfold hexW
  split
  · simp
  · rw [hexL_len]; omega
theorem itoa_len (n : Int) (h : I64 n) : (Lib.itoa n).length ≤ 21 := by
  by_cases h0 : n < 0
  · rw [Lib.itoa, if_pos h0, List.length_cons]
    have := short_dec n.natAbs (by have := h.1; omega)
    omega
  · obtain ⟨u, rfl⟩ : ∃ u : Nat, n = u := ⟨n.toNat, by omega⟩
    rw [Lib.itoa_nonneg]
    have := short_dec u (by have := h.2; omega)
    omega
theorem ansW_len (b : Bool) : (ansW b).length ≤ 3 := by cases b <;> simp [ansW]
theorem msgW_len (p t c : Nat) (id body : List UInt8) (hp : p < 256) (ht : t < 4294967296) (hc : c < 4294967296) (hi : id.length ≤ 8192) (hb : body.length ≤ 8192) : (msgW p t c id body).length ≤ 100000 := by
  have := join_len [Lib.decDigits p, Lib.decDigits t, Lib.decDigits c, hexW id, hexW body] [46] 16385 5 (by simp) (by
    have h1 := short_dec p (by omega); have h2 := short_dec t (by omega); have h3 := short_dec c (by omega); have h4 := hexW_len id; have h5 := hexW_len body
    intro x hx
    simp only [List.mem_cons, List.not_mem_nil, or_false] at hx
    rcases hx with rfl | rfl | rfl | rfl | rfl <;> omega)
  simp only [List.length_cons, List.length_nil] at this
  unfold msgW
  omega
theorem outW_len (k a b : Nat) (cond : List UInt8) (hk : k < 256) (ha : a < 18446744073709551616) (hb : b < 18446744073709551616) (hc : cond.length ≤ 8192) : (outW k a b cond).length ≤ 100000 := by
  have := join_len [Lib.decDigits k, Lib.decDigits a, Lib.decDigits b, hexW cond] [46] 16385 4 (by simp) (by
    have h1 := short_dec k (by omega); have h2 := short_dec a ha; have h3 := short_dec b hb; have h4 := hexW_len cond
    intro x hx
    simp only [List.mem_cons, List.not_mem_nil, or_false] at hx
    rcases hx with rfl | rfl | rfl | rfl <;> omega)
  simp only [List.length_cons, List.length_nil] at this
  unfold outW
  omega
def MsgE0 (w : World) (cs : List Value) (m : MsgD) : Prop := ∃ bv, cs = [.int .u8 m.p, .int .u32 m.t, .int .u32 m.c, S m.id, bv] ∧ BytesV w bv m.body ∧ m.p < 256 ∧ m.t < 4294967296 ∧ m.c < 4294967296 ∧ Lim m.id ∧ Lim m.body
def BecE0 (_ : World) (cs : List Value) (m : BecD) : Prop := cs = [.int .i64 m.who, S m.link, S m.tag, .int .u8 m.k, .int .u64 m.a, .int .u64 m.b, S m.cond] ∧ I64 m.who ∧ m.k < 256 ∧ m.a < 18446744073709551616 ∧ m.b < 18446744073709551616 ∧ Lim m.link ∧ Lim m.tag ∧ Lim m.cond
theorem MsgE0.st {w w' : World} {cs : List Value} {m : MsgD} (hb : Below w.heap.size w w') (h : MsgE0 w cs m) : MsgE0 w' cs m := by
  obtain ⟨bv, h1, h2, h3⟩ := h
  exact ⟨bv, h1, h2.below hb (Nat.le_refl _), h3⟩
theorem BecE0.st {w w' : World} {cs : List Value} {m : BecD} (_ : Below w.heap.size w w') (h : BecE0 w cs m) : BecE0 w' cs m := h
theorem QueE0.st {w w' : World} {cs : List Value} {m : QueD} (_ : Below w.heap.size w w') (h : QueE0 w cs m) : QueE0 w' cs m := h
end Go.Proofs.YtaojoifpekoecaaGreatDoor



namespace Go.Proofs.YtaojoifpekoecaaGreatDoor
open Go.RowKit Go.Shelf
end Go.Proofs.YtaojoifpekoecaaGreatDoor
