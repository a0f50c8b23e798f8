/-
  The reference's Octets (first part). Conditions: as each theorem says.
-/
import Derived.Test.YtaojoifpekoecaaGreatDoorT10
namespace Go.Proofs.YtaojoifpekoecaaGreatDoor
open Go.RowKit Go.Shelf
theorem hexL_at (l : List UInt8) : ∀ (q : Nat) (x : UInt8), l[q]? = some x → (hexL l)[2 * q]? = some (hexd (x.toNat / 16)) ∧ (hexL l)[2 * q + 1]? = some (hexd (x.toNat % 16)) := by
  induction l with
  | nil => intro q x h; simp at h
  | cons b l ih =>
    intro q x h
    cases q with
    | zero => cases h; exact ⟨rfl, rfl⟩
    | succ q =>
      obtain ⟨h1, h2⟩ := ih q x (by simpa using h)
      have e : hexL (b :: l) = hexd (b.toNat / 16) :: hexd (b.toNat % 16) :: hexL l := rfl
      rw [e]
      exact ⟨by rw [show 2 * (q + 1) = 2 * q + 1 + 1 by omega]; simpa using h1, by rw [show 2 * (q + 1) + 1 = 2 * q + 1 + 1 + 1 by omega]; simpa using h2⟩
theorem take_step (l : List UInt8) (k : Nat) (y : UInt8) (h : (hexL l)[k]? = some y) : (Lib.byteCells (hexL l)).take (k + 1) = (Lib.byteCells (hexL l)).take k ++ [.int .u8 (y.toNat : Int)] := by
  rw [List.take_add_one]
  have : (Lib.byteCells (hexL l))[k]? = some (.int .u8 (y.toNat : Int)) := by simp [Lib.byteCells, h]
  rw [this]; rfl
set_option maxHeartbeats 1000000
set_option maxRecDepth 100000 in
theorem octets1 (b o c : Nat) (l : List UInt8) (h0 : l ≠ []) (hs : l.length ≤ 100000000) (w : World) (hbl : b < w.heap.size) (hc : ∀ (j : Nat) x, l[j]? = some x → w.cell? ⟨b, o + j, none⟩ = some (.int .u8 (x.toNat : Int))) :
    Calls Tryz.prog 80 #[.slice (some ⟨b, o, none⟩) l.length c] w fun e w' => e = .returned (S (hexW l)) ∧ Below w.heap.size w w' := by
  obtain ⟨i0, hi, hz0, hz1, hz2⟩ := info_parts infoByte
  have hlp : 0 < l.length := List.length_pos_iff.2 h0
  go_enter Tryz.func80, Tryz.ntmps80
  go_wp2
  go_loopw [4, 5] (fun v i wr => ∃ k : Nat, k ≤ 2 * l.length ∧ i = .int .i64 k ∧ wr.ownsRow w.heap.size 5 1 v k ((Lib.byteCells (hexL l)).take k) ∧ Below w.heap.size w wr)
    (fun _ i _ => 2 * l.length - (intOf i).toNat)
  case atStart => exact ⟨0, Nat.zero_le _, rfl, ⟨rfl, .inr ⟨w.heap.size, 0, #[], rfl, Nat.le_refl _, heap_alloc_last w _, Nat.le_refl _, by decide, rfl, rfl⟩⟩, (Below.refl _ _).alloc (Nat.le_refl _) _⟩
  case round =>
    obtain ⟨k, hk, rfl, hown, hb⟩ := hrel
    have hsz := hb.size
    by_cases hlt : k < 2 * l.length
    · obtain ⟨q, hq⟩ : ∃ q, q = k / 2 := ⟨_, rfl⟩
      have hql : q < l.length := by omega
      have hd : (k : Int).tdiv 2 = (q : Int) := by rw [Int.tdiv_eq_ediv_of_nonneg (by omega)]; omega
      obtain ⟨x, hx⟩ : ∃ x : UInt8, l[q]? = some x := ⟨_, List.getElem?_eq_getElem hql⟩
      have hce : wr.cell? ⟨b, o + q, none⟩ = some (.int .u8 (x.toNat : Int)) := (hb.cell hbl).trans (hc q x hx)
      have hat := hexL_at l q x hx
      have h256 := x.toNat_lt
      by_cases hp : k % 2 = 0
      · have hm : (k : Int).tmod 2 = 0 := by rw [Int.tmod_eq_emod_of_nonneg (by omega)]; omega
        have hstep := take_step l k (hexd (x.toNat / 16 % 16)) (by rw [show k = 2 * q by omega, hat.1, Nat.mod_eq_of_lt (by omega)])
        clear hq hat
        go_wp2_with (first
          | (at_builtin; refine wpList_append_own _ rfl _ _ 23 rfl w.heap.size 5 i0 (.int .u8 0) 1 1 Tryz.underlying23 hi hz0 hz1 hz2 rfl (by decide) _ _ _ rfl (hown.alloc _) ⟨wr.heap.size, 0, none⟩ 1 1 [.int .u8 ((signs[x.toNat / 16 % 16]'(by show x.toNat / 16 % 16 < 16; omega)).toNat : Int)] rfl rfl ?c1 ?c2 ?c3 ?c4 ?c5 ?_))
        case c1 =>
          intro j u hj
          match j, hj with
          | 0, hj => simp at hj; subst hj; simp [Addr.add]
        case c2 => intro u hu; simp at hu; subst hu; rfl
        case c3 => unfold maxLen; omega
        case c4 => omega
        case c5 => simp; omega
        intro v' w2 hown2 hgrow _
        have hb2 : Below w.heap.size w w2 := hb.trans (((Below.refl w.heap.size wr).alloc hsz _).grown hgrow (by simp; omega) (fun k hk => (hown.lt k hk).1))
        rw [signs_get, ← hstep] at hown2
        go_wp2
        go_roundw
        case rel => exact ⟨k + 1, by omega, by go_num, hown2, hb2⟩
        case measure => simp [intOf]; omega
      · have hm : (k : Int).tmod 2 = 1 := by rw [Int.tmod_eq_emod_of_nonneg (by omega)]; omega
        have hstep := take_step l k (hexd (x.toNat % 16)) (by rw [show k = 2 * q + 1 by omega, hat.2])
        clear hq hat
        go_wp2_with (first
          | (at_builtin; refine wpList_append_own _ rfl _ _ 23 rfl w.heap.size 5 i0 (.int .u8 0) 1 1 Tryz.underlying23 hi hz0 hz1 hz2 rfl (by decide) _ _ _ rfl (hown.alloc _) ⟨wr.heap.size, 0, none⟩ 1 1 [.int .u8 ((signs[x.toNat % 16]'(by show x.toNat % 16 < 16; omega)).toNat : Int)] rfl rfl ?c1 ?c2 ?c3 ?c4 ?c5 ?_))
        case c1 =>
          intro j u hj
          match j, hj with
          | 0, hj => simp at hj; subst hj; simp [Addr.add]
        case c2 => intro u hu; simp at hu; subst hu; rfl
        case c3 => unfold maxLen; omega
        case c4 => omega
        case c5 => simp; omega
        intro v' w2 hown2 hgrow _
        have hb2 : Below w.heap.size w w2 := hb.trans (((Below.refl w.heap.size wr).alloc hsz _).grown hgrow (by simp; omega) (fun k hk => (hown.lt k hk).1))
        rw [signs_get, ← hstep] at hown2
        go_wp2
        go_roundw
        case rel => exact ⟨k + 1, by omega, by go_num, hown2, hb2⟩
        case measure => simp [intOf]; omega
    · have hke : k = 2 * l.length := by omega
      have hbc : (Lib.byteCells (hexL l)).length = 2 * l.length := by rw [byteCells_length, hexL_length]
      rw [hke, List.take_of_length_le (by omega)] at hown
      obtain ⟨_, ⟨_, hz⟩ | ⟨g, cap, cur, rfl, _, hg, hcap, _, hcs, ht⟩⟩ := hown
      · omega
      rw [Nat.mul_one] at ht
      have hcvr : (convert 23 9 (.slice (some ⟨g, 0, none⟩) (2 * l.length) cap)).run Tryz.prog wr = .ok (S (hexL l)) wr := by
        have h := run_convert_bytes_back (P := Tryz.prog) wr 23 9 5 ⟨g, 0, none⟩ cap (hexL l) Tryz.underlying23 Tryz.underlying5 Tryz.underlying9 (fun j hj => by
          rw [Lib.add_plain, Nat.zero_add]
          have hj2 : j < 2 * l.length := by rw [hexL_length] at hj; omega
          have : (cur.toList.take (2 * l.length))[j]? = some (.int .u8 ((hexL l)[j].toNat : Int)) := by rw [ht]; simp [Lib.byteCells, hj]
          rw [List.getElem?_take, if_pos (by omega)] at this
          unfold World.cell?
          rw [hg]
          simpa using this)
        rw [hexL_length] at h
        exact h
      have hn0 : ((2 * (l.length : Int)) == 0) = false := beq_eq_false_iff_ne.2 (by omega)
      have hfin : hexW l = hexL l := if_neg h0
      clear hbc ht hcs
      subst hke
      go_wp2
      go_ret
      exact ⟨by rw [hfin]; rfl, hb⟩
end Go.Proofs.YtaojoifpekoecaaGreatDoor

