/-
  vastSetup answers some bool; false bounds the queues. Conditions: as each theorem says.
-/
import Derived.Test.YtaojoifpekoecaaGreatDoorT16
import Derived.Deep.QuietTactic
namespace Go.Proofs.YtaojoifpekoecaaGreatDoor
open Go.RowKit Go.Shelf
set_option maxHeartbeats 400000
/-- a string's length is a Go length -/
def Lim (l : List UInt8) : Prop := l.length ≤ 281474976710656
def QueE0 (_ : World) (cs : List Value) (m : QueD) : Prop := cs = [S m.name, .int .i64 m.room, .int .i64 m.limit, S m.dead] ∧ I64 m.room ∧ I64 m.limit ∧ Lim m.name ∧ Lim m.dead
theorem Below.drewN {B : Nat} {a w : World} (h : Below B a w) (n : Nat) : Below B a (w.drewN n) := h.trans ⟨rfl, rfl, rfl, Nat.le_refl _, fun _ _ => rfl⟩
set_option maxRecDepth 100000 in
theorem vastSetup (cl : Int) (mf wi id : Nat) (qv : Value) (qs : List QueD) (w : World) (hq : SliceV 4 QueE0 w qv qs) :
    Calls Tryz.prog 12 #[.agg #[.int .i64 cl, .int .u32 mf, .int .u32 wi, .int .u32 id, qv]] w fun e w' => (∃ b, e = .returned (.bool b) ∧ (b = false → qs.length ≤ 20 ∧ ∀ q ∈ qs, q.name.length + q.dead.length ≤ 300)) ∧ Below w.heap.size w w' := by
  obtain ⟨a, c, rfl, hv⟩ := hq
  go_enter Tryz.func12, Tryz.ntmps12
  go_wp2_with fail
  · go_ret
    refine ⟨⟨true, rfl, fun h => by cases h⟩, (Below.refl _ _).alloc (Nat.le_refl _) _⟩
  go_loopw [3] (fun i wr => ∃ k : Nat, k ≤ qs.length ∧ i = .int .i64 k ∧ (∀ q ∈ qs.take k, q.name.length + q.dead.length ≤ 300) ∧ Below w.heap.size w wr ∧ wr.cell? ⟨w.heap.size, 4, none⟩ = some (.slice a qs.length c))
    (fun i _ => qs.length - (intOf i).toNat)
  case atStart => exact ⟨0, Nat.zero_le _, rfl, by simp, (Below.refl _ _).alloc (Nat.le_refl _) _, by rw [World.cell?_alloc_new]; rfl⟩
  case round =>
    obtain ⟨k, hk, rfl, hle, hb, h4⟩ := hrel
    by_cases hlt : k < qs.length
    · obtain ⟨b, o, rfl, hbl, hel⟩ := hv (fun h => by subst h; cases hlt)
      obtain ⟨cs, hcl, hco, hcr, rfl, hl1, hl2, hl3, hl4⟩ := hel k qs[k] (List.getElem?_eq_getElem hlt)
      have hcr' := rangeAt_below hcr hb hbl
      have e0 := hcr' 0 _ rfl
      have e3 := hcr' 3 _ rfl
      rw [Nat.add_zero] at e0
      have hl3' : qs[k].name.length ≤ 281474976710656 := hl3
      have hl4' : qs[k].dead.length ≤ 281474976710656 := hl4
      have hsum : IntKind.i64.wrap ((qs[k].name.length : Int) + (qs[k].dead.length : Int)) = (qs[k].name.length : Int) + (qs[k].dead.length : Int) := by rw [IntKind.wrap_i64]; omega
      go_wp2_with fail
      go_quiet (fail)
      go_wp2_with fail
      · go_ret
        exact ⟨⟨true, rfl, fun h => by cases h⟩, Below.drewN hb _⟩
      · go_roundw
        case rel =>
          refine ⟨k + 1, by omega, by go_num, ?_, Below.drewN hb _, by first | exact h4 | simpa using h4⟩
          intro q hq
          rw [List.take_succ_eq_append_getElem hlt, List.mem_append] at hq
          rcases hq with hq | hq
          · exact hle q hq
          · rw [List.mem_singleton] at hq
            subst hq
            omega
        case measure => simp [intOf]; omega
    · have hke : k = qs.length := by omega
      subst hke
      rw [List.take_length] at hle
      go_wp2_with fail
      go_ret
      exact ⟨⟨false, rfl, fun _ => ⟨by omega, hle⟩⟩, hb⟩
end Go.Proofs.YtaojoifpekoecaaGreatDoor

