/-
  outcomeWord, queueWord, becameWord. Conditions: as each theorem says.
-/
import Derived.Test.YtaojoifpekoecaaGreatDoorT5
namespace Go.Proofs.YtaojoifpekoecaaGreatDoor
open Go.RowKit Go.Shelf
theorem Kp.four {w w1 : World} {a b c d : Value} (h : Kp w #[a, b, c, d] w1) : w1.cell? ⟨w.heap.size, 0, none⟩ = some a ∧ w1.cell? ⟨w.heap.size, 1, none⟩ = some b ∧ w1.cell? ⟨w.heap.size, 2, none⟩ = some c ∧ w1.cell? ⟨w.heap.size, 3, none⟩ = some d ∧ Kp w #[a, b, c, d] w1 :=
  ⟨h.cell 0, h.cell 1, h.cell 2, h.cell 3, h⟩
theorem Kp.seven {w w1 : World} {a b c d e f g : Value} (h : Kp w #[a, b, c, d, e, f, g] w1) : w1.cell? ⟨w.heap.size, 0, none⟩ = some a ∧ w1.cell? ⟨w.heap.size, 1, none⟩ = some b ∧ w1.cell? ⟨w.heap.size, 2, none⟩ = some c ∧ w1.cell? ⟨w.heap.size, 3, none⟩ = some d ∧ w1.cell? ⟨w.heap.size, 4, none⟩ = some e ∧ w1.cell? ⟨w.heap.size, 5, none⟩ = some f ∧ w1.cell? ⟨w.heap.size, 6, none⟩ = some g ∧ Kp w #[a, b, c, d, e, f, g] w1 :=
  ⟨h.cell 0, h.cell 1, h.cell 2, h.cell 3, h.cell 4, h.cell 5, h.cell 6, h⟩
set_option maxHeartbeats 4000000
def outW (k a b : Nat) (cond : List UInt8) : List UInt8 := Lib.join [Lib.decDigits k, Lib.decDigits a, Lib.decDigits b, hexW cond] [46]
theorem outcomeWord (k a b : Nat) (cond : List UInt8) (w : World) (hk : k < 256) (ha : a < 18446744073709551616) (hb : b < 18446744073709551616) (hc : cond.length ≤ 100000000) (htab : Pow w) (hlen : (outW k a b cond).length ≤ 140737488355328) :
    Calls Tryz.prog 64 #[.agg #[.int .u8 k, .int .u64 a, .int .u64 b, S cond]] w fun e w' => e = .returned (S (outW k a b cond)) ∧ Below w.heap.size w w' := by
  have k0 := (Kp.init htab #[.int .u8 k, .int .u64 a, .int .u64 b, S cond] 28).drew
  go_enter Tryz.func64, Tryz.ntmps64
  go_wp2_with fail
  go_region_held3 (fun w' => w'.cell? ⟨w.heap.size, 0, none⟩ = some (.int .u8 k) ∧ w'.cell? ⟨w.heap.size, 1, none⟩ = some (.int .u64 a) ∧ w'.cell? ⟨w.heap.size, 2, none⟩ = some (.int .u64 b) ∧ w'.cell? ⟨w.heap.size, 3, none⟩ = some (S cond) ∧ Kp w #[.int .u8 k, .int .u64 a, .int .u64 b, S cond] w')
    (first
      | exact Kp.four k0
      | exact Kp.four (Kp.step (by assumption : _ ∧ _ ∧ _ ∧ _ ∧ Kp _ _ _).2.2.2.2 (by assumption))
      | exact Kp.four (Kp.step (by assumption : _ ∧ _ ∧ _ ∧ _ ∧ Kp _ _ _).2.2.2.2 ((Below.refl _ _).alloc (Nat.le_refl _) _)))
    (first
      | (go_at_call 63; refine (num_u8 k hk _ (by assumption : _ ∧ _ ∧ _ ∧ _ ∧ Kp _ _ _).2.2.2.2.pow).mono ?_; rintro e w' ⟨rfl, hb1⟩)
      | (go_at_call 93; refine (num_u64 _ (by assumption) _ (by assumption : _ ∧ _ ∧ _ ∧ _ ∧ Kp _ _ _).2.2.2.2.pow).mono ?_; rintro e w' ⟨rfl, hb1⟩)
      | (go_at_call 47; refine (hex_strL cond hc _).mono ?_; rintro e w' ⟨rfl, hb1⟩)
      | (go_at_call 76; refine (points _ [Lib.decDigits k, Lib.decDigits a, Lib.decDigits b, hexW cond] _ (strs_new _ _ _) (by simp) hlen).mono ?_; rintro e w' ⟨rfl, hb1⟩))
  have hk := (by assumption : _ ∧ _ ∧ _ ∧ _ ∧ Kp _ _ _).2.2.2.2.below
  go_wp2
  go_ret
  exact ⟨rfl, hk⟩
def queW (name dead : List UInt8) (room limit : Int) : List UInt8 := Lib.join [hexW name, Lib.itoa room, Lib.itoa limit, hexW dead] [46]
theorem queueWord (name dead : List UInt8) (room limit : Int) (w : World) (hn : name.length ≤ 100000000) (hd : dead.length ≤ 100000000) (hr0 : -9223372036854775808 ≤ room) (hr1 : room ≤ 9223372036854775807) (hl0 : -9223372036854775808 ≤ limit) (hl1 : limit ≤ 9223372036854775807) (htab : Pow w) (hlen : (queW name dead room limit).length ≤ 140737488355328) :
    Calls Tryz.prog 43 #[.agg #[S name, .int .i64 room, .int .i64 limit, S dead]] w fun e w' => e = .returned (S (queW name dead room limit)) ∧ Below w.heap.size w w' := by
  have k0 := (Kp.init htab #[S name, .int .i64 room, .int .i64 limit, S dead] 84).drew
  go_enter Tryz.func43, Tryz.ntmps43
  go_wp2_with fail
  go_region_held3 (fun w' => w'.cell? ⟨w.heap.size, 0, none⟩ = some (S name) ∧ w'.cell? ⟨w.heap.size, 1, none⟩ = some (.int .i64 room) ∧ w'.cell? ⟨w.heap.size, 2, none⟩ = some (.int .i64 limit) ∧ w'.cell? ⟨w.heap.size, 3, none⟩ = some (S dead) ∧ Kp w #[S name, .int .i64 room, .int .i64 limit, S dead] w')
    (first
      | exact Kp.four k0
      | exact Kp.four (Kp.step (by assumption : _ ∧ _ ∧ _ ∧ _ ∧ Kp _ _ _).2.2.2.2 (by assumption))
      | exact Kp.four (Kp.step (by assumption : _ ∧ _ ∧ _ ∧ _ ∧ Kp _ _ _).2.2.2.2 ((Below.refl _ _).alloc (Nat.le_refl _) _)))
    (first
      | (go_at_call 40; refine (num_int _ (by assumption) (by assumption) _ (by assumption : _ ∧ _ ∧ _ ∧ _ ∧ Kp _ _ _).2.2.2.2.pow).mono ?_; rintro e w' ⟨rfl, hb1⟩)
      | (go_at_call 47; refine (hex_strL _ (by assumption) _).mono ?_; rintro e w' ⟨rfl, hb1⟩)
      | (go_at_call 76; refine (points _ [hexW name, Lib.itoa room, Lib.itoa limit, hexW dead] _ (strs_new _ _ _) (by simp) hlen).mono ?_; rintro e w' ⟨rfl, hb1⟩))
  have hk := (by assumption : _ ∧ _ ∧ _ ∧ _ ∧ Kp _ _ _).2.2.2.2.below
  go_wp2
  go_ret
  exact ⟨rfl, hk⟩
def becW (who : Int) (link tag : List UInt8) (k a b : Nat) (cond : List UInt8) : List UInt8 := Lib.join [Lib.itoa who, hexW link, hexW tag, outW k a b cond] [46]
theorem becameWord (who : Int) (link tag : List UInt8) (k a b : Nat) (cond : List UInt8) (w : World) (hw0 : -9223372036854775808 ≤ who) (hw1 : who ≤ 9223372036854775807) (hli : link.length ≤ 100000000) (hta : tag.length ≤ 100000000) (hk : k < 256) (ha : a < 18446744073709551616) (hb : b < 18446744073709551616) (hc : cond.length ≤ 100000000) (hlo : (outW k a b cond).length ≤ 140737488355328) (htab : Pow w) (hlen : (becW who link tag k a b cond).length ≤ 140737488355328) :
    Calls Tryz.prog 51 #[.agg #[.int .i64 who, S link, S tag, .int .u8 k, .int .u64 a, .int .u64 b, S cond]] w fun e w' => e = .returned (S (becW who link tag k a b cond)) ∧ Below w.heap.size w w' := by
  have k0 := (Kp.init htab #[.int .i64 who, S link, S tag, .int .u8 k, .int .u64 a, .int .u64 b, S cond] 50).drew
  go_enter Tryz.func51, Tryz.ntmps51
  go_wp2_with fail
  go_region_held3 (fun w' => w'.cell? ⟨w.heap.size, 0, none⟩ = some (.int .i64 who) ∧ w'.cell? ⟨w.heap.size, 1, none⟩ = some (S link) ∧ w'.cell? ⟨w.heap.size, 2, none⟩ = some (S tag) ∧ w'.cell? ⟨w.heap.size, 3, none⟩ = some (.int .u8 k) ∧ w'.cell? ⟨w.heap.size, 4, none⟩ = some (.int .u64 a) ∧ w'.cell? ⟨w.heap.size, 5, none⟩ = some (.int .u64 b) ∧ w'.cell? ⟨w.heap.size, 6, none⟩ = some (S cond) ∧ Kp w #[.int .i64 who, S link, S tag, .int .u8 k, .int .u64 a, .int .u64 b, S cond] w')
    (first
      | exact Kp.seven k0
      | exact Kp.seven (Kp.step (by assumption : _ ∧ _ ∧ _ ∧ _ ∧ _ ∧ _ ∧ _ ∧ Kp _ _ _).2.2.2.2.2.2.2 (by assumption))
      | exact Kp.seven (Kp.step (by assumption : _ ∧ _ ∧ _ ∧ _ ∧ _ ∧ _ ∧ _ ∧ Kp _ _ _).2.2.2.2.2.2.2 ((Below.refl _ _).alloc (Nat.le_refl _) _)))
    (first
      | (go_at_call 40; refine (num_int _ (by assumption) (by assumption) _ (by assumption : _ ∧ _ ∧ _ ∧ _ ∧ _ ∧ _ ∧ _ ∧ Kp _ _ _).2.2.2.2.2.2.2.pow).mono ?_; rintro e w' ⟨rfl, hb1⟩)
      | (go_at_call 47; refine (hex_strL _ (by assumption) _).mono ?_; rintro e w' ⟨rfl, hb1⟩)
      | (go_at_call 64; refine (outcomeWord k a b cond _ hk ha hb hc (by assumption : _ ∧ _ ∧ _ ∧ _ ∧ _ ∧ _ ∧ _ ∧ Kp _ _ _).2.2.2.2.2.2.2.pow hlo).mono ?_; rintro e w' ⟨rfl, hb1⟩)
      | (go_at_call 76; refine (points _ [Lib.itoa who, hexW link, hexW tag, outW k a b cond] _ (strs_new _ _ _) (by simp) hlen).mono ?_; rintro e w' ⟨rfl, hb1⟩))
  have hk := (by assumption : _ ∧ _ ∧ _ ∧ _ ∧ _ ∧ _ ∧ _ ∧ Kp _ _ _).2.2.2.2.2.2.2.below
  go_wp2
  go_ret
  exact ⟨rfl, hk⟩
end Go.Proofs.YtaojoifpekoecaaGreatDoor

