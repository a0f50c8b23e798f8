/-
  The reference's outcome, msg, became, queue. Conditions: as each theorem says.
-/
import Derived.Test.YtaojoifpekoecaaGreatDoorT13
namespace Go.Proofs.YtaojoifpekoecaaGreatDoor
open Go.RowKit Go.Shelf
set_option maxHeartbeats 400000
theorem numberW (n : Nat) (h : n < 9223372036854775808) (w : World) :
    Calls Tryz.prog 45 #[.int .i64 (IntKind.i64.wrap n)] w fun e w' => e = .returned (S (Lib.decDigits n)) ∧ Below w.heap.size w w' := by
  have h1 : IntKind.i64.wrap (n : Int) = n := by rw [IntKind.wrap_i64]; omega
  rw [h1]; exact numberN n h w
theorem outcome (k a b : Nat) (cond : List UInt8) (w : World) (hk : k < 256) (ha : a < 18446744073709551616) (hb : b < 18446744073709551616) (hc : cond.length ≤ 100000000) (htab : Pow w) (hlen : (outW k a b cond).length ≤ 140737488355328) :
    Calls Tryz.prog 66 #[.agg #[.int .u8 k, .int .u64 a, .int .u64 b, S cond]] w fun e w' => e = .returned (S (outW k a b cond)) ∧ Below w.heap.size w w' := by
  have k0 := (Kp.init htab #[.int .u8 k, .int .u64 a, .int .u64 b, S cond] 28).drew
  have ht : togW [Lib.decDigits k, Lib.decDigits a, Lib.decDigits b, hexW cond] [46] [] = outW k a b cond := if_neg (by simp)
  go_enter Tryz.func66, Tryz.ntmps66
  go_wp2_with fail
  go_region_held3 (fun w' => w'.cell? ⟨w.heap.size, 0, none⟩ = some (.int .u8 k) ∧ w'.cell? ⟨w.heap.size, 1, none⟩ = some (.int .u64 a) ∧ w'.cell? ⟨w.heap.size, 2, none⟩ = some (.int .u64 b) ∧ w'.cell? ⟨w.heap.size, 3, none⟩ = some (S cond) ∧ Kp w #[.int .u8 k, .int .u64 a, .int .u64 b, S cond] w')
    (first
      | exact Kp.four k0
      | exact Kp.four (Kp.step (by assumption : _ ∧ _ ∧ _ ∧ _ ∧ Kp _ _ _).2.2.2.2 (by assumption))
      | exact Kp.four (Kp.step (by assumption : _ ∧ _ ∧ _ ∧ _ ∧ Kp _ _ _).2.2.2.2 ((Below.refl _ _).alloc (Nat.le_refl _) _)))
    (first
      | (go_at_call 45; refine (numberW k (by omega) _).mono ?_; rintro e w' ⟨rfl, hb1⟩)
      | (go_at_call 77; refine (digits _ _ (by assumption)).mono ?_; rintro e w' ⟨rfl, hb1⟩)
      | (go_at_call 55; refine (str cond _ hc).mono ?_; rintro e w' ⟨rfl, hb1⟩)
      | (go_at_call 25; refine (tog _ [Lib.decDigits k, Lib.decDigits a, Lib.decDigits b, hexW cond] [46] [] (by simp) _ (strs_new _ _ _) hlen (by simp)).mono ?_; rintro e w' ⟨rfl, hb1⟩))
  have hk := (by assumption : _ ∧ _ ∧ _ ∧ _ ∧ Kp _ _ _).2.2.2.2.below
  go_wp2
  go_ret
  exact ⟨by rw [← ht]; rfl, hk⟩
theorem msg (p t c : Nat) (id body : List UInt8) (bv : Value) (w : World) (hp : p < 256) (ht : t < 4294967296) (hc : c < 4294967296) (hid : id.length ≤ 100000000) (hbody : body.length ≤ 100000000) (hb : BytesV w bv body) (htab : Pow w) (hlen : (msgW p t c id body).length ≤ 140737488355328) :
    Calls Tryz.prog 52 #[.agg #[.int .u8 p, .int .u32 t, .int .u32 c, S id, bv]] w fun e w' => e = .returned (S (msgW p t c id body)) ∧ Below w.heap.size w w' := by
  have k0 := (Kp.init htab #[.int .u8 p, .int .u32 t, .int .u32 c, S id, bv] 25).drew
  have htg : togW [Lib.decDigits p, Lib.decDigits t, Lib.decDigits c, hexW id, hexW body] [46] [] = msgW p t c id body := if_neg (by simp)
  go_enter Tryz.func52, Tryz.ntmps52
  go_wp2_with fail
  go_region_held3 (fun w' => w'.cell? ⟨w.heap.size, 0, none⟩ = some (.int .u8 p) ∧ w'.cell? ⟨w.heap.size, 1, none⟩ = some (.int .u32 t) ∧ w'.cell? ⟨w.heap.size, 2, none⟩ = some (.int .u32 c) ∧ w'.cell? ⟨w.heap.size, 3, none⟩ = some (S id) ∧ w'.cell? ⟨w.heap.size, 4, none⟩ = some (bv) ∧ Kp w #[.int .u8 p, .int .u32 t, .int .u32 c, S id, bv] w')
    (first
      | exact Kp.five k0
      | exact Kp.five (Kp.step (by assumption : _ ∧ _ ∧ _ ∧ _ ∧ _ ∧ Kp _ _ _).2.2.2.2.2 (by assumption))
      | exact Kp.five (Kp.step (by assumption : _ ∧ _ ∧ _ ∧ _ ∧ _ ∧ Kp _ _ _).2.2.2.2.2 ((Below.refl _ _).alloc (Nat.le_refl _) _)))
    (first
      | (go_at_call 45; refine (numberW _ (by omega) _).mono ?_; rintro e w' ⟨rfl, hb1⟩)
      | (go_at_call 55; refine (str id _ hid).mono ?_; rintro e w' ⟨rfl, hb1⟩)
      | (go_at_call 80; refine (octets bv body _ (hb.below (by assumption : _ ∧ _ ∧ _ ∧ _ ∧ _ ∧ Kp _ _ _).2.2.2.2.2.below (Nat.le_refl _)) hbody).mono ?_; rintro e w' ⟨rfl, hb1⟩)
      | (go_at_call 25; refine (tog _ [Lib.decDigits p, Lib.decDigits t, Lib.decDigits c, hexW id, hexW body] [46] [] (by simp) _ (strs_new _ _ _) hlen (by simp)).mono ?_; rintro e w' ⟨rfl, hb1⟩))
  have hk := (by assumption : _ ∧ _ ∧ _ ∧ _ ∧ _ ∧ Kp _ _ _).2.2.2.2.2.below
  go_wp2
  go_ret
  exact ⟨by rw [← htg]; rfl, hk⟩
theorem became (who : Int) (link tag : List UInt8) (k a b : Nat) (cond : List UInt8) (w : World) (hw0 : -9223372036854775808 ≤ who) (hw1 : who ≤ 9223372036854775807) (hli : link.length ≤ 100000000) (hta : tag.length ≤ 100000000) (hk : k < 256) (ha : a < 18446744073709551616) (hb : b < 18446744073709551616) (hc : cond.length ≤ 100000000) (hlo : (outW k a b cond).length ≤ 140737488355328) (htab : Pow w) (hlen : (becW who link tag k a b cond).length ≤ 140737488355328) :
    Calls Tryz.prog 53 #[.agg #[.int .i64 who, S link, S tag, .int .u8 k, .int .u64 a, .int .u64 b, S cond]] w fun e w' => e = .returned (S (becW who link tag k a b cond)) ∧ Below w.heap.size w w' := by
  have k0 := (Kp.init htab #[.int .i64 who, S link, S tag, .int .u8 k, .int .u64 a, .int .u64 b, S cond] 50).drew
  have ht : togW [Lib.itoa who, hexW link, hexW tag, outW k a b cond] [46] [] = becW who link tag k a b cond := if_neg (by simp)
  go_enter Tryz.func53, Tryz.ntmps53
  go_wp2_with fail
  go_region_held3 (fun w' => w'.cell? ⟨w.heap.size, 0, none⟩ = some (.int .i64 who) ∧ w'.cell? ⟨w.heap.size, 1, none⟩ = some (S link) ∧ w'.cell? ⟨w.heap.size, 2, none⟩ = some (S tag) ∧ w'.cell? ⟨w.heap.size, 3, none⟩ = some (.int .u8 k) ∧ w'.cell? ⟨w.heap.size, 4, none⟩ = some (.int .u64 a) ∧ w'.cell? ⟨w.heap.size, 5, none⟩ = some (.int .u64 b) ∧ w'.cell? ⟨w.heap.size, 6, none⟩ = some (S cond) ∧ Kp w #[.int .i64 who, S link, S tag, .int .u8 k, .int .u64 a, .int .u64 b, S cond] w')
    (first
      | exact Kp.seven k0
      | exact Kp.seven (Kp.step (by assumption : _ ∧ _ ∧ _ ∧ _ ∧ _ ∧ _ ∧ _ ∧ Kp _ _ _).2.2.2.2.2.2.2 (by assumption))
      | exact Kp.seven (Kp.step (by assumption : _ ∧ _ ∧ _ ∧ _ ∧ _ ∧ _ ∧ _ ∧ Kp _ _ _).2.2.2.2.2.2.2 ((Below.refl _ _).alloc (Nat.le_refl _) _)))
    (first
      | (go_at_call 45; refine (number who hw0 hw1 _).mono ?_; rintro e w' ⟨rfl, hb1⟩)
      | (go_at_call 55; refine (str _ _ (by assumption)).mono ?_; rintro e w' ⟨rfl, hb1⟩)
      | (go_at_call 66; refine (outcome k a b cond _ hk ha hb hc (by assumption : _ ∧ _ ∧ _ ∧ _ ∧ _ ∧ _ ∧ _ ∧ Kp _ _ _).2.2.2.2.2.2.2.pow hlo).mono ?_; rintro e w' ⟨rfl, hb1⟩)
      | (go_at_call 25; refine (tog _ [Lib.itoa who, hexW link, hexW tag, outW k a b cond] [46] [] (by simp) _ (strs_new _ _ _) hlen (by simp)).mono ?_; rintro e w' ⟨rfl, hb1⟩))
  have hk := (by assumption : _ ∧ _ ∧ _ ∧ _ ∧ _ ∧ _ ∧ _ ∧ Kp _ _ _).2.2.2.2.2.2.2.below
  go_wp2
  go_ret
  exact ⟨by rw [← ht]; rfl, hk⟩
theorem queue (name dead : List UInt8) (room limit : Int) (w : World) (hn : name.length ≤ 100000000) (hd : dead.length ≤ 100000000) (hr0 : -9223372036854775808 ≤ room) (hr1 : room ≤ 9223372036854775807) (hl0 : -9223372036854775808 ≤ limit) (hl1 : limit ≤ 9223372036854775807) (htab : Pow w) (hlen : (queW name dead room limit).length ≤ 140737488355328) :
    Calls Tryz.prog 44 #[.agg #[S name, .int .i64 room, .int .i64 limit, S dead]] w fun e w' => e = .returned (S (queW name dead room limit)) ∧ Below w.heap.size w w' := by
  have k0 := (Kp.init htab #[S name, .int .i64 room, .int .i64 limit, S dead] 84).drew
  have ht : togW [hexW name, Lib.itoa room, Lib.itoa limit, hexW dead] [46] [] = queW name dead room limit := if_neg (by simp)
  go_enter Tryz.func44, Tryz.ntmps44
  go_wp2_with fail
  go_region_held3 (fun w' => w'.cell? ⟨w.heap.size, 0, none⟩ = some (S name) ∧ w'.cell? ⟨w.heap.size, 1, none⟩ = some (.int .i64 room) ∧ w'.cell? ⟨w.heap.size, 2, none⟩ = some (.int .i64 limit) ∧ w'.cell? ⟨w.heap.size, 3, none⟩ = some (S dead) ∧ Kp w #[S name, .int .i64 room, .int .i64 limit, S dead] w')
    (first
      | exact Kp.four k0
      | exact Kp.four (Kp.step (by assumption : _ ∧ _ ∧ _ ∧ _ ∧ Kp _ _ _).2.2.2.2 (by assumption))
      | exact Kp.four (Kp.step (by assumption : _ ∧ _ ∧ _ ∧ _ ∧ Kp _ _ _).2.2.2.2 ((Below.refl _ _).alloc (Nat.le_refl _) _)))
    (first
      | (go_at_call 45; refine (number _ (by assumption) (by assumption) _).mono ?_; rintro e w' ⟨rfl, hb1⟩)
      | (go_at_call 55; refine (str _ _ (by assumption)).mono ?_; rintro e w' ⟨rfl, hb1⟩)
      | (go_at_call 25; refine (tog _ [hexW name, Lib.itoa room, Lib.itoa limit, hexW dead] [46] [] (by simp) _ (strs_new _ _ _) hlen (by simp)).mono ?_; rintro e w' ⟨rfl, hb1⟩))
  have hk := (by assumption : _ ∧ _ ∧ _ ∧ _ ∧ Kp _ _ _).2.2.2.2.below
  go_wp2
  go_ret
  exact ⟨by rw [← ht]; rfl, hk⟩
end Go.Proofs.YtaojoifpekoecaaGreatDoor

