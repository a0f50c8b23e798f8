/-
  script.Head tells headW. Conditions: as each theorem says.
-/
import Derived.Test.YtaojoifpekoecaaGreatDoorT8
namespace Go.Proofs.YtaojoifpekoecaaGreatDoor
open Go.RowKit Go.Shelf
set_option maxHeartbeats 1000000
def headW (cl : Int) (mf wi id : Nat) (qs : List QueD) : List UInt8 := Lib.join [[110, 101, 116], Lib.itoa cl, Lib.decDigits mf, Lib.decDigits wi, Lib.decDigits id, listW (qs.map QueD.w)] [32]
theorem head_many (cl : Int) (mf wi id : Nat) (qv : Value) (qs : List QueD) (w : World) (hq : SliceV 4 QueE w qv qs) (hl : 8 < qs.length) :
    Calls Tryz.prog 13 #[.agg #[.int .i64 cl, .int .u32 mf, .int .u32 wi, .int .u32 id, qv]] w fun e w' => e = .returned (.tuple #[S [], .int .i64 1]) ∧ Below w.heap.size w w' := by
  obtain ⟨a, c, rfl, _⟩ := hq
  go_enter Tryz.func13, Tryz.ntmps13
  go_wp2
  go_ret2
  exact ⟨rfl, (Below.refl _ _).alloc (Nat.le_refl _) _⟩
theorem head_few (cl : Int) (mf wi id : Nat) (qv : Value) (qs : List QueD) (w : World) (hc : I64 cl) (hmf : mf < 4294967296) (hwi : wi < 4294967296) (hid : id < 4294967296) (hq : SliceV 4 QueE w qv qs) (hl : qs.length ≤ 8) (htab : Pow w) (hqf : Fits (Lib.join (qs.map QueD.w) [44])) (hlen : (headW cl mf wi id qs).length ≤ 140737488355328) :
    Calls Tryz.prog 13 #[.agg #[.int .i64 cl, .int .u32 mf, .int .u32 wi, .int .u32 id, qv]] w fun e w' => e = .returned (.tuple #[S (headW cl mf wi id qs), .int .i64 0]) ∧ Below w.heap.size w w' := by
  have hq' := hq
  obtain ⟨a, c, rfl, _⟩ := hq'
  have k0 := (Kp.init htab #[.int .i64 cl, .int .u32 mf, .int .u32 wi, .int .u32 id, .slice a qs.length c] 48).drew
  go_enter Tryz.func13, Tryz.ntmps13
  go_wp2_with fail
  go_region_held3 (fun w' => w'.cell? ⟨w.heap.size, 0, none⟩ = some (.int .i64 cl) ∧ w'.cell? ⟨w.heap.size, 1, none⟩ = some (.int .u32 mf) ∧ w'.cell? ⟨w.heap.size, 2, none⟩ = some (.int .u32 wi) ∧ w'.cell? ⟨w.heap.size, 3, none⟩ = some (.int .u32 id) ∧ w'.cell? ⟨w.heap.size, 4, none⟩ = some (.slice a qs.length c) ∧ Kp w #[.int .i64 cl, .int .u32 mf, .int .u32 wi, .int .u32 id, .slice a qs.length c] w')
    (first
      | exact Kp.five k0
      | exact Kp.five (Kp.step (by assumption : _ ∧ _ ∧ _ ∧ _ ∧ _ ∧ Kp _ _ _).2.2.2.2.2 (by assumption))
      | exact Kp.five (Kp.step (by assumption : _ ∧ _ ∧ _ ∧ _ ∧ _ ∧ Kp _ _ _).2.2.2.2.2 ((Below.refl _ _).alloc (Nat.le_refl _) _)))
    (first
      | (go_at_call 40; refine (num_int cl hc.1 hc.2 _ (by assumption : _ ∧ _ ∧ _ ∧ _ ∧ _ ∧ Kp _ _ _).2.2.2.2.2.pow).mono ?_; rintro e w' ⟨rfl, hb1⟩)
      | (go_at_call 41; refine (num_u32 _ (by assumption) _ (by assumption : _ ∧ _ ∧ _ ∧ _ ∧ _ ∧ Kp _ _ _).2.2.2.2.2.pow).mono ?_; rintro e w' ⟨rfl, hb1⟩)
      | (go_at_call 42; refine (list84 (EV := QueE) (word := QueD.w) @QueE.st @que_call _ qs (by omega) _ (by assumption : _ ∧ _ ∧ _ ∧ _ ∧ _ ∧ Kp _ _ _).2.2.2.2.2.pow (hq.below @QueE.st (by assumption : _ ∧ _ ∧ _ ∧ _ ∧ _ ∧ Kp _ _ _).2.2.2.2.2.below) hqf).mono ?_; rintro e w' ⟨rfl, hb1⟩)
      | (go_at_call 39; refine (join_any _ [[110, 101, 116], Lib.itoa cl, Lib.decDigits mf, Lib.decDigits wi, Lib.decDigits id, listW (qs.map QueD.w)] [32] _ (strs_new _ _ _) (by simp) hlen).mono ?_; rintro e w' ⟨rfl, hb1⟩))
  have hk := (by assumption : _ ∧ _ ∧ _ ∧ _ ∧ _ ∧ Kp _ _ _).2.2.2.2.2.below
  go_wp2
  go_ret2
  exact ⟨rfl, hk⟩
end Go.Proofs.YtaojoifpekoecaaGreatDoor

