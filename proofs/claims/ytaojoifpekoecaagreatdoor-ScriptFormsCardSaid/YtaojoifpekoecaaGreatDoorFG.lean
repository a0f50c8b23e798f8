/-
  script.same of two events, the other cases. Conditions: as each theorem says.
-/
import Derived.Test.YtaojoifpekoecaaGreatDoorFC
namespace Go.Proofs.YtaojoifpekoecaaGreatDoor
open Go.RowKit Go.Shelf
set_option maxHeartbeats 4000000
set_option maxRecDepth 100000
theorem same_snd (k k' : Nat) (who : Int) (n : Int) (name : List UInt8) (text : List UInt8) (flag : Bool) (snd snd' : Nat) (rcv rcv' : Nat) (mp mp' : Nat) (mt mt' : Nat) (mc mc' : Nat) (mid mid' : List UInt8) (mbody mbody' : List UInt8) (ok ok' : Nat) (oa oa' : Nat) (ob ob' : Nat) (cond cond' : List UInt8) (bv bv' : Value) (w : World) (h : ¬ snd = snd') :
    Calls Tryz.prog 23 #[.agg (EvD.cs ⟨k, who, n, name, text, flag, snd, rcv, ⟨mp, mt, mc, mid, mbody⟩, ok, oa, ob, cond⟩ bv), .agg (EvD.cs ⟨k', who, n, name, text, flag, snd', rcv', ⟨mp', mt', mc', mid', mbody'⟩, ok', oa', ob', cond'⟩ bv')] w fun e w' => e = .returned (.bool false) ∧ Below w.heap.size w w' := by
  have t0 : Two w (EvD.cs ⟨k, who, n, name, text, flag, snd, rcv, ⟨mp, mt, mc, mid, mbody⟩, ok, oa, ob, cond⟩ bv) (EvD.cs ⟨k', who, n, name, text, flag, snd', rcv', ⟨mp', mt', mc', mid', mbody'⟩, ok', oa', ob', cond'⟩ bv') ((w.alloc (.cells (EvD.cs ⟨k, who, n, name, text, flag, snd, rcv, ⟨mp, mt, mc, mid, mbody⟩, ok, oa, ob, cond⟩ bv) 30)).alloc (.cells (EvD.cs ⟨k', who, n, name, text, flag, snd', rcv', ⟨mp', mt', mc', mid', mbody'⟩, ok', oa', ob', cond'⟩ bv') 30)) := Two.init w _ _
  have h' : ¬ (snd : Int) = (snd' : Int) := by omega
  have h2 : ((snd : Int) == (snd' : Int)) = false := beq_eq_false_iff_ne.2 h'
  generalize hQ : (fun (e : Ending) (w' : World) => e = .returned (.bool false) ∧ Below w.heap.size w w') = Q
  go_enter Tryz.func23, Tryz.ntmps23
  go_wp2_with fail
  refine wp_region_noPanic ?_
  refine wp_region_held_drew (S := Two w (EvD.cs ⟨k, who, n, name, text, flag, snd, rcv, ⟨mp, mt, mc, mid, mbody⟩, ok, oa, ob, cond⟩ bv) (EvD.cs ⟨k', who, n, name, text, flag, snd', rcv', ⟨mp', mt', mc', mid', mbody'⟩, ok', oa', ob', cond'⟩ bv')) (by kernel_rfl) t0.drew (fun hHeld => ?_)
  refine tk (i := 0) (v := .pointer (some ⟨w.heap.size, 1, none⟩)) 5 rfl rfl (by kernel_rfl) (by rfl) hHeld (fun W hS => by go_simp) ?_
  simp only [Act.put, sA, s0, s1]
  refine tk (i := 1) (v := .int .i64 who) 6 rfl rfl (by kernel_rfl) (by rfl) hHeld (fun W hS => by have q : W.cell? ⟨w.heap.size, 1, none⟩ = some (.int .i64 who) := hS.a 1; go_simp) ?_
  simp only [Act.put, sA, s0, s1]
  refine tk (i := 2) (v := .pointer (some ⟨w.heap.size + 1, 1, none⟩)) 7 rfl rfl (by kernel_rfl) (by rfl) hHeld (fun W hS => by go_simp) ?_
  simp only [Act.put, sA, s0, s1]
  refine tk (i := 3) (v := .int .i64 who) 8 rfl rfl (by kernel_rfl) (by rfl) hHeld (fun W hS => by have q : W.cell? ⟨w.heap.size + 1, 1, none⟩ = some (.int .i64 who) := hS.b 1; go_simp) ?_
  simp only [Act.put, sA, s0, s1]
  refine tk (i := 4) (v := .bool true) 9 rfl rfl (by kernel_rfl) (by rfl) hHeld (fun W hS => by go_simp) ?_
  simp only [Act.put, sA, s0, s1]
  refine tk (i := 5) (v := .bool true) 10 rfl rfl (by kernel_rfl) (by rfl) hHeld (fun _ _ => rfl) ?_
  simp only [Act.put, sA, s0, s1]
  refine tk (i := 6) (v := .pointer (some ⟨w.heap.size, 2, none⟩)) 11 rfl rfl (by kernel_rfl) (by rfl) hHeld (fun W hS => by go_simp) ?_
  simp only [Act.put, sA, s0, s1]
  refine tk (i := 7) (v := .int .i64 n) 12 rfl rfl (by kernel_rfl) (by rfl) hHeld (fun W hS => by have q : W.cell? ⟨w.heap.size, 2, none⟩ = some (.int .i64 n) := hS.a 2; go_simp) ?_
  simp only [Act.put, sA, s0, s1]
  refine tk (i := 8) (v := .pointer (some ⟨w.heap.size + 1, 2, none⟩)) 13 rfl rfl (by kernel_rfl) (by rfl) hHeld (fun W hS => by go_simp) ?_
  simp only [Act.put, sA, s0, s1]
  refine tk (i := 9) (v := .int .i64 n) 14 rfl rfl (by kernel_rfl) (by rfl) hHeld (fun W hS => by have q : W.cell? ⟨w.heap.size + 1, 2, none⟩ = some (.int .i64 n) := hS.b 2; go_simp) ?_
  simp only [Act.put, sA, s0, s1]
  refine tk (i := 10) (v := .bool true) 15 rfl rfl (by kernel_rfl) (by rfl) hHeld (fun W hS => by go_simp) ?_
  simp only [Act.put, sA, s0, s1]
  refine tk (i := 11) (v := .bool true) 16 rfl rfl (by kernel_rfl) (by rfl) hHeld (fun _ _ => rfl) ?_
  simp only [Act.put, sA, s0, s1]
  refine tk (i := 12) (v := .bool true) 17 rfl rfl (by kernel_rfl) (by rfl) hHeld (fun _ _ => rfl) ?_
  simp only [Act.put, sA, s0, s1]
  refine tk (i := 13) (v := .pointer (some ⟨w.heap.size, 3, none⟩)) 18 rfl rfl (by kernel_rfl) (by rfl) hHeld (fun W hS => by go_simp) ?_
  simp only [Act.put, sA, s0, s1]
  refine tk (i := 14) (v := S name) 19 rfl rfl (by kernel_rfl) (by rfl) hHeld (fun W hS => by have q : W.cell? ⟨w.heap.size, 3, none⟩ = some (S name) := hS.a 3; go_simp) ?_
  simp only [Act.put, sA, s0, s1]
  refine tk (i := 15) (v := .pointer (some ⟨w.heap.size + 1, 3, none⟩)) 20 rfl rfl (by kernel_rfl) (by rfl) hHeld (fun W hS => by go_simp) ?_
  simp only [Act.put, sA, s0, s1]
  refine tk (i := 16) (v := S name) 21 rfl rfl (by kernel_rfl) (by rfl) hHeld (fun W hS => by have q : W.cell? ⟨w.heap.size + 1, 3, none⟩ = some (S name) := hS.b 3; go_simp) ?_
  simp only [Act.put, sA, s0, s1]
  refine tk (i := 17) (v := .bool true) 22 rfl rfl (by kernel_rfl) (by rfl) hHeld (fun W hS => by go_simp) ?_
  simp only [Act.put, sA, s0, s1]
  refine tk (i := 18) (v := .bool true) 23 rfl rfl (by kernel_rfl) (by rfl) hHeld (fun _ _ => rfl) ?_
  simp only [Act.put, sA, s0, s1]
  refine tk (i := 19) (v := .bool true) 24 rfl rfl (by kernel_rfl) (by rfl) hHeld (fun _ _ => rfl) ?_
  simp only [Act.put, sA, s0, s1]
  refine tk (i := 20) (v := .pointer (some ⟨w.heap.size, 4, none⟩)) 25 rfl rfl (by kernel_rfl) (by rfl) hHeld (fun W hS => by go_simp) ?_
  simp only [Act.put, sA, s0, s1]
  refine tk (i := 21) (v := S text) 26 rfl rfl (by kernel_rfl) (by rfl) hHeld (fun W hS => by have q : W.cell? ⟨w.heap.size, 4, none⟩ = some (S text) := hS.a 4; go_simp) ?_
  simp only [Act.put, sA, s0, s1]
  refine tk (i := 22) (v := .pointer (some ⟨w.heap.size + 1, 4, none⟩)) 27 rfl rfl (by kernel_rfl) (by rfl) hHeld (fun W hS => by go_simp) ?_
  simp only [Act.put, sA, s0, s1]
  refine tk (i := 23) (v := S text) 28 rfl rfl (by kernel_rfl) (by rfl) hHeld (fun W hS => by have q : W.cell? ⟨w.heap.size + 1, 4, none⟩ = some (S text) := hS.b 4; go_simp) ?_
  simp only [Act.put, sA, s0, s1]
  refine tk (i := 24) (v := .bool true) 29 rfl rfl (by kernel_rfl) (by rfl) hHeld (fun W hS => by go_simp) ?_
  simp only [Act.put, sA, s0, s1]
  refine tk (i := 25) (v := .bool true) 30 rfl rfl (by kernel_rfl) (by rfl) hHeld (fun _ _ => rfl) ?_
  simp only [Act.put, sA, s0, s1]
  refine tk (i := 26) (v := .bool true) 31 rfl rfl (by kernel_rfl) (by rfl) hHeld (fun _ _ => rfl) ?_
  simp only [Act.put, sA, s0, s1]
  refine tk (i := 27) (v := .pointer (some ⟨w.heap.size, 5, none⟩)) 32 rfl rfl (by kernel_rfl) (by rfl) hHeld (fun W hS => by go_simp) ?_
  simp only [Act.put, sA, s0, s1]
  refine tk (i := 28) (v := .bool flag) 33 rfl rfl (by kernel_rfl) (by rfl) hHeld (fun W hS => by have q : W.cell? ⟨w.heap.size, 5, none⟩ = some (.bool flag) := hS.a 5; go_simp) ?_
  simp only [Act.put, sA, s0, s1]
  refine tk (i := 29) (v := .pointer (some ⟨w.heap.size + 1, 5, none⟩)) 34 rfl rfl (by kernel_rfl) (by rfl) hHeld (fun W hS => by go_simp) ?_
  simp only [Act.put, sA, s0, s1]
  refine tk (i := 30) (v := .bool flag) 35 rfl rfl (by kernel_rfl) (by rfl) hHeld (fun W hS => by have q : W.cell? ⟨w.heap.size + 1, 5, none⟩ = some (.bool flag) := hS.b 5; go_simp) ?_
  simp only [Act.put, sA, s0, s1]
  refine tk (i := 31) (v := .bool true) 36 rfl rfl (by kernel_rfl) (by rfl) hHeld (fun W hS => by go_simp) ?_
  simp only [Act.put, sA, s0, s1]
  refine tk (i := 32) (v := .bool true) 37 rfl rfl (by kernel_rfl) (by rfl) hHeld (fun _ _ => rfl) ?_
  simp only [Act.put, sA, s0, s1]
  refine tk (i := 33) (v := .bool true) 38 rfl rfl (by kernel_rfl) (by rfl) hHeld (fun _ _ => rfl) ?_
  simp only [Act.put, sA, s0, s1]
  refine tk (i := 34) (v := .pointer (some ⟨w.heap.size, 6, none⟩)) 39 rfl rfl (by kernel_rfl) (by rfl) hHeld (fun W hS => by go_simp) ?_
  simp only [Act.put, sA, s0, s1]
  refine tk (i := 35) (v := .int .u8 snd) 40 rfl rfl (by kernel_rfl) (by rfl) hHeld (fun W hS => by have q : W.cell? ⟨w.heap.size, 6, none⟩ = some (.int .u8 snd) := hS.a 6; go_simp) ?_
  simp only [Act.put, sA, s0, s1]
  refine tk (i := 36) (v := .pointer (some ⟨w.heap.size + 1, 6, none⟩)) 41 rfl rfl (by kernel_rfl) (by rfl) hHeld (fun W hS => by go_simp) ?_
  simp only [Act.put, sA, s0, s1]
  refine tk (i := 37) (v := .int .u8 snd') 42 rfl rfl (by kernel_rfl) (by rfl) hHeld (fun W hS => by have q : W.cell? ⟨w.heap.size + 1, 6, none⟩ = some (.int .u8 snd') := hS.b 6; go_simp) ?_
  simp only [Act.put, sA, s0, s1]
  refine tk (i := 38) (v := .bool false) 43 rfl rfl (by kernel_rfl) (by rfl) hHeld (fun W hS => by go_simp <;> first | exact h2 | simp [h2]) ?_
  simp only [Act.put, sA, s0, s1]
  refine tk (i := 39) (v := .bool false) 44 rfl rfl (by kernel_rfl) (by rfl) hHeld (fun _ _ => rfl) ?_
  simp only [Act.put, sA, s0, s1]
  refine tk (i := 40) (v := .bool false) 45 rfl rfl (by kernel_rfl) (by rfl) hHeld (fun _ _ => rfl) ?_
  simp only [Act.put, sA, s0, s1]
  refine tn (i := 41) 46 rfl rfl (by kernel_rfl) (by rfl) hHeld ?_
  simp only [Act.put, sA, s0, s1]
  refine tn (i := 42) 47 rfl rfl (by kernel_rfl) (by rfl) hHeld ?_
  simp only [Act.put, sA, s0, s1]
  refine tn (i := 43) 48 rfl rfl (by kernel_rfl) (by rfl) hHeld ?_
  simp only [Act.put, sA, s0, s1]
  refine tn (i := 44) 49 rfl rfl (by kernel_rfl) (by rfl) hHeld ?_
  simp only [Act.put, sA, s0, s1]
  refine tn (i := 45) 50 rfl rfl (by kernel_rfl) (by rfl) hHeld ?_
  simp only [Act.put, sA, s0, s1]
  refine tk (i := 46) (v := .bool false) 51 rfl rfl (by kernel_rfl) (by rfl) hHeld (fun _ _ => rfl) ?_
  simp only [Act.put, sA, s0, s1]
  refine tk (i := 47) (v := .bool false) 52 rfl rfl (by kernel_rfl) (by rfl) hHeld (fun _ _ => rfl) ?_
  simp only [Act.put, sA, s0, s1]
  refine tn (i := 48) 53 rfl rfl (by kernel_rfl) (by rfl) hHeld ?_
  simp only [Act.put, sA, s0, s1]
  refine tn (i := 49) 54 rfl rfl (by kernel_rfl) (by rfl) hHeld ?_
  simp only [Act.put, sA, s0, s1]
  refine tn (i := 51) 56 rfl rfl (by kernel_rfl) (by rfl) hHeld ?_
  simp only [Act.put, sA, s0, s1]
  refine tn (i := 52) 57 rfl rfl (by kernel_rfl) (by rfl) hHeld ?_
  simp only [Act.put, sA, s0, s1]
  refine tn (i := 50) 55 rfl rfl (by kernel_rfl) (by rfl) hHeld ?_
  simp only [Act.put, sA, s0, s1]
  refine tn (i := 53) 58 rfl rfl (by kernel_rfl) (by rfl) hHeld ?_
  simp only [Act.put, sA, s0, s1]
  refine tn (i := 54) 59 rfl rfl (by kernel_rfl) (by rfl) hHeld ?_
  simp only [Act.put, sA, s0, s1]
  refine tk (i := 55) (v := .bool false) 60 rfl rfl (by kernel_rfl) (by rfl) hHeld (fun _ _ => rfl) ?_
  simp only [Act.put, sA, s0, s1]
  refine tk (i := 56) (v := .bool false) 61 rfl rfl (by kernel_rfl) (by rfl) hHeld (fun _ _ => rfl) ?_
  simp only [Act.put, sA, s0, s1]
  refine tn (i := 57) 62 rfl rfl (by kernel_rfl) (by rfl) hHeld ?_
  simp only [Act.put, sA, s0, s1]
  refine tn (i := 58) 63 rfl rfl (by kernel_rfl) (by rfl) hHeld ?_
  simp only [Act.put, sA, s0, s1]
  refine tn (i := 59) 64 rfl rfl (by kernel_rfl) (by rfl) hHeld ?_
  simp only [Act.put, sA, s0, s1]
  refine tn (i := 60) 65 rfl rfl (by kernel_rfl) (by rfl) hHeld ?_
  simp only [Act.put, sA, s0, s1]
  refine tn (i := 61) 66 rfl rfl (by kernel_rfl) (by rfl) hHeld ?_
  simp only [Act.put, sA, s0, s1]
  refine tk (i := 62) (v := .bool false) 67 rfl rfl (by kernel_rfl) (by rfl) hHeld (fun _ _ => rfl) ?_
  simp only [Act.put, sA, s0, s1]
  refine tk (i := 63) (v := .bool false) 4 rfl rfl (by kernel_rfl) (by rfl) hHeld (fun _ _ => rfl) ?_
  simp only [Act.put, sA, s0, s1]
  refine wpAnyH_done (by kernel_rfl) ?_ _
  refine NoPanic.normal ?_
  go_wp2_with fail
  all_goals (subst hQ; exact ⟨rfl, hHeld.below⟩)
theorem same_rcv (k k' : Nat) (who : Int) (n : Int) (name : List UInt8) (text : List UInt8) (flag : Bool) (snd : Nat) (rcv rcv' : Nat) (mp mp' : Nat) (mt mt' : Nat) (mc mc' : Nat) (mid mid' : List UInt8) (mbody mbody' : List UInt8) (ok ok' : Nat) (oa oa' : Nat) (ob ob' : Nat) (cond cond' : List UInt8) (bv bv' : Value) (w : World) (h : ¬ rcv = rcv') :
    Calls Tryz.prog 23 #[.agg (EvD.cs ⟨k, who, n, name, text, flag, snd, rcv, ⟨mp, mt, mc, mid, mbody⟩, ok, oa, ob, cond⟩ bv), .agg (EvD.cs ⟨k', who, n, name, text, flag, snd, rcv', ⟨mp', mt', mc', mid', mbody'⟩, ok', oa', ob', cond'⟩ bv')] w fun e w' => e = .returned (.bool false) ∧ Below w.heap.size w w' := by
  have t0 : Two w (EvD.cs ⟨k, who, n, name, text, flag, snd, rcv, ⟨mp, mt, mc, mid, mbody⟩, ok, oa, ob, cond⟩ bv) (EvD.cs ⟨k', who, n, name, text, flag, snd, rcv', ⟨mp', mt', mc', mid', mbody'⟩, ok', oa', ob', cond'⟩ bv') ((w.alloc (.cells (EvD.cs ⟨k, who, n, name, text, flag, snd, rcv, ⟨mp, mt, mc, mid, mbody⟩, ok, oa, ob, cond⟩ bv) 30)).alloc (.cells (EvD.cs ⟨k', who, n, name, text, flag, snd, rcv', ⟨mp', mt', mc', mid', mbody'⟩, ok', oa', ob', cond'⟩ bv') 30)) := Two.init w _ _
  have h' : ¬ (rcv : Int) = (rcv' : Int) := by omega
  have h2 : ((rcv : Int) == (rcv' : Int)) = false := beq_eq_false_iff_ne.2 h'
  generalize hQ : (fun (e : Ending) (w' : World) => e = .returned (.bool false) ∧ Below w.heap.size w w') = Q
  go_enter Tryz.func23, Tryz.ntmps23
  go_wp2_with fail
  refine wp_region_noPanic ?_
  refine wp_region_held_drew (S := Two w (EvD.cs ⟨k, who, n, name, text, flag, snd, rcv, ⟨mp, mt, mc, mid, mbody⟩, ok, oa, ob, cond⟩ bv) (EvD.cs ⟨k', who, n, name, text, flag, snd, rcv', ⟨mp', mt', mc', mid', mbody'⟩, ok', oa', ob', cond'⟩ bv')) (by kernel_rfl) t0.drew (fun hHeld => ?_)
  refine tk (i := 0) (v := .pointer (some ⟨w.heap.size, 1, none⟩)) 5 rfl rfl (by kernel_rfl) (by rfl) hHeld (fun W hS => by go_simp) ?_
  simp only [Act.put, sA, s0, s1]
  refine tk (i := 1) (v := .int .i64 who) 6 rfl rfl (by kernel_rfl) (by rfl) hHeld (fun W hS => by have q : W.cell? ⟨w.heap.size, 1, none⟩ = some (.int .i64 who) := hS.a 1; go_simp) ?_
  simp only [Act.put, sA, s0, s1]
  refine tk (i := 2) (v := .pointer (some ⟨w.heap.size + 1, 1, none⟩)) 7 rfl rfl (by kernel_rfl) (by rfl) hHeld (fun W hS => by go_simp) ?_
  simp only [Act.put, sA, s0, s1]
  refine tk (i := 3) (v := .int .i64 who) 8 rfl rfl (by kernel_rfl) (by rfl) hHeld (fun W hS => by have q : W.cell? ⟨w.heap.size + 1, 1, none⟩ = some (.int .i64 who) := hS.b 1; go_simp) ?_
  simp only [Act.put, sA, s0, s1]
  refine tk (i := 4) (v := .bool true) 9 rfl rfl (by kernel_rfl) (by rfl) hHeld (fun W hS => by go_simp) ?_
  simp only [Act.put, sA, s0, s1]
  refine tk (i := 5) (v := .bool true) 10 rfl rfl (by kernel_rfl) (by rfl) hHeld (fun _ _ => rfl) ?_
  simp only [Act.put, sA, s0, s1]
  refine tk (i := 6) (v := .pointer (some ⟨w.heap.size, 2, none⟩)) 11 rfl rfl (by kernel_rfl) (by rfl) hHeld (fun W hS => by go_simp) ?_
  simp only [Act.put, sA, s0, s1]
  refine tk (i := 7) (v := .int .i64 n) 12 rfl rfl (by kernel_rfl) (by rfl) hHeld (fun W hS => by have q : W.cell? ⟨w.heap.size, 2, none⟩ = some (.int .i64 n) := hS.a 2; go_simp) ?_
  simp only [Act.put, sA, s0, s1]
  refine tk (i := 8) (v := .pointer (some ⟨w.heap.size + 1, 2, none⟩)) 13 rfl rfl (by kernel_rfl) (by rfl) hHeld (fun W hS => by go_simp) ?_
  simp only [Act.put, sA, s0, s1]
  refine tk (i := 9) (v := .int .i64 n) 14 rfl rfl (by kernel_rfl) (by rfl) hHeld (fun W hS => by have q : W.cell? ⟨w.heap.size + 1, 2, none⟩ = some (.int .i64 n) := hS.b 2; go_simp) ?_
  simp only [Act.put, sA, s0, s1]
  refine tk (i := 10) (v := .bool true) 15 rfl rfl (by kernel_rfl) (by rfl) hHeld (fun W hS => by go_simp) ?_
  simp only [Act.put, sA, s0, s1]
  refine tk (i := 11) (v := .bool true) 16 rfl rfl (by kernel_rfl) (by rfl) hHeld (fun _ _ => rfl) ?_
  simp only [Act.put, sA, s0, s1]
  refine tk (i := 12) (v := .bool true) 17 rfl rfl (by kernel_rfl) (by rfl) hHeld (fun _ _ => rfl) ?_
  simp only [Act.put, sA, s0, s1]
  refine tk (i := 13) (v := .pointer (some ⟨w.heap.size, 3, none⟩)) 18 rfl rfl (by kernel_rfl) (by rfl) hHeld (fun W hS => by go_simp) ?_
  simp only [Act.put, sA, s0, s1]
  refine tk (i := 14) (v := S name) 19 rfl rfl (by kernel_rfl) (by rfl) hHeld (fun W hS => by have q : W.cell? ⟨w.heap.size, 3, none⟩ = some (S name) := hS.a 3; go_simp) ?_
  simp only [Act.put, sA, s0, s1]
  refine tk (i := 15) (v := .pointer (some ⟨w.heap.size + 1, 3, none⟩)) 20 rfl rfl (by kernel_rfl) (by rfl) hHeld (fun W hS => by go_simp) ?_
  simp only [Act.put, sA, s0, s1]
  refine tk (i := 16) (v := S name) 21 rfl rfl (by kernel_rfl) (by rfl) hHeld (fun W hS => by have q : W.cell? ⟨w.heap.size + 1, 3, none⟩ = some (S name) := hS.b 3; go_simp) ?_
  simp only [Act.put, sA, s0, s1]
  refine tk (i := 17) (v := .bool true) 22 rfl rfl (by kernel_rfl) (by rfl) hHeld (fun W hS => by go_simp) ?_
  simp only [Act.put, sA, s0, s1]
  refine tk (i := 18) (v := .bool true) 23 rfl rfl (by kernel_rfl) (by rfl) hHeld (fun _ _ => rfl) ?_
  simp only [Act.put, sA, s0, s1]
  refine tk (i := 19) (v := .bool true) 24 rfl rfl (by kernel_rfl) (by rfl) hHeld (fun _ _ => rfl) ?_
  simp only [Act.put, sA, s0, s1]
  refine tk (i := 20) (v := .pointer (some ⟨w.heap.size, 4, none⟩)) 25 rfl rfl (by kernel_rfl) (by rfl) hHeld (fun W hS => by go_simp) ?_
  simp only [Act.put, sA, s0, s1]
  refine tk (i := 21) (v := S text) 26 rfl rfl (by kernel_rfl) (by rfl) hHeld (fun W hS => by have q : W.cell? ⟨w.heap.size, 4, none⟩ = some (S text) := hS.a 4; go_simp) ?_
  simp only [Act.put, sA, s0, s1]
  refine tk (i := 22) (v := .pointer (some ⟨w.heap.size + 1, 4, none⟩)) 27 rfl rfl (by kernel_rfl) (by rfl) hHeld (fun W hS => by go_simp) ?_
  simp only [Act.put, sA, s0, s1]
  refine tk (i := 23) (v := S text) 28 rfl rfl (by kernel_rfl) (by rfl) hHeld (fun W hS => by have q : W.cell? ⟨w.heap.size + 1, 4, none⟩ = some (S text) := hS.b 4; go_simp) ?_
  simp only [Act.put, sA, s0, s1]
  refine tk (i := 24) (v := .bool true) 29 rfl rfl (by kernel_rfl) (by rfl) hHeld (fun W hS => by go_simp) ?_
  simp only [Act.put, sA, s0, s1]
  refine tk (i := 25) (v := .bool true) 30 rfl rfl (by kernel_rfl) (by rfl) hHeld (fun _ _ => rfl) ?_
  simp only [Act.put, sA, s0, s1]
  refine tk (i := 26) (v := .bool true) 31 rfl rfl (by kernel_rfl) (by rfl) hHeld (fun _ _ => rfl) ?_
  simp only [Act.put, sA, s0, s1]
  refine tk (i := 27) (v := .pointer (some ⟨w.heap.size, 5, none⟩)) 32 rfl rfl (by kernel_rfl) (by rfl) hHeld (fun W hS => by go_simp) ?_
  simp only [Act.put, sA, s0, s1]
  refine tk (i := 28) (v := .bool flag) 33 rfl rfl (by kernel_rfl) (by rfl) hHeld (fun W hS => by have q : W.cell? ⟨w.heap.size, 5, none⟩ = some (.bool flag) := hS.a 5; go_simp) ?_
  simp only [Act.put, sA, s0, s1]
  refine tk (i := 29) (v := .pointer (some ⟨w.heap.size + 1, 5, none⟩)) 34 rfl rfl (by kernel_rfl) (by rfl) hHeld (fun W hS => by go_simp) ?_
  simp only [Act.put, sA, s0, s1]
  refine tk (i := 30) (v := .bool flag) 35 rfl rfl (by kernel_rfl) (by rfl) hHeld (fun W hS => by have q : W.cell? ⟨w.heap.size + 1, 5, none⟩ = some (.bool flag) := hS.b 5; go_simp) ?_
  simp only [Act.put, sA, s0, s1]
  refine tk (i := 31) (v := .bool true) 36 rfl rfl (by kernel_rfl) (by rfl) hHeld (fun W hS => by go_simp) ?_
  simp only [Act.put, sA, s0, s1]
  refine tk (i := 32) (v := .bool true) 37 rfl rfl (by kernel_rfl) (by rfl) hHeld (fun _ _ => rfl) ?_
  simp only [Act.put, sA, s0, s1]
  refine tk (i := 33) (v := .bool true) 38 rfl rfl (by kernel_rfl) (by rfl) hHeld (fun _ _ => rfl) ?_
  simp only [Act.put, sA, s0, s1]
  refine tk (i := 34) (v := .pointer (some ⟨w.heap.size, 6, none⟩)) 39 rfl rfl (by kernel_rfl) (by rfl) hHeld (fun W hS => by go_simp) ?_
  simp only [Act.put, sA, s0, s1]
  refine tk (i := 35) (v := .int .u8 snd) 40 rfl rfl (by kernel_rfl) (by rfl) hHeld (fun W hS => by have q : W.cell? ⟨w.heap.size, 6, none⟩ = some (.int .u8 snd) := hS.a 6; go_simp) ?_
  simp only [Act.put, sA, s0, s1]
  refine tk (i := 36) (v := .pointer (some ⟨w.heap.size + 1, 6, none⟩)) 41 rfl rfl (by kernel_rfl) (by rfl) hHeld (fun W hS => by go_simp) ?_
  simp only [Act.put, sA, s0, s1]
  refine tk (i := 37) (v := .int .u8 snd) 42 rfl rfl (by kernel_rfl) (by rfl) hHeld (fun W hS => by have q : W.cell? ⟨w.heap.size + 1, 6, none⟩ = some (.int .u8 snd) := hS.b 6; go_simp) ?_
  simp only [Act.put, sA, s0, s1]
  refine tk (i := 38) (v := .bool true) 43 rfl rfl (by kernel_rfl) (by rfl) hHeld (fun W hS => by go_simp) ?_
  simp only [Act.put, sA, s0, s1]
  refine tk (i := 39) (v := .bool true) 44 rfl rfl (by kernel_rfl) (by rfl) hHeld (fun _ _ => rfl) ?_
  simp only [Act.put, sA, s0, s1]
  refine tk (i := 40) (v := .bool true) 45 rfl rfl (by kernel_rfl) (by rfl) hHeld (fun _ _ => rfl) ?_
  simp only [Act.put, sA, s0, s1]
  refine tk (i := 41) (v := .pointer (some ⟨w.heap.size, 7, none⟩)) 46 rfl rfl (by kernel_rfl) (by rfl) hHeld (fun W hS => by go_simp) ?_
  simp only [Act.put, sA, s0, s1]
  refine tk (i := 42) (v := .int .u8 rcv) 47 rfl rfl (by kernel_rfl) (by rfl) hHeld (fun W hS => by have q : W.cell? ⟨w.heap.size, 7, none⟩ = some (.int .u8 rcv) := hS.a 7; go_simp) ?_
  simp only [Act.put, sA, s0, s1]
  refine tk (i := 43) (v := .pointer (some ⟨w.heap.size + 1, 7, none⟩)) 48 rfl rfl (by kernel_rfl) (by rfl) hHeld (fun W hS => by go_simp) ?_
  simp only [Act.put, sA, s0, s1]
  refine tk (i := 44) (v := .int .u8 rcv') 49 rfl rfl (by kernel_rfl) (by rfl) hHeld (fun W hS => by have q : W.cell? ⟨w.heap.size + 1, 7, none⟩ = some (.int .u8 rcv') := hS.b 7; go_simp) ?_
  simp only [Act.put, sA, s0, s1]
  refine tk (i := 45) (v := .bool false) 50 rfl rfl (by kernel_rfl) (by rfl) hHeld (fun W hS => by go_simp <;> first | exact h2 | simp [h2]) ?_
  simp only [Act.put, sA, s0, s1]
  refine tk (i := 46) (v := .bool false) 51 rfl rfl (by kernel_rfl) (by rfl) hHeld (fun _ _ => rfl) ?_
  simp only [Act.put, sA, s0, s1]
  refine tk (i := 47) (v := .bool false) 52 rfl rfl (by kernel_rfl) (by rfl) hHeld (fun _ _ => rfl) ?_
  simp only [Act.put, sA, s0, s1]
  refine tn (i := 48) 53 rfl rfl (by kernel_rfl) (by rfl) hHeld ?_
  simp only [Act.put, sA, s0, s1]
  refine tn (i := 49) 54 rfl rfl (by kernel_rfl) (by rfl) hHeld ?_
  simp only [Act.put, sA, s0, s1]
  refine tn (i := 51) 56 rfl rfl (by kernel_rfl) (by rfl) hHeld ?_
  simp only [Act.put, sA, s0, s1]
  refine tn (i := 52) 57 rfl rfl (by kernel_rfl) (by rfl) hHeld ?_
  simp only [Act.put, sA, s0, s1]
  refine tn (i := 50) 55 rfl rfl (by kernel_rfl) (by rfl) hHeld ?_
  simp only [Act.put, sA, s0, s1]
  refine tn (i := 53) 58 rfl rfl (by kernel_rfl) (by rfl) hHeld ?_
  simp only [Act.put, sA, s0, s1]
  refine tn (i := 54) 59 rfl rfl (by kernel_rfl) (by rfl) hHeld ?_
  simp only [Act.put, sA, s0, s1]
  refine tk (i := 55) (v := .bool false) 60 rfl rfl (by kernel_rfl) (by rfl) hHeld (fun _ _ => rfl) ?_
  simp only [Act.put, sA, s0, s1]
  refine tk (i := 56) (v := .bool false) 61 rfl rfl (by kernel_rfl) (by rfl) hHeld (fun _ _ => rfl) ?_
  simp only [Act.put, sA, s0, s1]
  refine tn (i := 57) 62 rfl rfl (by kernel_rfl) (by rfl) hHeld ?_
  simp only [Act.put, sA, s0, s1]
  refine tn (i := 58) 63 rfl rfl (by kernel_rfl) (by rfl) hHeld ?_
  simp only [Act.put, sA, s0, s1]
  refine tn (i := 59) 64 rfl rfl (by kernel_rfl) (by rfl) hHeld ?_
  simp only [Act.put, sA, s0, s1]
  refine tn (i := 60) 65 rfl rfl (by kernel_rfl) (by rfl) hHeld ?_
  simp only [Act.put, sA, s0, s1]
  refine tn (i := 61) 66 rfl rfl (by kernel_rfl) (by rfl) hHeld ?_
  simp only [Act.put, sA, s0, s1]
  refine tk (i := 62) (v := .bool false) 67 rfl rfl (by kernel_rfl) (by rfl) hHeld (fun _ _ => rfl) ?_
  simp only [Act.put, sA, s0, s1]
  refine tk (i := 63) (v := .bool false) 4 rfl rfl (by kernel_rfl) (by rfl) hHeld (fun _ _ => rfl) ?_
  simp only [Act.put, sA, s0, s1]
  refine wpAnyH_done (by kernel_rfl) ?_ _
  refine NoPanic.normal ?_
  go_wp2_with fail
  all_goals (subst hQ; exact ⟨rfl, hHeld.below⟩)
theorem same_m (k k' : Nat) (who : Int) (n : Int) (name : List UInt8) (text : List UInt8) (flag : Bool) (snd : Nat) (rcv : Nat) (mp mp' : Nat) (mt mt' : Nat) (mc mc' : Nat) (mid mid' : List UInt8) (mbody mbody' : List UInt8) (ok ok' : Nat) (oa oa' : Nat) (ob ob' : Nat) (cond cond' : List UInt8) (bv bv' : Value) (w : World) (hp : mp < 256) (ht : mt < 4294967296) (hc : mc < 4294967296) (hid : mid.length ≤ 100000000) (hbody : mbody.length ≤ 100000000) (hp' : mp' < 256) (ht' : mt' < 4294967296) (hc' : mc' < 4294967296) (hid' : mid'.length ≤ 100000000) (hbody' : mbody'.length ≤ 100000000) (htab : Pow w) (hb : BytesV w bv mbody) (hb' : BytesV w bv' mbody') (hlen : (msgW mp mt mc mid mbody).length ≤ 140737488355328) (hlen' : (msgW mp' mt' mc' mid' mbody').length ≤ 140737488355328) (hw : ¬ (msgW mp mt mc mid mbody) = (msgW mp' mt' mc' mid' mbody'))  :
    Calls Tryz.prog 23 #[.agg (EvD.cs ⟨k, who, n, name, text, flag, snd, rcv, ⟨mp, mt, mc, mid, mbody⟩, ok, oa, ob, cond⟩ bv), .agg (EvD.cs ⟨k', who, n, name, text, flag, snd, rcv, ⟨mp', mt', mc', mid', mbody'⟩, ok', oa', ob', cond'⟩ bv')] w fun e w' => e = .returned (.bool false) ∧ Below w.heap.size w w' := by
  have t0 : Two w (EvD.cs ⟨k, who, n, name, text, flag, snd, rcv, ⟨mp, mt, mc, mid, mbody⟩, ok, oa, ob, cond⟩ bv) (EvD.cs ⟨k', who, n, name, text, flag, snd, rcv, ⟨mp', mt', mc', mid', mbody'⟩, ok', oa', ob', cond'⟩ bv') ((w.alloc (.cells (EvD.cs ⟨k, who, n, name, text, flag, snd, rcv, ⟨mp, mt, mc, mid, mbody⟩, ok, oa, ob, cond⟩ bv) 30)).alloc (.cells (EvD.cs ⟨k', who, n, name, text, flag, snd, rcv, ⟨mp', mt', mc', mid', mbody'⟩, ok', oa', ob', cond'⟩ bv') 30)) := Two.init w _ _
  have c1 := fun W (h : Two w (EvD.cs ⟨k, who, n, name, text, flag, snd, rcv, ⟨mp, mt, mc, mid, mbody⟩, ok, oa, ob, cond⟩ bv) (EvD.cs ⟨k', who, n, name, text, flag, snd, rcv, ⟨mp', mt', mc', mid', mbody'⟩, ok', oa', ob', cond'⟩ bv') W) => msgWord mp mt mc mid mbody bv W hp ht hc hid hbody (htab.below h.below (Nat.le_refl _)) (hb.below h.below (Nat.le_refl _)) hlen
  have c2 := fun W (h : Two w (EvD.cs ⟨k, who, n, name, text, flag, snd, rcv, ⟨mp, mt, mc, mid, mbody⟩, ok, oa, ob, cond⟩ bv) (EvD.cs ⟨k', who, n, name, text, flag, snd, rcv, ⟨mp', mt', mc', mid', mbody'⟩, ok', oa', ob', cond'⟩ bv') W) => msgWord mp' mt' mc' mid' mbody' bv' W hp' ht' hc' hid' hbody' (htab.below h.below (Nat.le_refl _)) (hb'.below h.below (Nat.le_refl _)) hlen'
  have h3 : ((msgW mp mt mc mid mbody) == (msgW mp' mt' mc' mid' mbody')) = false := by rw [beq_eq_false_iff_ne]; exact hw
  generalize hQ : (fun (e : Ending) (w' : World) => e = .returned (.bool false) ∧ Below w.heap.size w w') = Q
  go_enter Tryz.func23, Tryz.ntmps23
  go_wp2_with fail
  refine wp_region_noPanic ?_
  refine wp_region_held_drew (S := Two w (EvD.cs ⟨k, who, n, name, text, flag, snd, rcv, ⟨mp, mt, mc, mid, mbody⟩, ok, oa, ob, cond⟩ bv) (EvD.cs ⟨k', who, n, name, text, flag, snd, rcv, ⟨mp', mt', mc', mid', mbody'⟩, ok', oa', ob', cond'⟩ bv')) (by kernel_rfl) t0.drew (fun hHeld => ?_)
  refine tk (i := 0) (v := .pointer (some ⟨w.heap.size, 1, none⟩)) 5 rfl rfl (by kernel_rfl) (by rfl) hHeld (fun W hS => by go_simp) ?_
  simp only [Act.put, sA, s0, s1]
  refine tk (i := 1) (v := .int .i64 who) 6 rfl rfl (by kernel_rfl) (by rfl) hHeld (fun W hS => by have q : W.cell? ⟨w.heap.size, 1, none⟩ = some (.int .i64 who) := hS.a 1; go_simp) ?_
  simp only [Act.put, sA, s0, s1]
  refine tk (i := 2) (v := .pointer (some ⟨w.heap.size + 1, 1, none⟩)) 7 rfl rfl (by kernel_rfl) (by rfl) hHeld (fun W hS => by go_simp) ?_
  simp only [Act.put, sA, s0, s1]
  refine tk (i := 3) (v := .int .i64 who) 8 rfl rfl (by kernel_rfl) (by rfl) hHeld (fun W hS => by have q : W.cell? ⟨w.heap.size + 1, 1, none⟩ = some (.int .i64 who) := hS.b 1; go_simp) ?_
  simp only [Act.put, sA, s0, s1]
  refine tk (i := 4) (v := .bool true) 9 rfl rfl (by kernel_rfl) (by rfl) hHeld (fun W hS => by go_simp) ?_
  simp only [Act.put, sA, s0, s1]
  refine tk (i := 5) (v := .bool true) 10 rfl rfl (by kernel_rfl) (by rfl) hHeld (fun _ _ => rfl) ?_
  simp only [Act.put, sA, s0, s1]
  refine tk (i := 6) (v := .pointer (some ⟨w.heap.size, 2, none⟩)) 11 rfl rfl (by kernel_rfl) (by rfl) hHeld (fun W hS => by go_simp) ?_
  simp only [Act.put, sA, s0, s1]
  refine tk (i := 7) (v := .int .i64 n) 12 rfl rfl (by kernel_rfl) (by rfl) hHeld (fun W hS => by have q : W.cell? ⟨w.heap.size, 2, none⟩ = some (.int .i64 n) := hS.a 2; go_simp) ?_
  simp only [Act.put, sA, s0, s1]
  refine tk (i := 8) (v := .pointer (some ⟨w.heap.size + 1, 2, none⟩)) 13 rfl rfl (by kernel_rfl) (by rfl) hHeld (fun W hS => by go_simp) ?_
  simp only [Act.put, sA, s0, s1]
  refine tk (i := 9) (v := .int .i64 n) 14 rfl rfl (by kernel_rfl) (by rfl) hHeld (fun W hS => by have q : W.cell? ⟨w.heap.size + 1, 2, none⟩ = some (.int .i64 n) := hS.b 2; go_simp) ?_
  simp only [Act.put, sA, s0, s1]
  refine tk (i := 10) (v := .bool true) 15 rfl rfl (by kernel_rfl) (by rfl) hHeld (fun W hS => by go_simp) ?_
  simp only [Act.put, sA, s0, s1]
  refine tk (i := 11) (v := .bool true) 16 rfl rfl (by kernel_rfl) (by rfl) hHeld (fun _ _ => rfl) ?_
  simp only [Act.put, sA, s0, s1]
  refine tk (i := 12) (v := .bool true) 17 rfl rfl (by kernel_rfl) (by rfl) hHeld (fun _ _ => rfl) ?_
  simp only [Act.put, sA, s0, s1]
  refine tk (i := 13) (v := .pointer (some ⟨w.heap.size, 3, none⟩)) 18 rfl rfl (by kernel_rfl) (by rfl) hHeld (fun W hS => by go_simp) ?_
  simp only [Act.put, sA, s0, s1]
  refine tk (i := 14) (v := S name) 19 rfl rfl (by kernel_rfl) (by rfl) hHeld (fun W hS => by have q : W.cell? ⟨w.heap.size, 3, none⟩ = some (S name) := hS.a 3; go_simp) ?_
  simp only [Act.put, sA, s0, s1]
  refine tk (i := 15) (v := .pointer (some ⟨w.heap.size + 1, 3, none⟩)) 20 rfl rfl (by kernel_rfl) (by rfl) hHeld (fun W hS => by go_simp) ?_
  simp only [Act.put, sA, s0, s1]
  refine tk (i := 16) (v := S name) 21 rfl rfl (by kernel_rfl) (by rfl) hHeld (fun W hS => by have q : W.cell? ⟨w.heap.size + 1, 3, none⟩ = some (S name) := hS.b 3; go_simp) ?_
  simp only [Act.put, sA, s0, s1]
  refine tk (i := 17) (v := .bool true) 22 rfl rfl (by kernel_rfl) (by rfl) hHeld (fun W hS => by go_simp) ?_
  simp only [Act.put, sA, s0, s1]
  refine tk (i := 18) (v := .bool true) 23 rfl rfl (by kernel_rfl) (by rfl) hHeld (fun _ _ => rfl) ?_
  simp only [Act.put, sA, s0, s1]
  refine tk (i := 19) (v := .bool true) 24 rfl rfl (by kernel_rfl) (by rfl) hHeld (fun _ _ => rfl) ?_
  simp only [Act.put, sA, s0, s1]
  refine tk (i := 20) (v := .pointer (some ⟨w.heap.size, 4, none⟩)) 25 rfl rfl (by kernel_rfl) (by rfl) hHeld (fun W hS => by go_simp) ?_
  simp only [Act.put, sA, s0, s1]
  refine tk (i := 21) (v := S text) 26 rfl rfl (by kernel_rfl) (by rfl) hHeld (fun W hS => by have q : W.cell? ⟨w.heap.size, 4, none⟩ = some (S text) := hS.a 4; go_simp) ?_
  simp only [Act.put, sA, s0, s1]
  refine tk (i := 22) (v := .pointer (some ⟨w.heap.size + 1, 4, none⟩)) 27 rfl rfl (by kernel_rfl) (by rfl) hHeld (fun W hS => by go_simp) ?_
  simp only [Act.put, sA, s0, s1]
  refine tk (i := 23) (v := S text) 28 rfl rfl (by kernel_rfl) (by rfl) hHeld (fun W hS => by have q : W.cell? ⟨w.heap.size + 1, 4, none⟩ = some (S text) := hS.b 4; go_simp) ?_
  simp only [Act.put, sA, s0, s1]
  refine tk (i := 24) (v := .bool true) 29 rfl rfl (by kernel_rfl) (by rfl) hHeld (fun W hS => by go_simp) ?_
  simp only [Act.put, sA, s0, s1]
  refine tk (i := 25) (v := .bool true) 30 rfl rfl (by kernel_rfl) (by rfl) hHeld (fun _ _ => rfl) ?_
  simp only [Act.put, sA, s0, s1]
  refine tk (i := 26) (v := .bool true) 31 rfl rfl (by kernel_rfl) (by rfl) hHeld (fun _ _ => rfl) ?_
  simp only [Act.put, sA, s0, s1]
  refine tk (i := 27) (v := .pointer (some ⟨w.heap.size, 5, none⟩)) 32 rfl rfl (by kernel_rfl) (by rfl) hHeld (fun W hS => by go_simp) ?_
  simp only [Act.put, sA, s0, s1]
  refine tk (i := 28) (v := .bool flag) 33 rfl rfl (by kernel_rfl) (by rfl) hHeld (fun W hS => by have q : W.cell? ⟨w.heap.size, 5, none⟩ = some (.bool flag) := hS.a 5; go_simp) ?_
  simp only [Act.put, sA, s0, s1]
  refine tk (i := 29) (v := .pointer (some ⟨w.heap.size + 1, 5, none⟩)) 34 rfl rfl (by kernel_rfl) (by rfl) hHeld (fun W hS => by go_simp) ?_
  simp only [Act.put, sA, s0, s1]
  refine tk (i := 30) (v := .bool flag) 35 rfl rfl (by kernel_rfl) (by rfl) hHeld (fun W hS => by have q : W.cell? ⟨w.heap.size + 1, 5, none⟩ = some (.bool flag) := hS.b 5; go_simp) ?_
  simp only [Act.put, sA, s0, s1]
  refine tk (i := 31) (v := .bool true) 36 rfl rfl (by kernel_rfl) (by rfl) hHeld (fun W hS => by go_simp) ?_
  simp only [Act.put, sA, s0, s1]
  refine tk (i := 32) (v := .bool true) 37 rfl rfl (by kernel_rfl) (by rfl) hHeld (fun _ _ => rfl) ?_
  simp only [Act.put, sA, s0, s1]
  refine tk (i := 33) (v := .bool true) 38 rfl rfl (by kernel_rfl) (by rfl) hHeld (fun _ _ => rfl) ?_
  simp only [Act.put, sA, s0, s1]
  refine tk (i := 34) (v := .pointer (some ⟨w.heap.size, 6, none⟩)) 39 rfl rfl (by kernel_rfl) (by rfl) hHeld (fun W hS => by go_simp) ?_
  simp only [Act.put, sA, s0, s1]
  refine tk (i := 35) (v := .int .u8 snd) 40 rfl rfl (by kernel_rfl) (by rfl) hHeld (fun W hS => by have q : W.cell? ⟨w.heap.size, 6, none⟩ = some (.int .u8 snd) := hS.a 6; go_simp) ?_
  simp only [Act.put, sA, s0, s1]
  refine tk (i := 36) (v := .pointer (some ⟨w.heap.size + 1, 6, none⟩)) 41 rfl rfl (by kernel_rfl) (by rfl) hHeld (fun W hS => by go_simp) ?_
  simp only [Act.put, sA, s0, s1]
  refine tk (i := 37) (v := .int .u8 snd) 42 rfl rfl (by kernel_rfl) (by rfl) hHeld (fun W hS => by have q : W.cell? ⟨w.heap.size + 1, 6, none⟩ = some (.int .u8 snd) := hS.b 6; go_simp) ?_
  simp only [Act.put, sA, s0, s1]
  refine tk (i := 38) (v := .bool true) 43 rfl rfl (by kernel_rfl) (by rfl) hHeld (fun W hS => by go_simp) ?_
  simp only [Act.put, sA, s0, s1]
  refine tk (i := 39) (v := .bool true) 44 rfl rfl (by kernel_rfl) (by rfl) hHeld (fun _ _ => rfl) ?_
  simp only [Act.put, sA, s0, s1]
  refine tk (i := 40) (v := .bool true) 45 rfl rfl (by kernel_rfl) (by rfl) hHeld (fun _ _ => rfl) ?_
  simp only [Act.put, sA, s0, s1]
  refine tk (i := 41) (v := .pointer (some ⟨w.heap.size, 7, none⟩)) 46 rfl rfl (by kernel_rfl) (by rfl) hHeld (fun W hS => by go_simp) ?_
  simp only [Act.put, sA, s0, s1]
  refine tk (i := 42) (v := .int .u8 rcv) 47 rfl rfl (by kernel_rfl) (by rfl) hHeld (fun W hS => by have q : W.cell? ⟨w.heap.size, 7, none⟩ = some (.int .u8 rcv) := hS.a 7; go_simp) ?_
  simp only [Act.put, sA, s0, s1]
  refine tk (i := 43) (v := .pointer (some ⟨w.heap.size + 1, 7, none⟩)) 48 rfl rfl (by kernel_rfl) (by rfl) hHeld (fun W hS => by go_simp) ?_
  simp only [Act.put, sA, s0, s1]
  refine tk (i := 44) (v := .int .u8 rcv) 49 rfl rfl (by kernel_rfl) (by rfl) hHeld (fun W hS => by have q : W.cell? ⟨w.heap.size + 1, 7, none⟩ = some (.int .u8 rcv) := hS.b 7; go_simp) ?_
  simp only [Act.put, sA, s0, s1]
  refine tk (i := 45) (v := .bool true) 50 rfl rfl (by kernel_rfl) (by rfl) hHeld (fun W hS => by go_simp) ?_
  simp only [Act.put, sA, s0, s1]
  refine tk (i := 46) (v := .bool true) 51 rfl rfl (by kernel_rfl) (by rfl) hHeld (fun _ _ => rfl) ?_
  simp only [Act.put, sA, s0, s1]
  refine tk (i := 47) (v := .bool true) 52 rfl rfl (by kernel_rfl) (by rfl) hHeld (fun _ _ => rfl) ?_
  simp only [Act.put, sA, s0, s1]
  refine tk (i := 48) (v := .pointer (some ⟨w.heap.size, 8, none⟩)) 53 rfl rfl (by kernel_rfl) (by rfl) hHeld (fun W hS => by go_simp) ?_
  simp only [Act.put, sA, s0, s1]
  refine takeD (i := 49) 54 rfl rfl (by kernel_rfl) (by kernel_rfl) (by kernel_rfl) (fun _ _ _ h => h) (yieldsIf_load_mid (by rfl) 25 _ rfl w.heap.size 8 rfl [.int .u8 mp, .int .u32 mt, .int .u32 mc, S mid, bv] _ (fun W h => range_of h.ha (by rfl)) Tryz.underlying25 rfl info25') hHeld ?_
  simp only [Act.put, sA, s0, s1]
  refine tk (i := 51) (v := .pointer (some ⟨w.heap.size + 1, 8, none⟩)) 56 rfl rfl (by kernel_rfl) (by rfl) hHeld (fun W hS => by go_simp) ?_
  simp only [Act.put, sA, s0, s1]
  refine takeD (i := 52) 57 rfl rfl (by kernel_rfl) (by kernel_rfl) (by kernel_rfl) (fun _ _ _ h => h) (yieldsIf_load_mid (by rfl) 25 _ rfl (w.heap.size + 1) 8 rfl [.int .u8 mp', .int .u32 mt', .int .u32 mc', S mid', bv'] _ (fun W h => range_of h.hb (by rfl)) Tryz.underlying25 rfl info25') hHeld ?_
  simp only [Act.put, sA, s0, s1]
  refine wpAnyH_ready (rs := [50]) (by kernel_rfl) (by simp) ?_
  refine AllReadyH.cons (o := _) rfl (fun K hK => ?_) AllReadyH.nil
  go_simp
  go_at_call 49
  refine (c1 _ hHeld).mono ?_
  rintro r w50 ⟨rfl, hb50⟩
  have hHeld := hHeld.step hb50
  go_wp2_with fail
  refine hK.out _ _ hHeld (fun hHeld => ?_)
  clear hK K
  try simp only [Act.put]
  try simp only [List.getElem_toArray]
  try simp only [List.getElem_cons_succ]
  try simp only [List.getElem_cons_zero]
  try simp only [sA]
  try simp only [s1]
  try simp only [s0]
  refine wpAnyH_ready (rs := [53]) (by kernel_rfl) (by simp) ?_
  refine AllReadyH.cons (o := _) rfl (fun K hK => ?_) AllReadyH.nil
  go_simp
  go_at_call 49
  refine (c2 _ hHeld).mono ?_
  rintro r w53 ⟨rfl, hb53⟩
  have hHeld := hHeld.step hb53
  go_wp2_with fail
  refine hK.out _ _ hHeld (fun hHeld => ?_)
  clear hK K
  try simp only [Act.put]
  try simp only [List.getElem_toArray]
  try simp only [List.getElem_cons_succ]
  try simp only [List.getElem_cons_zero]
  try simp only [sA]
  try simp only [s1]
  try simp only [s0]
  refine tk (i := 54) (v := .bool false) 59 rfl rfl (by kernel_rfl) (by rfl) hHeld (fun W hS => by go_simp <;> first | exact h3 | simp [h3]) ?_
  simp only [Act.put, sA, s0, s1]
  refine tk (i := 55) (v := .bool false) 60 rfl rfl (by kernel_rfl) (by rfl) hHeld (fun _ _ => rfl) ?_
  simp only [Act.put, sA, s0, s1]
  refine tk (i := 56) (v := .bool false) 61 rfl rfl (by kernel_rfl) (by rfl) hHeld (fun _ _ => rfl) ?_
  simp only [Act.put, sA, s0, s1]
  refine tn (i := 57) 62 rfl rfl (by kernel_rfl) (by rfl) hHeld ?_
  simp only [Act.put, sA, s0, s1]
  refine tn (i := 58) 63 rfl rfl (by kernel_rfl) (by rfl) hHeld ?_
  simp only [Act.put, sA, s0, s1]
  refine tn (i := 59) 64 rfl rfl (by kernel_rfl) (by rfl) hHeld ?_
  simp only [Act.put, sA, s0, s1]
  refine tn (i := 60) 65 rfl rfl (by kernel_rfl) (by rfl) hHeld ?_
  simp only [Act.put, sA, s0, s1]
  refine tn (i := 61) 66 rfl rfl (by kernel_rfl) (by rfl) hHeld ?_
  simp only [Act.put, sA, s0, s1]
  refine tk (i := 62) (v := .bool false) 67 rfl rfl (by kernel_rfl) (by rfl) hHeld (fun _ _ => rfl) ?_
  simp only [Act.put, sA, s0, s1]
  refine tk (i := 63) (v := .bool false) 4 rfl rfl (by kernel_rfl) (by rfl) hHeld (fun _ _ => rfl) ?_
  simp only [Act.put, sA, s0, s1]
  refine wpAnyH_done (by kernel_rfl) ?_ _
  refine NoPanic.normal ?_
  go_wp2_with fail
  all_goals (subst hQ; exact ⟨rfl, hHeld.below⟩)
theorem same_out (k k' : Nat) (who : Int) (n : Int) (name : List UInt8) (text : List UInt8) (flag : Bool) (snd : Nat) (rcv : Nat) (mp mp' : Nat) (mt mt' : Nat) (mc mc' : Nat) (mid mid' : List UInt8) (mbody mbody' : List UInt8) (ok ok' : Nat) (oa oa' : Nat) (ob ob' : Nat) (cond cond' : List UInt8) (bv bv' : Value) (w : World) (hp : mp < 256) (ht : mt < 4294967296) (hc : mc < 4294967296) (hid : mid.length ≤ 100000000) (hbody : mbody.length ≤ 100000000) (hp' : mp' < 256) (ht' : mt' < 4294967296) (hc' : mc' < 4294967296) (hid' : mid'.length ≤ 100000000) (hbody' : mbody'.length ≤ 100000000) (htab : Pow w) (hb : BytesV w bv mbody) (hb' : BytesV w bv' mbody') (hlen : (msgW mp mt mc mid mbody).length ≤ 140737488355328) (hlen' : (msgW mp' mt' mc' mid' mbody').length ≤ 140737488355328) (hw : (msgW mp mt mc mid mbody) = (msgW mp' mt' mc' mid' mbody')) (h : ¬ (ok = ok' ∧ oa = oa' ∧ ob = ob' ∧ cond = cond')) :
    Calls Tryz.prog 23 #[.agg (EvD.cs ⟨k, who, n, name, text, flag, snd, rcv, ⟨mp, mt, mc, mid, mbody⟩, ok, oa, ob, cond⟩ bv), .agg (EvD.cs ⟨k', who, n, name, text, flag, snd, rcv, ⟨mp', mt', mc', mid', mbody'⟩, ok', oa', ob', cond'⟩ bv')] w fun e w' => e = .returned (.bool false) ∧ Below w.heap.size w w' := by
  have t0 : Two w (EvD.cs ⟨k, who, n, name, text, flag, snd, rcv, ⟨mp, mt, mc, mid, mbody⟩, ok, oa, ob, cond⟩ bv) (EvD.cs ⟨k', who, n, name, text, flag, snd, rcv, ⟨mp', mt', mc', mid', mbody'⟩, ok', oa', ob', cond'⟩ bv') ((w.alloc (.cells (EvD.cs ⟨k, who, n, name, text, flag, snd, rcv, ⟨mp, mt, mc, mid, mbody⟩, ok, oa, ob, cond⟩ bv) 30)).alloc (.cells (EvD.cs ⟨k', who, n, name, text, flag, snd, rcv, ⟨mp', mt', mc', mid', mbody'⟩, ok', oa', ob', cond'⟩ bv') 30)) := Two.init w _ _
  have c1 := fun W (h : Two w (EvD.cs ⟨k, who, n, name, text, flag, snd, rcv, ⟨mp, mt, mc, mid, mbody⟩, ok, oa, ob, cond⟩ bv) (EvD.cs ⟨k', who, n, name, text, flag, snd, rcv, ⟨mp', mt', mc', mid', mbody'⟩, ok', oa', ob', cond'⟩ bv') W) => msgWord mp mt mc mid mbody bv W hp ht hc hid hbody (htab.below h.below (Nat.le_refl _)) (hb.below h.below (Nat.le_refl _)) hlen
  have c2 := fun W (h : Two w (EvD.cs ⟨k, who, n, name, text, flag, snd, rcv, ⟨mp, mt, mc, mid, mbody⟩, ok, oa, ob, cond⟩ bv) (EvD.cs ⟨k', who, n, name, text, flag, snd, rcv, ⟨mp', mt', mc', mid', mbody'⟩, ok', oa', ob', cond'⟩ bv') W) => msgWord mp' mt' mc' mid' mbody' bv' W hp' ht' hc' hid' hbody' (htab.below h.below (Nat.le_refl _)) (hb'.below h.below (Nat.le_refl _)) hlen'
  have h3 : ((msgW mp mt mc mid mbody) == (msgW mp' mt' mc' mid' mbody')) = true := by rw [hw]; exact beq_self_eq_true _
  generalize hQ : (fun (e : Ending) (w' : World) => e = .returned (.bool false) ∧ Below w.heap.size w w') = Q
  go_enter Tryz.func23, Tryz.ntmps23
  go_wp2_with fail
  refine wp_region_noPanic ?_
  refine wp_region_held_drew (S := Two w (EvD.cs ⟨k, who, n, name, text, flag, snd, rcv, ⟨mp, mt, mc, mid, mbody⟩, ok, oa, ob, cond⟩ bv) (EvD.cs ⟨k', who, n, name, text, flag, snd, rcv, ⟨mp', mt', mc', mid', mbody'⟩, ok', oa', ob', cond'⟩ bv')) (by kernel_rfl) t0.drew (fun hHeld => ?_)
  refine tk (i := 0) (v := .pointer (some ⟨w.heap.size, 1, none⟩)) 5 rfl rfl (by kernel_rfl) (by rfl) hHeld (fun W hS => by go_simp) ?_
  simp only [Act.put, sA, s0, s1]
  refine tk (i := 1) (v := .int .i64 who) 6 rfl rfl (by kernel_rfl) (by rfl) hHeld (fun W hS => by have q : W.cell? ⟨w.heap.size, 1, none⟩ = some (.int .i64 who) := hS.a 1; go_simp) ?_
  simp only [Act.put, sA, s0, s1]
  refine tk (i := 2) (v := .pointer (some ⟨w.heap.size + 1, 1, none⟩)) 7 rfl rfl (by kernel_rfl) (by rfl) hHeld (fun W hS => by go_simp) ?_
  simp only [Act.put, sA, s0, s1]
  refine tk (i := 3) (v := .int .i64 who) 8 rfl rfl (by kernel_rfl) (by rfl) hHeld (fun W hS => by have q : W.cell? ⟨w.heap.size + 1, 1, none⟩ = some (.int .i64 who) := hS.b 1; go_simp) ?_
  simp only [Act.put, sA, s0, s1]
  refine tk (i := 4) (v := .bool true) 9 rfl rfl (by kernel_rfl) (by rfl) hHeld (fun W hS => by go_simp) ?_
  simp only [Act.put, sA, s0, s1]
  refine tk (i := 5) (v := .bool true) 10 rfl rfl (by kernel_rfl) (by rfl) hHeld (fun _ _ => rfl) ?_
  simp only [Act.put, sA, s0, s1]
  refine tk (i := 6) (v := .pointer (some ⟨w.heap.size, 2, none⟩)) 11 rfl rfl (by kernel_rfl) (by rfl) hHeld (fun W hS => by go_simp) ?_
  simp only [Act.put, sA, s0, s1]
  refine tk (i := 7) (v := .int .i64 n) 12 rfl rfl (by kernel_rfl) (by rfl) hHeld (fun W hS => by have q : W.cell? ⟨w.heap.size, 2, none⟩ = some (.int .i64 n) := hS.a 2; go_simp) ?_
  simp only [Act.put, sA, s0, s1]
  refine tk (i := 8) (v := .pointer (some ⟨w.heap.size + 1, 2, none⟩)) 13 rfl rfl (by kernel_rfl) (by rfl) hHeld (fun W hS => by go_simp) ?_
  simp only [Act.put, sA, s0, s1]
  refine tk (i := 9) (v := .int .i64 n) 14 rfl rfl (by kernel_rfl) (by rfl) hHeld (fun W hS => by have q : W.cell? ⟨w.heap.size + 1, 2, none⟩ = some (.int .i64 n) := hS.b 2; go_simp) ?_
  simp only [Act.put, sA, s0, s1]
  refine tk (i := 10) (v := .bool true) 15 rfl rfl (by kernel_rfl) (by rfl) hHeld (fun W hS => by go_simp) ?_
  simp only [Act.put, sA, s0, s1]
  refine tk (i := 11) (v := .bool true) 16 rfl rfl (by kernel_rfl) (by rfl) hHeld (fun _ _ => rfl) ?_
  simp only [Act.put, sA, s0, s1]
  refine tk (i := 12) (v := .bool true) 17 rfl rfl (by kernel_rfl) (by rfl) hHeld (fun _ _ => rfl) ?_
  simp only [Act.put, sA, s0, s1]
  refine tk (i := 13) (v := .pointer (some ⟨w.heap.size, 3, none⟩)) 18 rfl rfl (by kernel_rfl) (by rfl) hHeld (fun W hS => by go_simp) ?_
  simp only [Act.put, sA, s0, s1]
  refine tk (i := 14) (v := S name) 19 rfl rfl (by kernel_rfl) (by rfl) hHeld (fun W hS => by have q : W.cell? ⟨w.heap.size, 3, none⟩ = some (S name) := hS.a 3; go_simp) ?_
  simp only [Act.put, sA, s0, s1]
  refine tk (i := 15) (v := .pointer (some ⟨w.heap.size + 1, 3, none⟩)) 20 rfl rfl (by kernel_rfl) (by rfl) hHeld (fun W hS => by go_simp) ?_
  simp only [Act.put, sA, s0, s1]
  refine tk (i := 16) (v := S name) 21 rfl rfl (by kernel_rfl) (by rfl) hHeld (fun W hS => by have q : W.cell? ⟨w.heap.size + 1, 3, none⟩ = some (S name) := hS.b 3; go_simp) ?_
  simp only [Act.put, sA, s0, s1]
  refine tk (i := 17) (v := .bool true) 22 rfl rfl (by kernel_rfl) (by rfl) hHeld (fun W hS => by go_simp) ?_
  simp only [Act.put, sA, s0, s1]
  refine tk (i := 18) (v := .bool true) 23 rfl rfl (by kernel_rfl) (by rfl) hHeld (fun _ _ => rfl) ?_
  simp only [Act.put, sA, s0, s1]
  refine tk (i := 19) (v := .bool true) 24 rfl rfl (by kernel_rfl) (by rfl) hHeld (fun _ _ => rfl) ?_
  simp only [Act.put, sA, s0, s1]
  refine tk (i := 20) (v := .pointer (some ⟨w.heap.size, 4, none⟩)) 25 rfl rfl (by kernel_rfl) (by rfl) hHeld (fun W hS => by go_simp) ?_
  simp only [Act.put, sA, s0, s1]
  refine tk (i := 21) (v := S text) 26 rfl rfl (by kernel_rfl) (by rfl) hHeld (fun W hS => by have q : W.cell? ⟨w.heap.size, 4, none⟩ = some (S text) := hS.a 4; go_simp) ?_
  simp only [Act.put, sA, s0, s1]
  refine tk (i := 22) (v := .pointer (some ⟨w.heap.size + 1, 4, none⟩)) 27 rfl rfl (by kernel_rfl) (by rfl) hHeld (fun W hS => by go_simp) ?_
  simp only [Act.put, sA, s0, s1]
  refine tk (i := 23) (v := S text) 28 rfl rfl (by kernel_rfl) (by rfl) hHeld (fun W hS => by have q : W.cell? ⟨w.heap.size + 1, 4, none⟩ = some (S text) := hS.b 4; go_simp) ?_
  simp only [Act.put, sA, s0, s1]
  refine tk (i := 24) (v := .bool true) 29 rfl rfl (by kernel_rfl) (by rfl) hHeld (fun W hS => by go_simp) ?_
  simp only [Act.put, sA, s0, s1]
  refine tk (i := 25) (v := .bool true) 30 rfl rfl (by kernel_rfl) (by rfl) hHeld (fun _ _ => rfl) ?_
  simp only [Act.put, sA, s0, s1]
  refine tk (i := 26) (v := .bool true) 31 rfl rfl (by kernel_rfl) (by rfl) hHeld (fun _ _ => rfl) ?_
  simp only [Act.put, sA, s0, s1]
  refine tk (i := 27) (v := .pointer (some ⟨w.heap.size, 5, none⟩)) 32 rfl rfl (by kernel_rfl) (by rfl) hHeld (fun W hS => by go_simp) ?_
  simp only [Act.put, sA, s0, s1]
  refine tk (i := 28) (v := .bool flag) 33 rfl rfl (by kernel_rfl) (by rfl) hHeld (fun W hS => by have q : W.cell? ⟨w.heap.size, 5, none⟩ = some (.bool flag) := hS.a 5; go_simp) ?_
  simp only [Act.put, sA, s0, s1]
  refine tk (i := 29) (v := .pointer (some ⟨w.heap.size + 1, 5, none⟩)) 34 rfl rfl (by kernel_rfl) (by rfl) hHeld (fun W hS => by go_simp) ?_
  simp only [Act.put, sA, s0, s1]
  refine tk (i := 30) (v := .bool flag) 35 rfl rfl (by kernel_rfl) (by rfl) hHeld (fun W hS => by have q : W.cell? ⟨w.heap.size + 1, 5, none⟩ = some (.bool flag) := hS.b 5; go_simp) ?_
  simp only [Act.put, sA, s0, s1]
  refine tk (i := 31) (v := .bool true) 36 rfl rfl (by kernel_rfl) (by rfl) hHeld (fun W hS => by go_simp) ?_
  simp only [Act.put, sA, s0, s1]
  refine tk (i := 32) (v := .bool true) 37 rfl rfl (by kernel_rfl) (by rfl) hHeld (fun _ _ => rfl) ?_
  simp only [Act.put, sA, s0, s1]
  refine tk (i := 33) (v := .bool true) 38 rfl rfl (by kernel_rfl) (by rfl) hHeld (fun _ _ => rfl) ?_
  simp only [Act.put, sA, s0, s1]
  refine tk (i := 34) (v := .pointer (some ⟨w.heap.size, 6, none⟩)) 39 rfl rfl (by kernel_rfl) (by rfl) hHeld (fun W hS => by go_simp) ?_
  simp only [Act.put, sA, s0, s1]
  refine tk (i := 35) (v := .int .u8 snd) 40 rfl rfl (by kernel_rfl) (by rfl) hHeld (fun W hS => by have q : W.cell? ⟨w.heap.size, 6, none⟩ = some (.int .u8 snd) := hS.a 6; go_simp) ?_
  simp only [Act.put, sA, s0, s1]
  refine tk (i := 36) (v := .pointer (some ⟨w.heap.size + 1, 6, none⟩)) 41 rfl rfl (by kernel_rfl) (by rfl) hHeld (fun W hS => by go_simp) ?_
  simp only [Act.put, sA, s0, s1]
  refine tk (i := 37) (v := .int .u8 snd) 42 rfl rfl (by kernel_rfl) (by rfl) hHeld (fun W hS => by have q : W.cell? ⟨w.heap.size + 1, 6, none⟩ = some (.int .u8 snd) := hS.b 6; go_simp) ?_
  simp only [Act.put, sA, s0, s1]
  refine tk (i := 38) (v := .bool true) 43 rfl rfl (by kernel_rfl) (by rfl) hHeld (fun W hS => by go_simp) ?_
  simp only [Act.put, sA, s0, s1]
  refine tk (i := 39) (v := .bool true) 44 rfl rfl (by kernel_rfl) (by rfl) hHeld (fun _ _ => rfl) ?_
  simp only [Act.put, sA, s0, s1]
  refine tk (i := 40) (v := .bool true) 45 rfl rfl (by kernel_rfl) (by rfl) hHeld (fun _ _ => rfl) ?_
  simp only [Act.put, sA, s0, s1]
  refine tk (i := 41) (v := .pointer (some ⟨w.heap.size, 7, none⟩)) 46 rfl rfl (by kernel_rfl) (by rfl) hHeld (fun W hS => by go_simp) ?_
  simp only [Act.put, sA, s0, s1]
  refine tk (i := 42) (v := .int .u8 rcv) 47 rfl rfl (by kernel_rfl) (by rfl) hHeld (fun W hS => by have q : W.cell? ⟨w.heap.size, 7, none⟩ = some (.int .u8 rcv) := hS.a 7; go_simp) ?_
  simp only [Act.put, sA, s0, s1]
  refine tk (i := 43) (v := .pointer (some ⟨w.heap.size + 1, 7, none⟩)) 48 rfl rfl (by kernel_rfl) (by rfl) hHeld (fun W hS => by go_simp) ?_
  simp only [Act.put, sA, s0, s1]
  refine tk (i := 44) (v := .int .u8 rcv) 49 rfl rfl (by kernel_rfl) (by rfl) hHeld (fun W hS => by have q : W.cell? ⟨w.heap.size + 1, 7, none⟩ = some (.int .u8 rcv) := hS.b 7; go_simp) ?_
  simp only [Act.put, sA, s0, s1]
  refine tk (i := 45) (v := .bool true) 50 rfl rfl (by kernel_rfl) (by rfl) hHeld (fun W hS => by go_simp) ?_
  simp only [Act.put, sA, s0, s1]
  refine tk (i := 46) (v := .bool true) 51 rfl rfl (by kernel_rfl) (by rfl) hHeld (fun _ _ => rfl) ?_
  simp only [Act.put, sA, s0, s1]
  refine tk (i := 47) (v := .bool true) 52 rfl rfl (by kernel_rfl) (by rfl) hHeld (fun _ _ => rfl) ?_
  simp only [Act.put, sA, s0, s1]
  refine tk (i := 48) (v := .pointer (some ⟨w.heap.size, 8, none⟩)) 53 rfl rfl (by kernel_rfl) (by rfl) hHeld (fun W hS => by go_simp) ?_
  simp only [Act.put, sA, s0, s1]
  refine takeD (i := 49) 54 rfl rfl (by kernel_rfl) (by kernel_rfl) (by kernel_rfl) (fun _ _ _ h => h) (yieldsIf_load_mid (by rfl) 25 _ rfl w.heap.size 8 rfl [.int .u8 mp, .int .u32 mt, .int .u32 mc, S mid, bv] _ (fun W h => range_of h.ha (by rfl)) Tryz.underlying25 rfl info25') hHeld ?_
  simp only [Act.put, sA, s0, s1]
  refine tk (i := 51) (v := .pointer (some ⟨w.heap.size + 1, 8, none⟩)) 56 rfl rfl (by kernel_rfl) (by rfl) hHeld (fun W hS => by go_simp) ?_
  simp only [Act.put, sA, s0, s1]
  refine takeD (i := 52) 57 rfl rfl (by kernel_rfl) (by kernel_rfl) (by kernel_rfl) (fun _ _ _ h => h) (yieldsIf_load_mid (by rfl) 25 _ rfl (w.heap.size + 1) 8 rfl [.int .u8 mp', .int .u32 mt', .int .u32 mc', S mid', bv'] _ (fun W h => range_of h.hb (by rfl)) Tryz.underlying25 rfl info25') hHeld ?_
  simp only [Act.put, sA, s0, s1]
  refine wpAnyH_ready (rs := [50]) (by kernel_rfl) (by simp) ?_
  refine AllReadyH.cons (o := _) rfl (fun K hK => ?_) AllReadyH.nil
  go_simp
  go_at_call 49
  refine (c1 _ hHeld).mono ?_
  rintro r w50 ⟨rfl, hb50⟩
  have hHeld := hHeld.step hb50
  go_wp2_with fail
  refine hK.out _ _ hHeld (fun hHeld => ?_)
  clear hK K
  try simp only [Act.put]
  try simp only [List.getElem_toArray]
  try simp only [List.getElem_cons_succ]
  try simp only [List.getElem_cons_zero]
  try simp only [sA]
  try simp only [s1]
  try simp only [s0]
  refine wpAnyH_ready (rs := [53]) (by kernel_rfl) (by simp) ?_
  refine AllReadyH.cons (o := _) rfl (fun K hK => ?_) AllReadyH.nil
  go_simp
  go_at_call 49
  refine (c2 _ hHeld).mono ?_
  rintro r w53 ⟨rfl, hb53⟩
  have hHeld := hHeld.step hb53
  go_wp2_with fail
  refine hK.out _ _ hHeld (fun hHeld => ?_)
  clear hK K
  try simp only [Act.put]
  try simp only [List.getElem_toArray]
  try simp only [List.getElem_cons_succ]
  try simp only [List.getElem_cons_zero]
  try simp only [sA]
  try simp only [s1]
  try simp only [s0]
  refine tk (i := 54) (v := .bool true) 59 rfl rfl (by kernel_rfl) (by rfl) hHeld (fun W hS => by go_simp <;> first | exact h3 | simp [h3]) ?_
  simp only [Act.put, sA, s0, s1]
  refine tk (i := 55) (v := .bool true) 60 rfl rfl (by kernel_rfl) (by rfl) hHeld (fun _ _ => rfl) ?_
  simp only [Act.put, sA, s0, s1]
  refine tk (i := 56) (v := .bool true) 61 rfl rfl (by kernel_rfl) (by rfl) hHeld (fun _ _ => rfl) ?_
  simp only [Act.put, sA, s0, s1]
  refine tk (i := 57) (v := .pointer (some ⟨w.heap.size, 13, none⟩)) 62 rfl rfl (by kernel_rfl) (by rfl) hHeld (fun W hS => by go_simp) ?_
  simp only [Act.put, sA, s0, s1]
  refine takeD (i := 58) 63 rfl rfl (by kernel_rfl) (by kernel_rfl) (by kernel_rfl) (fun _ _ _ h => h) (yieldsIf_load_mid (by rfl) 28 _ rfl w.heap.size 13 rfl [.int .u8 ok, .int .u64 oa, .int .u64 ob, S cond] _ (fun W h => range_of h.ha (by rfl)) Tryz.underlying28 rfl info28') hHeld ?_
  simp only [Act.put, sA, s0, s1]
  refine tk (i := 59) (v := .pointer (some ⟨w.heap.size + 1, 13, none⟩)) 64 rfl rfl (by kernel_rfl) (by rfl) hHeld (fun W hS => by go_simp) ?_
  simp only [Act.put, sA, s0, s1]
  refine takeD (i := 60) 65 rfl rfl (by kernel_rfl) (by kernel_rfl) (by kernel_rfl) (fun _ _ _ h => h) (yieldsIf_load_mid (by rfl) 28 _ rfl (w.heap.size + 1) 13 rfl [.int .u8 ok', .int .u64 oa', .int .u64 ob', S cond'] _ (fun W h => range_of h.hb (by rfl)) Tryz.underlying28 rfl info28') hHeld ?_
  simp only [Act.put, sA, s0, s1]
  have e1 := fun W => eqlOut ok ok' oa oa' ob ob' cond cond' W
  rw [decide_eq_false h] at e1
  have e2 := fun x y W => guardOut x y #[.int .u8 ok, .int .u64 oa, .int .u64 ob, S cond] #[.int .u8 ok', .int .u64 oa', .int .u64 ob', S cond'] W
  refine tk (i := 61) (v := .bool false) 66 rfl rfl (by kernel_rfl) (by rfl) hHeld (fun W hS => by go_simp) ?_
  simp only [Act.put, sA, s0, s1]
  refine tk (i := 62) (v := .bool false) 67 rfl rfl (by kernel_rfl) (by rfl) hHeld (fun _ _ => rfl) ?_
  simp only [Act.put, sA, s0, s1]
  refine tk (i := 63) (v := .bool false) 4 rfl rfl (by kernel_rfl) (by rfl) hHeld (fun _ _ => rfl) ?_
  simp only [Act.put, sA, s0, s1]
  refine wpAnyH_done (by kernel_rfl) ?_ _
  refine NoPanic.normal ?_
  go_wp2_with fail
  all_goals (subst hQ; exact ⟨rfl, hHeld.below⟩)
theorem same_refl (k k' : Nat) (who : Int) (n : Int) (name : List UInt8) (text : List UInt8) (flag : Bool) (snd : Nat) (rcv : Nat) (mp mp' : Nat) (mt mt' : Nat) (mc mc' : Nat) (mid mid' : List UInt8) (mbody mbody' : List UInt8) (ok : Nat) (oa : Nat) (ob : Nat) (cond : List UInt8) (bv bv' : Value) (w : World) (hp : mp < 256) (ht : mt < 4294967296) (hc : mc < 4294967296) (hid : mid.length ≤ 100000000) (hbody : mbody.length ≤ 100000000) (hp' : mp' < 256) (ht' : mt' < 4294967296) (hc' : mc' < 4294967296) (hid' : mid'.length ≤ 100000000) (hbody' : mbody'.length ≤ 100000000) (htab : Pow w) (hb : BytesV w bv mbody) (hb' : BytesV w bv' mbody') (hlen : (msgW mp mt mc mid mbody).length ≤ 140737488355328) (hlen' : (msgW mp' mt' mc' mid' mbody').length ≤ 140737488355328) (hw : (msgW mp mt mc mid mbody) = (msgW mp' mt' mc' mid' mbody'))  :
    Calls Tryz.prog 23 #[.agg (EvD.cs ⟨k, who, n, name, text, flag, snd, rcv, ⟨mp, mt, mc, mid, mbody⟩, ok, oa, ob, cond⟩ bv), .agg (EvD.cs ⟨k', who, n, name, text, flag, snd, rcv, ⟨mp', mt', mc', mid', mbody'⟩, ok, oa, ob, cond⟩ bv')] w fun e w' => e = .returned (.bool true) ∧ Below w.heap.size w w' := by
  have t0 : Two w (EvD.cs ⟨k, who, n, name, text, flag, snd, rcv, ⟨mp, mt, mc, mid, mbody⟩, ok, oa, ob, cond⟩ bv) (EvD.cs ⟨k', who, n, name, text, flag, snd, rcv, ⟨mp', mt', mc', mid', mbody'⟩, ok, oa, ob, cond⟩ bv') ((w.alloc (.cells (EvD.cs ⟨k, who, n, name, text, flag, snd, rcv, ⟨mp, mt, mc, mid, mbody⟩, ok, oa, ob, cond⟩ bv) 30)).alloc (.cells (EvD.cs ⟨k', who, n, name, text, flag, snd, rcv, ⟨mp', mt', mc', mid', mbody'⟩, ok, oa, ob, cond⟩ bv') 30)) := Two.init w _ _
  have c1 := fun W (h : Two w (EvD.cs ⟨k, who, n, name, text, flag, snd, rcv, ⟨mp, mt, mc, mid, mbody⟩, ok, oa, ob, cond⟩ bv) (EvD.cs ⟨k', who, n, name, text, flag, snd, rcv, ⟨mp', mt', mc', mid', mbody'⟩, ok, oa, ob, cond⟩ bv') W) => msgWord mp mt mc mid mbody bv W hp ht hc hid hbody (htab.below h.below (Nat.le_refl _)) (hb.below h.below (Nat.le_refl _)) hlen
  have c2 := fun W (h : Two w (EvD.cs ⟨k, who, n, name, text, flag, snd, rcv, ⟨mp, mt, mc, mid, mbody⟩, ok, oa, ob, cond⟩ bv) (EvD.cs ⟨k', who, n, name, text, flag, snd, rcv, ⟨mp', mt', mc', mid', mbody'⟩, ok, oa, ob, cond⟩ bv') W) => msgWord mp' mt' mc' mid' mbody' bv' W hp' ht' hc' hid' hbody' (htab.below h.below (Nat.le_refl _)) (hb'.below h.below (Nat.le_refl _)) hlen'
  have h3 : ((msgW mp mt mc mid mbody) == (msgW mp' mt' mc' mid' mbody')) = true := by rw [hw]; exact beq_self_eq_true _
  generalize hQ : (fun (e : Ending) (w' : World) => e = .returned (.bool true) ∧ Below w.heap.size w w') = Q
  go_enter Tryz.func23, Tryz.ntmps23
  go_wp2_with fail
  refine wp_region_noPanic ?_
  refine wp_region_held_drew (S := Two w (EvD.cs ⟨k, who, n, name, text, flag, snd, rcv, ⟨mp, mt, mc, mid, mbody⟩, ok, oa, ob, cond⟩ bv) (EvD.cs ⟨k', who, n, name, text, flag, snd, rcv, ⟨mp', mt', mc', mid', mbody'⟩, ok, oa, ob, cond⟩ bv')) (by kernel_rfl) t0.drew (fun hHeld => ?_)
  refine tk (i := 0) (v := .pointer (some ⟨w.heap.size, 1, none⟩)) 5 rfl rfl (by kernel_rfl) (by rfl) hHeld (fun W hS => by go_simp) ?_
  simp only [Act.put, sA, s0, s1]
  refine tk (i := 1) (v := .int .i64 who) 6 rfl rfl (by kernel_rfl) (by rfl) hHeld (fun W hS => by have q : W.cell? ⟨w.heap.size, 1, none⟩ = some (.int .i64 who) := hS.a 1; go_simp) ?_
  simp only [Act.put, sA, s0, s1]
  refine tk (i := 2) (v := .pointer (some ⟨w.heap.size + 1, 1, none⟩)) 7 rfl rfl (by kernel_rfl) (by rfl) hHeld (fun W hS => by go_simp) ?_
  simp only [Act.put, sA, s0, s1]
  refine tk (i := 3) (v := .int .i64 who) 8 rfl rfl (by kernel_rfl) (by rfl) hHeld (fun W hS => by have q : W.cell? ⟨w.heap.size + 1, 1, none⟩ = some (.int .i64 who) := hS.b 1; go_simp) ?_
  simp only [Act.put, sA, s0, s1]
  refine tk (i := 4) (v := .bool true) 9 rfl rfl (by kernel_rfl) (by rfl) hHeld (fun W hS => by go_simp) ?_
  simp only [Act.put, sA, s0, s1]
  refine tk (i := 5) (v := .bool true) 10 rfl rfl (by kernel_rfl) (by rfl) hHeld (fun _ _ => rfl) ?_
  simp only [Act.put, sA, s0, s1]
  refine tk (i := 6) (v := .pointer (some ⟨w.heap.size, 2, none⟩)) 11 rfl rfl (by kernel_rfl) (by rfl) hHeld (fun W hS => by go_simp) ?_
  simp only [Act.put, sA, s0, s1]
  refine tk (i := 7) (v := .int .i64 n) 12 rfl rfl (by kernel_rfl) (by rfl) hHeld (fun W hS => by have q : W.cell? ⟨w.heap.size, 2, none⟩ = some (.int .i64 n) := hS.a 2; go_simp) ?_
  simp only [Act.put, sA, s0, s1]
  refine tk (i := 8) (v := .pointer (some ⟨w.heap.size + 1, 2, none⟩)) 13 rfl rfl (by kernel_rfl) (by rfl) hHeld (fun W hS => by go_simp) ?_
  simp only [Act.put, sA, s0, s1]
  refine tk (i := 9) (v := .int .i64 n) 14 rfl rfl (by kernel_rfl) (by rfl) hHeld (fun W hS => by have q : W.cell? ⟨w.heap.size + 1, 2, none⟩ = some (.int .i64 n) := hS.b 2; go_simp) ?_
  simp only [Act.put, sA, s0, s1]
  refine tk (i := 10) (v := .bool true) 15 rfl rfl (by kernel_rfl) (by rfl) hHeld (fun W hS => by go_simp) ?_
  simp only [Act.put, sA, s0, s1]
  refine tk (i := 11) (v := .bool true) 16 rfl rfl (by kernel_rfl) (by rfl) hHeld (fun _ _ => rfl) ?_
  simp only [Act.put, sA, s0, s1]
  refine tk (i := 12) (v := .bool true) 17 rfl rfl (by kernel_rfl) (by rfl) hHeld (fun _ _ => rfl) ?_
  simp only [Act.put, sA, s0, s1]
  refine tk (i := 13) (v := .pointer (some ⟨w.heap.size, 3, none⟩)) 18 rfl rfl (by kernel_rfl) (by rfl) hHeld (fun W hS => by go_simp) ?_
  simp only [Act.put, sA, s0, s1]
  refine tk (i := 14) (v := S name) 19 rfl rfl (by kernel_rfl) (by rfl) hHeld (fun W hS => by have q : W.cell? ⟨w.heap.size, 3, none⟩ = some (S name) := hS.a 3; go_simp) ?_
  simp only [Act.put, sA, s0, s1]
  refine tk (i := 15) (v := .pointer (some ⟨w.heap.size + 1, 3, none⟩)) 20 rfl rfl (by kernel_rfl) (by rfl) hHeld (fun W hS => by go_simp) ?_
  simp only [Act.put, sA, s0, s1]
  refine tk (i := 16) (v := S name) 21 rfl rfl (by kernel_rfl) (by rfl) hHeld (fun W hS => by have q : W.cell? ⟨w.heap.size + 1, 3, none⟩ = some (S name) := hS.b 3; go_simp) ?_
  simp only [Act.put, sA, s0, s1]
  refine tk (i := 17) (v := .bool true) 22 rfl rfl (by kernel_rfl) (by rfl) hHeld (fun W hS => by go_simp) ?_
  simp only [Act.put, sA, s0, s1]
  refine tk (i := 18) (v := .bool true) 23 rfl rfl (by kernel_rfl) (by rfl) hHeld (fun _ _ => rfl) ?_
  simp only [Act.put, sA, s0, s1]
  refine tk (i := 19) (v := .bool true) 24 rfl rfl (by kernel_rfl) (by rfl) hHeld (fun _ _ => rfl) ?_
  simp only [Act.put, sA, s0, s1]
  refine tk (i := 20) (v := .pointer (some ⟨w.heap.size, 4, none⟩)) 25 rfl rfl (by kernel_rfl) (by rfl) hHeld (fun W hS => by go_simp) ?_
  simp only [Act.put, sA, s0, s1]
  refine tk (i := 21) (v := S text) 26 rfl rfl (by kernel_rfl) (by rfl) hHeld (fun W hS => by have q : W.cell? ⟨w.heap.size, 4, none⟩ = some (S text) := hS.a 4; go_simp) ?_
  simp only [Act.put, sA, s0, s1]
  refine tk (i := 22) (v := .pointer (some ⟨w.heap.size + 1, 4, none⟩)) 27 rfl rfl (by kernel_rfl) (by rfl) hHeld (fun W hS => by go_simp) ?_
  simp only [Act.put, sA, s0, s1]
  refine tk (i := 23) (v := S text) 28 rfl rfl (by kernel_rfl) (by rfl) hHeld (fun W hS => by have q : W.cell? ⟨w.heap.size + 1, 4, none⟩ = some (S text) := hS.b 4; go_simp) ?_
  simp only [Act.put, sA, s0, s1]
  refine tk (i := 24) (v := .bool true) 29 rfl rfl (by kernel_rfl) (by rfl) hHeld (fun W hS => by go_simp) ?_
  simp only [Act.put, sA, s0, s1]
  refine tk (i := 25) (v := .bool true) 30 rfl rfl (by kernel_rfl) (by rfl) hHeld (fun _ _ => rfl) ?_
  simp only [Act.put, sA, s0, s1]
  refine tk (i := 26) (v := .bool true) 31 rfl rfl (by kernel_rfl) (by rfl) hHeld (fun _ _ => rfl) ?_
  simp only [Act.put, sA, s0, s1]
  refine tk (i := 27) (v := .pointer (some ⟨w.heap.size, 5, none⟩)) 32 rfl rfl (by kernel_rfl) (by rfl) hHeld (fun W hS => by go_simp) ?_
  simp only [Act.put, sA, s0, s1]
  refine tk (i := 28) (v := .bool flag) 33 rfl rfl (by kernel_rfl) (by rfl) hHeld (fun W hS => by have q : W.cell? ⟨w.heap.size, 5, none⟩ = some (.bool flag) := hS.a 5; go_simp) ?_
  simp only [Act.put, sA, s0, s1]
  refine tk (i := 29) (v := .pointer (some ⟨w.heap.size + 1, 5, none⟩)) 34 rfl rfl (by kernel_rfl) (by rfl) hHeld (fun W hS => by go_simp) ?_
  simp only [Act.put, sA, s0, s1]
  refine tk (i := 30) (v := .bool flag) 35 rfl rfl (by kernel_rfl) (by rfl) hHeld (fun W hS => by have q : W.cell? ⟨w.heap.size + 1, 5, none⟩ = some (.bool flag) := hS.b 5; go_simp) ?_
  simp only [Act.put, sA, s0, s1]
  refine tk (i := 31) (v := .bool true) 36 rfl rfl (by kernel_rfl) (by rfl) hHeld (fun W hS => by go_simp) ?_
  simp only [Act.put, sA, s0, s1]
  refine tk (i := 32) (v := .bool true) 37 rfl rfl (by kernel_rfl) (by rfl) hHeld (fun _ _ => rfl) ?_
  simp only [Act.put, sA, s0, s1]
  refine tk (i := 33) (v := .bool true) 38 rfl rfl (by kernel_rfl) (by rfl) hHeld (fun _ _ => rfl) ?_
  simp only [Act.put, sA, s0, s1]
  refine tk (i := 34) (v := .pointer (some ⟨w.heap.size, 6, none⟩)) 39 rfl rfl (by kernel_rfl) (by rfl) hHeld (fun W hS => by go_simp) ?_
  simp only [Act.put, sA, s0, s1]
  refine tk (i := 35) (v := .int .u8 snd) 40 rfl rfl (by kernel_rfl) (by rfl) hHeld (fun W hS => by have q : W.cell? ⟨w.heap.size, 6, none⟩ = some (.int .u8 snd) := hS.a 6; go_simp) ?_
  simp only [Act.put, sA, s0, s1]
  refine tk (i := 36) (v := .pointer (some ⟨w.heap.size + 1, 6, none⟩)) 41 rfl rfl (by kernel_rfl) (by rfl) hHeld (fun W hS => by go_simp) ?_
  simp only [Act.put, sA, s0, s1]
  refine tk (i := 37) (v := .int .u8 snd) 42 rfl rfl (by kernel_rfl) (by rfl) hHeld (fun W hS => by have q : W.cell? ⟨w.heap.size + 1, 6, none⟩ = some (.int .u8 snd) := hS.b 6; go_simp) ?_
  simp only [Act.put, sA, s0, s1]
  refine tk (i := 38) (v := .bool true) 43 rfl rfl (by kernel_rfl) (by rfl) hHeld (fun W hS => by go_simp) ?_
  simp only [Act.put, sA, s0, s1]
  refine tk (i := 39) (v := .bool true) 44 rfl rfl (by kernel_rfl) (by rfl) hHeld (fun _ _ => rfl) ?_
  simp only [Act.put, sA, s0, s1]
  refine tk (i := 40) (v := .bool true) 45 rfl rfl (by kernel_rfl) (by rfl) hHeld (fun _ _ => rfl) ?_
  simp only [Act.put, sA, s0, s1]
  refine tk (i := 41) (v := .pointer (some ⟨w.heap.size, 7, none⟩)) 46 rfl rfl (by kernel_rfl) (by rfl) hHeld (fun W hS => by go_simp) ?_
  simp only [Act.put, sA, s0, s1]
  refine tk (i := 42) (v := .int .u8 rcv) 47 rfl rfl (by kernel_rfl) (by rfl) hHeld (fun W hS => by have q : W.cell? ⟨w.heap.size, 7, none⟩ = some (.int .u8 rcv) := hS.a 7; go_simp) ?_
  simp only [Act.put, sA, s0, s1]
  refine tk (i := 43) (v := .pointer (some ⟨w.heap.size + 1, 7, none⟩)) 48 rfl rfl (by kernel_rfl) (by rfl) hHeld (fun W hS => by go_simp) ?_
  simp only [Act.put, sA, s0, s1]
  refine tk (i := 44) (v := .int .u8 rcv) 49 rfl rfl (by kernel_rfl) (by rfl) hHeld (fun W hS => by have q : W.cell? ⟨w.heap.size + 1, 7, none⟩ = some (.int .u8 rcv) := hS.b 7; go_simp) ?_
  simp only [Act.put, sA, s0, s1]
  refine tk (i := 45) (v := .bool true) 50 rfl rfl (by kernel_rfl) (by rfl) hHeld (fun W hS => by go_simp) ?_
  simp only [Act.put, sA, s0, s1]
  refine tk (i := 46) (v := .bool true) 51 rfl rfl (by kernel_rfl) (by rfl) hHeld (fun _ _ => rfl) ?_
  simp only [Act.put, sA, s0, s1]
  refine tk (i := 47) (v := .bool true) 52 rfl rfl (by kernel_rfl) (by rfl) hHeld (fun _ _ => rfl) ?_
  simp only [Act.put, sA, s0, s1]
  refine tk (i := 48) (v := .pointer (some ⟨w.heap.size, 8, none⟩)) 53 rfl rfl (by kernel_rfl) (by rfl) hHeld (fun W hS => by go_simp) ?_
  simp only [Act.put, sA, s0, s1]
  refine takeD (i := 49) 54 rfl rfl (by kernel_rfl) (by kernel_rfl) (by kernel_rfl) (fun _ _ _ h => h) (yieldsIf_load_mid (by rfl) 25 _ rfl w.heap.size 8 rfl [.int .u8 mp, .int .u32 mt, .int .u32 mc, S mid, bv] _ (fun W h => range_of h.ha (by rfl)) Tryz.underlying25 rfl info25') hHeld ?_
  simp only [Act.put, sA, s0, s1]
  refine tk (i := 51) (v := .pointer (some ⟨w.heap.size + 1, 8, none⟩)) 56 rfl rfl (by kernel_rfl) (by rfl) hHeld (fun W hS => by go_simp) ?_
  simp only [Act.put, sA, s0, s1]
  refine takeD (i := 52) 57 rfl rfl (by kernel_rfl) (by kernel_rfl) (by kernel_rfl) (fun _ _ _ h => h) (yieldsIf_load_mid (by rfl) 25 _ rfl (w.heap.size + 1) 8 rfl [.int .u8 mp', .int .u32 mt', .int .u32 mc', S mid', bv'] _ (fun W h => range_of h.hb (by rfl)) Tryz.underlying25 rfl info25') hHeld ?_
  simp only [Act.put, sA, s0, s1]
  refine wpAnyH_ready (rs := [50]) (by kernel_rfl) (by simp) ?_
  refine AllReadyH.cons (o := _) rfl (fun K hK => ?_) AllReadyH.nil
  go_simp
  go_at_call 49
  refine (c1 _ hHeld).mono ?_
  rintro r w50 ⟨rfl, hb50⟩
  have hHeld := hHeld.step hb50
  go_wp2_with fail
  refine hK.out _ _ hHeld (fun hHeld => ?_)
  clear hK K
  try simp only [Act.put]
  try simp only [List.getElem_toArray]
  try simp only [List.getElem_cons_succ]
  try simp only [List.getElem_cons_zero]
  try simp only [sA]
  try simp only [s1]
  try simp only [s0]
  refine wpAnyH_ready (rs := [53]) (by kernel_rfl) (by simp) ?_
  refine AllReadyH.cons (o := _) rfl (fun K hK => ?_) AllReadyH.nil
  go_simp
  go_at_call 49
  refine (c2 _ hHeld).mono ?_
  rintro r w53 ⟨rfl, hb53⟩
  have hHeld := hHeld.step hb53
  go_wp2_with fail
  refine hK.out _ _ hHeld (fun hHeld => ?_)
  clear hK K
  try simp only [Act.put]
  try simp only [List.getElem_toArray]
  try simp only [List.getElem_cons_succ]
  try simp only [List.getElem_cons_zero]
  try simp only [sA]
  try simp only [s1]
  try simp only [s0]
  refine tk (i := 54) (v := .bool true) 59 rfl rfl (by kernel_rfl) (by rfl) hHeld (fun W hS => by go_simp <;> first | exact h3 | simp [h3]) ?_
  simp only [Act.put, sA, s0, s1]
  refine tk (i := 55) (v := .bool true) 60 rfl rfl (by kernel_rfl) (by rfl) hHeld (fun _ _ => rfl) ?_
  simp only [Act.put, sA, s0, s1]
  refine tk (i := 56) (v := .bool true) 61 rfl rfl (by kernel_rfl) (by rfl) hHeld (fun _ _ => rfl) ?_
  simp only [Act.put, sA, s0, s1]
  refine tk (i := 57) (v := .pointer (some ⟨w.heap.size, 13, none⟩)) 62 rfl rfl (by kernel_rfl) (by rfl) hHeld (fun W hS => by go_simp) ?_
  simp only [Act.put, sA, s0, s1]
  refine takeD (i := 58) 63 rfl rfl (by kernel_rfl) (by kernel_rfl) (by kernel_rfl) (fun _ _ _ h => h) (yieldsIf_load_mid (by rfl) 28 _ rfl w.heap.size 13 rfl [.int .u8 ok, .int .u64 oa, .int .u64 ob, S cond] _ (fun W h => range_of h.ha (by rfl)) Tryz.underlying28 rfl info28') hHeld ?_
  simp only [Act.put, sA, s0, s1]
  refine tk (i := 59) (v := .pointer (some ⟨w.heap.size + 1, 13, none⟩)) 64 rfl rfl (by kernel_rfl) (by rfl) hHeld (fun W hS => by go_simp) ?_
  simp only [Act.put, sA, s0, s1]
  refine takeD (i := 60) 65 rfl rfl (by kernel_rfl) (by kernel_rfl) (by kernel_rfl) (fun _ _ _ h => h) (yieldsIf_load_mid (by rfl) 28 _ rfl (w.heap.size + 1) 13 rfl [.int .u8 ok, .int .u64 oa, .int .u64 ob, S cond] _ (fun W h => range_of h.hb (by rfl)) Tryz.underlying28 rfl info28') hHeld ?_
  simp only [Act.put, sA, s0, s1]
  have e1 := fun W => eqlOut ok ok oa oa ob ob cond cond W
  have ed : decide (ok = ok ∧ oa = oa ∧ ob = ob ∧ cond = cond) = true := by simp
  rw [ed] at e1
  have e2 := fun x y W => guardOut x y #[.int .u8 ok, .int .u64 oa, .int .u64 ob, S cond] #[.int .u8 ok, .int .u64 oa, .int .u64 ob, S cond] W
  refine tk (i := 61) (v := .bool true) 66 rfl rfl (by kernel_rfl) (by rfl) hHeld (fun W hS => by go_simp) ?_
  simp only [Act.put, sA, s0, s1]
  refine tk (i := 62) (v := .bool true) 67 rfl rfl (by kernel_rfl) (by rfl) hHeld (fun _ _ => rfl) ?_
  simp only [Act.put, sA, s0, s1]
  refine tk (i := 63) (v := .bool true) 4 rfl rfl (by kernel_rfl) (by rfl) hHeld (fun _ _ => rfl) ?_
  simp only [Act.put, sA, s0, s1]
  refine wpAnyH_done (by kernel_rfl) ?_ _
  refine NoPanic.normal ?_
  go_wp2_with fail
  all_goals (subst hQ; exact ⟨rfl, hHeld.below⟩)
end Go.Proofs.YtaojoifpekoecaaGreatDoor
