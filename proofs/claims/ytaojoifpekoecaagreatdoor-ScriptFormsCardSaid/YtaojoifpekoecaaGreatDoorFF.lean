/-
  script.same of two events, where one of the first five fields differs. Conditions: as each theorem says.
-/
import Derived.Test.YtaojoifpekoecaaGreatDoorFC
namespace Go.Proofs.YtaojoifpekoecaaGreatDoor
open Go.RowKit Go.Shelf
set_option maxHeartbeats 4000000
set_option maxRecDepth 100000
theorem same_who (k k' : Nat) (who who' : Int) (n n' : Int) (name name' : List UInt8) (text text' : List UInt8) (flag flag' : Bool) (snd snd' : Nat) (rcv rcv' : Nat) (mp mp' : Nat) (mt mt' : Nat) (mc mc' : Nat) (mid mid' : List UInt8) (mbody mbody' : List UInt8) (ok ok' : Nat) (oa oa' : Nat) (ob ob' : Nat) (cond cond' : List UInt8) (bv bv' : Value) (w : World) (h : ¬ who = who') :
    Calls Tryz.prog 23 #[.agg (EvD.cs ⟨k, who, n, name, text, flag, snd, rcv, ⟨mp, mt, mc, mid, mbody⟩, ok, oa, ob, cond⟩ bv), .agg (EvD.cs ⟨k', who', n', name', text', flag', snd', rcv', ⟨mp', mt', mc', mid', mbody'⟩, ok', oa', ob', cond'⟩ bv')] w fun e w' => e = .returned (.bool false) ∧ Below w.heap.size w w' := by
  have t0 : Two w (EvD.cs ⟨k, who, n, name, text, flag, snd, rcv, ⟨mp, mt, mc, mid, mbody⟩, ok, oa, ob, cond⟩ bv) (EvD.cs ⟨k', who', n', name', text', flag', snd', rcv', ⟨mp', mt', mc', mid', mbody'⟩, ok', oa', ob', cond'⟩ bv') ((w.alloc (.cells (EvD.cs ⟨k, who, n, name, text, flag, snd, rcv, ⟨mp, mt, mc, mid, mbody⟩, ok, oa, ob, cond⟩ bv) 30)).alloc (.cells (EvD.cs ⟨k', who', n', name', text', flag', snd', rcv', ⟨mp', mt', mc', mid', mbody'⟩, ok', oa', ob', cond'⟩ bv') 30)) := Two.init w _ _
  have h2 : (who == who') = false := beq_eq_false_iff_ne.2 h
  generalize hQ : (fun (e : Ending) (w' : World) => e = .returned (.bool false) ∧ Below w.heap.size w w') = Q
  go_enter Tryz.func23, Tryz.ntmps23
  go_wp2_with fail
  refine wp_region_noPanic ?_
  refine wp_region_held_drew (S := Two w (EvD.cs ⟨k, who, n, name, text, flag, snd, rcv, ⟨mp, mt, mc, mid, mbody⟩, ok, oa, ob, cond⟩ bv) (EvD.cs ⟨k', who', n', name', text', flag', snd', rcv', ⟨mp', mt', mc', mid', mbody'⟩, ok', oa', ob', cond'⟩ bv')) (by kernel_rfl) t0.drew (fun hHeld => ?_)
  refine tk (i := 0) (v := .pointer (some ⟨w.heap.size, 1, none⟩)) 5 rfl rfl (by kernel_rfl) (by rfl) hHeld (fun W hS => by go_simp) ?_
  simp only [Act.put, sA, s0, s1]
  refine tk (i := 1) (v := .int .i64 who) 6 rfl rfl (by kernel_rfl) (by rfl) hHeld (fun W hS => by have q : W.cell? ⟨w.heap.size, 1, none⟩ = some (.int .i64 who) := hS.a 1; go_simp) ?_
  simp only [Act.put, sA, s0, s1]
  refine tk (i := 2) (v := .pointer (some ⟨w.heap.size + 1, 1, none⟩)) 7 rfl rfl (by kernel_rfl) (by rfl) hHeld (fun W hS => by go_simp) ?_
  simp only [Act.put, sA, s0, s1]
  refine tk (i := 3) (v := .int .i64 who') 8 rfl rfl (by kernel_rfl) (by rfl) hHeld (fun W hS => by have q : W.cell? ⟨w.heap.size + 1, 1, none⟩ = some (.int .i64 who') := hS.b 1; go_simp) ?_
  simp only [Act.put, sA, s0, s1]
  refine tk (i := 4) (v := .bool false) 9 rfl rfl (by kernel_rfl) (by rfl) hHeld (fun W hS => by go_simp <;> first | exact h2 | simp [h2]) ?_
  simp only [Act.put, sA, s0, s1]
  refine tk (i := 5) (v := .bool false) 10 rfl rfl (by kernel_rfl) (by rfl) hHeld (fun _ _ => rfl) ?_
  simp only [Act.put, sA, s0, s1]
  refine tn (i := 6) 11 rfl rfl (by kernel_rfl) (by rfl) hHeld ?_
  simp only [Act.put, sA, s0, s1]
  refine tn (i := 7) 12 rfl rfl (by kernel_rfl) (by rfl) hHeld ?_
  simp only [Act.put, sA, s0, s1]
  refine tn (i := 8) 13 rfl rfl (by kernel_rfl) (by rfl) hHeld ?_
  simp only [Act.put, sA, s0, s1]
  refine tn (i := 9) 14 rfl rfl (by kernel_rfl) (by rfl) hHeld ?_
  simp only [Act.put, sA, s0, s1]
  refine tn (i := 10) 15 rfl rfl (by kernel_rfl) (by rfl) hHeld ?_
  simp only [Act.put, sA, s0, s1]
  refine tk (i := 11) (v := .bool false) 16 rfl rfl (by kernel_rfl) (by rfl) hHeld (fun _ _ => rfl) ?_
  simp only [Act.put, sA, s0, s1]
  refine tk (i := 12) (v := .bool false) 17 rfl rfl (by kernel_rfl) (by rfl) hHeld (fun _ _ => rfl) ?_
  simp only [Act.put, sA, s0, s1]
  refine tn (i := 13) 18 rfl rfl (by kernel_rfl) (by rfl) hHeld ?_
  simp only [Act.put, sA, s0, s1]
  refine tn (i := 14) 19 rfl rfl (by kernel_rfl) (by rfl) hHeld ?_
  simp only [Act.put, sA, s0, s1]
  refine tn (i := 15) 20 rfl rfl (by kernel_rfl) (by rfl) hHeld ?_
  simp only [Act.put, sA, s0, s1]
  refine tn (i := 16) 21 rfl rfl (by kernel_rfl) (by rfl) hHeld ?_
  simp only [Act.put, sA, s0, s1]
  refine tn (i := 17) 22 rfl rfl (by kernel_rfl) (by rfl) hHeld ?_
  simp only [Act.put, sA, s0, s1]
  refine tk (i := 18) (v := .bool false) 23 rfl rfl (by kernel_rfl) (by rfl) hHeld (fun _ _ => rfl) ?_
  simp only [Act.put, sA, s0, s1]
  refine tk (i := 19) (v := .bool false) 24 rfl rfl (by kernel_rfl) (by rfl) hHeld (fun _ _ => rfl) ?_
  simp only [Act.put, sA, s0, s1]
  refine tn (i := 20) 25 rfl rfl (by kernel_rfl) (by rfl) hHeld ?_
  simp only [Act.put, sA, s0, s1]
  refine tn (i := 21) 26 rfl rfl (by kernel_rfl) (by rfl) hHeld ?_
  simp only [Act.put, sA, s0, s1]
  refine tn (i := 22) 27 rfl rfl (by kernel_rfl) (by rfl) hHeld ?_
  simp only [Act.put, sA, s0, s1]
  refine tn (i := 23) 28 rfl rfl (by kernel_rfl) (by rfl) hHeld ?_
  simp only [Act.put, sA, s0, s1]
  refine tn (i := 24) 29 rfl rfl (by kernel_rfl) (by rfl) hHeld ?_
  simp only [Act.put, sA, s0, s1]
  refine tk (i := 25) (v := .bool false) 30 rfl rfl (by kernel_rfl) (by rfl) hHeld (fun _ _ => rfl) ?_
  simp only [Act.put, sA, s0, s1]
  refine tk (i := 26) (v := .bool false) 31 rfl rfl (by kernel_rfl) (by rfl) hHeld (fun _ _ => rfl) ?_
  simp only [Act.put, sA, s0, s1]
  refine tn (i := 27) 32 rfl rfl (by kernel_rfl) (by rfl) hHeld ?_
  simp only [Act.put, sA, s0, s1]
  refine tn (i := 28) 33 rfl rfl (by kernel_rfl) (by rfl) hHeld ?_
  simp only [Act.put, sA, s0, s1]
  refine tn (i := 29) 34 rfl rfl (by kernel_rfl) (by rfl) hHeld ?_
  simp only [Act.put, sA, s0, s1]
  refine tn (i := 30) 35 rfl rfl (by kernel_rfl) (by rfl) hHeld ?_
  simp only [Act.put, sA, s0, s1]
  refine tn (i := 31) 36 rfl rfl (by kernel_rfl) (by rfl) hHeld ?_
  simp only [Act.put, sA, s0, s1]
  refine tk (i := 32) (v := .bool false) 37 rfl rfl (by kernel_rfl) (by rfl) hHeld (fun _ _ => rfl) ?_
  simp only [Act.put, sA, s0, s1]
  refine tk (i := 33) (v := .bool false) 38 rfl rfl (by kernel_rfl) (by rfl) hHeld (fun _ _ => rfl) ?_
  simp only [Act.put, sA, s0, s1]
  refine tn (i := 34) 39 rfl rfl (by kernel_rfl) (by rfl) hHeld ?_
  simp only [Act.put, sA, s0, s1]
  refine tn (i := 35) 40 rfl rfl (by kernel_rfl) (by rfl) hHeld ?_
  simp only [Act.put, sA, s0, s1]
  refine tn (i := 36) 41 rfl rfl (by kernel_rfl) (by rfl) hHeld ?_
  simp only [Act.put, sA, s0, s1]
  refine tn (i := 37) 42 rfl rfl (by kernel_rfl) (by rfl) hHeld ?_
  simp only [Act.put, sA, s0, s1]
  refine tn (i := 38) 43 rfl rfl (by kernel_rfl) (by rfl) hHeld ?_
  simp only [Act.put, sA, s0, s1]
  refine tk (i := 39) (v := .bool false) 44 rfl rfl (by kernel_rfl) (by rfl) hHeld (fun _ _ => rfl) ?_
  simp only [Act.put, sA, s0, s1]
  refine tk (i := 40) (v := .bool false) 45 rfl rfl (by kernel_rfl) (by rfl) hHeld (fun _ _ => rfl) ?_
  simp only [Act.put, sA, s0, s1]
  refine tn (i := 41) 46 rfl rfl (by kernel_rfl) (by rfl) hHeld ?_
  simp only [Act.put, sA, s0, s1]
  refine tn (i := 42) 47 rfl rfl (by kernel_rfl) (by rfl) hHeld ?_
  simp only [Act.put, sA, s0, s1]
  refine tn (i := 43) 48 rfl rfl (by kernel_rfl) (by rfl) hHeld ?_
  simp only [Act.put, sA, s0, s1]
  refine tn (i := 44) 49 rfl rfl (by kernel_rfl) (by rfl) hHeld ?_
  simp only [Act.put, sA, s0, s1]
  refine tn (i := 45) 50 rfl rfl (by kernel_rfl) (by rfl) hHeld ?_
  simp only [Act.put, sA, s0, s1]
  refine tk (i := 46) (v := .bool false) 51 rfl rfl (by kernel_rfl) (by rfl) hHeld (fun _ _ => rfl) ?_
  simp only [Act.put, sA, s0, s1]
  refine tk (i := 47) (v := .bool false) 52 rfl rfl (by kernel_rfl) (by rfl) hHeld (fun _ _ => rfl) ?_
  simp only [Act.put, sA, s0, s1]
  refine tn (i := 48) 53 rfl rfl (by kernel_rfl) (by rfl) hHeld ?_
  simp only [Act.put, sA, s0, s1]
  refine tn (i := 49) 54 rfl rfl (by kernel_rfl) (by rfl) hHeld ?_
  simp only [Act.put, sA, s0, s1]
  refine tn (i := 51) 56 rfl rfl (by kernel_rfl) (by rfl) hHeld ?_
  simp only [Act.put, sA, s0, s1]
  refine tn (i := 52) 57 rfl rfl (by kernel_rfl) (by rfl) hHeld ?_
  simp only [Act.put, sA, s0, s1]
  refine tn (i := 50) 55 rfl rfl (by kernel_rfl) (by rfl) hHeld ?_
  simp only [Act.put, sA, s0, s1]
  refine tn (i := 53) 58 rfl rfl (by kernel_rfl) (by rfl) hHeld ?_
  simp only [Act.put, sA, s0, s1]
  refine tn (i := 54) 59 rfl rfl (by kernel_rfl) (by rfl) hHeld ?_
  simp only [Act.put, sA, s0, s1]
  refine tk (i := 55) (v := .bool false) 60 rfl rfl (by kernel_rfl) (by rfl) hHeld (fun _ _ => rfl) ?_
  simp only [Act.put, sA, s0, s1]
  refine tk (i := 56) (v := .bool false) 61 rfl rfl (by kernel_rfl) (by rfl) hHeld (fun _ _ => rfl) ?_
  simp only [Act.put, sA, s0, s1]
  refine tn (i := 57) 62 rfl rfl (by kernel_rfl) (by rfl) hHeld ?_
  simp only [Act.put, sA, s0, s1]
  refine tn (i := 58) 63 rfl rfl (by kernel_rfl) (by rfl) hHeld ?_
  simp only [Act.put, sA, s0, s1]
  refine tn (i := 59) 64 rfl rfl (by kernel_rfl) (by rfl) hHeld ?_
  simp only [Act.put, sA, s0, s1]
  refine tn (i := 60) 65 rfl rfl (by kernel_rfl) (by rfl) hHeld ?_
  simp only [Act.put, sA, s0, s1]
  refine tn (i := 61) 66 rfl rfl (by kernel_rfl) (by rfl) hHeld ?_
  simp only [Act.put, sA, s0, s1]
  refine tk (i := 62) (v := .bool false) 67 rfl rfl (by kernel_rfl) (by rfl) hHeld (fun _ _ => rfl) ?_
  simp only [Act.put, sA, s0, s1]
  refine tk (i := 63) (v := .bool false) 4 rfl rfl (by kernel_rfl) (by rfl) hHeld (fun _ _ => rfl) ?_
  simp only [Act.put, sA, s0, s1]
  refine wpAnyH_done (by kernel_rfl) ?_ _
  refine NoPanic.normal ?_
  go_wp2_with fail
  all_goals (subst hQ; exact ⟨rfl, hHeld.below⟩)
theorem same_n (k k' : Nat) (who : Int) (n n' : Int) (name name' : List UInt8) (text text' : List UInt8) (flag flag' : Bool) (snd snd' : Nat) (rcv rcv' : Nat) (mp mp' : Nat) (mt mt' : Nat) (mc mc' : Nat) (mid mid' : List UInt8) (mbody mbody' : List UInt8) (ok ok' : Nat) (oa oa' : Nat) (ob ob' : Nat) (cond cond' : List UInt8) (bv bv' : Value) (w : World) (h : ¬ n = n') :
    Calls Tryz.prog 23 #[.agg (EvD.cs ⟨k, who, n, name, text, flag, snd, rcv, ⟨mp, mt, mc, mid, mbody⟩, ok, oa, ob, cond⟩ bv), .agg (EvD.cs ⟨k', who, n', name', text', flag', snd', rcv', ⟨mp', mt', mc', mid', mbody'⟩, ok', oa', ob', cond'⟩ bv')] w fun e w' => e = .returned (.bool false) ∧ Below w.heap.size w w' := by
  have t0 : Two w (EvD.cs ⟨k, who, n, name, text, flag, snd, rcv, ⟨mp, mt, mc, mid, mbody⟩, ok, oa, ob, cond⟩ bv) (EvD.cs ⟨k', who, n', name', text', flag', snd', rcv', ⟨mp', mt', mc', mid', mbody'⟩, ok', oa', ob', cond'⟩ bv') ((w.alloc (.cells (EvD.cs ⟨k, who, n, name, text, flag, snd, rcv, ⟨mp, mt, mc, mid, mbody⟩, ok, oa, ob, cond⟩ bv) 30)).alloc (.cells (EvD.cs ⟨k', who, n', name', text', flag', snd', rcv', ⟨mp', mt', mc', mid', mbody'⟩, ok', oa', ob', cond'⟩ bv') 30)) := Two.init w _ _
  have h2 : (n == n') = false := beq_eq_false_iff_ne.2 h
  generalize hQ : (fun (e : Ending) (w' : World) => e = .returned (.bool false) ∧ Below w.heap.size w w') = Q
  go_enter Tryz.func23, Tryz.ntmps23
  go_wp2_with fail
  refine wp_region_noPanic ?_
  refine wp_region_held_drew (S := Two w (EvD.cs ⟨k, who, n, name, text, flag, snd, rcv, ⟨mp, mt, mc, mid, mbody⟩, ok, oa, ob, cond⟩ bv) (EvD.cs ⟨k', who, n', name', text', flag', snd', rcv', ⟨mp', mt', mc', mid', mbody'⟩, ok', oa', ob', cond'⟩ bv')) (by kernel_rfl) t0.drew (fun hHeld => ?_)
  refine tk (i := 0) (v := .pointer (some ⟨w.heap.size, 1, none⟩)) 5 rfl rfl (by kernel_rfl) (by rfl) hHeld (fun W hS => by go_simp) ?_
  simp only [Act.put, sA, s0, s1]
  refine tk (i := 1) (v := .int .i64 who) 6 rfl rfl (by kernel_rfl) (by rfl) hHeld (fun W hS => by have q : W.cell? ⟨w.heap.size, 1, none⟩ = some (.int .i64 who) := hS.a 1; go_simp) ?_
  simp only [Act.put, sA, s0, s1]
  refine tk (i := 2) (v := .pointer (some ⟨w.heap.size + 1, 1, none⟩)) 7 rfl rfl (by kernel_rfl) (by rfl) hHeld (fun W hS => by go_simp) ?_
  simp only [Act.put, sA, s0, s1]
  refine tk (i := 3) (v := .int .i64 who) 8 rfl rfl (by kernel_rfl) (by rfl) hHeld (fun W hS => by have q : W.cell? ⟨w.heap.size + 1, 1, none⟩ = some (.int .i64 who) := hS.b 1; go_simp) ?_
  simp only [Act.put, sA, s0, s1]
  refine tk (i := 4) (v := .bool true) 9 rfl rfl (by kernel_rfl) (by rfl) hHeld (fun W hS => by go_simp) ?_
  simp only [Act.put, sA, s0, s1]
  refine tk (i := 5) (v := .bool true) 10 rfl rfl (by kernel_rfl) (by rfl) hHeld (fun _ _ => rfl) ?_
  simp only [Act.put, sA, s0, s1]
  refine tk (i := 6) (v := .pointer (some ⟨w.heap.size, 2, none⟩)) 11 rfl rfl (by kernel_rfl) (by rfl) hHeld (fun W hS => by go_simp) ?_
  simp only [Act.put, sA, s0, s1]
  refine tk (i := 7) (v := .int .i64 n) 12 rfl rfl (by kernel_rfl) (by rfl) hHeld (fun W hS => by have q : W.cell? ⟨w.heap.size, 2, none⟩ = some (.int .i64 n) := hS.a 2; go_simp) ?_
  simp only [Act.put, sA, s0, s1]
  refine tk (i := 8) (v := .pointer (some ⟨w.heap.size + 1, 2, none⟩)) 13 rfl rfl (by kernel_rfl) (by rfl) hHeld (fun W hS => by go_simp) ?_
  simp only [Act.put, sA, s0, s1]
  refine tk (i := 9) (v := .int .i64 n') 14 rfl rfl (by kernel_rfl) (by rfl) hHeld (fun W hS => by have q : W.cell? ⟨w.heap.size + 1, 2, none⟩ = some (.int .i64 n') := hS.b 2; go_simp) ?_
  simp only [Act.put, sA, s0, s1]
  refine tk (i := 10) (v := .bool false) 15 rfl rfl (by kernel_rfl) (by rfl) hHeld (fun W hS => by go_simp <;> first | exact h2 | simp [h2]) ?_
  simp only [Act.put, sA, s0, s1]
  refine tk (i := 11) (v := .bool false) 16 rfl rfl (by kernel_rfl) (by rfl) hHeld (fun _ _ => rfl) ?_
  simp only [Act.put, sA, s0, s1]
  refine tk (i := 12) (v := .bool false) 17 rfl rfl (by kernel_rfl) (by rfl) hHeld (fun _ _ => rfl) ?_
  simp only [Act.put, sA, s0, s1]
  refine tn (i := 13) 18 rfl rfl (by kernel_rfl) (by rfl) hHeld ?_
  simp only [Act.put, sA, s0, s1]
  refine tn (i := 14) 19 rfl rfl (by kernel_rfl) (by rfl) hHeld ?_
  simp only [Act.put, sA, s0, s1]
  refine tn (i := 15) 20 rfl rfl (by kernel_rfl) (by rfl) hHeld ?_
  simp only [Act.put, sA, s0, s1]
  refine tn (i := 16) 21 rfl rfl (by kernel_rfl) (by rfl) hHeld ?_
  simp only [Act.put, sA, s0, s1]
  refine tn (i := 17) 22 rfl rfl (by kernel_rfl) (by rfl) hHeld ?_
  simp only [Act.put, sA, s0, s1]
  refine tk (i := 18) (v := .bool false) 23 rfl rfl (by kernel_rfl) (by rfl) hHeld (fun _ _ => rfl) ?_
  simp only [Act.put, sA, s0, s1]
  refine tk (i := 19) (v := .bool false) 24 rfl rfl (by kernel_rfl) (by rfl) hHeld (fun _ _ => rfl) ?_
  simp only [Act.put, sA, s0, s1]
  refine tn (i := 20) 25 rfl rfl (by kernel_rfl) (by rfl) hHeld ?_
  simp only [Act.put, sA, s0, s1]
  refine tn (i := 21) 26 rfl rfl (by kernel_rfl) (by rfl) hHeld ?_
  simp only [Act.put, sA, s0, s1]
  refine tn (i := 22) 27 rfl rfl (by kernel_rfl) (by rfl) hHeld ?_
  simp only [Act.put, sA, s0, s1]
  refine tn (i := 23) 28 rfl rfl (by kernel_rfl) (by rfl) hHeld ?_
  simp only [Act.put, sA, s0, s1]
  refine tn (i := 24) 29 rfl rfl (by kernel_rfl) (by rfl) hHeld ?_
  simp only [Act.put, sA, s0, s1]
  refine tk (i := 25) (v := .bool false) 30 rfl rfl (by kernel_rfl) (by rfl) hHeld (fun _ _ => rfl) ?_
  simp only [Act.put, sA, s0, s1]
  refine tk (i := 26) (v := .bool false) 31 rfl rfl (by kernel_rfl) (by rfl) hHeld (fun _ _ => rfl) ?_
  simp only [Act.put, sA, s0, s1]
  refine tn (i := 27) 32 rfl rfl (by kernel_rfl) (by rfl) hHeld ?_
  simp only [Act.put, sA, s0, s1]
  refine tn (i := 28) 33 rfl rfl (by kernel_rfl) (by rfl) hHeld ?_
  simp only [Act.put, sA, s0, s1]
  refine tn (i := 29) 34 rfl rfl (by kernel_rfl) (by rfl) hHeld ?_
  simp only [Act.put, sA, s0, s1]
  refine tn (i := 30) 35 rfl rfl (by kernel_rfl) (by rfl) hHeld ?_
  simp only [Act.put, sA, s0, s1]
  refine tn (i := 31) 36 rfl rfl (by kernel_rfl) (by rfl) hHeld ?_
  simp only [Act.put, sA, s0, s1]
  refine tk (i := 32) (v := .bool false) 37 rfl rfl (by kernel_rfl) (by rfl) hHeld (fun _ _ => rfl) ?_
  simp only [Act.put, sA, s0, s1]
  refine tk (i := 33) (v := .bool false) 38 rfl rfl (by kernel_rfl) (by rfl) hHeld (fun _ _ => rfl) ?_
  simp only [Act.put, sA, s0, s1]
  refine tn (i := 34) 39 rfl rfl (by kernel_rfl) (by rfl) hHeld ?_
  simp only [Act.put, sA, s0, s1]
  refine tn (i := 35) 40 rfl rfl (by kernel_rfl) (by rfl) hHeld ?_
  simp only [Act.put, sA, s0, s1]
  refine tn (i := 36) 41 rfl rfl (by kernel_rfl) (by rfl) hHeld ?_
  simp only [Act.put, sA, s0, s1]
  refine tn (i := 37) 42 rfl rfl (by kernel_rfl) (by rfl) hHeld ?_
  simp only [Act.put, sA, s0, s1]
  refine tn (i := 38) 43 rfl rfl (by kernel_rfl) (by rfl) hHeld ?_
  simp only [Act.put, sA, s0, s1]
  refine tk (i := 39) (v := .bool false) 44 rfl rfl (by kernel_rfl) (by rfl) hHeld (fun _ _ => rfl) ?_
  simp only [Act.put, sA, s0, s1]
  refine tk (i := 40) (v := .bool false) 45 rfl rfl (by kernel_rfl) (by rfl) hHeld (fun _ _ => rfl) ?_
  simp only [Act.put, sA, s0, s1]
  refine tn (i := 41) 46 rfl rfl (by kernel_rfl) (by rfl) hHeld ?_
  simp only [Act.put, sA, s0, s1]
  refine tn (i := 42) 47 rfl rfl (by kernel_rfl) (by rfl) hHeld ?_
  simp only [Act.put, sA, s0, s1]
  refine tn (i := 43) 48 rfl rfl (by kernel_rfl) (by rfl) hHeld ?_
  simp only [Act.put, sA, s0, s1]
  refine tn (i := 44) 49 rfl rfl (by kernel_rfl) (by rfl) hHeld ?_
  simp only [Act.put, sA, s0, s1]
  refine tn (i := 45) 50 rfl rfl (by kernel_rfl) (by rfl) hHeld ?_
  simp only [Act.put, sA, s0, s1]
  refine tk (i := 46) (v := .bool false) 51 rfl rfl (by kernel_rfl) (by rfl) hHeld (fun _ _ => rfl) ?_
  simp only [Act.put, sA, s0, s1]
  refine tk (i := 47) (v := .bool false) 52 rfl rfl (by kernel_rfl) (by rfl) hHeld (fun _ _ => rfl) ?_
  simp only [Act.put, sA, s0, s1]
  refine tn (i := 48) 53 rfl rfl (by kernel_rfl) (by rfl) hHeld ?_
  simp only [Act.put, sA, s0, s1]
  refine tn (i := 49) 54 rfl rfl (by kernel_rfl) (by rfl) hHeld ?_
  simp only [Act.put, sA, s0, s1]
  refine tn (i := 51) 56 rfl rfl (by kernel_rfl) (by rfl) hHeld ?_
  simp only [Act.put, sA, s0, s1]
  refine tn (i := 52) 57 rfl rfl (by kernel_rfl) (by rfl) hHeld ?_
  simp only [Act.put, sA, s0, s1]
  refine tn (i := 50) 55 rfl rfl (by kernel_rfl) (by rfl) hHeld ?_
  simp only [Act.put, sA, s0, s1]
  refine tn (i := 53) 58 rfl rfl (by kernel_rfl) (by rfl) hHeld ?_
  simp only [Act.put, sA, s0, s1]
  refine tn (i := 54) 59 rfl rfl (by kernel_rfl) (by rfl) hHeld ?_
  simp only [Act.put, sA, s0, s1]
  refine tk (i := 55) (v := .bool false) 60 rfl rfl (by kernel_rfl) (by rfl) hHeld (fun _ _ => rfl) ?_
  simp only [Act.put, sA, s0, s1]
  refine tk (i := 56) (v := .bool false) 61 rfl rfl (by kernel_rfl) (by rfl) hHeld (fun _ _ => rfl) ?_
  simp only [Act.put, sA, s0, s1]
  refine tn (i := 57) 62 rfl rfl (by kernel_rfl) (by rfl) hHeld ?_
  simp only [Act.put, sA, s0, s1]
  refine tn (i := 58) 63 rfl rfl (by kernel_rfl) (by rfl) hHeld ?_
  simp only [Act.put, sA, s0, s1]
  refine tn (i := 59) 64 rfl rfl (by kernel_rfl) (by rfl) hHeld ?_
  simp only [Act.put, sA, s0, s1]
  refine tn (i := 60) 65 rfl rfl (by kernel_rfl) (by rfl) hHeld ?_
  simp only [Act.put, sA, s0, s1]
  refine tn (i := 61) 66 rfl rfl (by kernel_rfl) (by rfl) hHeld ?_
  simp only [Act.put, sA, s0, s1]
  refine tk (i := 62) (v := .bool false) 67 rfl rfl (by kernel_rfl) (by rfl) hHeld (fun _ _ => rfl) ?_
  simp only [Act.put, sA, s0, s1]
  refine tk (i := 63) (v := .bool false) 4 rfl rfl (by kernel_rfl) (by rfl) hHeld (fun _ _ => rfl) ?_
  simp only [Act.put, sA, s0, s1]
  refine wpAnyH_done (by kernel_rfl) ?_ _
  refine NoPanic.normal ?_
  go_wp2_with fail
  all_goals (subst hQ; exact ⟨rfl, hHeld.below⟩)
theorem same_name (k k' : Nat) (who : Int) (n : Int) (name name' : List UInt8) (text text' : List UInt8) (flag flag' : Bool) (snd snd' : Nat) (rcv rcv' : Nat) (mp mp' : Nat) (mt mt' : Nat) (mc mc' : Nat) (mid mid' : List UInt8) (mbody mbody' : List UInt8) (ok ok' : Nat) (oa oa' : Nat) (ob ob' : Nat) (cond cond' : List UInt8) (bv bv' : Value) (w : World) (h : ¬ name = name') :
    Calls Tryz.prog 23 #[.agg (EvD.cs ⟨k, who, n, name, text, flag, snd, rcv, ⟨mp, mt, mc, mid, mbody⟩, ok, oa, ob, cond⟩ bv), .agg (EvD.cs ⟨k', who, n, name', text', flag', snd', rcv', ⟨mp', mt', mc', mid', mbody'⟩, ok', oa', ob', cond'⟩ bv')] w fun e w' => e = .returned (.bool false) ∧ Below w.heap.size w w' := by
  have t0 : Two w (EvD.cs ⟨k, who, n, name, text, flag, snd, rcv, ⟨mp, mt, mc, mid, mbody⟩, ok, oa, ob, cond⟩ bv) (EvD.cs ⟨k', who, n, name', text', flag', snd', rcv', ⟨mp', mt', mc', mid', mbody'⟩, ok', oa', ob', cond'⟩ bv') ((w.alloc (.cells (EvD.cs ⟨k, who, n, name, text, flag, snd, rcv, ⟨mp, mt, mc, mid, mbody⟩, ok, oa, ob, cond⟩ bv) 30)).alloc (.cells (EvD.cs ⟨k', who, n, name', text', flag', snd', rcv', ⟨mp', mt', mc', mid', mbody'⟩, ok', oa', ob', cond'⟩ bv') 30)) := Two.init w _ _
  have h2 : (name == name') = false := beq_eq_false_iff_ne.2 h
  generalize hQ : (fun (e : Ending) (w' : World) => e = .returned (.bool false) ∧ Below w.heap.size w w') = Q
  go_enter Tryz.func23, Tryz.ntmps23
  go_wp2_with fail
  refine wp_region_noPanic ?_
  refine wp_region_held_drew (S := Two w (EvD.cs ⟨k, who, n, name, text, flag, snd, rcv, ⟨mp, mt, mc, mid, mbody⟩, ok, oa, ob, cond⟩ bv) (EvD.cs ⟨k', who, n, name', text', flag', snd', rcv', ⟨mp', mt', mc', mid', mbody'⟩, ok', oa', ob', cond'⟩ bv')) (by kernel_rfl) t0.drew (fun hHeld => ?_)
  refine tk (i := 0) (v := .pointer (some ⟨w.heap.size, 1, none⟩)) 5 rfl rfl (by kernel_rfl) (by rfl) hHeld (fun W hS => by go_simp) ?_
  simp only [Act.put, sA, s0, s1]
  refine tk (i := 1) (v := .int .i64 who) 6 rfl rfl (by kernel_rfl) (by rfl) hHeld (fun W hS => by have q : W.cell? ⟨w.heap.size, 1, none⟩ = some (.int .i64 who) := hS.a 1; go_simp) ?_
  simp only [Act.put, sA, s0, s1]
  refine tk (i := 2) (v := .pointer (some ⟨w.heap.size + 1, 1, none⟩)) 7 rfl rfl (by kernel_rfl) (by rfl) hHeld (fun W hS => by go_simp) ?_
  simp only [Act.put, sA, s0, s1]
  refine tk (i := 3) (v := .int .i64 who) 8 rfl rfl (by kernel_rfl) (by rfl) hHeld (fun W hS => by have q : W.cell? ⟨w.heap.size + 1, 1, none⟩ = some (.int .i64 who) := hS.b 1; go_simp) ?_
  simp only [Act.put, sA, s0, s1]
  refine tk (i := 4) (v := .bool true) 9 rfl rfl (by kernel_rfl) (by rfl) hHeld (fun W hS => by go_simp) ?_
  simp only [Act.put, sA, s0, s1]
  refine tk (i := 5) (v := .bool true) 10 rfl rfl (by kernel_rfl) (by rfl) hHeld (fun _ _ => rfl) ?_
  simp only [Act.put, sA, s0, s1]
  refine tk (i := 6) (v := .pointer (some ⟨w.heap.size, 2, none⟩)) 11 rfl rfl (by kernel_rfl) (by rfl) hHeld (fun W hS => by go_simp) ?_
  simp only [Act.put, sA, s0, s1]
  refine tk (i := 7) (v := .int .i64 n) 12 rfl rfl (by kernel_rfl) (by rfl) hHeld (fun W hS => by have q : W.cell? ⟨w.heap.size, 2, none⟩ = some (.int .i64 n) := hS.a 2; go_simp) ?_
  simp only [Act.put, sA, s0, s1]
  refine tk (i := 8) (v := .pointer (some ⟨w.heap.size + 1, 2, none⟩)) 13 rfl rfl (by kernel_rfl) (by rfl) hHeld (fun W hS => by go_simp) ?_
  simp only [Act.put, sA, s0, s1]
  refine tk (i := 9) (v := .int .i64 n) 14 rfl rfl (by kernel_rfl) (by rfl) hHeld (fun W hS => by have q : W.cell? ⟨w.heap.size + 1, 2, none⟩ = some (.int .i64 n) := hS.b 2; go_simp) ?_
  simp only [Act.put, sA, s0, s1]
  refine tk (i := 10) (v := .bool true) 15 rfl rfl (by kernel_rfl) (by rfl) hHeld (fun W hS => by go_simp) ?_
  simp only [Act.put, sA, s0, s1]
  refine tk (i := 11) (v := .bool true) 16 rfl rfl (by kernel_rfl) (by rfl) hHeld (fun _ _ => rfl) ?_
  simp only [Act.put, sA, s0, s1]
  refine tk (i := 12) (v := .bool true) 17 rfl rfl (by kernel_rfl) (by rfl) hHeld (fun _ _ => rfl) ?_
  simp only [Act.put, sA, s0, s1]
  refine tk (i := 13) (v := .pointer (some ⟨w.heap.size, 3, none⟩)) 18 rfl rfl (by kernel_rfl) (by rfl) hHeld (fun W hS => by go_simp) ?_
  simp only [Act.put, sA, s0, s1]
  refine tk (i := 14) (v := S name) 19 rfl rfl (by kernel_rfl) (by rfl) hHeld (fun W hS => by have q : W.cell? ⟨w.heap.size, 3, none⟩ = some (S name) := hS.a 3; go_simp) ?_
  simp only [Act.put, sA, s0, s1]
  refine tk (i := 15) (v := .pointer (some ⟨w.heap.size + 1, 3, none⟩)) 20 rfl rfl (by kernel_rfl) (by rfl) hHeld (fun W hS => by go_simp) ?_
  simp only [Act.put, sA, s0, s1]
  refine tk (i := 16) (v := S name') 21 rfl rfl (by kernel_rfl) (by rfl) hHeld (fun W hS => by have q : W.cell? ⟨w.heap.size + 1, 3, none⟩ = some (S name') := hS.b 3; go_simp) ?_
  simp only [Act.put, sA, s0, s1]
  refine tk (i := 17) (v := .bool false) 22 rfl rfl (by kernel_rfl) (by rfl) hHeld (fun W hS => by go_simp <;> first | exact h2 | simp [h2]) ?_
  simp only [Act.put, sA, s0, s1]
  refine tk (i := 18) (v := .bool false) 23 rfl rfl (by kernel_rfl) (by rfl) hHeld (fun _ _ => rfl) ?_
  simp only [Act.put, sA, s0, s1]
  refine tk (i := 19) (v := .bool false) 24 rfl rfl (by kernel_rfl) (by rfl) hHeld (fun _ _ => rfl) ?_
  simp only [Act.put, sA, s0, s1]
  refine tn (i := 20) 25 rfl rfl (by kernel_rfl) (by rfl) hHeld ?_
  simp only [Act.put, sA, s0, s1]
  refine tn (i := 21) 26 rfl rfl (by kernel_rfl) (by rfl) hHeld ?_
  simp only [Act.put, sA, s0, s1]
  refine tn (i := 22) 27 rfl rfl (by kernel_rfl) (by rfl) hHeld ?_
  simp only [Act.put, sA, s0, s1]
  refine tn (i := 23) 28 rfl rfl (by kernel_rfl) (by rfl) hHeld ?_
  simp only [Act.put, sA, s0, s1]
  refine tn (i := 24) 29 rfl rfl (by kernel_rfl) (by rfl) hHeld ?_
  simp only [Act.put, sA, s0, s1]
  refine tk (i := 25) (v := .bool false) 30 rfl rfl (by kernel_rfl) (by rfl) hHeld (fun _ _ => rfl) ?_
  simp only [Act.put, sA, s0, s1]
  refine tk (i := 26) (v := .bool false) 31 rfl rfl (by kernel_rfl) (by rfl) hHeld (fun _ _ => rfl) ?_
  simp only [Act.put, sA, s0, s1]
  refine tn (i := 27) 32 rfl rfl (by kernel_rfl) (by rfl) hHeld ?_
  simp only [Act.put, sA, s0, s1]
  refine tn (i := 28) 33 rfl rfl (by kernel_rfl) (by rfl) hHeld ?_
  simp only [Act.put, sA, s0, s1]
  refine tn (i := 29) 34 rfl rfl (by kernel_rfl) (by rfl) hHeld ?_
  simp only [Act.put, sA, s0, s1]
  refine tn (i := 30) 35 rfl rfl (by kernel_rfl) (by rfl) hHeld ?_
  simp only [Act.put, sA, s0, s1]
  refine tn (i := 31) 36 rfl rfl (by kernel_rfl) (by rfl) hHeld ?_
  simp only [Act.put, sA, s0, s1]
  refine tk (i := 32) (v := .bool false) 37 rfl rfl (by kernel_rfl) (by rfl) hHeld (fun _ _ => rfl) ?_
  simp only [Act.put, sA, s0, s1]
  refine tk (i := 33) (v := .bool false) 38 rfl rfl (by kernel_rfl) (by rfl) hHeld (fun _ _ => rfl) ?_
  simp only [Act.put, sA, s0, s1]
  refine tn (i := 34) 39 rfl rfl (by kernel_rfl) (by rfl) hHeld ?_
  simp only [Act.put, sA, s0, s1]
  refine tn (i := 35) 40 rfl rfl (by kernel_rfl) (by rfl) hHeld ?_
  simp only [Act.put, sA, s0, s1]
  refine tn (i := 36) 41 rfl rfl (by kernel_rfl) (by rfl) hHeld ?_
  simp only [Act.put, sA, s0, s1]
  refine tn (i := 37) 42 rfl rfl (by kernel_rfl) (by rfl) hHeld ?_
  simp only [Act.put, sA, s0, s1]
  refine tn (i := 38) 43 rfl rfl (by kernel_rfl) (by rfl) hHeld ?_
  simp only [Act.put, sA, s0, s1]
  refine tk (i := 39) (v := .bool false) 44 rfl rfl (by kernel_rfl) (by rfl) hHeld (fun _ _ => rfl) ?_
  simp only [Act.put, sA, s0, s1]
  refine tk (i := 40) (v := .bool false) 45 rfl rfl (by kernel_rfl) (by rfl) hHeld (fun _ _ => rfl) ?_
  simp only [Act.put, sA, s0, s1]
  refine tn (i := 41) 46 rfl rfl (by kernel_rfl) (by rfl) hHeld ?_
  simp only [Act.put, sA, s0, s1]
  refine tn (i := 42) 47 rfl rfl (by kernel_rfl) (by rfl) hHeld ?_
  simp only [Act.put, sA, s0, s1]
  refine tn (i := 43) 48 rfl rfl (by kernel_rfl) (by rfl) hHeld ?_
  simp only [Act.put, sA, s0, s1]
  refine tn (i := 44) 49 rfl rfl (by kernel_rfl) (by rfl) hHeld ?_
  simp only [Act.put, sA, s0, s1]
  refine tn (i := 45) 50 rfl rfl (by kernel_rfl) (by rfl) hHeld ?_
  simp only [Act.put, sA, s0, s1]
  refine tk (i := 46) (v := .bool false) 51 rfl rfl (by kernel_rfl) (by rfl) hHeld (fun _ _ => rfl) ?_
  simp only [Act.put, sA, s0, s1]
  refine tk (i := 47) (v := .bool false) 52 rfl rfl (by kernel_rfl) (by rfl) hHeld (fun _ _ => rfl) ?_
  simp only [Act.put, sA, s0, s1]
  refine tn (i := 48) 53 rfl rfl (by kernel_rfl) (by rfl) hHeld ?_
  simp only [Act.put, sA, s0, s1]
  refine tn (i := 49) 54 rfl rfl (by kernel_rfl) (by rfl) hHeld ?_
  simp only [Act.put, sA, s0, s1]
  refine tn (i := 51) 56 rfl rfl (by kernel_rfl) (by rfl) hHeld ?_
  simp only [Act.put, sA, s0, s1]
  refine tn (i := 52) 57 rfl rfl (by kernel_rfl) (by rfl) hHeld ?_
  simp only [Act.put, sA, s0, s1]
  refine tn (i := 50) 55 rfl rfl (by kernel_rfl) (by rfl) hHeld ?_
  simp only [Act.put, sA, s0, s1]
  refine tn (i := 53) 58 rfl rfl (by kernel_rfl) (by rfl) hHeld ?_
  simp only [Act.put, sA, s0, s1]
  refine tn (i := 54) 59 rfl rfl (by kernel_rfl) (by rfl) hHeld ?_
  simp only [Act.put, sA, s0, s1]
  refine tk (i := 55) (v := .bool false) 60 rfl rfl (by kernel_rfl) (by rfl) hHeld (fun _ _ => rfl) ?_
  simp only [Act.put, sA, s0, s1]
  refine tk (i := 56) (v := .bool false) 61 rfl rfl (by kernel_rfl) (by rfl) hHeld (fun _ _ => rfl) ?_
  simp only [Act.put, sA, s0, s1]
  refine tn (i := 57) 62 rfl rfl (by kernel_rfl) (by rfl) hHeld ?_
  simp only [Act.put, sA, s0, s1]
  refine tn (i := 58) 63 rfl rfl (by kernel_rfl) (by rfl) hHeld ?_
  simp only [Act.put, sA, s0, s1]
  refine tn (i := 59) 64 rfl rfl (by kernel_rfl) (by rfl) hHeld ?_
  simp only [Act.put, sA, s0, s1]
  refine tn (i := 60) 65 rfl rfl (by kernel_rfl) (by rfl) hHeld ?_
  simp only [Act.put, sA, s0, s1]
  refine tn (i := 61) 66 rfl rfl (by kernel_rfl) (by rfl) hHeld ?_
  simp only [Act.put, sA, s0, s1]
  refine tk (i := 62) (v := .bool false) 67 rfl rfl (by kernel_rfl) (by rfl) hHeld (fun _ _ => rfl) ?_
  simp only [Act.put, sA, s0, s1]
  refine tk (i := 63) (v := .bool false) 4 rfl rfl (by kernel_rfl) (by rfl) hHeld (fun _ _ => rfl) ?_
  simp only [Act.put, sA, s0, s1]
  refine wpAnyH_done (by kernel_rfl) ?_ _
  refine NoPanic.normal ?_
  go_wp2_with fail
  all_goals (subst hQ; exact ⟨rfl, hHeld.below⟩)
theorem same_text (k k' : Nat) (who : Int) (n : Int) (name : List UInt8) (text text' : List UInt8) (flag flag' : Bool) (snd snd' : Nat) (rcv rcv' : Nat) (mp mp' : Nat) (mt mt' : Nat) (mc mc' : Nat) (mid mid' : List UInt8) (mbody mbody' : List UInt8) (ok ok' : Nat) (oa oa' : Nat) (ob ob' : Nat) (cond cond' : List UInt8) (bv bv' : Value) (w : World) (h : ¬ text = text') :
    Calls Tryz.prog 23 #[.agg (EvD.cs ⟨k, who, n, name, text, flag, snd, rcv, ⟨mp, mt, mc, mid, mbody⟩, ok, oa, ob, cond⟩ bv), .agg (EvD.cs ⟨k', who, n, name, text', flag', snd', rcv', ⟨mp', mt', mc', mid', mbody'⟩, ok', oa', ob', cond'⟩ bv')] w fun e w' => e = .returned (.bool false) ∧ Below w.heap.size w w' := by
  have t0 : Two w (EvD.cs ⟨k, who, n, name, text, flag, snd, rcv, ⟨mp, mt, mc, mid, mbody⟩, ok, oa, ob, cond⟩ bv) (EvD.cs ⟨k', who, n, name, text', flag', snd', rcv', ⟨mp', mt', mc', mid', mbody'⟩, ok', oa', ob', cond'⟩ bv') ((w.alloc (.cells (EvD.cs ⟨k, who, n, name, text, flag, snd, rcv, ⟨mp, mt, mc, mid, mbody⟩, ok, oa, ob, cond⟩ bv) 30)).alloc (.cells (EvD.cs ⟨k', who, n, name, text', flag', snd', rcv', ⟨mp', mt', mc', mid', mbody'⟩, ok', oa', ob', cond'⟩ bv') 30)) := Two.init w _ _
  have h2 : (text == text') = false := beq_eq_false_iff_ne.2 h
  generalize hQ : (fun (e : Ending) (w' : World) => e = .returned (.bool false) ∧ Below w.heap.size w w') = Q
  go_enter Tryz.func23, Tryz.ntmps23
  go_wp2_with fail
  refine wp_region_noPanic ?_
  refine wp_region_held_drew (S := Two w (EvD.cs ⟨k, who, n, name, text, flag, snd, rcv, ⟨mp, mt, mc, mid, mbody⟩, ok, oa, ob, cond⟩ bv) (EvD.cs ⟨k', who, n, name, text', flag', snd', rcv', ⟨mp', mt', mc', mid', mbody'⟩, ok', oa', ob', cond'⟩ bv')) (by kernel_rfl) t0.drew (fun hHeld => ?_)
  refine tk (i := 0) (v := .pointer (some ⟨w.heap.size, 1, none⟩)) 5 rfl rfl (by kernel_rfl) (by rfl) hHeld (fun W hS => by go_simp) ?_
  simp only [Act.put, sA, s0, s1]
  refine tk (i := 1) (v := .int .i64 who) 6 rfl rfl (by kernel_rfl) (by rfl) hHeld (fun W hS => by have q : W.cell? ⟨w.heap.size, 1, none⟩ = some (.int .i64 who) := hS.a 1; go_simp) ?_
  simp only [Act.put, sA, s0, s1]
  refine tk (i := 2) (v := .pointer (some ⟨w.heap.size + 1, 1, none⟩)) 7 rfl rfl (by kernel_rfl) (by rfl) hHeld (fun W hS => by go_simp) ?_
  simp only [Act.put, sA, s0, s1]
  refine tk (i := 3) (v := .int .i64 who) 8 rfl rfl (by kernel_rfl) (by rfl) hHeld (fun W hS => by have q : W.cell? ⟨w.heap.size + 1, 1, none⟩ = some (.int .i64 who) := hS.b 1; go_simp) ?_
  simp only [Act.put, sA, s0, s1]
  refine tk (i := 4) (v := .bool true) 9 rfl rfl (by kernel_rfl) (by rfl) hHeld (fun W hS => by go_simp) ?_
  simp only [Act.put, sA, s0, s1]
  refine tk (i := 5) (v := .bool true) 10 rfl rfl (by kernel_rfl) (by rfl) hHeld (fun _ _ => rfl) ?_
  simp only [Act.put, sA, s0, s1]
  refine tk (i := 6) (v := .pointer (some ⟨w.heap.size, 2, none⟩)) 11 rfl rfl (by kernel_rfl) (by rfl) hHeld (fun W hS => by go_simp) ?_
  simp only [Act.put, sA, s0, s1]
  refine tk (i := 7) (v := .int .i64 n) 12 rfl rfl (by kernel_rfl) (by rfl) hHeld (fun W hS => by have q : W.cell? ⟨w.heap.size, 2, none⟩ = some (.int .i64 n) := hS.a 2; go_simp) ?_
  simp only [Act.put, sA, s0, s1]
  refine tk (i := 8) (v := .pointer (some ⟨w.heap.size + 1, 2, none⟩)) 13 rfl rfl (by kernel_rfl) (by rfl) hHeld (fun W hS => by go_simp) ?_
  simp only [Act.put, sA, s0, s1]
  refine tk (i := 9) (v := .int .i64 n) 14 rfl rfl (by kernel_rfl) (by rfl) hHeld (fun W hS => by have q : W.cell? ⟨w.heap.size + 1, 2, none⟩ = some (.int .i64 n) := hS.b 2; go_simp) ?_
  simp only [Act.put, sA, s0, s1]
  refine tk (i := 10) (v := .bool true) 15 rfl rfl (by kernel_rfl) (by rfl) hHeld (fun W hS => by go_simp) ?_
  simp only [Act.put, sA, s0, s1]
  refine tk (i := 11) (v := .bool true) 16 rfl rfl (by kernel_rfl) (by rfl) hHeld (fun _ _ => rfl) ?_
  simp only [Act.put, sA, s0, s1]
  refine tk (i := 12) (v := .bool true) 17 rfl rfl (by kernel_rfl) (by rfl) hHeld (fun _ _ => rfl) ?_
  simp only [Act.put, sA, s0, s1]
  refine tk (i := 13) (v := .pointer (some ⟨w.heap.size, 3, none⟩)) 18 rfl rfl (by kernel_rfl) (by rfl) hHeld (fun W hS => by go_simp) ?_
  simp only [Act.put, sA, s0, s1]
  refine tk (i := 14) (v := S name) 19 rfl rfl (by kernel_rfl) (by rfl) hHeld (fun W hS => by have q : W.cell? ⟨w.heap.size, 3, none⟩ = some (S name) := hS.a 3; go_simp) ?_
  simp only [Act.put, sA, s0, s1]
  refine tk (i := 15) (v := .pointer (some ⟨w.heap.size + 1, 3, none⟩)) 20 rfl rfl (by kernel_rfl) (by rfl) hHeld (fun W hS => by go_simp) ?_
  simp only [Act.put, sA, s0, s1]
  refine tk (i := 16) (v := S name) 21 rfl rfl (by kernel_rfl) (by rfl) hHeld (fun W hS => by have q : W.cell? ⟨w.heap.size + 1, 3, none⟩ = some (S name) := hS.b 3; go_simp) ?_
  simp only [Act.put, sA, s0, s1]
  refine tk (i := 17) (v := .bool true) 22 rfl rfl (by kernel_rfl) (by rfl) hHeld (fun W hS => by go_simp) ?_
  simp only [Act.put, sA, s0, s1]
  refine tk (i := 18) (v := .bool true) 23 rfl rfl (by kernel_rfl) (by rfl) hHeld (fun _ _ => rfl) ?_
  simp only [Act.put, sA, s0, s1]
  refine tk (i := 19) (v := .bool true) 24 rfl rfl (by kernel_rfl) (by rfl) hHeld (fun _ _ => rfl) ?_
  simp only [Act.put, sA, s0, s1]
  refine tk (i := 20) (v := .pointer (some ⟨w.heap.size, 4, none⟩)) 25 rfl rfl (by kernel_rfl) (by rfl) hHeld (fun W hS => by go_simp) ?_
  simp only [Act.put, sA, s0, s1]
  refine tk (i := 21) (v := S text) 26 rfl rfl (by kernel_rfl) (by rfl) hHeld (fun W hS => by have q : W.cell? ⟨w.heap.size, 4, none⟩ = some (S text) := hS.a 4; go_simp) ?_
  simp only [Act.put, sA, s0, s1]
  refine tk (i := 22) (v := .pointer (some ⟨w.heap.size + 1, 4, none⟩)) 27 rfl rfl (by kernel_rfl) (by rfl) hHeld (fun W hS => by go_simp) ?_
  simp only [Act.put, sA, s0, s1]
  refine tk (i := 23) (v := S text') 28 rfl rfl (by kernel_rfl) (by rfl) hHeld (fun W hS => by have q : W.cell? ⟨w.heap.size + 1, 4, none⟩ = some (S text') := hS.b 4; go_simp) ?_
  simp only [Act.put, sA, s0, s1]
  refine tk (i := 24) (v := .bool false) 29 rfl rfl (by kernel_rfl) (by rfl) hHeld (fun W hS => by go_simp <;> first | exact h2 | simp [h2]) ?_
  simp only [Act.put, sA, s0, s1]
  refine tk (i := 25) (v := .bool false) 30 rfl rfl (by kernel_rfl) (by rfl) hHeld (fun _ _ => rfl) ?_
  simp only [Act.put, sA, s0, s1]
  refine tk (i := 26) (v := .bool false) 31 rfl rfl (by kernel_rfl) (by rfl) hHeld (fun _ _ => rfl) ?_
  simp only [Act.put, sA, s0, s1]
  refine tn (i := 27) 32 rfl rfl (by kernel_rfl) (by rfl) hHeld ?_
  simp only [Act.put, sA, s0, s1]
  refine tn (i := 28) 33 rfl rfl (by kernel_rfl) (by rfl) hHeld ?_
  simp only [Act.put, sA, s0, s1]
  refine tn (i := 29) 34 rfl rfl (by kernel_rfl) (by rfl) hHeld ?_
  simp only [Act.put, sA, s0, s1]
  refine tn (i := 30) 35 rfl rfl (by kernel_rfl) (by rfl) hHeld ?_
  simp only [Act.put, sA, s0, s1]
  refine tn (i := 31) 36 rfl rfl (by kernel_rfl) (by rfl) hHeld ?_
  simp only [Act.put, sA, s0, s1]
  refine tk (i := 32) (v := .bool false) 37 rfl rfl (by kernel_rfl) (by rfl) hHeld (fun _ _ => rfl) ?_
  simp only [Act.put, sA, s0, s1]
  refine tk (i := 33) (v := .bool false) 38 rfl rfl (by kernel_rfl) (by rfl) hHeld (fun _ _ => rfl) ?_
  simp only [Act.put, sA, s0, s1]
  refine tn (i := 34) 39 rfl rfl (by kernel_rfl) (by rfl) hHeld ?_
  simp only [Act.put, sA, s0, s1]
  refine tn (i := 35) 40 rfl rfl (by kernel_rfl) (by rfl) hHeld ?_
  simp only [Act.put, sA, s0, s1]
  refine tn (i := 36) 41 rfl rfl (by kernel_rfl) (by rfl) hHeld ?_
  simp only [Act.put, sA, s0, s1]
  refine tn (i := 37) 42 rfl rfl (by kernel_rfl) (by rfl) hHeld ?_
  simp only [Act.put, sA, s0, s1]
  refine tn (i := 38) 43 rfl rfl (by kernel_rfl) (by rfl) hHeld ?_
  simp only [Act.put, sA, s0, s1]
  refine tk (i := 39) (v := .bool false) 44 rfl rfl (by kernel_rfl) (by rfl) hHeld (fun _ _ => rfl) ?_
  simp only [Act.put, sA, s0, s1]
  refine tk (i := 40) (v := .bool false) 45 rfl rfl (by kernel_rfl) (by rfl) hHeld (fun _ _ => rfl) ?_
  simp only [Act.put, sA, s0, s1]
  refine tn (i := 41) 46 rfl rfl (by kernel_rfl) (by rfl) hHeld ?_
  simp only [Act.put, sA, s0, s1]
  refine tn (i := 42) 47 rfl rfl (by kernel_rfl) (by rfl) hHeld ?_
  simp only [Act.put, sA, s0, s1]
  refine tn (i := 43) 48 rfl rfl (by kernel_rfl) (by rfl) hHeld ?_
  simp only [Act.put, sA, s0, s1]
  refine tn (i := 44) 49 rfl rfl (by kernel_rfl) (by rfl) hHeld ?_
  simp only [Act.put, sA, s0, s1]
  refine tn (i := 45) 50 rfl rfl (by kernel_rfl) (by rfl) hHeld ?_
  simp only [Act.put, sA, s0, s1]
  refine tk (i := 46) (v := .bool false) 51 rfl rfl (by kernel_rfl) (by rfl) hHeld (fun _ _ => rfl) ?_
  simp only [Act.put, sA, s0, s1]
  refine tk (i := 47) (v := .bool false) 52 rfl rfl (by kernel_rfl) (by rfl) hHeld (fun _ _ => rfl) ?_
  simp only [Act.put, sA, s0, s1]
  refine tn (i := 48) 53 rfl rfl (by kernel_rfl) (by rfl) hHeld ?_
  simp only [Act.put, sA, s0, s1]
  refine tn (i := 49) 54 rfl rfl (by kernel_rfl) (by rfl) hHeld ?_
  simp only [Act.put, sA, s0, s1]
  refine tn (i := 51) 56 rfl rfl (by kernel_rfl) (by rfl) hHeld ?_
  simp only [Act.put, sA, s0, s1]
  refine tn (i := 52) 57 rfl rfl (by kernel_rfl) (by rfl) hHeld ?_
  simp only [Act.put, sA, s0, s1]
  refine tn (i := 50) 55 rfl rfl (by kernel_rfl) (by rfl) hHeld ?_
  simp only [Act.put, sA, s0, s1]
  refine tn (i := 53) 58 rfl rfl (by kernel_rfl) (by rfl) hHeld ?_
  simp only [Act.put, sA, s0, s1]
  refine tn (i := 54) 59 rfl rfl (by kernel_rfl) (by rfl) hHeld ?_
  simp only [Act.put, sA, s0, s1]
  refine tk (i := 55) (v := .bool false) 60 rfl rfl (by kernel_rfl) (by rfl) hHeld (fun _ _ => rfl) ?_
  simp only [Act.put, sA, s0, s1]
  refine tk (i := 56) (v := .bool false) 61 rfl rfl (by kernel_rfl) (by rfl) hHeld (fun _ _ => rfl) ?_
  simp only [Act.put, sA, s0, s1]
  refine tn (i := 57) 62 rfl rfl (by kernel_rfl) (by rfl) hHeld ?_
  simp only [Act.put, sA, s0, s1]
  refine tn (i := 58) 63 rfl rfl (by kernel_rfl) (by rfl) hHeld ?_
  simp only [Act.put, sA, s0, s1]
  refine tn (i := 59) 64 rfl rfl (by kernel_rfl) (by rfl) hHeld ?_
  simp only [Act.put, sA, s0, s1]
  refine tn (i := 60) 65 rfl rfl (by kernel_rfl) (by rfl) hHeld ?_
  simp only [Act.put, sA, s0, s1]
  refine tn (i := 61) 66 rfl rfl (by kernel_rfl) (by rfl) hHeld ?_
  simp only [Act.put, sA, s0, s1]
  refine tk (i := 62) (v := .bool false) 67 rfl rfl (by kernel_rfl) (by rfl) hHeld (fun _ _ => rfl) ?_
  simp only [Act.put, sA, s0, s1]
  refine tk (i := 63) (v := .bool false) 4 rfl rfl (by kernel_rfl) (by rfl) hHeld (fun _ _ => rfl) ?_
  simp only [Act.put, sA, s0, s1]
  refine wpAnyH_done (by kernel_rfl) ?_ _
  refine NoPanic.normal ?_
  go_wp2_with fail
  all_goals (subst hQ; exact ⟨rfl, hHeld.below⟩)
theorem same_flag (k k' : Nat) (who : Int) (n : Int) (name : List UInt8) (text : List UInt8) (flag flag' : Bool) (snd snd' : Nat) (rcv rcv' : Nat) (mp mp' : Nat) (mt mt' : Nat) (mc mc' : Nat) (mid mid' : List UInt8) (mbody mbody' : List UInt8) (ok ok' : Nat) (oa oa' : Nat) (ob ob' : Nat) (cond cond' : List UInt8) (bv bv' : Value) (w : World) (h : ¬ flag = flag') :
    Calls Tryz.prog 23 #[.agg (EvD.cs ⟨k, who, n, name, text, flag, snd, rcv, ⟨mp, mt, mc, mid, mbody⟩, ok, oa, ob, cond⟩ bv), .agg (EvD.cs ⟨k', who, n, name, text, flag', snd', rcv', ⟨mp', mt', mc', mid', mbody'⟩, ok', oa', ob', cond'⟩ bv')] w fun e w' => e = .returned (.bool false) ∧ Below w.heap.size w w' := by
  have t0 : Two w (EvD.cs ⟨k, who, n, name, text, flag, snd, rcv, ⟨mp, mt, mc, mid, mbody⟩, ok, oa, ob, cond⟩ bv) (EvD.cs ⟨k', who, n, name, text, flag', snd', rcv', ⟨mp', mt', mc', mid', mbody'⟩, ok', oa', ob', cond'⟩ bv') ((w.alloc (.cells (EvD.cs ⟨k, who, n, name, text, flag, snd, rcv, ⟨mp, mt, mc, mid, mbody⟩, ok, oa, ob, cond⟩ bv) 30)).alloc (.cells (EvD.cs ⟨k', who, n, name, text, flag', snd', rcv', ⟨mp', mt', mc', mid', mbody'⟩, ok', oa', ob', cond'⟩ bv') 30)) := Two.init w _ _
  have h2 : (flag == flag') = false := beq_eq_false_iff_ne.2 h
  generalize hQ : (fun (e : Ending) (w' : World) => e = .returned (.bool false) ∧ Below w.heap.size w w') = Q
  go_enter Tryz.func23, Tryz.ntmps23
  go_wp2_with fail
  refine wp_region_noPanic ?_
  refine wp_region_held_drew (S := Two w (EvD.cs ⟨k, who, n, name, text, flag, snd, rcv, ⟨mp, mt, mc, mid, mbody⟩, ok, oa, ob, cond⟩ bv) (EvD.cs ⟨k', who, n, name, text, flag', snd', rcv', ⟨mp', mt', mc', mid', mbody'⟩, ok', oa', ob', cond'⟩ bv')) (by kernel_rfl) t0.drew (fun hHeld => ?_)
  refine tk (i := 0) (v := .pointer (some ⟨w.heap.size, 1, none⟩)) 5 rfl rfl (by kernel_rfl) (by rfl) hHeld (fun W hS => by go_simp) ?_
  simp only [Act.put, sA, s0, s1]
  refine tk (i := 1) (v := .int .i64 who) 6 rfl rfl (by kernel_rfl) (by rfl) hHeld (fun W hS => by have q : W.cell? ⟨w.heap.size, 1, none⟩ = some (.int .i64 who) := hS.a 1; go_simp) ?_
  simp only [Act.put, sA, s0, s1]
  refine tk (i := 2) (v := .pointer (some ⟨w.heap.size + 1, 1, none⟩)) 7 rfl rfl (by kernel_rfl) (by rfl) hHeld (fun W hS => by go_simp) ?_
  simp only [Act.put, sA, s0, s1]
  refine tk (i := 3) (v := .int .i64 who) 8 rfl rfl (by kernel_rfl) (by rfl) hHeld (fun W hS => by have q : W.cell? ⟨w.heap.size + 1, 1, none⟩ = some (.int .i64 who) := hS.b 1; go_simp) ?_
  simp only [Act.put, sA, s0, s1]
  refine tk (i := 4) (v := .bool true) 9 rfl rfl (by kernel_rfl) (by rfl) hHeld (fun W hS => by go_simp) ?_
  simp only [Act.put, sA, s0, s1]
  refine tk (i := 5) (v := .bool true) 10 rfl rfl (by kernel_rfl) (by rfl) hHeld (fun _ _ => rfl) ?_
  simp only [Act.put, sA, s0, s1]
  refine tk (i := 6) (v := .pointer (some ⟨w.heap.size, 2, none⟩)) 11 rfl rfl (by kernel_rfl) (by rfl) hHeld (fun W hS => by go_simp) ?_
  simp only [Act.put, sA, s0, s1]
  refine tk (i := 7) (v := .int .i64 n) 12 rfl rfl (by kernel_rfl) (by rfl) hHeld (fun W hS => by have q : W.cell? ⟨w.heap.size, 2, none⟩ = some (.int .i64 n) := hS.a 2; go_simp) ?_
  simp only [Act.put, sA, s0, s1]
  refine tk (i := 8) (v := .pointer (some ⟨w.heap.size + 1, 2, none⟩)) 13 rfl rfl (by kernel_rfl) (by rfl) hHeld (fun W hS => by go_simp) ?_
  simp only [Act.put, sA, s0, s1]
  refine tk (i := 9) (v := .int .i64 n) 14 rfl rfl (by kernel_rfl) (by rfl) hHeld (fun W hS => by have q : W.cell? ⟨w.heap.size + 1, 2, none⟩ = some (.int .i64 n) := hS.b 2; go_simp) ?_
  simp only [Act.put, sA, s0, s1]
  refine tk (i := 10) (v := .bool true) 15 rfl rfl (by kernel_rfl) (by rfl) hHeld (fun W hS => by go_simp) ?_
  simp only [Act.put, sA, s0, s1]
  refine tk (i := 11) (v := .bool true) 16 rfl rfl (by kernel_rfl) (by rfl) hHeld (fun _ _ => rfl) ?_
  simp only [Act.put, sA, s0, s1]
  refine tk (i := 12) (v := .bool true) 17 rfl rfl (by kernel_rfl) (by rfl) hHeld (fun _ _ => rfl) ?_
  simp only [Act.put, sA, s0, s1]
  refine tk (i := 13) (v := .pointer (some ⟨w.heap.size, 3, none⟩)) 18 rfl rfl (by kernel_rfl) (by rfl) hHeld (fun W hS => by go_simp) ?_
  simp only [Act.put, sA, s0, s1]
  refine tk (i := 14) (v := S name) 19 rfl rfl (by kernel_rfl) (by rfl) hHeld (fun W hS => by have q : W.cell? ⟨w.heap.size, 3, none⟩ = some (S name) := hS.a 3; go_simp) ?_
  simp only [Act.put, sA, s0, s1]
  refine tk (i := 15) (v := .pointer (some ⟨w.heap.size + 1, 3, none⟩)) 20 rfl rfl (by kernel_rfl) (by rfl) hHeld (fun W hS => by go_simp) ?_
  simp only [Act.put, sA, s0, s1]
  refine tk (i := 16) (v := S name) 21 rfl rfl (by kernel_rfl) (by rfl) hHeld (fun W hS => by have q : W.cell? ⟨w.heap.size + 1, 3, none⟩ = some (S name) := hS.b 3; go_simp) ?_
  simp only [Act.put, sA, s0, s1]
  refine tk (i := 17) (v := .bool true) 22 rfl rfl (by kernel_rfl) (by rfl) hHeld (fun W hS => by go_simp) ?_
  simp only [Act.put, sA, s0, s1]
  refine tk (i := 18) (v := .bool true) 23 rfl rfl (by kernel_rfl) (by rfl) hHeld (fun _ _ => rfl) ?_
  simp only [Act.put, sA, s0, s1]
  refine tk (i := 19) (v := .bool true) 24 rfl rfl (by kernel_rfl) (by rfl) hHeld (fun _ _ => rfl) ?_
  simp only [Act.put, sA, s0, s1]
  refine tk (i := 20) (v := .pointer (some ⟨w.heap.size, 4, none⟩)) 25 rfl rfl (by kernel_rfl) (by rfl) hHeld (fun W hS => by go_simp) ?_
  simp only [Act.put, sA, s0, s1]
  refine tk (i := 21) (v := S text) 26 rfl rfl (by kernel_rfl) (by rfl) hHeld (fun W hS => by have q : W.cell? ⟨w.heap.size, 4, none⟩ = some (S text) := hS.a 4; go_simp) ?_
  simp only [Act.put, sA, s0, s1]
  refine tk (i := 22) (v := .pointer (some ⟨w.heap.size + 1, 4, none⟩)) 27 rfl rfl (by kernel_rfl) (by rfl) hHeld (fun W hS => by go_simp) ?_
  simp only [Act.put, sA, s0, s1]
  refine tk (i := 23) (v := S text) 28 rfl rfl (by kernel_rfl) (by rfl) hHeld (fun W hS => by have q : W.cell? ⟨w.heap.size + 1, 4, none⟩ = some (S text) := hS.b 4; go_simp) ?_
  simp only [Act.put, sA, s0, s1]
  refine tk (i := 24) (v := .bool true) 29 rfl rfl (by kernel_rfl) (by rfl) hHeld (fun W hS => by go_simp) ?_
  simp only [Act.put, sA, s0, s1]
  refine tk (i := 25) (v := .bool true) 30 rfl rfl (by kernel_rfl) (by rfl) hHeld (fun _ _ => rfl) ?_
  simp only [Act.put, sA, s0, s1]
  refine tk (i := 26) (v := .bool true) 31 rfl rfl (by kernel_rfl) (by rfl) hHeld (fun _ _ => rfl) ?_
  simp only [Act.put, sA, s0, s1]
  refine tk (i := 27) (v := .pointer (some ⟨w.heap.size, 5, none⟩)) 32 rfl rfl (by kernel_rfl) (by rfl) hHeld (fun W hS => by go_simp) ?_
  simp only [Act.put, sA, s0, s1]
  refine tk (i := 28) (v := .bool flag) 33 rfl rfl (by kernel_rfl) (by rfl) hHeld (fun W hS => by have q : W.cell? ⟨w.heap.size, 5, none⟩ = some (.bool flag) := hS.a 5; go_simp) ?_
  simp only [Act.put, sA, s0, s1]
  refine tk (i := 29) (v := .pointer (some ⟨w.heap.size + 1, 5, none⟩)) 34 rfl rfl (by kernel_rfl) (by rfl) hHeld (fun W hS => by go_simp) ?_
  simp only [Act.put, sA, s0, s1]
  refine tk (i := 30) (v := .bool flag') 35 rfl rfl (by kernel_rfl) (by rfl) hHeld (fun W hS => by have q : W.cell? ⟨w.heap.size + 1, 5, none⟩ = some (.bool flag') := hS.b 5; go_simp) ?_
  simp only [Act.put, sA, s0, s1]
  refine tk (i := 31) (v := .bool false) 36 rfl rfl (by kernel_rfl) (by rfl) hHeld (fun W hS => by go_simp <;> first | exact h2 | simp [h2]) ?_
  simp only [Act.put, sA, s0, s1]
  refine tk (i := 32) (v := .bool false) 37 rfl rfl (by kernel_rfl) (by rfl) hHeld (fun _ _ => rfl) ?_
  simp only [Act.put, sA, s0, s1]
  refine tk (i := 33) (v := .bool false) 38 rfl rfl (by kernel_rfl) (by rfl) hHeld (fun _ _ => rfl) ?_
  simp only [Act.put, sA, s0, s1]
  refine tn (i := 34) 39 rfl rfl (by kernel_rfl) (by rfl) hHeld ?_
  simp only [Act.put, sA, s0, s1]
  refine tn (i := 35) 40 rfl rfl (by kernel_rfl) (by rfl) hHeld ?_
  simp only [Act.put, sA, s0, s1]
  refine tn (i := 36) 41 rfl rfl (by kernel_rfl) (by rfl) hHeld ?_
  simp only [Act.put, sA, s0, s1]
  refine tn (i := 37) 42 rfl rfl (by kernel_rfl) (by rfl) hHeld ?_
  simp only [Act.put, sA, s0, s1]
  refine tn (i := 38) 43 rfl rfl (by kernel_rfl) (by rfl) hHeld ?_
  simp only [Act.put, sA, s0, s1]
  refine tk (i := 39) (v := .bool false) 44 rfl rfl (by kernel_rfl) (by rfl) hHeld (fun _ _ => rfl) ?_
  simp only [Act.put, sA, s0, s1]
  refine tk (i := 40) (v := .bool false) 45 rfl rfl (by kernel_rfl) (by rfl) hHeld (fun _ _ => rfl) ?_
  simp only [Act.put, sA, s0, s1]
  refine tn (i := 41) 46 rfl rfl (by kernel_rfl) (by rfl) hHeld ?_
  simp only [Act.put, sA, s0, s1]
  refine tn (i := 42) 47 rfl rfl (by kernel_rfl) (by rfl) hHeld ?_
  simp only [Act.put, sA, s0, s1]
  refine tn (i := 43) 48 rfl rfl (by kernel_rfl) (by rfl) hHeld ?_
  simp only [Act.put, sA, s0, s1]
  refine tn (i := 44) 49 rfl rfl (by kernel_rfl) (by rfl) hHeld ?_
  simp only [Act.put, sA, s0, s1]
  refine tn (i := 45) 50 rfl rfl (by kernel_rfl) (by rfl) hHeld ?_
  simp only [Act.put, sA, s0, s1]
  refine tk (i := 46) (v := .bool false) 51 rfl rfl (by kernel_rfl) (by rfl) hHeld (fun _ _ => rfl) ?_
  simp only [Act.put, sA, s0, s1]
  refine tk (i := 47) (v := .bool false) 52 rfl rfl (by kernel_rfl) (by rfl) hHeld (fun _ _ => rfl) ?_
  simp only [Act.put, sA, s0, s1]
  refine tn (i := 48) 53 rfl rfl (by kernel_rfl) (by rfl) hHeld ?_
  simp only [Act.put, sA, s0, s1]
  refine tn (i := 49) 54 rfl rfl (by kernel_rfl) (by rfl) hHeld ?_
  simp only [Act.put, sA, s0, s1]
  refine tn (i := 51) 56 rfl rfl (by kernel_rfl) (by rfl) hHeld ?_
  simp only [Act.put, sA, s0, s1]
  refine tn (i := 52) 57 rfl rfl (by kernel_rfl) (by rfl) hHeld ?_
  simp only [Act.put, sA, s0, s1]
  refine tn (i := 50) 55 rfl rfl (by kernel_rfl) (by rfl) hHeld ?_
  simp only [Act.put, sA, s0, s1]
  refine tn (i := 53) 58 rfl rfl (by kernel_rfl) (by rfl) hHeld ?_
  simp only [Act.put, sA, s0, s1]
  refine tn (i := 54) 59 rfl rfl (by kernel_rfl) (by rfl) hHeld ?_
  simp only [Act.put, sA, s0, s1]
  refine tk (i := 55) (v := .bool false) 60 rfl rfl (by kernel_rfl) (by rfl) hHeld (fun _ _ => rfl) ?_
  simp only [Act.put, sA, s0, s1]
  refine tk (i := 56) (v := .bool false) 61 rfl rfl (by kernel_rfl) (by rfl) hHeld (fun _ _ => rfl) ?_
  simp only [Act.put, sA, s0, s1]
  refine tn (i := 57) 62 rfl rfl (by kernel_rfl) (by rfl) hHeld ?_
  simp only [Act.put, sA, s0, s1]
  refine tn (i := 58) 63 rfl rfl (by kernel_rfl) (by rfl) hHeld ?_
  simp only [Act.put, sA, s0, s1]
  refine tn (i := 59) 64 rfl rfl (by kernel_rfl) (by rfl) hHeld ?_
  simp only [Act.put, sA, s0, s1]
  refine tn (i := 60) 65 rfl rfl (by kernel_rfl) (by rfl) hHeld ?_
  simp only [Act.put, sA, s0, s1]
  refine tn (i := 61) 66 rfl rfl (by kernel_rfl) (by rfl) hHeld ?_
  simp only [Act.put, sA, s0, s1]
  refine tk (i := 62) (v := .bool false) 67 rfl rfl (by kernel_rfl) (by rfl) hHeld (fun _ _ => rfl) ?_
  simp only [Act.put, sA, s0, s1]
  refine tk (i := 63) (v := .bool false) 4 rfl rfl (by kernel_rfl) (by rfl) hHeld (fun _ _ => rfl) ?_
  simp only [Act.put, sA, s0, s1]
  refine wpAnyH_done (by kernel_rfl) ?_ _
  refine NoPanic.normal ?_
  go_wp2_with fail
  all_goals (subst hQ; exact ⟨rfl, hHeld.below⟩)
end Go.Proofs.YtaojoifpekoecaaGreatDoor
