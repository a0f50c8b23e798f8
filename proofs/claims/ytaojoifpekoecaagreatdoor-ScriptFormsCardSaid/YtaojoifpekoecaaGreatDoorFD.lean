/-
  SameEvent answers whether two events are the same. Conditions: as each theorem says.
-/
import Derived.Test.YtaojoifpekoecaaGreatDoorFC
namespace Go.Proofs.YtaojoifpekoecaaGreatDoor
open Go.RowKit Go.Shelf
set_option maxHeartbeats 4000000
set_option maxRecDepth 100000
/-- SameEvent, of equals -/
theorem sameEv_refl (a : EvD) (bv bv' : Value) (w : World) (hb : BytesV w bv a.m.body) (hb' : BytesV w bv' a.m.body) :
    Calls Tryz.prog 10 #[.agg (a.cs bv), .agg (a.cs bv')] w fun e w' => e = .returned (.bool true) ∧ Below w.heap.size w w' := by
  have hbl := ((Below.refl w.heap.size w).alloc (Nat.le_refl _) (.cells (a.cs bv) 30)).alloc (by simp) (.cells (a.cs bv') 30)
  have c0 : Calls Tryz.prog 26 #[.agg #[.int .u8 a.m.p, .int .u32 a.m.t, .int .u32 a.m.c, S a.m.id, bv], .agg #[.int .u8 a.m.p, .int .u32 a.m.t, .int .u32 a.m.c, S a.m.id, bv']] ((w.alloc (.cells (a.cs bv) 30)).alloc (.cells (a.cs bv') 30)) fun e w' => e = .returned (.bool true) ∧ Below ((w.alloc (.cells (a.cs bv) 30)).alloc (.cells (a.cs bv') 30)).heap.size ((w.alloc (.cells (a.cs bv) 30)).alloc (.cells (a.cs bv') 30)) w' :=
    (sameMsg a.m a.m bv bv' _ (hb.below hbl (Nat.le_refl _)) (hb'.below hbl (Nat.le_refl _))).mono fun e w' ⟨⟨r, h1, h2⟩, h3⟩ => ⟨by rw [h1, h2.2 rfl], h3⟩
  obtain ⟨k, who, n, name, text, flag, snd, rcv, ⟨mp, mt, mc, mid, mbody⟩, ok, oa, ob, cond⟩ := a
  generalize hQ : (fun (e : Ending) (w' : World) => e = .returned (.bool true) ∧ Below w.heap.size w w') = Q
  have hsz : ∀ W : World, (Go.World.alloc W (.cells #[] 0)).heap.size = W.heap.size + 1 := fun W => by simp
  go_enter Tryz.func10, Tryz.ntmps10
  go_wp2_with fail
  refine c0.mono ?_
  rintro e w1 ⟨rfl, h1⟩
  have hb1 : Below w.heap.size w w1 := hbl.trans (h1.mono (by simp; omega))
  have g0 := h1.block w.heap.size (by simp; omega)
  have g1 := h1.block (w.heap.size + 1) (by simp)
  rw [((Below.refl (w.heap.size + 1) (w.alloc (.cells (EvD.cs ⟨k, who, n, name, text, flag, snd, rcv, ⟨mp, mt, mc, mid, mbody⟩, ok, oa, ob, cond⟩ bv) 30))).alloc (by simp) (.cells (EvD.cs ⟨k, who, n, name, text, flag, snd, rcv, ⟨mp, mt, mc, mid, mbody⟩, ok, oa, ob, cond⟩ bv') 30)).block _ (Nat.lt_succ_self _), heap_alloc_last w _] at g0
  rw [show w.heap.size + 1 = (w.alloc (.cells (EvD.cs ⟨k, who, n, name, text, flag, snd, rcv, ⟨mp, mt, mc, mid, mbody⟩, ok, oa, ob, cond⟩ bv) 30)).heap.size by simp, heap_alloc_last (w.alloc _) _, show (w.alloc (.cells (EvD.cs ⟨k, who, n, name, text, flag, snd, rcv, ⟨mp, mt, mc, mid, mbody⟩, ok, oa, ob, cond⟩ bv) 30)).heap.size = w.heap.size + 1 by simp] at g1
  have f0 : ∀ j, w1.cell? ⟨w.heap.size, j, none⟩ = (EvD.cs ⟨k, who, n, name, text, flag, snd, rcv, ⟨mp, mt, mc, mid, mbody⟩, ok, oa, ob, cond⟩ bv)[j]? := fun j => by unfold World.cell?; rw [g0]; rfl
  have f1 : ∀ j, w1.cell? ⟨w.heap.size + 1, j, none⟩ = (EvD.cs ⟨k, who, n, name, text, flag, snd, rcv, ⟨mp, mt, mc, mid, mbody⟩, ok, oa, ob, cond⟩ bv')[j]? := fun j => by unfold World.cell?; rw [g1]; rfl
  have a13 : w1.cell? ⟨w.heap.size, 13, none⟩ = some (.int .u8 ok) := f0 13
  have a14 : w1.cell? ⟨w.heap.size, 14, none⟩ = some (.int .u64 oa) := f0 14
  have a15 : w1.cell? ⟨w.heap.size, 15, none⟩ = some (.int .u64 ob) := f0 15
  have a16 : w1.cell? ⟨w.heap.size, 16, none⟩ = some (S cond) := f0 16
  have b13 : w1.cell? ⟨w.heap.size + 1, 13, none⟩ = some (.int .u8 ok) := f1 13
  have b14 : w1.cell? ⟨w.heap.size + 1, 14, none⟩ = some (.int .u64 oa) := f1 14
  have b15 : w1.cell? ⟨w.heap.size + 1, 15, none⟩ = some (.int .u64 ob) := f1 15
  have b16 : w1.cell? ⟨w.heap.size + 1, 16, none⟩ = some (S cond) := f1 16
  have e1 := eqlOut ok ok oa oa ob ob cond cond w1
  have e2 := fun x y => guardOut x y #[.int .u8 ok, .int .u64 oa, .int .u64 ob, S cond] #[.int .u8 ok, .int .u64 oa, .int .u64 ob, S cond] w1
  have ed : decide (ok = ok ∧ oa = oa ∧ ob = ob ∧ cond = cond) = true := by simp
  rw [ed] at e1
  clear f0 f1 g0 g1 h1 c0 ed hb hb' hbl hsz
  go_wp2_with fail
  subst hQ
  exact ⟨rfl, hb1⟩
end Go.Proofs.YtaojoifpekoecaaGreatDoor


namespace Go.Proofs.YtaojoifpekoecaaGreatDoor
open Go.RowKit Go.Shelf
set_option maxHeartbeats 4000000
set_option maxRecDepth 100000
theorem sameEv_k (k k' : Nat) (who who' : Int) (n n' : Int) (name name' : List UInt8) (text text' : List UInt8) (flag flag' : Bool) (snd snd' : Nat) (rcv rcv' : Nat) (m m' : MsgD) (ok ok' : Nat) (oa oa' : Nat) (ob ob' : Nat) (cond cond' : List UInt8) (bv bv' : Value) (w : World) (h : ¬ k = k') :
    Calls Tryz.prog 10 #[.agg (EvD.cs ⟨k, who, n, name, text, flag, snd, rcv, m, ok, oa, ob, cond⟩ bv), .agg (EvD.cs ⟨k', who', n', name', text', flag', snd', rcv', m', ok', oa', ob', cond'⟩ bv')] w fun e w' => e = .returned (.bool false) ∧ Below w.heap.size w w' := by
  have hbl := ((Below.refl w.heap.size w).alloc (Nat.le_refl _) (.cells (EvD.cs ⟨k, who, n, name, text, flag, snd, rcv, m, ok, oa, ob, cond⟩ bv) 30)).alloc (by simp) (.cells (EvD.cs ⟨k', who', n', name', text', flag', snd', rcv', m', ok', oa', ob', cond'⟩ bv') 30)
  have h' : ¬ (k : Int) = (k' : Int) := by omega
  have h2 : ((k : Int) == (k' : Int)) = false := beq_eq_false_iff_ne.2 h'
  generalize hQ : (fun (e : Ending) (w' : World) => e = .returned (.bool false) ∧ Below w.heap.size w w') = Q
  go_enter Tryz.func10, Tryz.ntmps10
  go_wp2_with fail
  all_goals (subst hQ; first | exact ⟨rfl, hbl⟩ | (refine ⟨?_, hbl⟩; simp [h2]))
theorem sameEv_who (k : Nat) (who who' : Int) (n n' : Int) (name name' : List UInt8) (text text' : List UInt8) (flag flag' : Bool) (snd snd' : Nat) (rcv rcv' : Nat) (m m' : MsgD) (ok ok' : Nat) (oa oa' : Nat) (ob ob' : Nat) (cond cond' : List UInt8) (bv bv' : Value) (w : World) (h : ¬ who = who') :
    Calls Tryz.prog 10 #[.agg (EvD.cs ⟨k, who, n, name, text, flag, snd, rcv, m, ok, oa, ob, cond⟩ bv), .agg (EvD.cs ⟨k, who', n', name', text', flag', snd', rcv', m', ok', oa', ob', cond'⟩ bv')] w fun e w' => e = .returned (.bool false) ∧ Below w.heap.size w w' := by
  have hbl := ((Below.refl w.heap.size w).alloc (Nat.le_refl _) (.cells (EvD.cs ⟨k, who, n, name, text, flag, snd, rcv, m, ok, oa, ob, cond⟩ bv) 30)).alloc (by simp) (.cells (EvD.cs ⟨k, who', n', name', text', flag', snd', rcv', m', ok', oa', ob', cond'⟩ bv') 30)
  have h2 : (who == who') = false := beq_eq_false_iff_ne.2 h
  generalize hQ : (fun (e : Ending) (w' : World) => e = .returned (.bool false) ∧ Below w.heap.size w w') = Q
  go_enter Tryz.func10, Tryz.ntmps10
  go_wp2_with fail
  all_goals (subst hQ; first | exact ⟨rfl, hbl⟩ | (refine ⟨?_, hbl⟩; simp [h2]))
theorem sameEv_n (k : Nat) (who : Int) (n n' : Int) (name name' : List UInt8) (text text' : List UInt8) (flag flag' : Bool) (snd snd' : Nat) (rcv rcv' : Nat) (m m' : MsgD) (ok ok' : Nat) (oa oa' : Nat) (ob ob' : Nat) (cond cond' : List UInt8) (bv bv' : Value) (w : World) (h : ¬ n = n') :
    Calls Tryz.prog 10 #[.agg (EvD.cs ⟨k, who, n, name, text, flag, snd, rcv, m, ok, oa, ob, cond⟩ bv), .agg (EvD.cs ⟨k, who, n', name', text', flag', snd', rcv', m', ok', oa', ob', cond'⟩ bv')] w fun e w' => e = .returned (.bool false) ∧ Below w.heap.size w w' := by
  have hbl := ((Below.refl w.heap.size w).alloc (Nat.le_refl _) (.cells (EvD.cs ⟨k, who, n, name, text, flag, snd, rcv, m, ok, oa, ob, cond⟩ bv) 30)).alloc (by simp) (.cells (EvD.cs ⟨k, who, n', name', text', flag', snd', rcv', m', ok', oa', ob', cond'⟩ bv') 30)
  have h2 : (n == n') = false := beq_eq_false_iff_ne.2 h
  generalize hQ : (fun (e : Ending) (w' : World) => e = .returned (.bool false) ∧ Below w.heap.size w w') = Q
  go_enter Tryz.func10, Tryz.ntmps10
  go_wp2_with fail
  all_goals (subst hQ; first | exact ⟨rfl, hbl⟩ | (refine ⟨?_, hbl⟩; simp [h2]))
theorem sameEv_name (k : Nat) (who : Int) (n : Int) (name name' : List UInt8) (text text' : List UInt8) (flag flag' : Bool) (snd snd' : Nat) (rcv rcv' : Nat) (m m' : MsgD) (ok ok' : Nat) (oa oa' : Nat) (ob ob' : Nat) (cond cond' : List UInt8) (bv bv' : Value) (w : World) (h : ¬ name = name') :
    Calls Tryz.prog 10 #[.agg (EvD.cs ⟨k, who, n, name, text, flag, snd, rcv, m, ok, oa, ob, cond⟩ bv), .agg (EvD.cs ⟨k, who, n, name', text', flag', snd', rcv', m', ok', oa', ob', cond'⟩ bv')] w fun e w' => e = .returned (.bool false) ∧ Below w.heap.size w w' := by
  have hbl := ((Below.refl w.heap.size w).alloc (Nat.le_refl _) (.cells (EvD.cs ⟨k, who, n, name, text, flag, snd, rcv, m, ok, oa, ob, cond⟩ bv) 30)).alloc (by simp) (.cells (EvD.cs ⟨k, who, n, name', text', flag', snd', rcv', m', ok', oa', ob', cond'⟩ bv') 30)
  have h2 : (name == name') = false := beq_eq_false_iff_ne.2 h
  generalize hQ : (fun (e : Ending) (w' : World) => e = .returned (.bool false) ∧ Below w.heap.size w w') = Q
  go_enter Tryz.func10, Tryz.ntmps10
  go_wp2_with fail
  all_goals (subst hQ; first | exact ⟨rfl, hbl⟩ | (refine ⟨?_, hbl⟩; simp [h2]))
theorem sameEv_text (k : Nat) (who : Int) (n : Int) (name : List UInt8) (text text' : List UInt8) (flag flag' : Bool) (snd snd' : Nat) (rcv rcv' : Nat) (m m' : MsgD) (ok ok' : Nat) (oa oa' : Nat) (ob ob' : Nat) (cond cond' : List UInt8) (bv bv' : Value) (w : World) (h : ¬ text = text') :
    Calls Tryz.prog 10 #[.agg (EvD.cs ⟨k, who, n, name, text, flag, snd, rcv, m, ok, oa, ob, cond⟩ bv), .agg (EvD.cs ⟨k, who, n, name, text', flag', snd', rcv', m', ok', oa', ob', cond'⟩ bv')] w fun e w' => e = .returned (.bool false) ∧ Below w.heap.size w w' := by
  have hbl := ((Below.refl w.heap.size w).alloc (Nat.le_refl _) (.cells (EvD.cs ⟨k, who, n, name, text, flag, snd, rcv, m, ok, oa, ob, cond⟩ bv) 30)).alloc (by simp) (.cells (EvD.cs ⟨k, who, n, name, text', flag', snd', rcv', m', ok', oa', ob', cond'⟩ bv') 30)
  have h2 : (text == text') = false := beq_eq_false_iff_ne.2 h
  generalize hQ : (fun (e : Ending) (w' : World) => e = .returned (.bool false) ∧ Below w.heap.size w w') = Q
  go_enter Tryz.func10, Tryz.ntmps10
  go_wp2_with fail
  all_goals (subst hQ; first | exact ⟨rfl, hbl⟩ | (refine ⟨?_, hbl⟩; simp [h2]))
theorem sameEv_flag (k : Nat) (who : Int) (n : Int) (name : List UInt8) (text : List UInt8) (flag flag' : Bool) (snd snd' : Nat) (rcv rcv' : Nat) (m m' : MsgD) (ok ok' : Nat) (oa oa' : Nat) (ob ob' : Nat) (cond cond' : List UInt8) (bv bv' : Value) (w : World) (h : ¬ flag = flag') :
    Calls Tryz.prog 10 #[.agg (EvD.cs ⟨k, who, n, name, text, flag, snd, rcv, m, ok, oa, ob, cond⟩ bv), .agg (EvD.cs ⟨k, who, n, name, text, flag', snd', rcv', m', ok', oa', ob', cond'⟩ bv')] w fun e w' => e = .returned (.bool false) ∧ Below w.heap.size w w' := by
  have hbl := ((Below.refl w.heap.size w).alloc (Nat.le_refl _) (.cells (EvD.cs ⟨k, who, n, name, text, flag, snd, rcv, m, ok, oa, ob, cond⟩ bv) 30)).alloc (by simp) (.cells (EvD.cs ⟨k, who, n, name, text, flag', snd', rcv', m', ok', oa', ob', cond'⟩ bv') 30)
  have h2 : (flag == flag') = false := beq_eq_false_iff_ne.2 h
  generalize hQ : (fun (e : Ending) (w' : World) => e = .returned (.bool false) ∧ Below w.heap.size w w') = Q
  go_enter Tryz.func10, Tryz.ntmps10
  go_wp2_with fail
  all_goals (subst hQ; first | exact ⟨rfl, hbl⟩ | (refine ⟨?_, hbl⟩; simp [h2]))
theorem sameEv_snd (k : Nat) (who : Int) (n : Int) (name : List UInt8) (text : List UInt8) (flag : Bool) (snd snd' : Nat) (rcv rcv' : Nat) (m m' : MsgD) (ok ok' : Nat) (oa oa' : Nat) (ob ob' : Nat) (cond cond' : List UInt8) (bv bv' : Value) (w : World) (h : ¬ snd = snd') :
    Calls Tryz.prog 10 #[.agg (EvD.cs ⟨k, who, n, name, text, flag, snd, rcv, m, ok, oa, ob, cond⟩ bv), .agg (EvD.cs ⟨k, who, n, name, text, flag, snd', rcv', m', ok', oa', ob', cond'⟩ bv')] w fun e w' => e = .returned (.bool false) ∧ Below w.heap.size w w' := by
  have hbl := ((Below.refl w.heap.size w).alloc (Nat.le_refl _) (.cells (EvD.cs ⟨k, who, n, name, text, flag, snd, rcv, m, ok, oa, ob, cond⟩ bv) 30)).alloc (by simp) (.cells (EvD.cs ⟨k, who, n, name, text, flag, snd', rcv', m', ok', oa', ob', cond'⟩ bv') 30)
  have h' : ¬ (snd : Int) = (snd' : Int) := by omega
  have h2 : ((snd : Int) == (snd' : Int)) = false := beq_eq_false_iff_ne.2 h'
  generalize hQ : (fun (e : Ending) (w' : World) => e = .returned (.bool false) ∧ Below w.heap.size w w') = Q
  go_enter Tryz.func10, Tryz.ntmps10
  go_wp2_with fail
  all_goals (subst hQ; first | exact ⟨rfl, hbl⟩ | (refine ⟨?_, hbl⟩; simp [h2]))
theorem sameEv_rcv (k : Nat) (who : Int) (n : Int) (name : List UInt8) (text : List UInt8) (flag : Bool) (snd : Nat) (rcv rcv' : Nat) (m m' : MsgD) (ok ok' : Nat) (oa oa' : Nat) (ob ob' : Nat) (cond cond' : List UInt8) (bv bv' : Value) (w : World) (h : ¬ rcv = rcv') :
    Calls Tryz.prog 10 #[.agg (EvD.cs ⟨k, who, n, name, text, flag, snd, rcv, m, ok, oa, ob, cond⟩ bv), .agg (EvD.cs ⟨k, who, n, name, text, flag, snd, rcv', m', ok', oa', ob', cond'⟩ bv')] w fun e w' => e = .returned (.bool false) ∧ Below w.heap.size w w' := by
  have hbl := ((Below.refl w.heap.size w).alloc (Nat.le_refl _) (.cells (EvD.cs ⟨k, who, n, name, text, flag, snd, rcv, m, ok, oa, ob, cond⟩ bv) 30)).alloc (by simp) (.cells (EvD.cs ⟨k, who, n, name, text, flag, snd, rcv', m', ok', oa', ob', cond'⟩ bv') 30)
  have h' : ¬ (rcv : Int) = (rcv' : Int) := by omega
  have h2 : ((rcv : Int) == (rcv' : Int)) = false := beq_eq_false_iff_ne.2 h'
  generalize hQ : (fun (e : Ending) (w' : World) => e = .returned (.bool false) ∧ Below w.heap.size w w') = Q
  go_enter Tryz.func10, Tryz.ntmps10
  go_wp2_with fail
  all_goals (subst hQ; first | exact ⟨rfl, hbl⟩ | (refine ⟨?_, hbl⟩; simp [h2]))
theorem sameEv_m (k : Nat) (who : Int) (n : Int) (name : List UInt8) (text : List UInt8) (flag : Bool) (snd : Nat) (rcv : Nat) (ok ok' : Nat) (oa oa' : Nat) (ob ob' : Nat) (cond cond' : List UInt8) (mp mt mc : Nat) (mid mbody : List UInt8) (mp' mt' mc' : Nat) (mid' mbody' : List UInt8) (bv bv' : Value) (w : World) (hb : BytesV w bv mbody) (hb' : BytesV w bv' mbody') (h : ¬ (⟨mp, mt, mc, mid, mbody⟩ : MsgD) = ⟨mp', mt', mc', mid', mbody'⟩) :
    Calls Tryz.prog 10 #[.agg (EvD.cs ⟨k, who, n, name, text, flag, snd, rcv, ⟨mp, mt, mc, mid, mbody⟩, ok, oa, ob, cond⟩ bv), .agg (EvD.cs ⟨k, who, n, name, text, flag, snd, rcv, ⟨mp', mt', mc', mid', mbody'⟩, ok', oa', ob', cond'⟩ bv')] w fun e w' => e = .returned (.bool false) ∧ Below w.heap.size w w' := by
  have hbl := ((Below.refl w.heap.size w).alloc (Nat.le_refl _) (.cells (EvD.cs ⟨k, who, n, name, text, flag, snd, rcv, ⟨mp, mt, mc, mid, mbody⟩, ok, oa, ob, cond⟩ bv) 30)).alloc (by simp) (.cells (EvD.cs ⟨k, who, n, name, text, flag, snd, rcv, ⟨mp', mt', mc', mid', mbody'⟩, ok', oa', ob', cond'⟩ bv') 30)
  have c0 : Calls Tryz.prog 26 #[.agg #[.int .u8 mp, .int .u32 mt, .int .u32 mc, S mid, bv], .agg #[.int .u8 mp', .int .u32 mt', .int .u32 mc', S mid', bv']] ((w.alloc (.cells (EvD.cs ⟨k, who, n, name, text, flag, snd, rcv, ⟨mp, mt, mc, mid, mbody⟩, ok, oa, ob, cond⟩ bv) 30)).alloc (.cells (EvD.cs ⟨k, who, n, name, text, flag, snd, rcv, ⟨mp', mt', mc', mid', mbody'⟩, ok', oa', ob', cond'⟩ bv') 30)) fun e w' => e = .returned (.bool false) ∧ Below ((w.alloc (.cells (EvD.cs ⟨k, who, n, name, text, flag, snd, rcv, ⟨mp, mt, mc, mid, mbody⟩, ok, oa, ob, cond⟩ bv) 30)).alloc (.cells (EvD.cs ⟨k, who, n, name, text, flag, snd, rcv, ⟨mp', mt', mc', mid', mbody'⟩, ok', oa', ob', cond'⟩ bv') 30)).heap.size ((w.alloc (.cells (EvD.cs ⟨k, who, n, name, text, flag, snd, rcv, ⟨mp, mt, mc, mid, mbody⟩, ok, oa, ob, cond⟩ bv) 30)).alloc (.cells (EvD.cs ⟨k, who, n, name, text, flag, snd, rcv, ⟨mp', mt', mc', mid', mbody'⟩, ok', oa', ob', cond'⟩ bv') 30)) w' :=
    (sameMsg ⟨mp, mt, mc, mid, mbody⟩ ⟨mp', mt', mc', mid', mbody'⟩ bv bv' _ (hb.below hbl (Nat.le_refl _)) (hb'.below hbl (Nat.le_refl _))).mono fun e w' ⟨⟨r, h1, h2⟩, h3⟩ => ⟨by rw [h1, (by cases r with | false => rfl | true => exact absurd (h2.1 rfl) h : r = false)], h3⟩
  generalize hQ : (fun (e : Ending) (w' : World) => e = .returned (.bool false) ∧ Below w.heap.size w w') = Q
  go_enter Tryz.func10, Tryz.ntmps10
  go_wp2_with fail
  refine c0.mono ?_
  rintro e w1 ⟨rfl, h1⟩
  have hb1 : Below w.heap.size w w1 := hbl.trans (h1.mono (by simp; omega))
  clear h1 c0 hb hb' hbl
  go_wp2_with fail
  subst hQ
  exact ⟨rfl, hb1⟩
end Go.Proofs.YtaojoifpekoecaaGreatDoor


namespace Go.Proofs.YtaojoifpekoecaaGreatDoor
open Go.RowKit Go.Shelf
set_option maxHeartbeats 4000000
set_option maxRecDepth 100000
theorem sameEv_out (k : Nat) (who : Int) (n : Int) (name : List UInt8) (text : List UInt8) (flag : Bool) (snd : Nat) (rcv : Nat) (ok ok' : Nat) (oa oa' : Nat) (ob ob' : Nat) (cond cond' : List UInt8) (mp mt mc : Nat) (mid mbody : List UInt8) (bv bv' : Value) (w : World) (hb : BytesV w bv mbody) (hb' : BytesV w bv' mbody) (h : ¬ (ok = ok' ∧ oa = oa' ∧ ob = ob' ∧ cond = cond')) :
    Calls Tryz.prog 10 #[.agg (EvD.cs ⟨k, who, n, name, text, flag, snd, rcv, ⟨mp, mt, mc, mid, mbody⟩, ok, oa, ob, cond⟩ bv), .agg (EvD.cs ⟨k, who, n, name, text, flag, snd, rcv, ⟨mp, mt, mc, mid, mbody⟩, ok', oa', ob', cond'⟩ bv')] w fun e w' => e = .returned (.bool false) ∧ Below w.heap.size w w' := by
  have hbl := ((Below.refl w.heap.size w).alloc (Nat.le_refl _) (.cells (EvD.cs ⟨k, who, n, name, text, flag, snd, rcv, ⟨mp, mt, mc, mid, mbody⟩, ok, oa, ob, cond⟩ bv) 30)).alloc (by simp) (.cells (EvD.cs ⟨k, who, n, name, text, flag, snd, rcv, ⟨mp, mt, mc, mid, mbody⟩, ok', oa', ob', cond'⟩ bv') 30)
  have c0 : Calls Tryz.prog 26 #[.agg #[.int .u8 mp, .int .u32 mt, .int .u32 mc, S mid, bv], .agg #[.int .u8 mp, .int .u32 mt, .int .u32 mc, S mid, bv']] ((w.alloc (.cells (EvD.cs ⟨k, who, n, name, text, flag, snd, rcv, ⟨mp, mt, mc, mid, mbody⟩, ok, oa, ob, cond⟩ bv) 30)).alloc (.cells (EvD.cs ⟨k, who, n, name, text, flag, snd, rcv, ⟨mp, mt, mc, mid, mbody⟩, ok', oa', ob', cond'⟩ bv') 30)) fun e w' => e = .returned (.bool true) ∧ Below ((w.alloc (.cells (EvD.cs ⟨k, who, n, name, text, flag, snd, rcv, ⟨mp, mt, mc, mid, mbody⟩, ok, oa, ob, cond⟩ bv) 30)).alloc (.cells (EvD.cs ⟨k, who, n, name, text, flag, snd, rcv, ⟨mp, mt, mc, mid, mbody⟩, ok', oa', ob', cond'⟩ bv') 30)).heap.size ((w.alloc (.cells (EvD.cs ⟨k, who, n, name, text, flag, snd, rcv, ⟨mp, mt, mc, mid, mbody⟩, ok, oa, ob, cond⟩ bv) 30)).alloc (.cells (EvD.cs ⟨k, who, n, name, text, flag, snd, rcv, ⟨mp, mt, mc, mid, mbody⟩, ok', oa', ob', cond'⟩ bv') 30)) w' :=
    (sameMsg ⟨mp, mt, mc, mid, mbody⟩ ⟨mp, mt, mc, mid, mbody⟩ bv bv' _ (hb.below hbl (Nat.le_refl _)) (hb'.below hbl (Nat.le_refl _))).mono fun e w' ⟨⟨r, h1, h2⟩, h3⟩ => ⟨by rw [h1, h2.2 rfl], h3⟩
  generalize hQ : (fun (e : Ending) (w' : World) => e = .returned (.bool false) ∧ Below w.heap.size w w') = Q
  go_enter Tryz.func10, Tryz.ntmps10
  go_wp2_with fail
  refine c0.mono ?_
  rintro e w1 ⟨rfl, h1⟩
  have hb1 : Below w.heap.size w w1 := hbl.trans (h1.mono (by simp; omega))
  have g0 := h1.block w.heap.size (by simp; omega)
  have g1 := h1.block (w.heap.size + 1) (by simp)
  rw [((Below.refl (w.heap.size + 1) (w.alloc (.cells (EvD.cs ⟨k, who, n, name, text, flag, snd, rcv, ⟨mp, mt, mc, mid, mbody⟩, ok, oa, ob, cond⟩ bv) 30))).alloc (by simp) (.cells (EvD.cs ⟨k, who, n, name, text, flag, snd, rcv, ⟨mp, mt, mc, mid, mbody⟩, ok', oa', ob', cond'⟩ bv') 30)).block _ (Nat.lt_succ_self _), heap_alloc_last w _] at g0
  rw [show w.heap.size + 1 = (w.alloc (.cells (EvD.cs ⟨k, who, n, name, text, flag, snd, rcv, ⟨mp, mt, mc, mid, mbody⟩, ok, oa, ob, cond⟩ bv) 30)).heap.size by simp, heap_alloc_last (w.alloc _) _, show (w.alloc (.cells (EvD.cs ⟨k, who, n, name, text, flag, snd, rcv, ⟨mp, mt, mc, mid, mbody⟩, ok, oa, ob, cond⟩ bv) 30)).heap.size = w.heap.size + 1 by simp] at g1
  have f0 : ∀ j, w1.cell? ⟨w.heap.size, j, none⟩ = (EvD.cs ⟨k, who, n, name, text, flag, snd, rcv, ⟨mp, mt, mc, mid, mbody⟩, ok, oa, ob, cond⟩ bv)[j]? := fun j => by unfold World.cell?; rw [g0]; rfl
  have f1 : ∀ j, w1.cell? ⟨w.heap.size + 1, j, none⟩ = (EvD.cs ⟨k, who, n, name, text, flag, snd, rcv, ⟨mp, mt, mc, mid, mbody⟩, ok', oa', ob', cond'⟩ bv')[j]? := fun j => by unfold World.cell?; rw [g1]; rfl
  have a13 : w1.cell? ⟨w.heap.size, 13, none⟩ = some (.int .u8 ok) := f0 13
  have a14 : w1.cell? ⟨w.heap.size, 14, none⟩ = some (.int .u64 oa) := f0 14
  have a15 : w1.cell? ⟨w.heap.size, 15, none⟩ = some (.int .u64 ob) := f0 15
  have a16 : w1.cell? ⟨w.heap.size, 16, none⟩ = some (S cond) := f0 16
  have b13 : w1.cell? ⟨w.heap.size + 1, 13, none⟩ = some (.int .u8 ok') := f1 13
  have b14 : w1.cell? ⟨w.heap.size + 1, 14, none⟩ = some (.int .u64 oa') := f1 14
  have b15 : w1.cell? ⟨w.heap.size + 1, 15, none⟩ = some (.int .u64 ob') := f1 15
  have b16 : w1.cell? ⟨w.heap.size + 1, 16, none⟩ = some (S cond') := f1 16
  have e1 := eqlOut ok ok' oa oa' ob ob' cond cond' w1
  have e2 := fun x y => guardOut x y #[.int .u8 ok, .int .u64 oa, .int .u64 ob, S cond] #[.int .u8 ok', .int .u64 oa', .int .u64 ob', S cond'] w1
  rw [decide_eq_false h] at e1
  clear f0 f1 g0 g1 h1 c0 hb hb' hbl
  go_wp2_with fail
  all_goals (subst hQ; first | exact ⟨rfl, hb1⟩ | exact absurd ⟨by omega, by omega, by omega, by first | rfl | assumption⟩ h | exact ⟨by simp_all, hb1⟩)
/-- SameEvent -/
theorem sameEv (a b : EvD) (bv bv' : Value) (w : World) (hb : BytesV w bv a.m.body) (hb' : BytesV w bv' b.m.body) :
    Calls Tryz.prog 10 #[.agg (a.cs bv), .agg (b.cs bv')] w fun e w' => (∃ r, e = .returned (.bool r) ∧ (r = true ↔ a = b)) ∧ Below w.heap.size w w' := by
  have no : ∀ {P : Prop}, ¬ P → Calls Tryz.prog 10 #[.agg (a.cs bv), .agg (b.cs bv')] w (fun e w' => e = .returned (.bool false) ∧ Below w.heap.size w w') → (a = b → P) → Calls Tryz.prog 10 #[.agg (a.cs bv), .agg (b.cs bv')] w fun e w' => (∃ r, e = .returned (.bool r) ∧ (r = true ↔ a = b)) ∧ Below w.heap.size w w' :=
    fun hn hc hi => hc.mono fun e w' ⟨h1, h2⟩ => ⟨⟨false, h1, ⟨fun h => (by cases h), fun h => absurd (hi h) hn⟩⟩, h2⟩
  obtain ⟨k, who, n, name, text, flag, snd, rcv, ⟨mp, mt, mc, mid, mbody⟩, ok, oa, ob, cond⟩ := a
  obtain ⟨k', who', n', name', text', flag', snd', rcv', ⟨mp', mt', mc', mid', mbody'⟩, ok', oa', ob', cond'⟩ := b
  by_cases h0 : k = k'
  case neg => exact no h0 (sameEv_k _ _ _ _ _ _ _ _ _ _ _ _ _ _ _ _ _ _ _ _ _ _ _ _ _ _ bv bv' w h0) (fun h => by cases h; rfl)
  subst h0
  by_cases h1 : who = who'
  case neg => exact no h1 (sameEv_who _ _ _ _ _ _ _ _ _ _ _ _ _ _ _ _ _ _ _ _ _ _ _ _ _ bv bv' w h1) (fun h => by cases h; rfl)
  subst h1
  by_cases h2 : n = n'
  case neg => exact no h2 (sameEv_n _ _ _ _ _ _ _ _ _ _ _ _ _ _ _ _ _ _ _ _ _ _ _ _ bv bv' w h2) (fun h => by cases h; rfl)
  subst h2
  by_cases h3 : name = name'
  case neg => exact no h3 (sameEv_name _ _ _ _ _ _ _ _ _ _ _ _ _ _ _ _ _ _ _ _ _ _ _ bv bv' w h3) (fun h => by cases h; rfl)
  subst h3
  by_cases h4 : text = text'
  case neg => exact no h4 (sameEv_text _ _ _ _ _ _ _ _ _ _ _ _ _ _ _ _ _ _ _ _ _ _ bv bv' w h4) (fun h => by cases h; rfl)
  subst h4
  by_cases h5 : flag = flag'
  case neg => exact no h5 (sameEv_flag _ _ _ _ _ _ _ _ _ _ _ _ _ _ _ _ _ _ _ _ _ bv bv' w h5) (fun h => by cases h; rfl)
  subst h5
  by_cases h6 : snd = snd'
  case neg => exact no h6 (sameEv_snd _ _ _ _ _ _ _ _ _ _ _ _ _ _ _ _ _ _ _ _ bv bv' w h6) (fun h => by cases h; rfl)
  subst h6
  by_cases h7 : rcv = rcv'
  case neg => exact no h7 (sameEv_rcv _ _ _ _ _ _ _ _ _ _ _ _ _ _ _ _ _ _ _ bv bv' w h7) (fun h => by cases h; rfl)
  subst h7
  by_cases h8 : (⟨mp, mt, mc, mid, mbody⟩ : MsgD) = ⟨mp', mt', mc', mid', mbody'⟩
  case neg => exact no h8 (sameEv_m _ _ _ _ _ _ _ _ _ _ _ _ _ _ _ _ _ _ _ _ _ _ _ _ _ _ bv bv' w hb hb' h8) (fun h => by cases h; rfl)
  cases h8
  by_cases h9 : ok = ok' ∧ oa = oa' ∧ ob = ob' ∧ cond = cond'
  case neg => exact no h9 (sameEv_out _ _ _ _ _ _ _ _ _ _ _ _ _ _ _ _ _ _ _ _ _ bv bv' w hb hb' h9) (fun h => by cases h; exact ⟨rfl, rfl, rfl, rfl⟩)
  obtain ⟨rfl, rfl, rfl, rfl⟩ := h9
  exact (sameEv_refl _ bv bv' w hb hb').mono fun e w' ⟨h1, h2⟩ => ⟨⟨true, h1, ⟨fun _ => rfl, fun _ => rfl⟩⟩, h2⟩
end Go.Proofs.YtaojoifpekoecaaGreatDoor
