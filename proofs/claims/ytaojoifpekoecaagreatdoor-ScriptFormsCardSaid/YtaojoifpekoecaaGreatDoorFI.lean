/-
  script.Form and the reference's Form: one same line, or none. Conditions: as each theorem says.
-/
import Derived.Test.YtaojoifpekoecaaGreatDoorFF
import Derived.Test.YtaojoifpekoecaaGreatDoorFG
import Derived.Test.YtaojoifpekoecaaGreatDoorFE
import Derived.Deep.RegionWith
import Derived.Test.YtaojoifpekoecaaGreatDoorFH
import Derived.Test.YtaojoifpekoecaaGreatDoorFD
namespace Go.Proofs.YtaojoifpekoecaaGreatDoor
open Go.RowKit Go.Shelf
set_option maxHeartbeats 400000
theorem wlen {m : MsgD} (hp : m.p < 256) (ht : m.t < 4294967296) (hc : m.c < 4294967296) (hi : m.id.length ≤ 100) (hb : m.body.length ≤ 4096) : (msgW m.p m.t m.c m.id m.body).length ≤ 140737488355328 :=
  Nat.le_trans (msgW_len m.p m.t m.c m.id m.body hp ht hc (by omega) (by omega)) (by omega)
/-- same -/
theorem sameS (a b : EvD) (bv bv' : Value) (w : World) (ha : a.Fine) (hsa : a.Slim) (hfb : b.Fine) (hsb : b.Slim) (htab : Pow w) (hb : BytesV w bv a.m.body) (hb' : BytesV w bv' b.m.body) :
    Calls Tryz.prog 23 #[.agg (a.cs bv), .agg (b.cs bv')] w fun e w' => (∃ r, e = .returned (.bool r) ∧ (r = true ↔ a = { b with k := a.k })) ∧ Below w.heap.size w w' := by
  have no : ∀ {P : Prop}, ¬ P → Calls Tryz.prog 23 #[.agg (a.cs bv), .agg (b.cs bv')] w (fun e w' => e = .returned (.bool false) ∧ Below w.heap.size w w') → (a = { b with k := a.k } → P) → Calls Tryz.prog 23 #[.agg (a.cs bv), .agg (b.cs bv')] w fun e w' => (∃ r, e = .returned (.bool r) ∧ (r = true ↔ a = { b with k := a.k })) ∧ Below w.heap.size w w' :=
    fun hn hc hi => hc.mono fun e w' ⟨h1, h2⟩ => ⟨⟨false, h1, ⟨fun h => (by cases h), fun h => absurd (hi h) hn⟩⟩, h2⟩
  have l1 := wlen ha.p ha.t ha.c hsa.2.2.2.1 hsa.2.2.2.2
  have l2 := wlen hfb.p hfb.t hfb.c hsb.2.2.2.1 hsb.2.2.2.2
  obtain ⟨k, who, n, name, text, flag, snd, rcv, ⟨mp, mt, mc, mid, mbody⟩, ok, oa, ob, cond⟩ := a
  obtain ⟨k', who', n', name', text', flag', snd', rcv', ⟨mp', mt', mc', mid', mbody'⟩, ok', oa', ob', cond'⟩ := b
  have s1 : mid.length ≤ 100 := hsa.2.2.2.1
  have s2 : mbody.length ≤ 4096 := hsa.2.2.2.2
  have s3 : mid'.length ≤ 100 := hsb.2.2.2.1
  have s4 : mbody'.length ≤ 4096 := hsb.2.2.2.2
  by_cases h1 : who = who'
  case neg => exact no h1 (by apply same_who; exact h1) (fun h => congrArg EvD.who h)
  subst h1
  by_cases h2 : n = n'
  case neg => exact no h2 (by apply same_n; exact h2) (fun h => congrArg EvD.n h)
  subst h2
  by_cases h3 : name = name'
  case neg => exact no h3 (by apply same_name; exact h3) (fun h => congrArg EvD.name h)
  subst h3
  by_cases h4 : text = text'
  case neg => exact no h4 (by apply same_text; exact h4) (fun h => congrArg EvD.text h)
  subst h4
  by_cases h5 : flag = flag'
  case neg => exact no h5 (by apply same_flag; exact h5) (fun h => congrArg EvD.flag h)
  subst h5
  by_cases h6 : snd = snd'
  case neg => exact no h6 (by apply same_snd; exact h6) (fun h => congrArg EvD.snd h)
  subst h6
  by_cases h7 : rcv = rcv'
  case neg => exact no h7 (by apply same_rcv; exact h7) (fun h => congrArg EvD.rcv h)
  subst h7
  by_cases h8 : msgW mp mt mc mid mbody = msgW mp' mt' mc' mid' mbody'
  case neg => exact no h8 (same_m _ _ _ _ _ _ _ _ _ _ _ _ _ _ _ _ _ _ _ _ _ _ _ _ _ _ _ bv bv' w ha.p ha.t ha.c (by omega) (by omega) hfb.p hfb.t hfb.c (by omega) (by omega) htab hb hb' l1 l2 h8) (fun h => by have := congrArg EvD.m h; cases this; rfl)
  by_cases h9 : ok = ok' ∧ oa = oa' ∧ ob = ob' ∧ cond = cond'
  case neg => exact no h9 (same_out _ _ _ _ _ _ _ _ _ _ _ _ _ _ _ _ _ _ _ _ _ _ _ _ _ _ _ bv bv' w ha.p ha.t ha.c (by omega) (by omega) hfb.p hfb.t hfb.c (by omega) (by omega) htab hb hb' l1 l2 h8 h9) (fun h => ⟨congrArg EvD.ok h, congrArg EvD.oa h, congrArg EvD.ob h, congrArg EvD.cond h⟩)
  obtain ⟨rfl, rfl, rfl, rfl⟩ := h9
  obtain ⟨rfl, rfl, rfl, rfl, rfl⟩ := msgW_inj ha.p ha.t ha.c hfb.p hfb.t hfb.c h8
  exact (same_refl _ _ _ _ _ _ _ _ _ _ _ _ _ _ _ _ _ _ _ _ _ _ _ bv bv' w ha.p ha.t ha.c (Nat.le_trans s1 (by decide)) (Nat.le_trans s2 (by decide)) hfb.p hfb.t hfb.c (Nat.le_trans s3 (by decide)) (Nat.le_trans s4 (by decide)) htab hb hb' l1 l2 rfl).mono fun e w' ⟨h1, h2⟩ => ⟨⟨true, h1, ⟨fun _ => rfl, fun _ => rfl⟩⟩, h2⟩
theorem q2_k (e : EvD) : (q2 e).k = e.k := by unfold q2; split <;> rfl
theorem q3_k (e : EvD) : (q3 e).k = e.k := by unfold q3; split <;> exact q2_k e
theorem only_k (e : EvD) : (onlyD e).k = e.k := by
  unfold onlyD
  split
  · exact q3_k e
  split
  · exact q3_k e
  split
  · exact q3_k e
  split <;> exact q3_k e
theorem q2_m (e : EvD) : (q2 e).m = mZ := by unfold q2; split <;> rfl
theorem q3_m (e : EvD) : (q3 e).m = mZ := by unfold q3; split <;> exact q2_m e
theorem q1_fine (e : EvD) (hf : e.Fine) : (q1 e).Fine := by
  have z : I64 0 := by constructor <;> decide
  have d1 : (0 : Nat) < 256 := by decide
  have d2 : (0 : Nat) < 4294967296 := by decide
  have d3 : (0 : Nat) < 18446744073709551616 := by decide
  exact ⟨hf.k, z, z, d1, d1, d1, d2, d2, d1, d3, d3⟩
theorem q2_fine (e : EvD) (hf : e.Fine) : (q2 e).Fine := by
  have h := q1_fine e hf
  unfold q2
  split
  · exact h
  · exact ⟨h.k, hf.who, h.n, h.snd, h.rcv, h.p, h.t, h.c, h.ok, h.oa, h.ob⟩
theorem q3_fine (e : EvD) (hf : e.Fine) : (q3 e).Fine := by
  have h := q2_fine e hf
  unfold q3
  split
  · exact ⟨h.k, h.who, h.n, h.snd, h.rcv, h.p, h.t, h.c, h.ok, h.oa, h.ob⟩
  · exact h
theorem only_fine (e : EvD) (hf : e.Fine) : (onlyD e).Fine := by
  have h := q3_fine e hf
  unfold onlyD
  split
  · exact ⟨h.k, h.who, hf.n, h.snd, h.rcv, h.p, h.t, h.c, h.ok, h.oa, h.ob⟩
  split
  · exact ⟨h.k, h.who, h.n, hf.snd, hf.rcv, h.p, h.t, h.c, h.ok, h.oa, h.ob⟩
  split
  · exact ⟨h.k, h.who, h.n, h.snd, h.rcv, hf.p, hf.t, hf.c, h.ok, h.oa, h.ob⟩
  split
  · exact ⟨h.k, h.who, h.n, h.snd, h.rcv, h.p, h.t, h.c, hf.ok, hf.oa, hf.ob⟩
  · exact h
theorem q2_slim (e : EvD) : (q2 e).Slim := by
  unfold q2
  split <;> exact ⟨Nat.zero_le _, Nat.zero_le _, Nat.zero_le _, Nat.zero_le _, Nat.zero_le _⟩
theorem q3_slim (e : EvD) (hs : e.Slim) : (q3 e).Slim := by
  obtain ⟨h1, h2, h3, h4, h5⟩ := q2_slim e
  unfold q3
  split
  · exact ⟨hs.1, h2, h3, h4, h5⟩
  · exact ⟨h1, h2, h3, h4, h5⟩
theorem only_slim (e : EvD) (hs : e.Slim) : (onlyD e).Slim := by
  obtain ⟨h1, h2, h3, h4, h5⟩ := q3_slim e hs
  obtain ⟨k1, k2, k3, k4, k5⟩ := hs
  unfold onlyD
  split
  · exact ⟨h1, h2, h3, h4, h5⟩
  split
  · exact ⟨h1, k2, h3, h4, h5⟩
  split
  · exact ⟨h1, h2, h3, k4, k5⟩
  split
  · exact ⟨h1, k2, k3, h4, h5⟩
  · exact ⟨h1, h2, h3, h4, h5⟩
theorem only_body {e : EvD} {bv : Value} {w : World} (hb : BytesV w bv e.m.body) : BytesV w (onlyB e bv) (onlyD e).m.body := by
  by_cases h7 : e.k = 7
  · have h1 : onlyB e bv = bv := if_pos h7
    have h2 : (onlyD e).m = e.m := by
      unfold onlyD
      rw [if_neg (by omega), if_neg (by omega), if_pos h7]
    rw [h1, h2]; exact hb
  · have h1 : onlyB e bv = nilB := if_neg h7
    have h2 : (onlyD e).m = mZ := by
      unfold onlyD
      rw [if_neg h7]
      split
      · exact q3_m e
      split
      · exact q3_m e
      split <;> exact q3_m e
    rw [h1, h2]
    exact ⟨none, 0, rfl, fun h => absurd rfl h⟩
end Go.Proofs.YtaojoifpekoecaaGreatDoor


namespace Go.Proofs.YtaojoifpekoecaaGreatDoor
open Go.RowKit Go.Shelf
set_option maxHeartbeats 4000000
set_option maxRecDepth 100000
/-- an event that has a line -/
def Good (e : EvD) : Prop := 1 ≤ e.k ∧ e.k < 14 ∧ onlyD e = e
/-- an event's line, or that it has none -/
def FormP (e : EvD) (r : Ending) : Prop := (Good e ∧ r = .returned (.tuple #[S (Lib.join (wordsD e) [32]), .int .i64 0])) ∨ (¬ Good e ∧ r = .returned (.tuple #[S [], .int .i64 1]))
theorem only_eq (e : EvD) : (e = { onlyD e with k := e.k }) ↔ onlyD e = e := by
  have h : ({ onlyD e with k := e.k } : EvD) = onlyD e := by rw [← only_k e]
  rw [h]
  exact ⟨fun h => h.symm, fun h => h.symm⟩
theorem form0 (e : EvD) (bv : Value) (w : World) (hk : e.k = 0) :
    Calls Tryz.prog 8 #[.agg (e.cs bv)] w fun r w' => FormP e r ∧ Below w.heap.size w w' := by
  have hng : ¬ Good e := fun h => by have h1 := h.1; have h2 := h.2.1; omega
  have i0 : (e.k : Int) = 0 := by omega
  generalize hQ : (fun (r : Ending) (w' : World) => FormP e r ∧ Below w.heap.size w w') = Q
  have hE : (w.alloc (.cells (e.cs bv) 30)).drew.heap[w.heap.size]? = some (.cells (e.cs bv) 30) := heap_alloc_last w _
  have hb0 : Below w.heap.size w (w.alloc (.cells (e.cs bv) 30)).drew := ((Below.refl _ _).alloc (Nat.le_refl _) _).drew
  go_enter Tryz.func8, Tryz.ntmps8
  go_wp2_with fail
  refine wp_region_noPanic ?_
  refine wp_region_held_drew (S := fun W => W.heap[w.heap.size]? = some (.cells (e.cs bv) 30)) (by kernel_rfl) hE (fun hHeld => ?_)
  refine takeD (i := 0) (oi := _) (v := ?_) 6 rfl rfl (by kernel_rfl) (by kernel_rfl) (by kernel_rfl) (fun _ _ _ h => h) (Or.inl ⟨by rfl, ?_⟩) hHeld ?_
  rotate_left 1
  · intro W hS
    have q : W.cell? ⟨w.heap.size, 0, none⟩ = some (.int .u8 e.k) := cell_of hS
    go_simp <;> with_reducible rfl
  try simp only [Act.put]
  try simp only [List.setIfInBounds_toArray]
  try simp only [List.set_cons_succ]
  try simp only [List.set_cons_zero]
  refine takeD (i := 1) (oi := _) (v := .int .u8 (e.k : Int)) 7 rfl rfl (by kernel_rfl) (by kernel_rfl) (by kernel_rfl) (fun _ _ _ h => h) (Or.inl ⟨by rfl, ?_⟩) hHeld ?_
  · intro W hS
    have q : W.cell? ⟨w.heap.size, 0, none⟩ = some (.int .u8 e.k) := cell_of hS
    go_simp
  try simp only [Act.put]
  try simp only [List.setIfInBounds_toArray]
  try simp only [List.set_cons_succ]
  try simp only [List.set_cons_zero]
  refine takeD (i := 2) (oi := _) (v := .bool true) 8 rfl rfl (by kernel_rfl) (by kernel_rfl) (by kernel_rfl) (fun _ _ _ h => h) (Or.inl ⟨by rfl, ?_⟩) hHeld ?_
  · intro W hS
    have q : W.cell? ⟨w.heap.size, 0, none⟩ = some (.int .u8 e.k) := cell_of hS
    go_simp
  try simp only [Act.put]
  try simp only [List.setIfInBounds_toArray]
  try simp only [List.set_cons_succ]
  try simp only [List.set_cons_zero]
  refine takeD (i := 3) (oi := _) (v := .bool true) 9 rfl rfl (by kernel_rfl) (by kernel_rfl) (by kernel_rfl) (fun _ _ _ h => h) (Or.inl ⟨by rfl, fun _ _ => rfl⟩) hHeld ?_
  try simp only [Act.put]
  try simp only [List.setIfInBounds_toArray]
  try simp only [List.set_cons_succ]
  try simp only [List.set_cons_zero]
  refine takeD (i := 4) (oi := _) (v := undef) 10 rfl rfl (by kernel_rfl) (by kernel_rfl) (by kernel_rfl) (fun _ _ _ h => h) (Or.inr ⟨by rfl, rfl⟩) hHeld ?_
  try simp only [Act.put]
  try simp only [List.setIfInBounds_toArray]
  try simp only [List.set_cons_succ]
  try simp only [List.set_cons_zero]
  refine takeD (i := 5) (oi := _) (v := undef) 11 rfl rfl (by kernel_rfl) (by kernel_rfl) (by kernel_rfl) (fun _ _ _ h => h) (Or.inr ⟨by rfl, rfl⟩) hHeld ?_
  try simp only [Act.put]
  try simp only [List.setIfInBounds_toArray]
  try simp only [List.set_cons_succ]
  try simp only [List.set_cons_zero]
  refine takeD (i := 6) (oi := _) (v := undef) 12 rfl rfl (by kernel_rfl) (by kernel_rfl) (by kernel_rfl) (fun _ _ _ h => h) (Or.inr ⟨by rfl, rfl⟩) hHeld ?_
  try simp only [Act.put]
  try simp only [List.setIfInBounds_toArray]
  try simp only [List.set_cons_succ]
  try simp only [List.set_cons_zero]
  refine takeD (i := 7) (oi := _) (v := undef) 13 rfl rfl (by kernel_rfl) (by kernel_rfl) (by kernel_rfl) (fun _ _ _ h => h) (Or.inr ⟨by rfl, rfl⟩) hHeld ?_
  try simp only [Act.put]
  try simp only [List.setIfInBounds_toArray]
  try simp only [List.set_cons_succ]
  try simp only [List.set_cons_zero]
  refine takeD (i := 8) (oi := _) (v := undef) 14 rfl rfl (by kernel_rfl) (by kernel_rfl) (by kernel_rfl) (fun _ _ _ h => h) (Or.inr ⟨by rfl, rfl⟩) hHeld ?_
  try simp only [Act.put]
  try simp only [List.setIfInBounds_toArray]
  try simp only [List.set_cons_succ]
  try simp only [List.set_cons_zero]
  refine takeD (i := 9) (oi := _) (v := undef) 15 rfl rfl (by kernel_rfl) (by kernel_rfl) (by kernel_rfl) (fun _ _ _ h => h) (Or.inr ⟨by rfl, rfl⟩) hHeld ?_
  try simp only [Act.put]
  try simp only [List.setIfInBounds_toArray]
  try simp only [List.set_cons_succ]
  try simp only [List.set_cons_zero]
  refine takeD (i := 10) (oi := _) (v := .bool true) 16 rfl rfl (by kernel_rfl) (by kernel_rfl) (by kernel_rfl) (fun _ _ _ h => h) (Or.inl ⟨by rfl, fun _ _ => rfl⟩) hHeld ?_
  try simp only [Act.put]
  try simp only [List.setIfInBounds_toArray]
  try simp only [List.set_cons_succ]
  try simp only [List.set_cons_zero]
  refine wpAnyH_done (by kernel_rfl) ?_ _
  refine NoPanic.normal ?_
  go_wp2_with fail
  subst hQ
  exact ⟨.inr ⟨hng, rfl⟩, hb0⟩
theorem form14 (e : EvD) (bv : Value) (w : World) (hk : 14 ≤ e.k) (hk2 : e.k < 256) :
    Calls Tryz.prog 8 #[.agg (e.cs bv)] w fun r w' => FormP e r ∧ Below w.heap.size w w' := by
  have hng : ¬ Good e := fun h => by have h1 := h.1; have h2 := h.2.1; omega
  have i0 : ¬ (e.k : Int) = 0 := by omega
  have b0 : ((e.k : Int) == 0) = false := beq_eq_false_iff_ne.2 i0
  have i14 : (14 : Int) ≤ (e.k : Int) := by omega
  have wk : IntKind.i64.wrap (e.k : Int) = e.k := by rw [IntKind.wrap_i64]; omega
  generalize hQ : (fun (r : Ending) (w' : World) => FormP e r ∧ Below w.heap.size w w') = Q
  have hE : (w.alloc (.cells (e.cs bv) 30)).drew.heap[w.heap.size]? = some (.cells (e.cs bv) 30) := heap_alloc_last w _
  have hb0 : Below w.heap.size w (w.alloc (.cells (e.cs bv) 30)).drew := ((Below.refl _ _).alloc (Nat.le_refl _) _).drew
  go_enter Tryz.func8, Tryz.ntmps8
  go_wp2_with fail
  refine wp_region_noPanic ?_
  refine wp_region_held_drew (S := fun W => W.heap[w.heap.size]? = some (.cells (e.cs bv) 30)) (by kernel_rfl) hE (fun hHeld => ?_)
  refine takeD (i := 0) (oi := _) (v := ?_) 6 rfl rfl (by kernel_rfl) (by kernel_rfl) (by kernel_rfl) (fun _ _ _ h => h) (Or.inl ⟨by rfl, ?_⟩) hHeld ?_
  rotate_left 1
  · intro W hS
    have q : W.cell? ⟨w.heap.size, 0, none⟩ = some (.int .u8 e.k) := cell_of hS
    go_simp <;> with_reducible rfl
  try simp only [Act.put]
  try simp only [List.setIfInBounds_toArray]
  try simp only [List.set_cons_succ]
  try simp only [List.set_cons_zero]
  refine takeD (i := 1) (oi := _) (v := .int .u8 (e.k : Int)) 7 rfl rfl (by kernel_rfl) (by kernel_rfl) (by kernel_rfl) (fun _ _ _ h => h) (Or.inl ⟨by rfl, ?_⟩) hHeld ?_
  · intro W hS
    have q : W.cell? ⟨w.heap.size, 0, none⟩ = some (.int .u8 e.k) := cell_of hS
    go_simp
  try simp only [Act.put]
  try simp only [List.setIfInBounds_toArray]
  try simp only [List.set_cons_succ]
  try simp only [List.set_cons_zero]
  refine takeD (i := 2) (oi := _) (v := .bool false) 8 rfl rfl (by kernel_rfl) (by kernel_rfl) (by kernel_rfl) (fun _ _ _ h => h) (Or.inl ⟨by rfl, ?_⟩) hHeld ?_
  · intro W hS
    have q : W.cell? ⟨w.heap.size, 0, none⟩ = some (.int .u8 e.k) := cell_of hS
    go_simp
  try simp only [Act.put]
  try simp only [List.setIfInBounds_toArray]
  try simp only [List.set_cons_succ]
  try simp only [List.set_cons_zero]
  refine takeD (i := 3) (oi := _) (v := .bool false) 9 rfl rfl (by kernel_rfl) (by kernel_rfl) (by kernel_rfl) (fun _ _ _ h => h) (Or.inl ⟨by rfl, fun _ _ => rfl⟩) hHeld ?_
  try simp only [Act.put]
  try simp only [List.setIfInBounds_toArray]
  try simp only [List.set_cons_succ]
  try simp only [List.set_cons_zero]
  refine takeD (i := 4) (oi := _) (v := ?_) 10 rfl rfl (by kernel_rfl) (by kernel_rfl) (by kernel_rfl) (fun _ _ _ h => h) (Or.inl ⟨by rfl, ?_⟩) hHeld ?_
  rotate_left 1
  · intro W hS
    have q : W.cell? ⟨w.heap.size, 0, none⟩ = some (.int .u8 e.k) := cell_of hS
    go_simp <;> with_reducible rfl
  try simp only [Act.put]
  try simp only [List.setIfInBounds_toArray]
  try simp only [List.set_cons_succ]
  try simp only [List.set_cons_zero]
  refine takeD (i := 5) (oi := _) (v := .int .u8 (e.k : Int)) 11 rfl rfl (by kernel_rfl) (by kernel_rfl) (by kernel_rfl) (fun _ _ _ h => h) (Or.inl ⟨by rfl, ?_⟩) hHeld ?_
  · intro W hS
    have q : W.cell? ⟨w.heap.size, 0, none⟩ = some (.int .u8 e.k) := cell_of hS
    go_simp
  try simp only [Act.put]
  try simp only [List.setIfInBounds_toArray]
  try simp only [List.set_cons_succ]
  try simp only [List.set_cons_zero]
  refine takeD (i := 6) (oi := _) (v := .int .i64 (e.k : Int)) 12 rfl rfl (by kernel_rfl) (by kernel_rfl) (by kernel_rfl) (fun _ _ _ h => h) (Or.inl ⟨by rfl, ?_⟩) hHeld ?_
  · intro W hS
    have q : W.cell? ⟨w.heap.size, 0, none⟩ = some (.int .u8 e.k) := cell_of hS
    go_simp
  try simp only [Act.put]
  try simp only [List.setIfInBounds_toArray]
  try simp only [List.set_cons_succ]
  try simp only [List.set_cons_zero]
  refine wpAnyH_ready (rs := [7]) (by kernel_rfl) (by simp) ?_
  refine AllReadyH.cons (o := _) rfl (fun K hK => ?_) AllReadyH.nil
  go_simp
  go_at_call 21
  refine (words _).mono ?_
  rintro r w1 ⟨rfl, hb1, hw1⟩
  have hE1 : w1.heap[w.heap.size]? = some (.cells (e.cs bv) 30) := (hb1.block _ (lt_of hE)).trans hE
  go_wp2_with fail
  refine hK.out _ _ hE1 (fun hHeld => ?_)
  clear hK K
  try simp only [Act.put]
  try simp only [List.setIfInBounds_toArray]
  try simp only [List.set_cons_succ]
  try simp only [List.set_cons_zero]
  refine takeD (i := 8) (oi := _) (v := .int .i64 14) 14 rfl rfl (by kernel_rfl) (by kernel_rfl) (by kernel_rfl) (fun _ _ _ h => h) (Or.inl ⟨by rfl, ?_⟩) hHeld ?_
  · intro W hS
    have q : W.cell? ⟨w.heap.size, 0, none⟩ = some (.int .u8 e.k) := cell_of hS
    go_simp
  try simp only [Act.put]
  try simp only [List.setIfInBounds_toArray]
  try simp only [List.set_cons_succ]
  try simp only [List.set_cons_zero]
  refine takeD (i := 9) (oi := _) (v := .bool true) 15 rfl rfl (by kernel_rfl) (by kernel_rfl) (by kernel_rfl) (fun _ _ _ h => h) (Or.inl ⟨by rfl, ?_⟩) hHeld ?_
  · intro W hS
    have q : W.cell? ⟨w.heap.size, 0, none⟩ = some (.int .u8 e.k) := cell_of hS
    go_simp
  try simp only [Act.put]
  try simp only [List.setIfInBounds_toArray]
  try simp only [List.set_cons_succ]
  try simp only [List.set_cons_zero]
  refine takeD (i := 10) (oi := _) (v := .bool true) 16 rfl rfl (by kernel_rfl) (by kernel_rfl) (by kernel_rfl) (fun _ _ _ h => h) (Or.inl ⟨by rfl, fun _ _ => rfl⟩) hHeld ?_
  try simp only [Act.put]
  try simp only [List.setIfInBounds_toArray]
  try simp only [List.set_cons_succ]
  try simp only [List.set_cons_zero]
  refine wpAnyH_done (by kernel_rfl) ?_ _
  refine NoPanic.normal ?_
  go_wp2_with fail
  subst hQ
  exact ⟨.inr ⟨hng, rfl⟩, hb0.trans (hb1.mono (by simp))⟩
theorem formIn (e : EvD) (bv : Value) (w : World) (hk1 : 1 ≤ e.k) (hk2 : e.k < 14) (hf : e.Fine) (hs : e.Slim) (hb : BytesV w bv e.m.body) (htab : Pow w) :
    Calls Tryz.prog 8 #[.agg (e.cs bv)] w fun r w' => FormP e r ∧ Below w.heap.size w w' := by
  have hb00 := hb
  obtain ⟨ba, bc, rfl, _⟩ := hb00
  have i0 : ¬ (e.k : Int) = 0 := by omega
  have b0 : ((e.k : Int) == 0) = false := beq_eq_false_iff_ne.2 i0
  have i14 : ¬ (14 : Int) ≤ (e.k : Int) := by omega
  have wk : IntKind.i64.wrap (e.k : Int) = e.k := by rw [IntKind.wrap_i64]; omega
  obtain ⟨bq, nq, cq0, hbq⟩ : ∃ a n c, onlyB e (.slice ba e.m.body.length bc) = .slice a n c := by
    unfold onlyB
    by_cases h7 : e.k = 7
    · rw [if_pos h7]; exact ⟨_, _, _, rfl⟩
    · rw [if_neg h7]; exact ⟨_, _, _, rfl⟩
  generalize hQ : (fun (r : Ending) (w' : World) => FormP e r ∧ Below w.heap.size w w') = Q
  have hE : (w.alloc (.cells (e.cs (.slice ba e.m.body.length bc)) 30)).drew.heap[w.heap.size]? = some (.cells (e.cs (.slice ba e.m.body.length bc)) 30) := heap_alloc_last w _
  have hb0 : Below w.heap.size w (w.alloc (.cells (e.cs (.slice ba e.m.body.length bc)) 30)).drew := ((Below.refl _ _).alloc (Nat.le_refl _) _).drew
  go_enter Tryz.func8, Tryz.ntmps8
  go_wp2_with fail
  refine wp_region_noPanic ?_
  refine wp_region_held_drew (S := fun W => W.heap[w.heap.size]? = some (.cells (e.cs (.slice ba e.m.body.length bc)) 30)) (by kernel_rfl) hE (fun hHeld => ?_)
  refine takeD (i := 0) (oi := _) (v := ?_) 6 rfl rfl (by kernel_rfl) (by kernel_rfl) (by kernel_rfl) (fun _ _ _ h => h) (Or.inl ⟨by rfl, ?_⟩) hHeld ?_
  rotate_left 1
  · intro W hS
    have q : W.cell? ⟨w.heap.size, 0, none⟩ = some (.int .u8 e.k) := cell_of hS
    go_simp <;> with_reducible rfl
  try simp only [Act.put]
  try simp only [List.setIfInBounds_toArray]
  try simp only [List.set_cons_succ]
  try simp only [List.set_cons_zero]
  refine takeD (i := 1) (oi := _) (v := .int .u8 (e.k : Int)) 7 rfl rfl (by kernel_rfl) (by kernel_rfl) (by kernel_rfl) (fun _ _ _ h => h) (Or.inl ⟨by rfl, ?_⟩) hHeld ?_
  · intro W hS
    have q : W.cell? ⟨w.heap.size, 0, none⟩ = some (.int .u8 e.k) := cell_of hS
    go_simp
  try simp only [Act.put]
  try simp only [List.setIfInBounds_toArray]
  try simp only [List.set_cons_succ]
  try simp only [List.set_cons_zero]
  refine takeD (i := 2) (oi := _) (v := .bool false) 8 rfl rfl (by kernel_rfl) (by kernel_rfl) (by kernel_rfl) (fun _ _ _ h => h) (Or.inl ⟨by rfl, ?_⟩) hHeld ?_
  · intro W hS
    have q : W.cell? ⟨w.heap.size, 0, none⟩ = some (.int .u8 e.k) := cell_of hS
    go_simp
  try simp only [Act.put]
  try simp only [List.setIfInBounds_toArray]
  try simp only [List.set_cons_succ]
  try simp only [List.set_cons_zero]
  refine takeD (i := 3) (oi := _) (v := .bool false) 9 rfl rfl (by kernel_rfl) (by kernel_rfl) (by kernel_rfl) (fun _ _ _ h => h) (Or.inl ⟨by rfl, fun _ _ => rfl⟩) hHeld ?_
  try simp only [Act.put]
  try simp only [List.setIfInBounds_toArray]
  try simp only [List.set_cons_succ]
  try simp only [List.set_cons_zero]
  refine takeD (i := 4) (oi := _) (v := ?_) 10 rfl rfl (by kernel_rfl) (by kernel_rfl) (by kernel_rfl) (fun _ _ _ h => h) (Or.inl ⟨by rfl, ?_⟩) hHeld ?_
  rotate_left 1
  · intro W hS
    have q : W.cell? ⟨w.heap.size, 0, none⟩ = some (.int .u8 e.k) := cell_of hS
    go_simp <;> with_reducible rfl
  try simp only [Act.put]
  try simp only [List.setIfInBounds_toArray]
  try simp only [List.set_cons_succ]
  try simp only [List.set_cons_zero]
  refine takeD (i := 5) (oi := _) (v := .int .u8 (e.k : Int)) 11 rfl rfl (by kernel_rfl) (by kernel_rfl) (by kernel_rfl) (fun _ _ _ h => h) (Or.inl ⟨by rfl, ?_⟩) hHeld ?_
  · intro W hS
    have q : W.cell? ⟨w.heap.size, 0, none⟩ = some (.int .u8 e.k) := cell_of hS
    go_simp
  try simp only [Act.put]
  try simp only [List.setIfInBounds_toArray]
  try simp only [List.set_cons_succ]
  try simp only [List.set_cons_zero]
  refine takeD (i := 6) (oi := _) (v := .int .i64 (e.k : Int)) 12 rfl rfl (by kernel_rfl) (by kernel_rfl) (by kernel_rfl) (fun _ _ _ h => h) (Or.inl ⟨by rfl, ?_⟩) hHeld ?_
  · intro W hS
    have q : W.cell? ⟨w.heap.size, 0, none⟩ = some (.int .u8 e.k) := cell_of hS
    go_simp
  try simp only [Act.put]
  try simp only [List.setIfInBounds_toArray]
  try simp only [List.set_cons_succ]
  try simp only [List.set_cons_zero]
  refine wpAnyH_ready (rs := [7]) (by kernel_rfl) (by simp) ?_
  refine AllReadyH.cons (o := _) rfl (fun K hK => ?_) AllReadyH.nil
  go_simp
  go_at_call 21
  refine (words _).mono ?_
  rintro r w1 ⟨rfl, hb1, hw1⟩
  have hE1 : w1.heap[w.heap.size]? = some (.cells (e.cs (.slice ba e.m.body.length bc)) 30) := (hb1.block _ (lt_of hE)).trans hE
  go_wp2_with fail
  refine hK.out _ _ hE1 (fun hHeld => ?_)
  clear hK K
  try simp only [Act.put]
  try simp only [List.setIfInBounds_toArray]
  try simp only [List.set_cons_succ]
  try simp only [List.set_cons_zero]
  refine takeD (i := 8) (oi := _) (v := .int .i64 14) 14 rfl rfl (by kernel_rfl) (by kernel_rfl) (by kernel_rfl) (fun _ _ _ h => h) (Or.inl ⟨by rfl, ?_⟩) hHeld ?_
  · intro W hS
    have q : W.cell? ⟨w.heap.size, 0, none⟩ = some (.int .u8 e.k) := cell_of hS
    go_simp
  try simp only [Act.put]
  try simp only [List.setIfInBounds_toArray]
  try simp only [List.set_cons_succ]
  try simp only [List.set_cons_zero]
  refine takeD (i := 9) (oi := _) (v := .bool false) 15 rfl rfl (by kernel_rfl) (by kernel_rfl) (by kernel_rfl) (fun _ _ _ h => h) (Or.inl ⟨by rfl, ?_⟩) hHeld ?_
  · intro W hS
    have q : W.cell? ⟨w.heap.size, 0, none⟩ = some (.int .u8 e.k) := cell_of hS
    go_simp
  try simp only [Act.put]
  try simp only [List.setIfInBounds_toArray]
  try simp only [List.set_cons_succ]
  try simp only [List.set_cons_zero]
  refine takeD (i := 10) (oi := _) (v := .bool false) 16 rfl rfl (by kernel_rfl) (by kernel_rfl) (by kernel_rfl) (fun _ _ _ h => h) (Or.inl ⟨by rfl, fun _ _ => rfl⟩) hHeld ?_
  try simp only [Act.put]
  try simp only [List.setIfInBounds_toArray]
  try simp only [List.set_cons_succ]
  try simp only [List.set_cons_zero]
  refine wpAnyH_done (by kernel_rfl) ?_ _
  refine NoPanic.normal ?_
  have hb1' : Below w.heap.size w w1 := hb0.trans (hb1.mono (by simp))
  have c22 : Calls Tryz.prog 22 #[.agg (e.cs (.slice ba e.m.body.length bc))] w1 fun r w' => r = .returned (.tuple #[S (Lib.join (wordsD e) [32]), .agg ((onlyD e).cs (.slice bq nq cq0))]) ∧ Below w1.heap.size w1 w' := by
    have := line e _ w1 hk1 hk2 hf hs (hb.below hb1' (Nat.le_refl _)) (htab.below hb1' (Nat.le_refl _))
    rwa [hbq] at this
  go_wp2_with (first
    | (refine wpList_load_row rfl 30 _ rfl w.heap.size rfl 30 _ (0, 0) _ hE1 Tryz.underlying30 rfl info30' ?_)
    | (go_at_call 22; with_reducible refine c22.mono ?_; rintro r w2 ⟨rfl, hb2⟩; have hz2 := heap_alloc_last w2 (.cells zEv 30))
    | (refine wpList_store_whole rfl 30 _ _ rfl w2.heap.size ((onlyD e).cs (.slice bq nq cq0)) _ 30 rfl rfl hz2 rfl info30' rfl ?_; intro w3 h3 hbut hsz3
       have hbw : Below w1.heap.size w1 w3 := (hb2.trans ((Below.refl _ _).alloc hb2.size _)).trans (hbut.below (by have := hb2.size; omega) (by simp; have := hb2.size; omega))
       have hE3 : w3.heap[w.heap.size]? = some (.cells (e.cs (.slice ba e.m.body.length bc)) 30) := (hbw.block _ (lt_of hE1)).trans hE1
       have hb3 := hb1'.trans (hbw.mono hb1'.size)
       have c23 := sameS e (onlyD e) (.slice ba e.m.body.length bc) (.slice bq nq cq0) w3 hf hs (only_fine e hf) (only_slim e hs) (htab.below hb3 (Nat.le_refl _)) (hb.below hb3 (Nat.le_refl _)) (hbq ▸ only_body (hb.below hb3 (Nat.le_refl _))))
    | (refine wpList_load_row rfl 30 _ rfl w.heap.size rfl 30 _ (0, 0) _ hE3 Tryz.underlying30 rfl info30' ?_)
    | (refine wpList_load_row rfl 30 _ rfl w2.heap.size rfl 30 _ (0, 0) _ h3 Tryz.underlying30 rfl info30' ?_)
    | (go_at_call 23; with_reducible refine c23.mono ?_; rintro r w4 ⟨⟨b, rfl, hbe⟩, hb4⟩))
  all_goals
    subst hQ
    have hbg : b = true ↔ Good e := by rw [hbe, only_eq]; exact ⟨fun h => ⟨hk1, hk2, h⟩, fun h => h.2.2⟩
    have hbl := hb3.trans (hb4.mono hb3.size)
  · cases b
    · exact ⟨.inr ⟨fun h => (by cases hbg.2 h), rfl⟩, hbl⟩
    · exact absurd ‹(!true) = true› (by decide)
  · cases b
    · exact absurd ‹(!false) = false› (by decide)
    · exact ⟨.inl ⟨hbg.1 rfl, rfl⟩, hbl⟩
/-- Form -/
theorem formS (e : EvD) (bv : Value) (w : World) (hf : e.Fine) (hs : e.Slim) (hb : BytesV w bv e.m.body) (htab : Pow w) :
    Calls Tryz.prog 8 #[.agg (e.cs bv)] w fun r w' => FormP e r ∧ Below w.heap.size w w' := by
  by_cases h0 : e.k = 0
  · exact form0 e bv w h0
  · by_cases h14 : 14 ≤ e.k
    · exact form14 e bv w h14 hf.k
    · exact formIn e bv w (by omega) (by omega) hf hs hb htab
end Go.Proofs.YtaojoifpekoecaaGreatDoor


namespace Go.Proofs.YtaojoifpekoecaaGreatDoor
open Go.RowKit Go.Shelf
set_option maxHeartbeats 4000000
set_option maxRecDepth 100000
section
variable {P : Program}
/-- a whole block loaded, by an operation with a guard -/
theorem wpList_load_if {ops : Array Oper} {rest : List Oper} {o : Oper} {a : Act} {w : World} {Q : Exit → Act → World → Prop} (hw : Region.wanted o (yielded ops a.tmps) = true) (ty : TypeId) (x : Operand) (ho : o.op = .load ty x)
    (g : Nat) (hx : a.eval x = .pointer (some ⟨g, 0, none⟩)) (t : TypeId) (cs : Array Value) (fr : Nat × Nat) (d : TypeDesc) (hg : w.heap[g]? = some (.cells cs t fr))
    (hu : P.underlying ty = some d) (hd : (match d with | .struct _ | .array _ _ => true | _ => false) = true) (hi : (P.info? ty).map (·.size) = some cs.size)
    (h : wpList P ops Q rest (a.put o.dst (.agg cs)) w) : wpList P ops Q (o :: rest) a w :=
  wpList_step fun K hK => by
    simp only [hw, if_true]
    exact wp_load_row ty x ho g hx t cs fr d hg hu hd hi (hK _ _ h)
end
theorem kw_out (e : EvD) (hk : e.k = 0 ∨ 14 ≤ e.k) : (kindWs[e.k]?).getD [] = [] := by
  rcases hk with h | h
  · rw [h]; rfl
  · rw [List.getElem?_eq_none (by show 14 ≤ e.k; exact h)]; rfl
/-- only, of a kind that is none -/
theorem onlyOut (e : EvD) (bv : Value) (w : World) (hk : e.k = 0 ∨ 14 ≤ e.k) (hk2 : e.k < 256) (hb : BytesV w bv e.m.body) :
    Calls Tryz.prog 24 #[.agg (e.cs bv)] w fun r w' => (∃ v, r = .returned (.tuple #[.agg ((q1 e).cs nilB), v]) ∧ StrsV w' v [[]]) ∧ Below w.heap.size w w' := by
  have hb0 := hb
  obtain ⟨ba, bc, rfl, _⟩ := hb0
  have hkn : ((kindWs[e.k]?).getD []).isEmpty = true := by rw [kw_out e hk]; rfl
  have c65 := fun W => refWord e.k hk2 W
  have v1 : ∀ W : World, (W.alloc (.cells (e.cs (.slice ba e.m.body.length bc)) 30)).heap.size = W.heap.size + 1 := fun W => by simp
  have z0 : (((w.alloc (.cells (e.cs (.slice ba e.m.body.length bc)) 30)).alloc (.cells zEv 30)).alloc (.cells zEv 30)).heap[w.heap.size + 1 + 1]? = some (.cells zEv 30) := by
    have := heap_alloc_last ((w.alloc (.cells (e.cs (.slice ba e.m.body.length bc)) 30)).alloc (.cells zEv 30)) (.cells zEv 30)
    simpa using this
  have y0 : (((w.alloc (.cells (e.cs (.slice ba e.m.body.length bc)) 30)).alloc (.cells zEv 30)).alloc (.cells zEv 30)).heap[w.heap.size]? = some (.cells (e.cs (.slice ba e.m.body.length bc)) 30) := by
    rw [((Below.refl (w.heap.size + 2) ((w.alloc (.cells (e.cs (.slice ba e.m.body.length bc)) 30)).alloc (.cells zEv 30))).alloc (by simp) _).block _ (by omega)]; exact heap_alloc2_old w _ _
  have y1 : (((w.alloc (.cells (e.cs (.slice ba e.m.body.length bc)) 30)).alloc (.cells zEv 30)).alloc (.cells zEv 30)).heap[w.heap.size + 1]? = some (.cells zEv 30) := by
    rw [((Below.refl (w.heap.size + 2) ((w.alloc (.cells (e.cs (.slice ba e.m.body.length bc)) 30)).alloc (.cells zEv 30))).alloc (by simp) _).block _ (by omega)]; exact heap_alloc2_new w _ _
  have hbl0 : Below w.heap.size w (((w.alloc (.cells (e.cs (.slice ba e.m.body.length bc)) 30)).alloc (.cells zEv 30)).alloc (.cells zEv 30)) := (((Below.refl w.heap.size w).alloc (Nat.le_refl _) _).alloc (by simp) _).alloc (by simp; omega) _
  generalize hQ : (fun (r : Ending) (w' : World) => (∃ v, r = .returned (.tuple #[.agg ((q1 e).cs nilB), v]) ∧ StrsV w' v [[]]) ∧ Below w.heap.size w w') = Q
  go_enter Tryz.func24, Tryz.ntmps24
  go_wp2_with (first
    | (refine wpList_store_whole rfl 30 _ _ rfl (w.heap.size + 1 + 1) ((q1 e).cs nilB) _ 30 rfl rfl z0 rfl info30' rfl ?_; intro w3 h3 hbut hsz3; have a3 : w3.cell? ⟨w.heap.size, 0, none⟩ = some (.int .u8 e.k) := cell_of ((hbut.block w.heap.size (by simp; omega) (by omega)).trans y0))
    | (go_at_call 65; with_reducible refine (c65 _).mono ?_; rintro r w1 ⟨rfl, hb1⟩
       have hs3 : w3.heap.size = w.heap.size + 3 := (by rw [hsz3]; simp)
       have hs1 := hb1.size
       have hbw : Below w3.heap.size w3 (w1.alloc (.cells #[S ((kindWs[e.k]?).getD [])] 9)) := hb1.alloc hb1.size _
       have h4 := (hbw.block (w.heap.size + 1 + 1) (by omega)).trans h3
       have h5 : (w1.alloc (.cells #[S ((kindWs[e.k]?).getD [])] 9)).heap[w.heap.size + 1]? = some (.cells zEv 30) := (hbw.block (w.heap.size + 1) (by omega)).trans ((hbut.block (w.heap.size + 1) (by simp) (by omega)).trans y1))
    | (refine wpList_load_row rfl 30 _ rfl (w.heap.size + 1 + 1) rfl 30 _ (0, 0) _ h4 Tryz.underlying30 rfl info30' ?_)
    | (refine wpList_store_whole rfl 30 _ _ rfl (w.heap.size + 1) ((q1 e).cs nilB) _ 30 rfl rfl h5 rfl info30' rfl ?_; intro w6 h6 hbut6 hsz6))
  refine bodyPost_ret (results_cell_tmp Tryz.results24 _ _ (w.heap.size + 1) 30 _ _ rfl h6 Tryz.underlying30 rfl info30') rfl ?_
  subst hQ
  have hbl3 : Below w.heap.size w w3 := hbl0.trans (hbut.below (by omega) hbl0.size)
  have hbl4 := hbl3.trans (hbw.mono (by omega))
  refine ⟨⟨_, rfl, ?_⟩, hbl4.trans (hbut6.below (Nat.le_succ _) hbl4.size)⟩
  have hg : w6.heap[w1.heap.size]? = some (.cells #[S ((kindWs[e.k]?).getD [])] 9) := (hbut6.block _ (by simp) (by omega)).trans (heap_alloc_last w1 _)
  rw [kw_out e hk] at hg
  refine ⟨_, _, rfl, Nat.le_refl _, fun _ => ⟨w1.heap.size, 0, rfl, lt_of hg, fun j x hx => ?_⟩⟩
  rw [cell_of hg]
  match j, hx with
  | 0, hx => cases hx; rfl
theorem words_head (e : EvD) : ∃ r, wordsD e = kw e :: r := by
  have h2 : ∃ r, wd2 e = kw e :: r := by unfold wd2; split <;> exact ⟨_, rfl⟩
  have h3 : ∃ r, wd3 e = kw e :: r := by
    obtain ⟨r, h2⟩ := h2
    unfold wd3
    split
    · rw [h2]; exact ⟨_, rfl⟩
    · exact ⟨r, h2⟩
  obtain ⟨r, h3⟩ := h3
  unfold wordsD
  split
  · rw [h3]; exact ⟨_, rfl⟩
  split
  · rw [h3]; exact ⟨_, rfl⟩
  split
  · rw [h3]; exact ⟨_, rfl⟩
  split
  · rw [h3]; exact ⟨_, rfl⟩
  · exact ⟨r, h3⟩
theorem rformOut (e : EvD) (bv : Value) (w : World) (hk : e.k = 0 ∨ 14 ≤ e.k) (hf : e.Fine) (_hs : e.Slim) (hb : BytesV w bv e.m.body) (_htab : Pow w) :
    Calls Tryz.prog 9 #[.agg (e.cs bv)] w fun r w' => FormP e r ∧ Below w.heap.size w w' := by
  have hb00 := hb
  obtain ⟨ba, bc, rfl, _⟩ := hb00
  have hE : (w.alloc (.cells (e.cs (.slice ba e.m.body.length bc)) 30)).heap[w.heap.size]? = some (.cells (e.cs (.slice ba e.m.body.length bc)) 30) := heap_alloc_last w _
  have hb0 : Below w.heap.size w (w.alloc (.cells (e.cs (.slice ba e.m.body.length bc)) 30)) := (Below.refl _ _).alloc (Nat.le_refl _) _
  have c24 : Calls Tryz.prog 24 #[.agg (e.cs (.slice ba e.m.body.length bc))] (w.alloc (.cells (e.cs (.slice ba e.m.body.length bc)) 30)) fun r w' => (∃ v, r = .returned (.tuple #[.agg ((q1 e).cs nilB), v]) ∧ StrsV w' v (([[]] : List (List UInt8)))) ∧ Below (w.alloc (.cells (e.cs (.slice ba e.m.body.length bc)) 30)).heap.size (w.alloc (.cells (e.cs (.slice ba e.m.body.length bc)) 30)) w' := by
    exact onlyOut e _ _ hk hf.k (hb.below hb0 (Nat.le_refl _))
  generalize hQ : (fun (r : Ending) (w' : World) => FormP e r ∧ Below w.heap.size w w') = Q
  go_enter Tryz.func9, Tryz.ntmps9
  go_upto_region 2 with (first
    | (refine wpList_load_row rfl 30 _ rfl w.heap.size rfl 30 _ (0, 0) _ hE Tryz.underlying30 rfl info30' ?_)
    | (go_at_call 24; (with_reducible refine c24.mono ?_); rintro r w2 ⟨⟨v, rfl, hv⟩, hb2⟩; have hz2 := heap_alloc_last w2 (.cells zEv 30))
    | (refine wpList_store_whole rfl 30 _ _ rfl w2.heap.size ((q1 e).cs nilB) _ 30 rfl rfl hz2 rfl info30' rfl ?_; intro w3 h3 hbut hsz3))
  obtain ⟨sa, sc, rfl, hle, hvv⟩ := id hv
  obtain ⟨g, o, rfl, hg, hcell⟩ := hvv (by simp)
  have hbw : Below (w.alloc (.cells (e.cs (.slice ba e.m.body.length bc)) 30)).heap.size (w.alloc (.cells (e.cs (.slice ba e.m.body.length bc)) 30)) w3 := (hb2.trans ((Below.refl _ _).alloc hb2.size _)).trans (hbut.below hb2.size (by simp; have := hb2.size; simp at this; omega))
  have hE3 : w3.heap[w.heap.size]? = some (.cells (e.cs (.slice ba e.m.body.length bc)) 30) := (hbw.block _ (lt_of hE)).trans hE
  have hb3 := hb0.trans (hbw.mono hb0.size)
  have hb23 : Below w2.heap.size w2 w3 := ((Below.refl _ _).alloc (Nat.le_refl _) _).trans (hbut.below (Nat.le_refl _) (by simp))
  have hv3 := StrsV.below hv hb23
  have hc0 : w3.cell? ⟨g, o, none⟩ = some (S []) := (hb23.cell hg).trans (hcell 0 _ rfl)
  have hlen0 : (0 : Int) < ((([[]] : List (List UInt8))).length : Int) := (by decide)
  skip
  clear hz2 hcell hvv hle c24
  go_wp2_with (first
    | (refine wpList_load_if (by rfl) 30 _ rfl w.heap.size rfl 30 _ (0, 0) _ hE3 Tryz.underlying30 rfl info30' ?_)
    | (refine wpList_load_if (by rfl) 30 _ rfl w2.heap.size rfl 30 _ (0, 0) _ h3 Tryz.underlying30 rfl info30' ?_)
    | (go_at_call 10; (with_reducible refine c10.mono ?_); rintro r w4 ⟨⟨b, rfl, hbe⟩, hb4⟩; have hbl := hb3.trans (hb4.mono hb3.size); have c25 := tog _ (wordsD e) [32] [] (by have := (words_len e hf hs).1; omega) w4 (StrsV.below hv3 hb4) (words_short e hf hs) (by simp))
    | (go_at_call 25; (with_reducible refine c25.mono ?_); rintro r w5 ⟨rfl, hb5⟩))
  subst hQ
  have hng : ¬ Good e := fun h => by have h1 := h.1; have h2 := h.2.1; omega
  exact ⟨.inr ⟨hng, rfl⟩, hb3⟩
theorem rformIn (e : EvD) (bv : Value) (w : World) (hk1 : 1 ≤ e.k) (hk2 : e.k < 14) (hf : e.Fine) (hs : e.Slim) (hb : BytesV w bv e.m.body) (htab : Pow w) :
    Calls Tryz.prog 9 #[.agg (e.cs bv)] w fun r w' => FormP e r ∧ Below w.heap.size w w' := by
  have hb00 := hb
  obtain ⟨ba, bc, rfl, _⟩ := hb00
  have hkn : (kw e).isEmpty = false := by
    have := kw_ne e hk1 hk2
    cases hh : kw e with
    | nil => exact absurd hh this
    | cons => rfl
  obtain ⟨bq, nq, cq0, hbq⟩ : ∃ a n c, onlyB e (.slice ba e.m.body.length bc) = .slice a n c := by
    unfold onlyB
    by_cases h7 : e.k = 7
    · rw [if_pos h7]; exact ⟨_, _, _, rfl⟩
    · rw [if_neg h7]; exact ⟨_, _, _, rfl⟩
  have hE : (w.alloc (.cells (e.cs (.slice ba e.m.body.length bc)) 30)).heap[w.heap.size]? = some (.cells (e.cs (.slice ba e.m.body.length bc)) 30) := heap_alloc_last w _
  have hb0 : Below w.heap.size w (w.alloc (.cells (e.cs (.slice ba e.m.body.length bc)) 30)) := (Below.refl _ _).alloc (Nat.le_refl _) _
  have c24 : Calls Tryz.prog 24 #[.agg (e.cs (.slice ba e.m.body.length bc))] (w.alloc (.cells (e.cs (.slice ba e.m.body.length bc)) 30)) fun r w' => (∃ v, r = .returned (.tuple #[.agg ((onlyD e).cs (.slice bq nq cq0)), v]) ∧ StrsV w' v (wordsD e)) ∧ Below (w.alloc (.cells (e.cs (.slice ba e.m.body.length bc)) 30)).heap.size (w.alloc (.cells (e.cs (.slice ba e.m.body.length bc)) 30)) w' := by
    have := only e _ _ hk1 hk2 hf hs (hb.below hb0 (Nat.le_refl _)) (htab.below hb0 (Nat.le_refl _))
    rwa [hbq] at this
  generalize hQ : (fun (r : Ending) (w' : World) => FormP e r ∧ Below w.heap.size w w') = Q
  go_enter Tryz.func9, Tryz.ntmps9
  go_upto_region 2 with (first
    | (refine wpList_load_row rfl 30 _ rfl w.heap.size rfl 30 _ (0, 0) _ hE Tryz.underlying30 rfl info30' ?_)
    | (go_at_call 24; (with_reducible refine c24.mono ?_); rintro r w2 ⟨⟨v, rfl, hv⟩, hb2⟩; have hz2 := heap_alloc_last w2 (.cells zEv 30))
    | (refine wpList_store_whole rfl 30 _ _ rfl w2.heap.size ((onlyD e).cs (.slice bq nq cq0)) _ 30 rfl rfl hz2 rfl info30' rfl ?_; intro w3 h3 hbut hsz3))
  obtain ⟨sa, sc, rfl, hle, hvv⟩ := id hv
  obtain ⟨g, o, rfl, hg, hcell⟩ := hvv (by obtain ⟨r, h⟩ := words_head e; rw [h]; simp)
  have hbw : Below (w.alloc (.cells (e.cs (.slice ba e.m.body.length bc)) 30)).heap.size (w.alloc (.cells (e.cs (.slice ba e.m.body.length bc)) 30)) w3 := (hb2.trans ((Below.refl _ _).alloc hb2.size _)).trans (hbut.below hb2.size (by simp; have := hb2.size; simp at this; omega))
  have hE3 : w3.heap[w.heap.size]? = some (.cells (e.cs (.slice ba e.m.body.length bc)) 30) := (hbw.block _ (lt_of hE)).trans hE
  have hb3 := hb0.trans (hbw.mono hb0.size)
  have hb23 : Below w2.heap.size w2 w3 := ((Below.refl _ _).alloc (Nat.le_refl _) _).trans (hbut.below (Nat.le_refl _) (by simp))
  have hv3 := StrsV.below hv hb23
  have hc0 : w3.cell? ⟨g, o, none⟩ = some (S (kw e)) := (hb23.cell hg).trans (hcell 0 _ (by obtain ⟨r, h⟩ := words_head e; rw [h]; rfl))
  have hlen0 : (0 : Int) < ((wordsD e).length : Int) := (by have : 0 < (wordsD e).length := (by obtain ⟨r, h⟩ := words_head e; rw [h]; exact Nat.succ_pos _); omega)
  have c10 := sameEv (onlyD e) e (.slice bq nq cq0) (.slice ba e.m.body.length bc) w3 (hbq ▸ only_body (hb.below hb3 (Nat.le_refl _))) (hb.below hb3 (Nat.le_refl _))
  clear hz2 hcell hvv hle c24
  go_wp2_with (first
    | (refine wpList_load_if (by rfl) 30 _ rfl w.heap.size rfl 30 _ (0, 0) _ hE3 Tryz.underlying30 rfl info30' ?_)
    | (refine wpList_load_if (by rfl) 30 _ rfl w2.heap.size rfl 30 _ (0, 0) _ h3 Tryz.underlying30 rfl info30' ?_)
    | (go_at_call 10; (with_reducible refine c10.mono ?_); rintro r w4 ⟨⟨b, rfl, hbe⟩, hb4⟩; have hbl := hb3.trans (hb4.mono hb3.size); have c25 := tog _ (wordsD e) [32] [] (by have := (words_len e hf hs).1; omega) w4 (StrsV.below hv3 hb4) (words_short e hf hs) (by simp))
    | (go_at_call 25; (with_reducible refine c25.mono ?_); rintro r w5 ⟨rfl, hb5⟩))
  all_goals
    subst hQ
    have hbg : b = true ↔ Good e := by rw [hbe]; exact ⟨fun h => ⟨hk1, hk2, h⟩, fun h => h.2.2⟩
  · cases b
    · exact ⟨.inr ⟨fun h => (by cases hbg.2 h), rfl⟩, hbl⟩
    · exact absurd ‹(!true) = true› (by decide)
  · have ht : togW (wordsD e) [32] [] = Lib.join (wordsD e) [32] := if_neg (by obtain ⟨r, h⟩ := words_head e; rw [h]; simp)
    cases b
    · exact absurd ‹(!false) = false› (by decide)
    · refine ⟨.inl ⟨hbg.1 rfl, ?_⟩, hbl.trans (hb5.mono hbl.size)⟩
      rw [← ht]
      rfl
/-- the reference's Form -/
theorem formR (e : EvD) (bv : Value) (w : World) (hf : e.Fine) (hs : e.Slim) (hb : BytesV w bv e.m.body) (htab : Pow w) :
    Calls Tryz.prog 9 #[.agg (e.cs bv)] w fun r w' => FormP e r ∧ Below w.heap.size w w' := by
  by_cases h0 : e.k = 0 ∨ 14 ≤ e.k
  · exact rformOut e bv w h0 hf hs hb htab
  · exact rformIn e bv w (by omega) (by omega) hf hs hb htab
end Go.Proofs.YtaojoifpekoecaaGreatDoor
