/-
  An event opened from what an argument reads as. Conditions: as each theorem says.
-/
import Derived.Test.YtaojoifpekoecaaGreatDoorFB
import Derived.Deep.Slices
import Derived.ChangeArms
import Derived.SizedLaws
import Derived.Test.YtaojoifpekoecaaGreatDoorFC
namespace Go.Proofs.YtaojoifpekoecaaGreatDoor
open Go.RowKit Go.Deep Go.ChangeShapes

section
variable {H : Type} {enc : TypeId × Value → H} {P : Program} {w : World} {base : Nat} {spare : Nat → Bool} {held : Bool}

/-- what a datum weighs is within reach -/
def Light (P : Program) {H : Type} (t : TypeId) (d : DataW H) : Prop := ∀ n ∈ d.weights P t, n ≤ reachBytes
theorem Light.part {t : TypeId} {fs : Array Field} {parts : List (DataW H)} (h : Light P t (.agg parts)) (hs : P.underlying t = some (.struct fs)) {i : Nat} {f : Field} {d : DataW H} (hf : fs[i]? = some f) (hd : parts[i]? = some d) : Light P f.type d := by
  intro n hn
  refine h n ?_
  unfold DataW.weights
  simp only [hs]
  exact DataW.weights_mem_each (j := i) (t := f.type) (by rw [List.getElem?_map, Array.getElem?_toList, hf]; rfl) hd n hn
theorem weightsAll_mem {e : TypeId} : ∀ {l : List (DataW H)} {d : DataW H}, d ∈ l → ∀ n ∈ d.weights P e, n ∈ DataW.weightsAll P e l
  | x :: l, d, h, n, hn => by
    simp only [DataW.weightsAll, List.mem_append]
    rcases List.mem_cons.1 h with rfl | h
    · exact .inl hn
    · exact .inr (weightsAll_mem h n hn)
theorem Light.elem {t e : TypeId} {elems rest : List (DataW H)} (h : Light P t (.slice elems rest)) (hs : P.underlying t = some (.slice e)) {d : DataW H} (hd : d ∈ elems) : Light P e d := by
  intro n hn
  refine h n ?_
  unfold DataW.weights
  simp only [hs]
  exact List.mem_cons_of_mem _ (List.mem_append_left _ (weightsAll_mem hd n hn))
theorem Light.len {t e : TypeId} {elems rest : List (DataW H)} (h : Light P t (.slice elems rest)) (hs : P.underlying t = some (.slice e)) (hb : 0 < P.bytesOf e) : elems.length ≤ reachBytes := by
  have := h ((elems.length + rest.length) * P.bytesOf e) (by unfold DataW.weights; simp only [hs]; exact List.mem_cons_self)
  have h2 : (elems.length + rest.length) * 1 ≤ (elems.length + rest.length) * P.bytesOf e := Nat.mul_le_mul_left _ hb
  omega
theorem Light.str {t : TypeId} {l : List UInt8} (h : Light P t (.lit (.string l) : DataW H)) : l.length ≤ reachBytes := h _ (by simp [DataW.weights])
theorem Light.arg {ts : List TypeId} {ds : List (DataW H)} (h : (DataW.weightsEach P ts ds).all (· ≤ reachBytes) = true) {j : Nat} {t : TypeId} {d : DataW H} (ht : ts[j]? = some t) (hd : ds[j]? = some d) : Light P t d := fun n hn => by
  have := List.all_eq_true.1 h _ (DataW.weights_mem_each ht hd n hn)
  simpa using this

/-- one field of a struct's cells, where each field is one cell -/
theorem field1 {t : TypeId} {fs : Array Field} {cs : List Value} {fuel : Nat} {x : DataW H × List MemPlace} (hs : P.underlying t = some (.struct fs)) (h : DataW.trod enc P w base spare held fuel t cs = some x) (hl : Light P t x.1)
    (i : Nat) (f : Field) (hf : fs[i]? = some f) (ho : f.offset = i) (hc : P.cellsOf f.type = 1) (hi : i < cs.length) : ∃ n y, DataW.trod enc P w base spare held n f.type [cs[i]] = some y ∧ Light P f.type y.1 := by
  obtain ⟨xs, n, _, rfl, hlen, hxl, hall⟩ := DataW.trod_struct hs h
  have h1 := hall i f hf
  have hif : i < xs.length := by
    rw [hxl]; exact (Array.getElem?_eq_some_iff.1 hf).1
  rw [List.getElem?_eq_getElem hif, ho, hc] at h1
  have h2 : (cs.drop i).take 1 = [cs[i]] := by
    rw [List.drop_eq_getElem_cons hi]; rfl
  rw [h2] at h1
  exact ⟨n, _, h1, hl.part hs hf (by rw [List.getElem?_map, List.getElem?_eq_getElem hif]; rfl)⟩
theorem open_str {t : TypeId} {v : Value} {fuel : Nat} {x : DataW H × List MemPlace} (ht : P.underlying t = some .string) (h : DataW.trod enc P w base spare held fuel t [v] = some x) (hl : Light P t x.1) : ∃ l, v = S l ∧ Lim l := by
  obtain ⟨s, hv, rfl, _⟩ := DataW.trod_string ht h
  cases hv
  refine ⟨s.data.toList, by simp [S], ?_⟩
  have := hl.str
  unfold Lim
  have h47 := reachBytes_lt
  omega
theorem open_nat {t : TypeId} {k : IntKind} {v : Value} {fuel : Nat} {x : DataW H × List MemPlace} (ht : P.underlying t = some (.int k)) (hk : k.min = 0) (h : DataW.trod enc P w base spare held fuel t [v] = some x) : ∃ n : Nat, v = .int k n ∧ (n : Int) ≤ k.max := by
  obtain ⟨n, hv, _, hw⟩ := DataW.trod_int ht h
  cases hv
  simp only [Lit.wf, Bool.and_eq_true, decide_eq_true_eq, hk] at hw
  exact ⟨n.toNat, by rw [Int.toNat_of_nonneg hw.1], by omega⟩
theorem open_i64 {t : TypeId} {v : Value} {fuel : Nat} {x : DataW H × List MemPlace} (ht : P.underlying t = some (.int .i64)) (h : DataW.trod enc P w base spare held fuel t [v] = some x) : ∃ n : Int, v = .int .i64 n ∧ I64 n := by
  obtain ⟨n, hv, _, hw⟩ := DataW.trod_int ht h
  cases hv
  simp only [Lit.wf, Bool.and_eq_true, decide_eq_true_eq] at hw
  exact ⟨n, rfl, hw.1, hw.2⟩
theorem open_bool1 {t : TypeId} {v : Value} {fuel : Nat} {x : DataW H × List MemPlace} (ht : P.underlying t = some .bool) (h : DataW.trod enc P w base spare held fuel t [v] = some x) : ∃ b, v = .bool b := by
  obtain ⟨b, hv, _⟩ := DataW.trod_bool ht h
  cases hv
  exact ⟨b, rfl⟩
theorem add_flat (b o i : Nat) : (⟨b, o, none⟩ : Addr).add i = ⟨b, o + i, none⟩ := by
  unfold Addr.add
  by_cases h : i = 0 <;> simp [h]
theorem cell?_lt {a : Addr} {v : Value} (h : w.cell? a = some v) : a.block < w.heap.size := by
  unfold World.cell? at h
  cases hq : w.heap[a.block]? with
  | none => simp [hq] at h
  | some o => exact (Array.getElem?_eq_some_iff.1 hq).1
/-- a slice of rows of cells -/
theorem open_rows {α : Type} {t e : TypeId} {n : Nat} {EV : World → List Value → α → Prop} (ht : P.underlying t = some (.slice e)) (hc : P.cellsOf e = n) (hpos : 0 < n)
    (hE : ∀ (fuel : Nat) cs x, DataW.trod enc P w base spare held fuel e cs = some x → Light P e x.1 → cs.length = n → ∃ a, cs.all (·.oneCell') = true ∧ EV w cs a)
    {fuel : Nat} {v : Value} {x : DataW H × List MemPlace} (h : DataW.trod enc P w base spare held fuel t [v] = some x) (hl : Light P t x.1) : ∃ xs, SliceV n EV w v xs := by
  rcases open_slice ht h with ⟨hv, rfl⟩ | ⟨a, len, cap, m, k, D, Pl, hv, hb, hlc, hm, hmm, rfl, hx⟩
  · cases hv
    exact ⟨[], none, 0, rfl, fun h => absurd rfl h⟩
  · cases hv
    have hlm : len ≤ m := by rw [hmm]; split <;> omega
    have each : ∀ i, i < len → ∃ q : List Value × α, q.1.length = n ∧ q.1.all (·.oneCell') = true ∧ (∀ j, j < n → w.cell? (a.add (i * n + j)) = q.1[j]?) ∧ EV w q.1 q.2 := by
      intro i hi
      obtain ⟨cs, h1, h2⟩ := hx i (by omega)
      rw [hc] at h1
      obtain ⟨_, hlen, hcell⟩ := World.cells?_some h1
      obtain ⟨y, hy1, hy2⟩ := hE k cs _ h2 (hl.elem ht (List.mem_map.2 ⟨i, List.mem_range.2 hi, rfl⟩)) hlen
      refine ⟨(cs, y), hlen, hy1, fun j hj => ?_, hy2⟩
      have := hcell j hj
      rwa [add_add] at this
    by_cases h0 : len = 0
    · subst h0
      exact ⟨[], some a, cap, rfl, fun h => absurd rfl h⟩
    · have hA : ∃ b o, a = ⟨b, o, none⟩ ∧ b < w.heap.size := by
        obtain ⟨q, hq1, _, hq3, _⟩ := each 0 (by omega)
        have h3 := hq3 0 hpos
        rw [List.getElem?_eq_getElem (by omega)] at h3
        obtain ⟨b, o, spot⟩ := a
        have hspot : spot = none := by simpa [Addr.add] using World.cell?_spot h3
        subst hspot
        refine ⟨b, o, rfl, ?_⟩
        have := cell?_lt h3
        simpa [Addr.add] using this
      obtain ⟨b, o, rfl, hbl⟩ := hA
      haveI : Inhabited (List Value × α) := ⟨(each 0 (by omega)).choose⟩
      obtain ⟨q, hq⟩ := choose_lt each
      refine ⟨(List.range len).map (fun i => (q i).2), some ⟨b, o, none⟩, cap, by simp, fun _ => ⟨b, o, rfl, hbl, fun j y hy => ?_⟩⟩
      have hj : j < len := by
        have := (List.getElem?_eq_some_iff.1 hy).1
        simpa using this
      rw [List.getElem?_map, List.getElem?_range hj] at hy
      cases hy
      obtain ⟨g1, g2, g3, g4⟩ := hq j hj
      refine ⟨(q j).1, g1, g2, fun i u hu => ?_, g4⟩
      have hi : i < n := by rw [← g1]; exact (List.getElem?_eq_some_iff.1 hu).1
      have := g3 i hi
      rw [add_flat] at this
      rw [Nat.add_assoc, this, hu]
/-- a slice of bytes -/
theorem open_bytes {t e : TypeId} (ht : P.underlying t = some (.slice e)) (he : P.underlying e = some (.int .u8)) (hc : P.cellsOf e = 1) (hb : 0 < P.bytesOf e)
    {fuel : Nat} {v : Value} {x : DataW H × List MemPlace} (h : DataW.trod enc P w base spare held fuel t [v] = some x) (hl : Light P t x.1) : ∃ l, BytesV w v l ∧ Lim l := by
  obtain ⟨xs, a, c, hv, hx⟩ := open_rows (α := UInt8) (n := 1) (EV := fun _ cs y => cs = [.int .u8 (y.toNat : Int)]) ht hc (by omega) (fun fuel cs y hy _ hcs => by
    match cs, hcs with
    | [u], _ =>
      obtain ⟨k, rfl, hk⟩ := open_nat he rfl hy
      have hk' : k < 256 := by
        have : (k : Int) ≤ 255 := hk
        omega
      exact ⟨UInt8.ofNat k, rfl, by show [Value.int IntKind.u8 (k : Int)] = [Value.int IntKind.u8 (((UInt8.ofNat k).toNat : Nat) : Int)]; rw [show (UInt8.ofNat k).toNat = k from Nat.mod_eq_of_lt hk']⟩) h hl
  subst hv
  refine ⟨xs, ⟨a, c, rfl, fun h0 => ?_⟩, ?_⟩
  · obtain ⟨b, o, ha, hbl, hel⟩ := hx h0
    refine ⟨b, o, ha, hbl, fun j y hy => ?_⟩
    obtain ⟨cs, _, _, hr, hcs⟩ := hel j y hy
    subst hcs
    have := hr 0 _ rfl
    simpa using this
  · rcases open_slice ht h with ⟨hv, rfl⟩ | ⟨a, len, cap, m, k, D, Pl, hv, hb', hlc, hm, hmm, rfl, _⟩
    · have : xs.length = 0 := by
        simp only [List.cons.injEq, Value.slice.injEq, and_true] at hv
        exact hv.2.1
      unfold Lim
      omega
    · simp only [List.cons.injEq, Value.slice.injEq, and_true] at hv
      have := hl.len ht hb
      rw [List.length_map, List.length_range] at this
      have h47 := reachBytes_lt
      unfold Lim
      omega
end
end Go.Proofs.YtaojoifpekoecaaGreatDoor



namespace Go.Proofs.YtaojoifpekoecaaGreatDoor
open Go.RowKit Go.Deep Go.ChangeShapes
section
variable {H : Type} {enc : TypeId × Value → H} {w : World} {base : Nat} {spare : Nat → Bool} {held : Bool}
theorem open_agg {P : Program} {t n : Nat} {fs : Array Field} {v : Value} {d : DataW H} {ps : List MemPlace} (hs : P.underlying t = some (.struct fs)) (hc : P.cellsOf t = n) (h2 : 2 ≤ n) (h : DataW.Trod enc P w base spare held t v d ps) :
    ∃ (cs : List Value) (fuel : Nat), v = .agg cs.toArray ∧ cs.length = n ∧ DataW.trod enc P w base spare held fuel t cs = some (d, ps) := by
  obtain ⟨fuel, h⟩ := h
  obtain ⟨_, _, _, _, hlen, _, _⟩ := DataW.trod_struct hs h
  rw [hc] at hlen
  cases v with
  | agg cs => exact ⟨cs.toList, fuel, by simp, hlen, h⟩
  | _ => simp [Value.cells] at hlen; omega
theorem field {P : Program} {t : TypeId} {fs : Array Field} {cs : List Value} {fuel : Nat} {x : DataW H × List MemPlace} (hs : P.underlying t = some (.struct fs)) (h : DataW.trod enc P w base spare held fuel t cs = some x) (hl : Light P t x.1)
    (i : Nat) (f : Field) (hf : fs[i]? = some f) : ∃ n y, DataW.trod enc P w base spare held n f.type ((cs.drop f.offset).take (P.cellsOf f.type)) = some y ∧ Light P f.type y.1 := by
  obtain ⟨xs, n, _, rfl, hlen, hxl, hall⟩ := DataW.trod_struct hs h
  have h1 := hall i f hf
  have hif : i < xs.length := by
    rw [hxl]; exact (Array.getElem?_eq_some_iff.1 hf).1
  rw [List.getElem?_eq_getElem hif] at h1
  exact ⟨n, _, h1, hl.part hs hf (by rw [List.getElem?_map, List.getElem?_eq_getElem hif]; rfl)⟩
theorem ce25 : Tryz.prog.cellsOf 25 = 5 := by kernel_rfl
theorem ce28 : Tryz.prog.cellsOf 28 = 4 := by kernel_rfl
theorem ce5 : Tryz.prog.cellsOf 5 = 1 := by kernel_rfl
theorem ce22 : Tryz.prog.cellsOf 22 = 1 := by kernel_rfl
theorem ce26 : Tryz.prog.cellsOf 26 = 1 := by kernel_rfl
theorem ce3 : Tryz.prog.cellsOf 3 = 1 := by kernel_rfl
theorem ce4' : Tryz.prog.cellsOf 4 = 1 := by kernel_rfl
theorem ce9 : Tryz.prog.cellsOf 9 = 1 := by kernel_rfl
theorem ce23 : Tryz.prog.cellsOf 23 = 1 := by kernel_rfl
theorem b5 : 0 < Tryz.prog.bytesOf 5 := of_decide_eq_true (by kernel_rfl)
theorem open_msgE {fuel : Nat} {cs : List Value} {x : DataW H × List MemPlace} (h : DataW.trod enc Tryz.prog w base spare held fuel 25 cs = some x) (hl : Light Tryz.prog 25 x.1) (hcs : cs.length = 5) :
    ∃ m : MsgD, cs.all (·.oneCell') = true ∧ MsgE0 w cs m := by
  match cs, hcs with
  | [v0, v1, v2, v3, v4], _ =>
  obtain ⟨n0, y0, h0, _⟩ := field1 Tryz.underlying25 h hl 0 _ rfl rfl ce5 (by simp)
  obtain ⟨n1, y1, h1, _⟩ := field1 Tryz.underlying25 h hl 1 _ rfl rfl ce22 (by simp)
  obtain ⟨n2, y2, h2, _⟩ := field1 Tryz.underlying25 h hl 2 _ rfl rfl ce22 (by simp)
  obtain ⟨n3, y3, h3, l3⟩ := field1 Tryz.underlying25 h hl 3 _ rfl rfl ce9 (by simp)
  obtain ⟨n4, y4, h4, l4⟩ := field1 Tryz.underlying25 h hl 4 _ rfl rfl ce23 (by simp)
  obtain ⟨p, rfl, hp⟩ := open_nat Tryz.underlying5 rfl h0
  obtain ⟨t, rfl, ht⟩ := open_nat Tryz.underlying22 rfl h1
  obtain ⟨c, rfl, hc⟩ := open_nat Tryz.underlying22 rfl h2
  obtain ⟨id, rfl, hid⟩ := open_str Tryz.underlying9 h3 l3
  obtain ⟨body, hb, hbl⟩ := open_bytes Tryz.underlying23 Tryz.underlying5 ce5 b5 h4 l4
  have hp' : (p : Int) ≤ 255 := hp
  have ht' : (t : Int) ≤ 4294967295 := ht
  have hc' : (c : Int) ≤ 4294967295 := hc
  have hb2 := hb
  obtain ⟨ba, bc, hbv, _⟩ := hb2
  refine ⟨⟨p, t, c, id, body⟩, ?_, _, rfl, hb, by show p < 256; omega, by show t < _; omega, by show c < _; omega, hid, hbl⟩
  subst hbv
  rfl
theorem open_outc {fuel : Nat} {cs : List Value} {x : DataW H × List MemPlace} (h : DataW.trod enc Tryz.prog w base spare held fuel 28 cs = some x) (hl : Light Tryz.prog 28 x.1) (hcs : cs.length = 4) :
    ∃ (k a b : Nat) (cond : List UInt8), cs = [.int .u8 k, .int .u64 a, .int .u64 b, S cond] ∧ k < 256 ∧ a < 18446744073709551616 ∧ b < 18446744073709551616 ∧ Lim cond := by
  match cs, hcs with
  | [v0, v1, v2, v3], _ =>
  obtain ⟨n0, y0, h0, _⟩ := field1 Tryz.underlying28 h hl 0 _ rfl rfl ce5 (by simp)
  obtain ⟨n1, y1, h1, _⟩ := field1 Tryz.underlying28 h hl 1 _ rfl rfl ce26 (by simp)
  obtain ⟨n2, y2, h2, _⟩ := field1 Tryz.underlying28 h hl 2 _ rfl rfl ce26 (by simp)
  obtain ⟨n3, y3, h3, l3⟩ := field1 Tryz.underlying28 h hl 3 _ rfl rfl ce9 (by simp)
  obtain ⟨p, rfl, hp⟩ := open_nat Tryz.underlying5 rfl h0
  obtain ⟨t, rfl, ht⟩ := open_nat Tryz.underlying26 rfl h1
  obtain ⟨c, rfl, hc⟩ := open_nat Tryz.underlying26 rfl h2
  obtain ⟨cond, rfl, hcl⟩ := open_str Tryz.underlying9 h3 l3
  have hp' : (p : Int) ≤ 255 := hp
  have ht' : (t : Int) ≤ 18446744073709551615 := ht
  have hc' : (c : Int) ≤ 18446744073709551615 := hc
  exact ⟨p, t, c, cond, rfl, by omega, by omega, by omega, hcl⟩
end
end Go.Proofs.YtaojoifpekoecaaGreatDoor



namespace Go.Proofs.YtaojoifpekoecaaGreatDoor
open Go.RowKit Go.Deep Go.ChangeShapes
section
variable {H : Type} {enc : TypeId × Value → H} {w : World} {base : Nat} {spare : Nat → Bool} {held : Bool}
theorem ce30 : Tryz.prog.cellsOf 30 = 17 := by kernel_rfl
/-- Event, opened -/
theorem open_event {v : Value} {d : DataW H} {ps : List MemPlace} (h : DataW.Trod enc Tryz.prog w base spare held 30 v d ps) (hl : Light Tryz.prog 30 d) :
    ∃ (e : EvD) (bv : Value), v = .agg (e.cs bv) ∧ e.Fine ∧ BytesV w bv e.m.body := by
  obtain ⟨cs, fuel, rfl, hcs, h⟩ := open_agg Tryz.underlying30 ce30 (by omega) h
  match cs, hcs with
  | [v0, v1, v2, v3, v4, v5, v6, v7, v8, v9, v10, v11, v12, v13, v14, v15, v16], _ =>
  obtain ⟨n0, y0, h0, _⟩ := field1 Tryz.underlying30 h hl 0 _ rfl rfl ce5 (by simp)
  obtain ⟨n1, y1, h1, _⟩ := field1 Tryz.underlying30 h hl 1 _ rfl rfl ce3 (by simp)
  obtain ⟨n2, y2, h2, _⟩ := field1 Tryz.underlying30 h hl 2 _ rfl rfl ce3 (by simp)
  obtain ⟨n3, y3, h3, l3⟩ := field1 Tryz.underlying30 h hl 3 _ rfl rfl ce9 (by simp)
  obtain ⟨n4, y4, h4, l4⟩ := field1 Tryz.underlying30 h hl 4 _ rfl rfl ce9 (by simp)
  obtain ⟨n5, y5, h5, _⟩ := field1 Tryz.underlying30 h hl 5 _ rfl rfl ce4' (by simp)
  obtain ⟨n6, y6, h6, _⟩ := field1 Tryz.underlying30 h hl 6 _ rfl rfl ce5 (by simp)
  obtain ⟨n7, y7, h7, _⟩ := field1 Tryz.underlying30 h hl 7 _ rfl rfl ce5 (by simp)
  obtain ⟨n8, y8, h8, l8⟩ := field Tryz.underlying30 h hl 8 _ rfl
  obtain ⟨n9, y9, h9, l9⟩ := field Tryz.underlying30 h hl 9 _ rfl
  obtain ⟨k, rfl, hk⟩ := open_nat Tryz.underlying5 rfl h0
  obtain ⟨who, rfl, hwho⟩ := open_i64 Tryz.underlying3 h1
  obtain ⟨n, rfl, hn⟩ := open_i64 Tryz.underlying3 h2
  obtain ⟨name, rfl, hname⟩ := open_str Tryz.underlying9 h3 l3
  obtain ⟨text, rfl, htext⟩ := open_str Tryz.underlying9 h4 l4
  obtain ⟨flag, rfl⟩ := open_bool1 Tryz.underlying4 h5
  obtain ⟨snd, rfl, hsnd⟩ := open_nat Tryz.underlying5 rfl h6
  obtain ⟨rcv, rfl, hrcv⟩ := open_nat Tryz.underlying5 rfl h7
  have h8' : DataW.trod enc Tryz.prog w base spare held n8 25 ((List.drop 8 [Value.int .u8 k, .int .i64 who, .int .i64 n, S name, S text, .bool flag, .int .u8 snd, .int .u8 rcv, v8, v9, v10, v11, v12, v13, v14, v15, v16]).take (Tryz.prog.cellsOf 25)) = some y8 := h8
  rw [ce25] at h8'
  have h9' : DataW.trod enc Tryz.prog w base spare held n9 28 ((List.drop 13 [Value.int .u8 k, .int .i64 who, .int .i64 n, S name, S text, .bool flag, .int .u8 snd, .int .u8 rcv, v8, v9, v10, v11, v12, v13, v14, v15, v16]).take (Tryz.prog.cellsOf 28)) = some y9 := h9
  rw [ce28] at h9'
  obtain ⟨m, _, bv, hmc, hbv, hp, ht, hc, _, _⟩ := open_msgE h8' l8 rfl
  obtain ⟨ok, oa, ob, cond, hoc, hok, hoa, hob, _⟩ := open_outc h9' l9 rfl
  cases hmc
  cases hoc
  have hk' : (k : Int) ≤ 255 := hk
  have hsnd' : (snd : Int) ≤ 255 := hsnd
  have hrcv' : (rcv : Int) ≤ 255 := hrcv
  exact ⟨⟨k, who, n, name, text, flag, snd, rcv, m, ok, oa, ob, cond⟩, _, rfl, ⟨by show k < 256; omega, hwho, hn, by show snd < 256; omega, by show rcv < 256; omega, hp, ht, hc, hok, hoa, hob⟩, hbv⟩
end
end Go.Proofs.YtaojoifpekoecaaGreatDoor
