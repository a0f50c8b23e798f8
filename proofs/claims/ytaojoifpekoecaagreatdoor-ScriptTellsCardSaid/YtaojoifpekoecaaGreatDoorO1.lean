/-
  Slices of rows of cells, strings and numbers, opened from what an argument reads as. Conditions: as each theorem says.
-/
import Derived.Test.YtaojoifpekoecaaGreatDoorT19
import Derived.Deep.Slices
import Derived.ChangeArms
import Derived.SizedLaws
namespace Go.Proofs.YtaojoifpekoecaaGreatDoor
open Go.RowKit Go.Deep Go.ChangeShapes

section
variable {H : Type} {enc : TypeId × Value → H} {P : Program} {w : World} {base : Nat} {spare : Nat → Bool} {held : Bool}

/-- what a datum weighs is within reach -/
def Light (P : Program) {H : Type} (t : TypeId) (d : DataW H) : Prop := ∀ n ∈ d.weights P t, n ≤ reachBytes
theorem Light.part {t : TypeId} {fs : Array Field} {parts : List (DataW H)} (h : Light P t (.agg parts)) (hs : P.underlying t = some (.struct fs)) {i : Nat} {f : Field} {d : DataW H} (hf : fs[i]? = some f) (hd : parts[i]? = some d) : Light P f.type d := by
  intro n hn
  refine h n ?_
  unfold DataW.weights
  simp only [hs]
  exact DataW.weights_mem_each (j := i) (t := f.type) (by rw [List.getElem?_map, Array.getElem?_toList, hf]; rfl) hd n hn
theorem weightsAll_mem {e : TypeId} : ∀ {l : List (DataW H)} {d : DataW H}, d ∈ l → ∀ n ∈ d.weights P e, n ∈ DataW.weightsAll P e l
  | x :: l, d, h, n, hn => by
    simp only [DataW.weightsAll, List.mem_append]
    rcases List.mem_cons.1 h with rfl | h
    · exact .inl hn
    · exact .inr (weightsAll_mem h n hn)
theorem Light.elem {t e : TypeId} {elems rest : List (DataW H)} (h : Light P t (.slice elems rest)) (hs : P.underlying t = some (.slice e)) {d : DataW H} (hd : d ∈ elems) : Light P e d := by
  intro n hn
  refine h n ?_
  unfold DataW.weights
  simp only [hs]
  exact List.mem_cons_of_mem _ (List.mem_append_left _ (weightsAll_mem hd n hn))
theorem Light.len {t e : TypeId} {elems rest : List (DataW H)} (h : Light P t (.slice elems rest)) (hs : P.underlying t = some (.slice e)) (hb : 0 < P.bytesOf e) : elems.length ≤ reachBytes := by
  have := h ((elems.length + rest.length) * P.bytesOf e) (by unfold DataW.weights; simp only [hs]; exact List.mem_cons_self)
  have h2 : (elems.length + rest.length) * 1 ≤ (elems.length + rest.length) * P.bytesOf e := Nat.mul_le_mul_left _ hb
  omega
theorem Light.str {t : TypeId} {l : List UInt8} (h : Light P t (.lit (.string l) : DataW H)) : l.length ≤ reachBytes := h _ (by simp [DataW.weights])
theorem Light.arg {ts : List TypeId} {ds : List (DataW H)} (h : (DataW.weightsEach P ts ds).all (· ≤ reachBytes) = true) {j : Nat} {t : TypeId} {d : DataW H} (ht : ts[j]? = some t) (hd : ds[j]? = some d) : Light P t d := fun n hn => by
  have := List.all_eq_true.1 h _ (DataW.weights_mem_each ht hd n hn)
  simpa using this

/-- one field of a struct's cells, where each field is one cell -/
theorem field1 {t : TypeId} {fs : Array Field} {cs : List Value} {fuel : Nat} {x : DataW H × List MemPlace} (hs : P.underlying t = some (.struct fs)) (h : DataW.trod enc P w base spare held fuel t cs = some x) (hl : Light P t x.1)
    (i : Nat) (f : Field) (hf : fs[i]? = some f) (ho : f.offset = i) (hc : P.cellsOf f.type = 1) (hi : i < cs.length) : ∃ n y, DataW.trod enc P w base spare held n f.type [cs[i]] = some y ∧ Light P f.type y.1 := by
  obtain ⟨xs, n, _, rfl, hlen, hxl, hall⟩ := DataW.trod_struct hs h
  have h1 := hall i f hf
  have hif : i < xs.length := by
    rw [hxl]; exact (Array.getElem?_eq_some_iff.1 hf).1
  rw [List.getElem?_eq_getElem hif, ho, hc] at h1
  have h2 : (cs.drop i).take 1 = [cs[i]] := by
    rw [List.drop_eq_getElem_cons hi]; rfl
  rw [h2] at h1
  exact ⟨n, _, h1, hl.part hs hf (by rw [List.getElem?_map, List.getElem?_eq_getElem hif]; rfl)⟩
theorem open_str {t : TypeId} {v : Value} {fuel : Nat} {x : DataW H × List MemPlace} (ht : P.underlying t = some .string) (h : DataW.trod enc P w base spare held fuel t [v] = some x) (hl : Light P t x.1) : ∃ l, v = S l ∧ Lim l := by
  obtain ⟨s, hv, rfl, _⟩ := DataW.trod_string ht h
  cases hv
  refine ⟨s.data.toList, by simp [S], ?_⟩
  have := hl.str
  unfold Lim
  have h47 := reachBytes_lt
  omega
theorem open_nat {t : TypeId} {k : IntKind} {v : Value} {fuel : Nat} {x : DataW H × List MemPlace} (ht : P.underlying t = some (.int k)) (hk : k.min = 0) (h : DataW.trod enc P w base spare held fuel t [v] = some x) : ∃ n : Nat, v = .int k n ∧ (n : Int) ≤ k.max := by
  obtain ⟨n, hv, _, hw⟩ := DataW.trod_int ht h
  cases hv
  simp only [Lit.wf, Bool.and_eq_true, decide_eq_true_eq, hk] at hw
  exact ⟨n.toNat, by rw [Int.toNat_of_nonneg hw.1], by omega⟩
theorem open_i64 {t : TypeId} {v : Value} {fuel : Nat} {x : DataW H × List MemPlace} (ht : P.underlying t = some (.int .i64)) (h : DataW.trod enc P w base spare held fuel t [v] = some x) : ∃ n : Int, v = .int .i64 n ∧ I64 n := by
  obtain ⟨n, hv, _, hw⟩ := DataW.trod_int ht h
  cases hv
  simp only [Lit.wf, Bool.and_eq_true, decide_eq_true_eq] at hw
  exact ⟨n, rfl, hw.1, hw.2⟩
theorem open_bool1 {t : TypeId} {v : Value} {fuel : Nat} {x : DataW H × List MemPlace} (ht : P.underlying t = some .bool) (h : DataW.trod enc P w base spare held fuel t [v] = some x) : ∃ b, v = .bool b := by
  obtain ⟨b, hv, _⟩ := DataW.trod_bool ht h
  cases hv
  exact ⟨b, rfl⟩
theorem add_flat (b o i : Nat) : (⟨b, o, none⟩ : Addr).add i = ⟨b, o + i, none⟩ := by
  unfold Addr.add
  by_cases h : i = 0 <;> simp [h]
theorem cell?_lt {a : Addr} {v : Value} (h : w.cell? a = some v) : a.block < w.heap.size := by
  unfold World.cell? at h
  cases hq : w.heap[a.block]? with
  | none => simp [hq] at h
  | some o => exact (Array.getElem?_eq_some_iff.1 hq).1
/-- a slice of rows of cells -/
theorem open_rows {α : Type} {t e : TypeId} {n : Nat} {EV : World → List Value → α → Prop} (ht : P.underlying t = some (.slice e)) (hc : P.cellsOf e = n) (hpos : 0 < n)
    (hE : ∀ (fuel : Nat) cs x, DataW.trod enc P w base spare held fuel e cs = some x → Light P e x.1 → cs.length = n → ∃ a, cs.all (·.oneCell') = true ∧ EV w cs a)
    {fuel : Nat} {v : Value} {x : DataW H × List MemPlace} (h : DataW.trod enc P w base spare held fuel t [v] = some x) (hl : Light P t x.1) : ∃ xs, SliceV n EV w v xs := by
  rcases open_slice ht h with ⟨hv, rfl⟩ | ⟨a, len, cap, m, k, D, Pl, hv, hb, hlc, hm, hmm, rfl, hx⟩
  · cases hv
    exact ⟨[], none, 0, rfl, fun h => absurd rfl h⟩
  · cases hv
    have hlm : len ≤ m := by rw [hmm]; split <;> omega
    have each : ∀ i, i < len → ∃ q : List Value × α, q.1.length = n ∧ q.1.all (·.oneCell') = true ∧ (∀ j, j < n → w.cell? (a.add (i * n + j)) = q.1[j]?) ∧ EV w q.1 q.2 := by
      intro i hi
      obtain ⟨cs, h1, h2⟩ := hx i (by omega)
      rw [hc] at h1
      obtain ⟨_, hlen, hcell⟩ := World.cells?_some h1
      obtain ⟨y, hy1, hy2⟩ := hE k cs _ h2 (hl.elem ht (List.mem_map.2 ⟨i, List.mem_range.2 hi, rfl⟩)) hlen
      refine ⟨(cs, y), hlen, hy1, fun j hj => ?_, hy2⟩
      have := hcell j hj
      rwa [add_add] at this
    by_cases h0 : len = 0
    · subst h0
      exact ⟨[], some a, cap, rfl, fun h => absurd rfl h⟩
    · have hA : ∃ b o, a = ⟨b, o, none⟩ ∧ b < w.heap.size := by
        obtain ⟨q, hq1, _, hq3, _⟩ := each 0 (by omega)
        have h3 := hq3 0 hpos
        rw [List.getElem?_eq_getElem (by omega)] at h3
        obtain ⟨b, o, spot⟩ := a
        have hspot : spot = none := by simpa [Addr.add] using World.cell?_spot h3
        subst hspot
        refine ⟨b, o, rfl, ?_⟩
        have := cell?_lt h3
        simpa [Addr.add] using this
      obtain ⟨b, o, rfl, hbl⟩ := hA
      haveI : Inhabited (List Value × α) := ⟨(each 0 (by omega)).choose⟩
      obtain ⟨q, hq⟩ := choose_lt each
      refine ⟨(List.range len).map (fun i => (q i).2), some ⟨b, o, none⟩, cap, by simp, fun _ => ⟨b, o, rfl, hbl, fun j y hy => ?_⟩⟩
      have hj : j < len := by
        have := (List.getElem?_eq_some_iff.1 hy).1
        simpa using this
      rw [List.getElem?_map, List.getElem?_range hj] at hy
      cases hy
      obtain ⟨g1, g2, g3, g4⟩ := hq j hj
      refine ⟨(q j).1, g1, g2, fun i u hu => ?_, g4⟩
      have hi : i < n := by rw [← g1]; exact (List.getElem?_eq_some_iff.1 hu).1
      have := g3 i hi
      rw [add_flat] at this
      rw [Nat.add_assoc, this, hu]
/-- a slice of bytes -/
theorem open_bytes {t e : TypeId} (ht : P.underlying t = some (.slice e)) (he : P.underlying e = some (.int .u8)) (hc : P.cellsOf e = 1) (hb : 0 < P.bytesOf e)
    {fuel : Nat} {v : Value} {x : DataW H × List MemPlace} (h : DataW.trod enc P w base spare held fuel t [v] = some x) (hl : Light P t x.1) : ∃ l, BytesV w v l ∧ Lim l := by
  obtain ⟨xs, a, c, hv, hx⟩ := open_rows (α := UInt8) (n := 1) (EV := fun _ cs y => cs = [.int .u8 (y.toNat : Int)]) ht hc (by omega) (fun fuel cs y hy _ hcs => by
    match cs, hcs with
    | [u], _ =>
      obtain ⟨k, rfl, hk⟩ := open_nat he rfl hy
      have hk' : k < 256 := by
        have : (k : Int) ≤ 255 := hk
        omega
      exact ⟨UInt8.ofNat k, rfl, by show [Value.int IntKind.u8 (k : Int)] = [Value.int IntKind.u8 (((UInt8.ofNat k).toNat : Nat) : Int)]; rw [show (UInt8.ofNat k).toNat = k from Nat.mod_eq_of_lt hk']⟩) h hl
  subst hv
  refine ⟨xs, ⟨a, c, rfl, fun h0 => ?_⟩, ?_⟩
  · obtain ⟨b, o, ha, hbl, hel⟩ := hx h0
    refine ⟨b, o, ha, hbl, fun j y hy => ?_⟩
    obtain ⟨cs, _, _, hr, hcs⟩ := hel j y hy
    subst hcs
    have := hr 0 _ rfl
    simpa using this
  · rcases open_slice ht h with ⟨hv, rfl⟩ | ⟨a, len, cap, m, k, D, Pl, hv, hb', hlc, hm, hmm, rfl, _⟩
    · have : xs.length = 0 := by
        simp only [List.cons.injEq, Value.slice.injEq, and_true] at hv
        exact hv.2.1
      unfold Lim
      omega
    · simp only [List.cons.injEq, Value.slice.injEq, and_true] at hv
      have := hl.len ht hb
      rw [List.length_map, List.length_range] at this
      have h47 := reachBytes_lt
      unfold Lim
      omega
end
end Go.Proofs.YtaojoifpekoecaaGreatDoor

