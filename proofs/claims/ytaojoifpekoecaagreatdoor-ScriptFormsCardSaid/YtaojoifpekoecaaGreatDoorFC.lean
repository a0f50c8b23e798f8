/-
  Words read again (plain); structs as whole blocks; Vast, Copy, words, alone; an event and its words. Conditions: as each theorem says.
-/
import Derived.Test.YtaojoifpekoecaaGreatDoorFB
import Derived.Deep.MidRow
import Derived.Deep.WholeRow
import Derived.Lib.AtoiAll
import Derived.Lib.ParseIntB
import Derived.Lib.Split
import Derived.Lib.SplitLaws
import Derived.Lib.IndexBytes
import Derived.Laws.IdiomStrings
import Derived.Lib.BufferRead
import Derived.Sort.Walk0
import Derived.Laws.Cover1
import Derived.Deep.RegionHeld3
import Derived.Laws.StructEq
import Derived.LoopN
import Derived.Laws.MakeOwn
import Derived.Deep.AppendLies
import Derived.Deep.Cut
import Derived.Deep.CutBlock
import Derived.Deep.CutRange
import Derived.Deep.DeepCutAuto
namespace Go.Proofs.YtaojoifpekoecaaGreatDoor
open Go.RowKit
theorem frozen_of {w : World} {b j : Nat} {cs : Array Value} {t : TypeId} (h : w.heap[b]? = some (.cells cs t)) : w.frozen? ⟨b, j, none⟩ = false := frozen_of_row w b j cs t h
theorem cell_of {w : World} {b j : Nat} {cs : Array Value} {t : TypeId} (h : w.heap[b]? = some (.cells cs t)) : w.cell? ⟨b, j, none⟩ = cs[j]? := cell_of_row w b j cs t (0, 0) h
theorem lt_of {w : World} {b : Nat} {o : Obj} (h : w.heap[b]? = some o) : b < w.heap.size := (Array.getElem?_eq_some_iff.1 h).1
/-- nothing but block b of what was there has turned -/
structure But (b : Nat) (w w' : World) : Prop where
  os : w'.os = w.os
  tape : w'.tape = w.tape
  output : w'.output = w.output
  size : w.heap.size ≤ w'.heap.size
  block : ∀ j, j < w.heap.size → j ≠ b → w'.heap[j]? = w.heap[j]?
theorem But.of_below {b : Nat} {w w' : World} (h : Below w.heap.size w w') : But b w w' := ⟨h.os, h.tape, h.output, h.size, fun j hj _ => h.block j hj⟩
theorem But.refl (b : Nat) (w : World) : But b w w := But.of_below (Below.refl _ _)
theorem But.trans {b : Nat} {x y z : World} (h : But b x y) (k : But b y z) : But b x z :=
  ⟨k.os.trans h.os, k.tape.trans h.tape, k.output.trans h.output, Nat.le_trans h.size k.size, fun j hj hne => (k.block j (Nat.lt_of_lt_of_le hj h.size) hne).trans (h.block j hj hne)⟩
theorem But.below {b B : Nat} {w w' : World} (h : But b w w') (hB : B ≤ b) (hs : B ≤ w.heap.size) : Below B w w' :=
  ⟨h.os, h.tape, h.output, h.size, fun j hj => h.block j (Nat.lt_of_lt_of_le hj hs) (by omega)⟩
theorem But.setCell (b o : Nat) (w : World) (u : Value) : But b w (w.setCell ⟨b, o, none⟩ u) :=
  ⟨rfl, rfl, rfl, by simp, fun j _ hne => heap_setCell_other w ⟨b, o, none⟩ j u hne⟩
theorem But.drew (b : Nat) (w : World) : But b w w.drew := But.of_below (Below.refl _ _).drew
theorem setCells_but (b : Nat) : ∀ (l : List Value) (o : Nat) (w : World), But b w (w.setCells b o l)
  | [], _, w => But.refl b w
  | v :: l, o, w => (But.setCell b o w v).trans (setCells_but b l (o + 1) _)
theorem setCells_size (b : Nat) : ∀ (l : List Value) (o : Nat) (w : World), (w.setCells b o l).heap.size = w.heap.size
  | [], _, _ => rfl
  | v :: l, o, w => (setCells_size b l (o + 1) _).trans (by simp)
theorem setCells_heap (b : Nat) (t : TypeId) : ∀ (l : List Value) (o : Nat) (w : World) (cs : Array Value), w.heap[b]? = some (.cells cs t) → o + l.length ≤ cs.size → (w.setCells b o l).heap[b]? = some (.cells ((cs.toList.take o ++ l ++ cs.toList.drop (o + l.length)).toArray) t)
  | [], o, w, cs, h, hs => by
    simp only [List.append_nil, List.length_nil, Nat.add_zero, List.take_append_drop]
    simpa [World.setCells] using h
  | v :: l, o, w, cs, h, hs => by
    have h1 := heap_setCell_same w b o cs t v h
    have h2 := setCells_heap b t l (o + 1) (w.setCell ⟨b, o, none⟩ v) (cs.setIfInBounds o v) h1 (by simp only [Array.size_setIfInBounds, List.length_cons] at hs ⊢; omega)
    show ((w.setCell ⟨b, o, none⟩ v).setCells b (o + 1) l).heap[b]? = _
    rw [h2]
    congr 3
    have hlt : o < cs.toList.length := by simp only [List.length_cons] at hs; simp; omega
    rw [Array.toList_setIfInBounds, List.take_succ_eq_append_getElem (by rw [List.length_set]; exact hlt), List.take_set, List.getElem_set_self]
    rw [List.set_eq_of_length_le (by rw [List.length_take]; exact Nat.min_le_left _ _), List.drop_set_of_lt (by omega)]
    simp only [List.append_assoc, List.cons_append, List.nil_append, List.length_cons]
    rw [show o + 1 + l.length = o + (l.length + 1) by omega]
section
variable {P : Program}
/-- a whole block stored -/
theorem wpList_store_whole {ops : Array Oper} {rest : List Oper} {op : Oper} {a : Act} {w : World} {Q : Exit → Act → World → Prop} (hgd : op.guard = none) (ty : TypeId) (x y : Operand) (ho : op.op = .store ty x y)
    (b : Nat) (cells cs : Array Value) (t : TypeId) (hx : a.eval x = .pointer (some ⟨b, 0, none⟩)) (hy : a.eval y = .agg cells) (hb : w.heap[b]? = some (.cells cs t)) (hs : cs.size = cells.size)
    (hi : (P.info? ty).map (·.size) = some cells.size) (h1 : cells.toList.all (·.oneCell') = true)
    (h : ∀ w', w'.heap[b]? = some (.cells cells t) → But b w w' → w'.heap.size = w.heap.size → wpList P ops Q rest (a.put op.dst undef) w') : wpList P ops Q (op :: rest) a w := by
  refine wpList_store_mid hgd ty x y ho b 0 cells hx hy (fun j hj => ?_) hi (by simpa using h1) (h _ ?_ (setCells_but b _ 0 w) (setCells_size b _ 0 w))
  · rw [Nat.zero_add]
    refine ⟨?_, frozen_of hb⟩
    rw [cell_of hb, Array.getElem?_eq_getElem (by omega)]
    rfl
  · have h2 := setCells_heap b t cells.toList 0 w cs hb (by simp [hs])
    rw [List.take_zero, List.nil_append, List.drop_of_length_le (by simp [hs]), List.append_nil] at h2
    simpa using h2
/-- a part of a block stored -/
theorem wpList_store_part {ops : Array Oper} {rest : List Oper} {op : Oper} {a : Act} {w : World} {Q : Exit → Act → World → Prop} (hgd : op.guard = none) (ty : TypeId) (x y : Operand) (ho : op.op = .store ty x y)
    (b o : Nat) (cells : Array Value) (cs : Array Value) (t : TypeId) (hx : a.eval x = .pointer (some ⟨b, o, none⟩)) (hy : a.eval y = .agg cells) (hb : w.heap[b]? = some (.cells cs t)) (hs : o + cells.size ≤ cs.size)
    (hi : (P.info? ty).map (·.size) = some cells.size) (h1 : cells.toList.all (·.oneCell') = true)
    (h : ∀ w', w'.heap[b]? = some (.cells ((cs.toList.take o ++ cells.toList ++ cs.toList.drop (o + cells.size)).toArray) t) → But b w w' → w'.heap.size = w.heap.size → wpList P ops Q rest (a.put op.dst undef) w') : wpList P ops Q (op :: rest) a w := by
  refine wpList_store_mid hgd ty x y ho b o cells hx hy (fun j hj => ?_) hi (by simpa using h1) (h _ (by have := setCells_heap b t cells.toList o w cs hb (by simpa using hs); simpa using this) (setCells_but b _ o w) (setCells_size b _ o w))
  refine ⟨?_, frozen_of hb⟩
  rw [cell_of hb, Array.getElem?_eq_getElem (by omega)]
  rfl
end
end Go.Proofs.YtaojoifpekoecaaGreatDoor


namespace Go.Proofs.YtaojoifpekoecaaGreatDoor
theorem dig_nat (k : Nat) (h : k < 10) : (UInt8.ofNat (48 + k)).toNat = 48 + k := Nat.mod_eq_of_lt (by omega)
theorem dec_dig (u : Nat) : ∀ c ∈ Lib.decDigits u, 48 ≤ c.toNat ∧ c.toNat ≤ 57 := by
  induction u using Nat.strongRecOn with
  | ind u ih =>
    rw [Lib.decDigits]
    split
    · rename_i h
      intro c hc
      rw [List.mem_singleton] at hc
      subst hc
      rw [dig_nat u h]; omega
    · rename_i h
      intro c hc
      rw [List.mem_append] at hc
      rcases hc with hc | hc
      · exact ih (u / 10) (by omega) c hc
      · rw [List.mem_singleton] at hc
        subst hc
        rw [dig_nat _ (by omega)]; omega
theorem dec_ne (u : Nat) : Lib.decDigits u ≠ [] := by
  rw [Lib.decDigits]
  split <;> simp
theorem itoa_dig (n : Int) : ∀ c ∈ Lib.itoa n, c.toNat = 45 ∨ (48 ≤ c.toNat ∧ c.toNat ≤ 57) := by
  intro c hc
  unfold Lib.itoa at hc
  split at hc
  · rcases List.mem_cons.1 hc with rfl | hc
    · exact .inl rfl
    · exact .inr (dec_dig _ c hc)
  · exact .inr (dec_dig _ c hc)
theorem hexd_dig : ∀ i : Fin 16, (hexd i.val).toNat ≠ 32 ∧ (hexd i.val).toNat ≠ 46 ∧ 45 < (hexd i.val).toNat := by decide +kernel
theorem hex_dig (l : List UInt8) : ∀ c ∈ hexW l, c.toNat ≠ 32 ∧ c.toNat ≠ 46 := by
  intro c hc
  unfold hexW at hc
  split at hc
  · rw [List.mem_singleton] at hc
    subst hc
    decide
  · unfold hexL at hc
    rw [List.mem_flatMap] at hc
    obtain ⟨b, _, hc⟩ := hc
    have hb := b.toNat_lt
    simp only [List.mem_cons, List.mem_nil_iff, or_false] at hc
    rcases hc with rfl | rfl
    · have := hexd_dig ⟨b.toNat / 16, by omega⟩; exact ⟨this.1, this.2.1⟩
    · have := hexd_dig ⟨b.toNat % 16, by omega⟩; exact ⟨this.1, this.2.1⟩
theorem not_mem_of {c : UInt8} {l : List UInt8} (h : ∀ x ∈ l, x.toNat ≠ c.toNat) : c ∉ l := fun hc => h c hc rfl
theorem dec_no (c : UInt8) (hc : c.toNat < 48) (u : Nat) : c ∉ Lib.decDigits u := not_mem_of fun x hx => by have := dec_dig u x hx; omega
theorem itoa_no (c : UInt8) (hc : c.toNat = 32 ∨ c.toNat = 46) (n : Int) : c ∉ Lib.itoa n := not_mem_of fun x hx => by have := itoa_dig n x hx; omega
theorem hex_no (c : UInt8) (hc : c.toNat = 32 ∨ c.toNat = 46) (l : List UInt8) : c ∉ hexW l := not_mem_of fun x hx => by have := hex_dig l x hx; omega
theorem ans_no (c : UInt8) (hc : c.toNat = 32 ∨ c.toNat = 46) (b : Bool) : c ∉ ansW b := not_mem_of fun x hx => by
  unfold ansW at hx
  split at hx
  all_goals
    simp only [List.mem_cons, List.mem_nil_iff, or_false] at hx
    rcases hx with rfl | rfl | rfl
  all_goals (intro h; rw [← h] at hc; revert hc; decide)
theorem ixb_none (c : UInt8) : ∀ l : List UInt8, c ∉ l → Lib.indexByte l c = -1
  | [], _ => rfl
  | b :: l, h => by
    simp only [List.mem_cons, not_or] at h
    unfold Lib.indexByte
    rw [if_neg (by simpa using fun e => h.1 e.symm), ixb_none c l h.2]
    rfl
theorem ixb_app (c : UInt8) (r : List UInt8) : ∀ l : List UInt8, c ∉ l → Lib.indexByte (l ++ c :: r) c = l.length
  | [], _ => by simp [Lib.indexByte]
  | b :: l, h => by
    simp only [List.mem_cons, not_or] at h
    rw [List.cons_append]
    unfold Lib.indexByte
    rw [if_neg (by simpa using fun e => h.1 e.symm), ixb_app c r l h.2]
    rw [if_neg (by simp)]
    simp
theorem join_two (c : UInt8) (w x : List UInt8) (r : List (List UInt8)) : Lib.join (w :: x :: r) [c] = w ++ c :: Lib.join (x :: r) [c] := by
  rw [Lib.join_cons, Lib.join_cons]
  simp [Lib.joinTail]
theorem split_join (c : UInt8) : ∀ ws : List (List UInt8), ws ≠ [] → (∀ w ∈ ws, c ∉ w) → Lib.split (Lib.join ws [c]) [c] = ws
  | [], h, _ => absurd rfl h
  | [w], _, h => by
    have hw := h w (by simp)
    rw [Lib.join_one]
    have hi : Lib.index w [c] = -1 := by rw [Lib.index_one]; exact ixb_none c w hw
    unfold Lib.split
    rw [Lib.count_miss hi]
    rfl
  | w :: x :: r, _, h => by
    have hw := h w (by simp)
    have ih := split_join c (x :: r) (by simp) (fun y hy => h y (List.mem_cons_of_mem _ hy))
    rw [join_two]
    have hi : Lib.index (w ++ c :: Lib.join (x :: r) [c]) [c] = (w.length : Int) := by rw [Lib.index_one]; exact ixb_app c _ w hw
    unfold Lib.split at ih ⊢
    rw [Lib.count_hit (by simp) hi]
    have hd : (w ++ c :: Lib.join (x :: r) [c]).drop (w.length + [c].length) = Lib.join (x :: r) [c] := by
      rw [List.drop_append]; simp
    rw [hd, Nat.add_comm, Lib.splitK, if_neg (by rw [hi]; simp), hi]
    simp only [Int.toNat_natCast, Nat.add_zero]
    rw [hd, ih, List.take_left]
theorem join_inj (c : UInt8) {a b : List (List UInt8)} (ha : a ≠ []) (hb : b ≠ []) (h1 : ∀ w ∈ a, c ∉ w) (h2 : ∀ w ∈ b, c ∉ w) (h : Lib.join a [c] = Lib.join b [c]) : a = b := by
  rw [← split_join c a ha h1, ← split_join c b hb h2, h]
theorem parseM_append (M : Nat) (r : List UInt8) : ∀ (l : List UInt8) (acc v : Nat), Lib.parseUintM M acc l = .ok v → Lib.parseUintM M acc (l ++ r) = Lib.parseUintM M v r
  | [], acc, v, h => by
    simp only [Lib.parseUintM] at h
    injection h with h
    subst h; rfl
  | c :: l, acc, v, h => by
    simp only [Lib.parseUintM, List.cons_append] at h ⊢
    split at h
    · rename_i h1
      rw [if_pos h1]
      split at h
      · cases h
      · rename_i h2
        rw [if_neg h2]
        split at h
        · cases h
        · rename_i h3
          rw [if_neg h3]
          exact parseM_append M r l _ v h
    · cases h
theorem parseM_dec (M : Nat) (hM : M < 18446744073709551616) (u : Nat) : u ≤ M → Lib.parseUintM M 0 (Lib.decDigits u) = .ok u := by
  induction u using Nat.strongRecOn with
  | ind u ih =>
    intro hu
    rw [Lib.decDigits]
    split
    · rename_i h
      simp only [Lib.parseUintM]
      rw [dig_nat u h, if_pos (by omega), if_neg (by omega), if_neg (by omega)]
      congr 1
      omega
    · rename_i h
      rw [parseM_append M _ _ 0 (u / 10) (ih (u / 10) (by omega) (by omega))]
      simp only [Lib.parseUintM]
      rw [dig_nat _ (by omega), if_pos (by omega), if_neg (by omega), if_neg (by omega)]
      congr 1
      omega
theorem parse10_M : ∀ (l : List UInt8) (acc : Nat), Lib.parseUint10 acc l = Lib.parseUintM 18446744073709551615 acc l
  | [], acc => rfl
  | c :: l, acc => by
    simp only [Lib.parseUint10, Lib.parseUintM]
    rw [parse10_M l]
    split
    · split
      · rfl
      · by_cases h : 18446744073709551616 ≤ acc * 10 + (c.toNat - 48)
        · rw [if_pos h, if_pos (by omega)]
        · rw [if_neg h, if_neg (by omega)]
    · rfl
theorem parseB_dec (B u : Nat) (hB : B ≤ 64) (hu : u < 2 ^ B) : Lib.parseUintB B (Lib.decDigits u) = .ok u := by
  unfold Lib.parseUintB
  rw [if_neg (dec_ne u)]
  have : 2 ^ B ≤ 2 ^ 64 := Nat.pow_le_pow_right (by omega) hB
  exact parseM_dec _ (by have : (2 : Nat) ^ 64 = 18446744073709551616 := rfl; omega) u (by omega)
theorem mag_dec (u : Nat) (hu : u < 18446744073709551616) : Lib.parseMag (Lib.decDigits u) = .ok u := by
  unfold Lib.parseMag
  rw [if_neg (dec_ne u), parse10_M]
  exact parseM_dec _ (by omega) u (by omega)
theorem atoi_cons (c : UInt8) (r : List UInt8) (u : Nat) (h : Lib.parseMag (if c.toNat = 43 ∨ c.toNat = 45 then r else c :: r) = .ok u) :
    Lib.atoiAll (c :: r) = if ¬ c.toNat = 45 ∧ 9223372036854775808 ≤ u then .range else if c.toNat = 45 ∧ 9223372036854775808 < u then .range else .ok (if c.toNat = 45 then -(u : Int) else u) := by
  unfold Lib.atoiAll
  simp only [h]
theorem atoi_itoa (n : Int) (h : I64 n) : Lib.atoiAll (Lib.itoa n) = .ok n := by
  obtain ⟨h0, h1⟩ := h
  by_cases hn : n < 0
  · unfold Lib.itoa
    rw [if_pos hn, atoi_cons 45 (Lib.decDigits n.natAbs) n.natAbs (by rw [if_pos (.inr rfl)]; exact mag_dec _ (by omega))]
    rw [if_neg (by simp), if_neg (by omega), if_pos (show UInt8.toNat 45 = 45 from rfl)]
    congr 1
    omega
  · unfold Lib.itoa
    rw [if_neg hn]
    cases hd : Lib.decDigits n.toNat with
    | nil => exact absurd hd (dec_ne _)
    | cons c r =>
      have hc := dec_dig n.toNat c (by rw [hd]; simp)
      rw [atoi_cons c r n.toNat (by rw [if_neg (by omega), ← hd]; exact mag_dec _ (by omega))]
      rw [if_neg (by omega), if_neg (by omega), if_neg (by omega)]
      congr 1
      omega
theorem dec_inj {a b : Nat} (ha : a < 18446744073709551616) (hb : b < 18446744073709551616) (h : Lib.decDigits a = Lib.decDigits b) : a = b := by
  have h1 := mag_dec a ha
  rw [h, mag_dec b hb] at h1
  injection h1 with h1
  exact h1.symm
theorem hexd_ix : ∀ i : Fin 16, Lib.indexByte signs.data.toList (hexd i.val) = i.val := by decide +kernel
theorem hex_ne (l : List UInt8) (h : l ≠ []) : hexW l ≠ [45] := by
  intro e
  unfold hexW at e
  rw [if_neg h] at e
  have := congrArg List.length e
  rw [hexL_length] at this
  simp at this
  omega
theorem hexL_inj : ∀ a b : List UInt8, hexL a = hexL b → a = b
  | [], [], _ => rfl
  | [], y :: b, h => by simp [hexL] at h
  | x :: a, [], h => by simp [hexL] at h
  | x :: a, y :: b, h => by
    have e : hexL (x :: a) = hexd (x.toNat / 16) :: hexd (x.toNat % 16) :: hexL a := rfl
    have f : hexL (y :: b) = hexd (y.toNat / 16) :: hexd (y.toNat % 16) :: hexL b := rfl
    rw [e, f] at h
    simp only [List.cons.injEq] at h
    obtain ⟨h1, h2, h3⟩ := h
    have hx := x.toNat_lt
    have hy := y.toNat_lt
    have a1 := hexd_ix ⟨x.toNat / 16, by omega⟩
    have a2 := hexd_ix ⟨y.toNat / 16, by omega⟩
    have a3 := hexd_ix ⟨x.toNat % 16, by omega⟩
    have a4 := hexd_ix ⟨y.toNat % 16, by omega⟩
    simp only at a1 a2 a3 a4
    rw [h1, a2] at a1
    rw [h2, a4] at a3
    have hxy : x = y := UInt8.toNat_inj.1 (by omega)
    rw [hxy, hexL_inj a b h3]
theorem hex_inj (a b : List UInt8) (h : hexW a = hexW b) : a = b := by
  by_cases ha : a = []
  · by_cases hb : b = []
    · rw [ha, hb]
    · rw [ha] at h
      exact absurd h.symm (hex_ne b hb)
  · by_cases hb : b = []
    · rw [hb] at h
      exact absurd h (hex_ne a ha)
    · unfold hexW at h
      rw [if_neg ha, if_neg hb] at h
      exact hexL_inj a b h
theorem msg_no (p t c : Nat) (id body : List UInt8) : ∀ w ∈ [Lib.decDigits p, Lib.decDigits t, Lib.decDigits c, hexW id, hexW body], (46 : UInt8) ∉ w := by
  intro w hw
  simp only [List.mem_cons, List.mem_nil_iff, or_false] at hw
  rcases hw with rfl | rfl | rfl | rfl | rfl
  · exact dec_no _ (by decide) _
  · exact dec_no _ (by decide) _
  · exact dec_no _ (by decide) _
  · exact hex_no _ (.inr rfl) _
  · exact hex_no _ (.inr rfl) _
theorem out_no (k a b : Nat) (cond : List UInt8) : ∀ w ∈ [Lib.decDigits k, Lib.decDigits a, Lib.decDigits b, hexW cond], (46 : UInt8) ∉ w := by
  intro w hw
  simp only [List.mem_cons, List.mem_nil_iff, or_false] at hw
  rcases hw with rfl | rfl | rfl | rfl
  · exact dec_no _ (by decide) _
  · exact dec_no _ (by decide) _
  · exact dec_no _ (by decide) _
  · exact hex_no _ (.inr rfl) _
theorem msgW_inj {p t c p' t' c' : Nat} {id body id' body' : List UInt8} (hp : p < 256) (ht : t < 4294967296) (hc : c < 4294967296) (hp' : p' < 256) (ht' : t' < 4294967296) (hc' : c' < 4294967296)
    (h : msgW p t c id body = msgW p' t' c' id' body') : p = p' ∧ t = t' ∧ c = c' ∧ id = id' ∧ body = body' := by
  have := join_inj 46 (by simp) (by simp) (msg_no p t c id body) (msg_no p' t' c' id' body') h
  simp only [List.cons.injEq, and_true] at this
  obtain ⟨h1, h2, h3, h4, h5⟩ := this
  exact ⟨dec_inj (by omega) (by omega) h1, dec_inj (by omega) (by omega) h2, dec_inj (by omega) (by omega) h3, hex_inj _ _ h4, hex_inj _ _ h5⟩
theorem join_no (c d : UInt8) (hcd : c ≠ d) : ∀ ws : List (List UInt8), (∀ w ∈ ws, c ∉ w) → c ∉ Lib.join ws [d]
  | [], _ => by simp [Lib.join_nil]
  | [w], h => by rw [Lib.join_one]; exact h w (by simp)
  | w :: x :: r, h => by
    rw [join_two]
    have ih := join_no c d hcd (x :: r) (fun y hy => h y (List.mem_cons_of_mem _ hy))
    simp only [List.mem_append, List.mem_cons, not_or]
    exact ⟨h w (by simp), hcd, ih⟩
theorem msgW_sp (p t c : Nat) (id body : List UInt8) : (32 : UInt8) ∉ msgW p t c id body := by
  refine join_no 32 46 (by decide) _ ?_
  intro w hw
  simp only [List.mem_cons, List.mem_nil_iff, or_false] at hw
  rcases hw with rfl | rfl | rfl | rfl | rfl
  · exact dec_no _ (by decide) _
  · exact dec_no _ (by decide) _
  · exact dec_no _ (by decide) _
  · exact hex_no _ (.inl rfl) _
  · exact hex_no _ (.inl rfl) _
theorem outW_sp (k a b : Nat) (cond : List UInt8) : (32 : UInt8) ∉ outW k a b cond := by
  refine join_no 32 46 (by decide) _ ?_
  intro w hw
  simp only [List.mem_cons, List.mem_nil_iff, or_false] at hw
  rcases hw with rfl | rfl | rfl | rfl
  · exact dec_no _ (by decide) _
  · exact dec_no _ (by decide) _
  · exact dec_no _ (by decide) _
  · exact hex_no _ (.inl rfl) _
end Go.Proofs.YtaojoifpekoecaaGreatDoor


namespace Go.Proofs.YtaojoifpekoecaaGreatDoor
open Go.RowKit Go.Shelf
structure EvD where
  k : Nat
  who : Int
  n : Int
  name : List UInt8
  text : List UInt8
  flag : Bool
  snd : Nat
  rcv : Nat
  m : MsgD
  ok : Nat
  oa : Nat
  ob : Nat
  cond : List UInt8
/-- an event's cells; its body's slice is bv -/
abbrev EvD.cs (e : EvD) (bv : Value) : Array Value := #[.int .u8 e.k, .int .i64 e.who, .int .i64 e.n, S e.name, S e.text, .bool e.flag, .int .u8 e.snd, .int .u8 e.rcv, .int .u8 e.m.p, .int .u32 e.m.t, .int .u32 e.m.c, S e.m.id, bv, .int .u8 e.ok, .int .u64 e.oa, .int .u64 e.ob, S e.cond]
/-- string(b) -/
theorem conv_str (v : Value) (l : List UInt8) (w : World) (h : BytesV w v l) : (convert 23 9 v).run Tryz.prog w = .ok (S l) w := by
  obtain ⟨a, c, rfl, hv⟩ := h
  by_cases h0 : l = []
  · subst h0
    cases a with
    | none => exact Lib.run_convert_nil_bytes w 23 9 5 c Tryz.underlying23 Tryz.underlying5 Tryz.underlying9
    | some a => exact run_convert_bytes_back w 23 9 5 a c [] Tryz.underlying23 Tryz.underlying5 Tryz.underlying9 (fun j hj => by simp at hj)
  · obtain ⟨b, o, rfl, _, hc⟩ := hv h0
    exact run_convert_bytes_back w 23 9 5 ⟨b, o, none⟩ c l Tryz.underlying23 Tryz.underlying5 Tryz.underlying9 (fun j hj => by
      have := hc j l[j] (List.getElem?_eq_getElem hj)
      rw [show (⟨b, o, none⟩ : Addr).add j = ⟨b, o + j, none⟩ by unfold Addr.add; by_cases h : j = 0 <;> simp [h]]
      exact this)
theorem leq_both (a b : List UInt8) : ((Op.bytesLess a b || a == b) && (Op.bytesLess b a || b == a)) = decide (a = b) := by
  rw [Proofs.bytesLess_eq, Proofs.bytesLess_eq]
  by_cases h : a = b
  · subst h; simp
  · rw [decide_eq_false h]
    by_cases h1 : a < b
    · have h2 : ¬ b < a := List.lt_asymm h1
      simp [h1, h2, Ne.symm h]
    · simp [h1, h]
set_option maxHeartbeats 1000000
/-- EqBytes -/
theorem eqBytes (va vb : Value) (a b : List UInt8) (w : World) (ha : BytesV w va a) (hb : BytesV w vb b) :
    Calls Tryz.prog 67 #[va, vb] w fun e w' => e = .returned (.bool (decide (a = b))) ∧ w' = w := by
  have h1 := conv_str va a w ha
  have h2 := conv_str vb b w hb
  have h3 := leq_both a b
  cases c1 : (Op.bytesLess a b || a == b) <;> cases c2 : (Op.bytesLess b a || b == a)
  all_goals
    rw [c1, c2] at h3
    go_enter Tryz.func67, Tryz.ntmps67
    go_wp2
    go_ret
  all_goals
    rw [← h3]
    exact ⟨rfl, rfl⟩
end Go.Proofs.YtaojoifpekoecaaGreatDoor


namespace Go.Proofs.YtaojoifpekoecaaGreatDoor
open Go.RowKit Go.Shelf
set_option maxHeartbeats 1000000
theorem beq_cast (a b : Nat) : ((a : Int) == (b : Int)) = decide (a = b) := by
  by_cases h : a = b
  · subst h; simp
  · rw [decide_eq_false h]; exact beq_eq_false_iff_ne.2 (by omega)
/-- Same, of two messages -/
theorem sameMsg (m m' : MsgD) (bv bv' : Value) (w : World) (hb : BytesV w bv m.body) (hb' : BytesV w bv' m'.body) :
    Calls Tryz.prog 26 #[.agg #[.int .u8 m.p, .int .u32 m.t, .int .u32 m.c, S m.id, bv], .agg #[.int .u8 m'.p, .int .u32 m'.t, .int .u32 m'.c, S m'.id, bv']] w fun e w' => (∃ b, e = .returned (.bool b) ∧ (b = true ↔ m = m')) ∧ Below w.heap.size w w' := by
  have hbb : ∀ W, Below w.heap.size w W → BytesV W bv m.body ∧ BytesV W bv' m'.body := fun W h => ⟨hb.below h (Nat.le_refl _), hb'.below h (Nat.le_refl _)⟩
  obtain ⟨h1, h2⟩ := hbb _ (((Below.refl _ _).alloc (Nat.le_refl _) (.cells #[.int .u8 m.p, .int .u32 m.t, .int .u32 m.c, S m.id, bv] 25)).alloc (by simp) (.cells #[.int .u8 m'.p, .int .u32 m'.t, .int .u32 m'.c, S m'.id, bv'] 25))
  have hbl := ((Below.refl w.heap.size w).alloc (Nat.le_refl _) (.cells #[.int .u8 m.p, .int .u32 m.t, .int .u32 m.c, S m.id, bv] 25)).alloc (by simp) (.cells #[.int .u8 m'.p, .int .u32 m'.t, .int .u32 m'.c, S m'.id, bv'] 25)
  obtain ⟨p, t, c, id, body⟩ := m
  obtain ⟨p', t', c', id', body'⟩ := m'
  simp only at h1 h2 hbl
  by_cases e1 : p = p'
  · subst e1
    by_cases e2 : t = t'
    · subst e2
      by_cases e3 : c = c'
      · subst e3
        by_cases e4 : id = id'
        · subst e4
          have c0 := eqBytes bv bv' body body' _ h1 h2
          go_enter Tryz.func26, Tryz.ntmps26
          go_wp2_with (go_at_call 67; with_reducible refine c0.mono ?_; rintro e w' ⟨rfl, rfl⟩)
          go_ret
          exact ⟨⟨_, rfl, by simp⟩, hbl⟩
        · go_enter Tryz.func26, Tryz.ntmps26
          go_wp2_with fail
          all_goals go_ret
          all_goals first | exact ⟨rfl, hbl⟩ | exact ⟨⟨_, rfl, by simp [e4]⟩, hbl⟩
      · have e3' : ¬ (c : Int) = (c' : Int) := by omega
        go_enter Tryz.func26, Tryz.ntmps26
        go_wp2_with fail
        all_goals go_ret
        all_goals first | exact ⟨rfl, hbl⟩ | exact ⟨⟨_, rfl, by simp [e3, e3']⟩, hbl⟩
    · have e3' : ¬ (t : Int) = (t' : Int) := by omega
      go_enter Tryz.func26, Tryz.ntmps26
      go_wp2_with fail
      all_goals go_ret
      all_goals first | exact ⟨rfl, hbl⟩ | exact ⟨⟨_, rfl, by simp [e2, e3']⟩, hbl⟩
  · have e3' : ¬ (p : Int) = (p' : Int) := by omega
    go_enter Tryz.func26, Tryz.ntmps26
    go_wp2_with fail
    all_goals go_ret
    all_goals first | exact ⟨rfl, hbl⟩ | exact ⟨⟨_, rfl, by simp [e1, e3']⟩, hbl⟩
end Go.Proofs.YtaojoifpekoecaaGreatDoor


namespace Go.Proofs.YtaojoifpekoecaaGreatDoor
open Go.RowKit Go.Shelf
theorem fields28 : Tryz.prog.underlying 28 = some (.struct (Tryz.prog.fieldsOf 28)) := by kernel_rfl
theorem held28 : Tryz.prog.stoodInHeld 28 = false := by kernel_rfl
theorem guard28 : Tryz.prog.eqGuardType Tryz.prog.depth 28 = false := by kernel_rfl
set_option maxHeartbeats 400000
theorem eqOut (k k' a a' b b' : Int) (c c' : List UInt8) (w : World) : (Op.equalIn 10000 28 (.agg #[.int .u8 k, .int .u64 a, .int .u64 b, S c]) (.agg #[.int .u8 k', .int .u64 a', .int .u64 b', S c'])).run Tryz.prog w = .ok (k == k' && a == a' && b == b' && c == c') w := by
  rw [run_equalIn_agg w 9999 28 _ _ fields28 held28]
  unfold Program.fieldsOf
  rw [Tryz.underlying28]
  simp only [Op.eqFields]
  have p5 : ∀ (v0 v1 v2 v3 : Value) W, (part 5 #[v0, v1, v2, v3] 0).run Tryz.prog W = .ok v0 W := fun _ _ _ _ W => by simp [part, go_sem, Tryz.isAgg5]
  have pa : ∀ (v0 v1 v2 v3 : Value) W, (part 26 #[v0, v1, v2, v3] 1).run Tryz.prog W = .ok v1 W := fun _ _ _ _ W => by simp [part, go_sem, Tryz.isAgg26]
  have pb : ∀ (v0 v1 v2 v3 : Value) W, (part 26 #[v0, v1, v2, v3] 2).run Tryz.prog W = .ok v2 W := fun _ _ _ _ W => by simp [part, go_sem, Tryz.isAgg26]
  have pc : ∀ (v0 v1 v2 v3 : Value) W, (part 9 #[v0, v1, v2, v3] 3).run Tryz.prog W = .ok v3 W := fun _ _ _ _ W => by simp [part, go_sem, Tryz.isAgg9]
  have q5 : ∀ (x y : Int) W, (Op.equalIn 9999 5 (.int .u8 x) (.int .u8 y)).run Tryz.prog W = .ok (x == y) W := fun x y W => run_equalIn_int W 9998 5 .u8 .u8 x y Tryz.underlying5
  have q26 : ∀ (x y : Int) W, (Op.equalIn 9999 26 (.int .u64 x) (.int .u64 y)).run Tryz.prog W = .ok (x == y) W := fun x y W => run_equalIn_int W 9998 26 .u64 .u64 x y Tryz.underlying26
  have q9 : ∀ (x y : List UInt8) W, (Op.equalIn 9999 9 (S x) (S y)).run Tryz.prog W = .ok (x == y) W := fun x y W => by
    rw [run_equalIn_string W 9998 9 _ _ Tryz.underlying9]
    rw [Lib.toList_data, Lib.toList_data]
  have n1 : ("Kind" ≠ "_") := by decide
  have n2 : ("A" ≠ "_") := by decide
  have n3 : ("B" ≠ "_") := by decide
  have n4 : ("Cond" ≠ "_") := by decide
  rw [if_pos n1, if_pos n2, if_pos n3, if_pos n4]
  simp only [Sem.run_bind, p5, pa, pb, pc, q5, q26, q9, Result.andThen_ok, Sem.run_ite, Sem.run_pure]
  cases k == k' <;> cases a == a' <;> cases b == b' <;> cases c == c' <;> rfl
/-- two Outcomes -/
theorem eqlOut (k k' a a' b b' : Nat) (c c' : List UInt8) (w : World) : (binOp .eql 28 (.agg #[.int .u8 k, .int .u64 a, .int .u64 b, S c]) (.agg #[.int .u8 k', .int .u64 a', .int .u64 b', S c'])).run Tryz.prog w = .ok (.bool (decide (k = k' ∧ a = a' ∧ b = b' ∧ c = c'))) w := by
  rw [run_eql_struct, eqOut]
  simp only [Result.andThen_ok]
  congr 2
  rw [beq_cast, beq_cast, beq_cast]
  by_cases h1 : k = k' <;> by_cases h2 : a = a' <;> by_cases h3 : b = b' <;> by_cases h4 : c = c' <;> simp [h1, h2, h3, h4]
theorem guardOut (x y : Operand) (xs ys : Array Value) (w : World) : (eqGuard .eql 28 x y (.agg xs) (.agg ys)).run Tryz.prog w = .ok () w := run_eqGuard_agg w .eql 28 x y xs ys guard28
end Go.Proofs.YtaojoifpekoecaaGreatDoor


namespace Go.Proofs.YtaojoifpekoecaaGreatDoor
open Go.RowKit Go.Shelf
set_option maxHeartbeats 4000000
/-- what an event of at most so much is -/
def EvD.Slim (e : EvD) : Prop := e.name.length ≤ 100 ∧ e.text.length ≤ 100 ∧ e.cond.length ≤ 100 ∧ e.m.id.length ≤ 100 ∧ e.m.body.length ≤ 4096
/-- Vast, of one event -/
theorem vast1 (e : EvD) (bv : Value) (w : World) (B cap : Nat) (hb : BytesV w bv e.m.body) (hh : w.heap[B]? = some (.cells (e.cs bv) 30)) :
    Calls Tryz.prog 5 #[.slice (some ⟨B, 0, none⟩) 1 cap] w fun r w' => (∃ b, r = .returned (.bool b) ∧ (b = false → e.Slim)) ∧ Below w.heap.size w w' := by
  obtain ⟨p, bc, rfl, _⟩ := hb
  have hc : ∀ j, w.cell? ⟨B, j, none⟩ = (e.cs (.slice p e.m.body.length bc))[j]? := fun j => by unfold World.cell?; rw [hh]; rfl
  have h0 : w.cell? ⟨B, 0, none⟩ = some (.int .u8 e.k) := hc 0
  have h2 : w.cell? ⟨B, 2, none⟩ = some (.int .i64 e.n) := hc 2
  have h3 : w.cell? ⟨B, 3, none⟩ = some (S e.name) := hc 3
  have h4 : w.cell? ⟨B, 4, none⟩ = some (S e.text) := hc 4
  have h11 : w.cell? ⟨B, 11, none⟩ = some (S e.m.id) := hc 11
  have h12 : w.cell? ⟨B, 12, none⟩ = some (.slice p e.m.body.length bc) := hc 12
  have h16 : w.cell? ⟨B, 16, none⟩ = some (S e.cond) := hc 16
  clear hc hh
  generalize hQ : (fun (r : Ending) (w' : World) => (∃ b, r = .returned (.bool b) ∧ (b = false → e.Slim)) ∧ Below w.heap.size w w') = Q
  by_cases n1 : (100 : Int) < (e.name.length : Int)
  · go_enter Tryz.func5, Tryz.ntmps5
    go_wp2
    refine wp_loop_rounds 2 ?_
    rw [rounds_succ]
    go_wp2
    all_goals first
      | (subst hQ; exact ⟨⟨true, rfl, fun h => by cases h⟩, Below.refl _ _⟩)
      | (rw [rounds_succ]
         go_wp2
         all_goals (subst hQ; exact ⟨⟨_, rfl, fun _ => by assumption⟩, Below.refl _ _⟩))
  by_cases n2 : (100 : Int) < (e.text.length : Int)
  · go_enter Tryz.func5, Tryz.ntmps5
    go_wp2
    refine wp_loop_rounds 2 ?_
    rw [rounds_succ]
    go_wp2
    all_goals first
      | (subst hQ; exact ⟨⟨true, rfl, fun h => by cases h⟩, Below.refl _ _⟩)
      | (rw [rounds_succ]
         go_wp2
         all_goals (subst hQ; exact ⟨⟨_, rfl, fun _ => by assumption⟩, Below.refl _ _⟩))
  by_cases n3 : (100 : Int) < (e.cond.length : Int)
  · go_enter Tryz.func5, Tryz.ntmps5
    go_wp2
    refine wp_loop_rounds 2 ?_
    rw [rounds_succ]
    go_wp2
    all_goals first
      | (subst hQ; exact ⟨⟨true, rfl, fun h => by cases h⟩, Below.refl _ _⟩)
      | (rw [rounds_succ]
         go_wp2
         all_goals (subst hQ; exact ⟨⟨_, rfl, fun _ => by assumption⟩, Below.refl _ _⟩))
  by_cases n4 : (100 : Int) < (e.m.id.length : Int)
  · go_enter Tryz.func5, Tryz.ntmps5
    go_wp2
    refine wp_loop_rounds 2 ?_
    rw [rounds_succ]
    go_wp2
    all_goals first
      | (subst hQ; exact ⟨⟨true, rfl, fun h => by cases h⟩, Below.refl _ _⟩)
      | (rw [rounds_succ]
         go_wp2
         all_goals (subst hQ; exact ⟨⟨_, rfl, fun _ => by assumption⟩, Below.refl _ _⟩))
  by_cases n5 : (4096 : Int) < (e.m.body.length : Int)
  · go_enter Tryz.func5, Tryz.ntmps5
    go_wp2
    refine wp_loop_rounds 2 ?_
    rw [rounds_succ]
    go_wp2
    all_goals first
      | (subst hQ; exact ⟨⟨true, rfl, fun h => by cases h⟩, Below.refl _ _⟩)
      | (rw [rounds_succ]
         go_wp2
         all_goals (subst hQ; exact ⟨⟨_, rfl, fun _ => by assumption⟩, Below.refl _ _⟩))
  have hall : e.Slim := ⟨by omega, by omega, by omega, by omega, by omega⟩
  go_enter Tryz.func5, Tryz.ntmps5
  go_wp2
  refine wp_loop_rounds 2 ?_
  rw [rounds_succ]
  go_wp2
  all_goals first
    | (subst hQ; exact ⟨⟨true, rfl, fun h => by cases h⟩, Below.refl _ _⟩)
    | (rw [rounds_succ]
       go_wp2
       all_goals (subst hQ; exact ⟨⟨_, rfl, fun _ => by assumption⟩, Below.refl _ _⟩))
end Go.Proofs.YtaojoifpekoecaaGreatDoor


namespace Go.Proofs.YtaojoifpekoecaaGreatDoor
open Go.RowKit Go.Shelf
set_option maxHeartbeats 4000000
set_option maxRecDepth 100000
theorem byteCells_take_succ (l : List UInt8) (k : Nat) (x : UInt8) (h : l[k]? = some x) : (Lib.byteCells l).take (k + 1) = (Lib.byteCells l).take k ++ [.int .u8 (x.toNat : Int)] := by
  rw [List.take_add_one]
  have : (Lib.byteCells l)[k]? = some (.int .u8 (x.toNat : Int)) := by simp [Lib.byteCells, h]
  rw [this]; rfl
/-- bytes in a block not below B -/
def BytesF (B : Nat) (w : World) (v : Value) (l : List UInt8) : Prop :=
  ∃ a c, v = .slice a l.length c ∧ (l ≠ [] → ∃ b o, a = some ⟨b, o, none⟩ ∧ B ≤ b ∧ b < w.heap.size ∧ ∀ (j : Nat) x, l[j]? = some x → w.cell? ⟨b, o + j, none⟩ = some (.int .u8 (x.toNat : Int)))
theorem BytesF.v {B : Nat} {w : World} {v : Value} {l : List UInt8} (h : BytesF B w v l) : BytesV w v l := by
  obtain ⟨a, c, hv, h⟩ := h
  refine ⟨a, c, hv, fun h0 => ?_⟩
  obtain ⟨b, o, h1, _, h2, h3⟩ := h h0
  exact ⟨b, o, h1, h2, h3⟩
theorem cell?_of_block {w w' : World} {b o : Nat} (h : w'.heap[b]? = w.heap[b]?) : w'.cell? ⟨b, o, none⟩ = w.cell? ⟨b, o, none⟩ := by
  unfold World.cell?
  simp only [h]
theorem BytesF.but {B b : Nat} {w w' : World} {v : Value} {l : List UInt8} (h : BytesF B w v l) (hb : But b w w') (hlt : b < B) : BytesF B w' v l := by
  obtain ⟨a, c, hv, h⟩ := h
  refine ⟨a, c, hv, fun h0 => ?_⟩
  obtain ⟨g, o, h1, hB, h2, h3⟩ := h h0
  exact ⟨g, o, h1, hB, Nat.lt_of_lt_of_le h2 hb.size, fun j x hx => (cell?_of_block (hb.block g h2 (by omega))).trans (h3 j x hx)⟩
theorem BytesF.mono {B B' : Nat} {w : World} {v : Value} {l : List UInt8} (h : BytesF B w v l) (hB : B' ≤ B) : BytesF B' w v l := by
  obtain ⟨a, c, hv, h⟩ := h
  refine ⟨a, c, hv, fun h0 => ?_⟩
  obtain ⟨g, o, h1, hg, h2, h3⟩ := h h0
  exact ⟨g, o, h1, Nat.le_trans hB hg, h2, h3⟩
theorem BytesF.below {B : Nat} {w w' : World} {v : Value} {l : List UInt8} (h : BytesF B w v l) (hb : Below w.heap.size w w') : BytesF B w' v l := by
  obtain ⟨a, c, hv, h⟩ := h
  refine ⟨a, c, hv, fun h0 => ?_⟩
  obtain ⟨g, o, h1, hg, h2, h3⟩ := h h0
  exact ⟨g, o, h1, hg, Nat.lt_of_lt_of_le h2 hb.size, fun j x hx => (hb.cell h2).trans (h3 j x hx)⟩
theorem bytes_own {w : World} {B : Nat} {v : Value} {l : List UInt8} (h : w.ownsRow B 5 1 v l.length (Lib.byteCells l)) : BytesF B w v l := by
  obtain ⟨_, ⟨rfl, h0⟩ | ⟨g, cap, cur, rfl, hB, hg, hc, _, hcs, ht⟩⟩ := h
  · have : l = [] := List.length_eq_zero_iff.1 h0
    subst this
    exact ⟨none, 0, rfl, fun h => absurd rfl h⟩
  · refine ⟨_, cap, rfl, fun _ => ⟨g, 0, rfl, hB, (Array.getElem?_eq_some_iff.1 hg).1, fun j x hx => ?_⟩⟩
    have : (cur.toList.take (l.length * 1))[j]? = some (.int .u8 (x.toNat : Int)) := by rw [ht]; simp [Lib.byteCells, hx]
    rw [Nat.mul_one, List.getElem?_take] at this
    split at this
    · unfold World.cell?
      rw [hg, Nat.zero_add]
      simpa using this
    · cases this
/-- CopyBytes -/
theorem copyBytes (v : Value) (l : List UInt8) (w : World) (h : BytesV w v l) (hs : l.length ≤ 100000000) :
    Calls Tryz.prog 62 #[v] w fun e w' => (∃ v', e = .returned v' ∧ BytesF w.heap.size w' v' l) ∧ Below w.heap.size w w' := by
  obtain ⟨i0, hi, hz0, hz1, hz2⟩ := info_parts infoByte
  obtain ⟨a, c, rfl, hv⟩ := h
  obtain ⟨wm, hm, hown0, hgr0⟩ := run_make_own (P := Tryz.prog) w w.heap.size 23 5 i0 (.int .u8 0) 1 Tryz.underlying23 hi hz0 hz1 .i64 .i64 l.length (by rw [hz2]; omega) (by unfold maxLen; omega) (Nat.le_refl _)
  have hb0 : Below w.heap.size w wm := (Below.refl _ _).grown hgr0 (Nat.le_refl _) (fun k hk => by cases hk)
  go_enter Tryz.func62, Tryz.ntmps62
  go_wp2
  go_loopw [3, 4] (fun v i wr => ∃ k : Nat, k ≤ l.length ∧ i = .int .i64 k ∧ wr.ownsRow w.heap.size 5 1 v k ((Lib.byteCells l).take k) ∧ Below w.heap.size w wr)
    (fun _ i _ => l.length - (intOf i).toNat)
  case atStart => exact ⟨0, Nat.zero_le _, rfl, by simpa using hown0, hb0⟩
  case round =>
    obtain ⟨k, hk, rfl, hown, hb⟩ := hrel
    have hsz := hb.size
    by_cases hlt : k < l.length
    · obtain ⟨b, o, rfl, hbl, hc⟩ := hv (fun h => by subst h; cases hlt)
      obtain ⟨x, hx⟩ : ∃ x : UInt8, l[k]? = some x := ⟨_, List.getElem?_eq_getElem hlt⟩
      have hce : wr.cell? ⟨b, o + k, none⟩ = some (.int .u8 (x.toNat : Int)) := (hb.cell hbl).trans (hc k x hx)
      have hstep := byteCells_take_succ l k x hx
      go_wp2_with (first
        | (at_builtin; refine wpList_append_own _ rfl _ _ 23 rfl w.heap.size 5 i0 (.int .u8 0) 1 1 Tryz.underlying23 hi hz0 hz1 hz2 rfl (by decide) _ _ _ rfl (hown.alloc _) ⟨wr.heap.size, 0, none⟩ 1 1 [.int .u8 (x.toNat : Int)] rfl rfl ?c1 ?c2 ?c3 ?c4 ?c5 ?_))
      case c1 =>
        intro j u hj
        match j, hj with
        | 0, hj => simp at hj; subst hj; simp [Addr.add]
      case c2 => intro u hu; simp at hu; subst hu; rfl
      case c3 => unfold maxLen; omega
      case c4 => omega
      case c5 => simp; omega
      intro v' w2 hown2 hgrow _
      have hb2 : Below w.heap.size w w2 := hb.trans (((Below.refl w.heap.size wr).alloc hsz _).grown hgrow (by simp; omega) (fun k hk => (hown.lt k hk).1))
      rw [← hstep] at hown2
      go_wp2
      go_roundw
      case rel => exact ⟨k + 1, by omega, by go_num, hown2, hb2⟩
      case measure => simp [intOf]; omega
    · have hke : k = l.length := by omega
      subst hke
      rw [List.take_of_length_le (by simp [Lib.byteCells])] at hown
      have hby := bytes_own hown
      go_wp2
      go_ret
      exact ⟨⟨_, rfl, hby⟩, hb⟩
end Go.Proofs.YtaojoifpekoecaaGreatDoor


namespace Go.Proofs.YtaojoifpekoecaaGreatDoor
open Go.RowKit Go.Shelf
set_option maxHeartbeats 4000000
set_option maxRecDepth 100000
theorem info25' : (Tryz.prog.info? 25).map (·.size) = some 5 := by kernel_rfl
theorem info30' : (Tryz.prog.info? 30).map (·.size) = some 17 := by kernel_rfl
/-- Copy of a message -/
theorem copyMsg (p t c : Nat) (id body : List UInt8) (bv : Value) (w : World) (hb : BytesV w bv body) (hs : body.length ≤ 100000000) :
    Calls Tryz.prog 20 #[.agg #[.int .u8 p, .int .u32 t, .int .u32 c, S id, bv]] w fun e w' => (∃ bv', e = .returned (.agg #[.int .u8 p, .int .u32 t, .int .u32 c, S id, bv']) ∧ BytesF (w.heap.size + 2) w' bv' body) ∧ Below w.heap.size w w' := by
  have hbl := ((Below.refl w.heap.size w).alloc (Nat.le_refl _) (.cells #[.int .u8 p, .int .u32 t, .int .u32 c, S id, bv] 25)).alloc (by simp) (.cells #[.int .u8 0, .int .u32 0, .int .u32 0, .string { data := #[] }, .slice none 0 0] 25)
  have c0 := copyBytes bv body _ (hb.below hbl (Nat.le_refl _)) hs
  generalize hQ : (fun (e : Ending) (w' : World) => (∃ bv', e = .returned (.agg #[.int .u8 p, .int .u32 t, .int .u32 c, S id, bv']) ∧ BytesF (w.heap.size + 2) w' bv' body) ∧ Below w.heap.size w w') = Q
  go_enter Tryz.func20, Tryz.ntmps20
  go_wp2_with fail
  refine c0.mono ?_
  rintro e w1 ⟨⟨v', rfl, hv'⟩, h1⟩
  rw [show ((w.alloc (.cells #[.int .u8 p, .int .u32 t, .int .u32 c, S id, bv] 25)).alloc (.cells #[.int .u8 0, .int .u32 0, .int .u32 0, .string { data := #[] }, .slice none 0 0] 25)).heap.size = w.heap.size + 2 by simp] at hv'
  have hv2 := hv'
  obtain ⟨va, vc, rfl, _⟩ := hv2
  have g0 : w1.heap[w.heap.size]? = some (.cells #[.int .u8 p, .int .u32 t, .int .u32 c, S id, bv] 25) := by
    rw [h1.block w.heap.size (by simp; omega), ((Below.refl (w.heap.size + 1) (w.alloc (.cells #[.int .u8 p, .int .u32 t, .int .u32 c, S id, bv] 25))).alloc (by simp) _).block _ (Nat.lt_succ_self _), heap_alloc_last w _]
  have g1 : w1.heap[w.heap.size + 1]? = some (.cells #[.int .u8 0, .int .u32 0, .int .u32 0, .string { data := #[] }, .slice none 0 0] 25) := by
    have := heap_alloc_last (w.alloc (.cells #[.int .u8 p, .int .u32 t, .int .u32 c, S id, bv] 25)) (.cells #[.int .u8 0, .int .u32 0, .int .u32 0, .string { data := #[] }, .slice none 0 0] 25)
    rw [h1.block (w.heap.size + 1) (by simp)]
    simpa using this
  have a4 : w1.cell? ⟨w.heap.size, 4, none⟩ = some bv := by rw [cell_of g0]; rfl
  have z4 : w1.frozen? ⟨w.heap.size, 4, none⟩ = false := frozen_of g0
  have g2 : (w1.setCell ⟨w.heap.size, 4, none⟩ (.slice va body.length vc)).heap[w.heap.size]? = some (.cells #[.int .u8 p, .int .u32 t, .int .u32 c, S id, .slice va body.length vc] 25) := heap_setCell_same w1 w.heap.size 4 _ 25 _ g0
  have g3 := (heap_setCell_other w1 ⟨w.heap.size, 4, none⟩ (w.heap.size + 1) (.slice va body.length vc) (by simp)).trans g1
  have hb1 : Below w.heap.size w w1 := hbl.trans (h1.mono (by simp; omega))
  have hb2 : Below w.heap.size w (w1.setCell ⟨w.heap.size, 4, none⟩ (.slice va body.length vc)) := hb1.setCell (Nat.le_refl _) _
  have hs2 := hb2.size
  clear c0 h1 hbl g0 g1
  go_wp2_with (first
    | (refine wpList_load_row rfl 25 _ rfl w.heap.size rfl 25 _ (0, 0) _ g2 Tryz.underlying25 rfl info25' ?_)
    | (refine wpList_store_whole rfl 25 _ _ rfl (w.heap.size + 1) #[.int .u8 p, .int .u32 t, .int .u32 c, S id, .slice va body.length vc] _ 25 rfl rfl g3 rfl info25' rfl ?_; intro w3 h3 hbut hsz3))
  refine bodyPost_ret (results_cell_row Tryz.results20 _ _ (w.heap.size + 1) 25 _ (0, 0) _ rfl h3 Tryz.underlying25 rfl info25') rfl ?_
  subst hQ
  have hb3 := hbut.below (Nat.le_succ w.heap.size) hs2
  exact ⟨⟨_, rfl, (hv'.but (But.setCell w.heap.size 4 w1 _) (by omega)).but hbut (by omega)⟩, hb2.trans hb3⟩
def zEv : Array Value := #[.int .u8 0, .int .i64 0, .int .i64 0, .string { data := #[] }, .string { data := #[] }, .bool false, .int .u8 0, .int .u8 0, .int .u8 0, .int .u32 0, .int .u32 0, .string { data := #[] }, .slice none 0 0, .int .u8 0, .int .u64 0, .int .u64 0, .string { data := #[] }]
/-- Copy of an event -/
theorem copyEv (e : EvD) (bv : Value) (w : World) (hb : BytesV w bv e.m.body) (hs : e.m.body.length ≤ 100000000) :
    Calls Tryz.prog 7 #[.agg (e.cs bv)] w fun r w' => (∃ bv', r = .returned (.agg (e.cs bv')) ∧ BytesF w.heap.size w' bv' e.m.body) ∧ Below w.heap.size w w' := by
  obtain ⟨k, who, n, name, text, flag, snd, rcv, ⟨mp, mt, mc, mid, mbody⟩, ok, oa, ob, cond⟩ := e
  have hb0 := hb
  obtain ⟨ba, bc, rfl, _⟩ := hb0
  have hbl := ((Below.refl w.heap.size w).alloc (Nat.le_refl _) (.cells (EvD.cs ⟨k, who, n, name, text, flag, snd, rcv, ⟨mp, mt, mc, mid, mbody⟩, ok, oa, ob, cond⟩ (.slice ba mbody.length bc)) 30)).alloc (by simp) (.cells zEv 30)
  have c0 := copyMsg mp mt mc mid mbody _ _ (hb.below hbl (Nat.le_refl _)) hs
  generalize hQ : (fun (r : Ending) (w' : World) => (∃ bv', r = .returned (.agg (EvD.cs ⟨k, who, n, name, text, flag, snd, rcv, ⟨mp, mt, mc, mid, mbody⟩, ok, oa, ob, cond⟩ bv')) ∧ BytesF w.heap.size w' bv' mbody) ∧ Below w.heap.size w w') = Q
  go_enter Tryz.func7, Tryz.ntmps7
  go_wp2_with fail
  refine c0.mono ?_
  rintro r w1 ⟨⟨v', rfl, hv'⟩, h1⟩
  have hv2 := hv'
  obtain ⟨va, vc, rfl, _⟩ := hv2
  have g0 : w1.heap[w.heap.size]? = some (.cells (EvD.cs ⟨k, who, n, name, text, flag, snd, rcv, ⟨mp, mt, mc, mid, mbody⟩, ok, oa, ob, cond⟩ (.slice ba mbody.length bc)) 30) := by
    rw [h1.block w.heap.size (by simp; omega), ((Below.refl (w.heap.size + 1) (w.alloc (.cells (EvD.cs ⟨k, who, n, name, text, flag, snd, rcv, ⟨mp, mt, mc, mid, mbody⟩, ok, oa, ob, cond⟩ (.slice ba mbody.length bc)) 30))).alloc (by simp) _).block _ (Nat.lt_succ_self _), heap_alloc_last w _]
  have g1 : w1.heap[w.heap.size + 1]? = some (.cells zEv 30) := by
    have := heap_alloc_last (w.alloc (.cells (EvD.cs ⟨k, who, n, name, text, flag, snd, rcv, ⟨mp, mt, mc, mid, mbody⟩, ok, oa, ob, cond⟩ (.slice ba mbody.length bc)) 30)) (.cells zEv 30)
    rw [h1.block (w.heap.size + 1) (by simp)]
    simpa using this
  have hb1 : Below w.heap.size w w1 := hbl.trans (h1.mono (by simp; omega))
  have hs2 := hb1.size
  clear c0 hbl
  go_wp2_with (first
    | (refine wpList_store_part rfl 25 _ _ rfl w.heap.size 8 #[.int .u8 mp, .int .u32 mt, .int .u32 mc, S mid, .slice va mbody.length vc] _ 30 rfl rfl g0 (by show 8 + 5 ≤ 17; omega) info25' rfl ?_; intro w2 h2 hbut2 hsz2; have g2 := (hbut2.block (w.heap.size + 1) (lt_of g1) (by omega)).trans g1)
    | (refine wpList_load_row rfl 30 _ rfl w.heap.size rfl 30 _ (0, 0) _ h2 Tryz.underlying30 rfl info30' ?_)
    | (refine wpList_store_whole rfl 30 _ _ rfl (w.heap.size + 1) (EvD.cs ⟨k, who, n, name, text, flag, snd, rcv, ⟨mp, mt, mc, mid, mbody⟩, ok, oa, ob, cond⟩ (.slice va mbody.length vc)) _ 30 rfl rfl g2 rfl info30' rfl ?_; intro w3 h3 hbut hsz3))
  refine bodyPost_ret (results_cell_row Tryz.results7 _ _ (w.heap.size + 1) 30 _ (0, 0) _ rfl h3 Tryz.underlying30 rfl info30') rfl ?_
  subst hQ
  have hb2 := hbut2.below (Nat.le_refl w.heap.size) hs2
  have hb3 := hbut.below (Nat.le_succ w.heap.size) (by omega)
  exact ⟨⟨_, rfl, ((((hv'.mono (by simp : w.heap.size + 2 ≤ _)).but hbut2 (by omega)).but hbut (by omega)).mono (by omega))⟩, (hb1.trans hb2).trans hb3⟩
end Go.Proofs.YtaojoifpekoecaaGreatDoor


namespace Go.Proofs.YtaojoifpekoecaaGreatDoor
open Go.RowKit Go.Shelf
set_option maxHeartbeats 4000000
set_option maxRecDepth 100000
def kindWs : List (List UInt8) := [[], [106, 111, 105, 110], [112, 97, 114, 116], [117, 112], [100, 111, 119, 110], [99, 108, 111, 99, 107], [97, 116, 116, 97, 99, 104], [115, 101, 110, 100], [99, 114, 101, 100, 105, 116], [114, 101, 99, 101, 105, 118, 101], [100, 101, 99, 105, 100, 101], [100, 101, 116, 97, 99, 104], [115, 116, 97, 116, 101], [108, 105, 115, 116]]
/-- words -/
theorem words (w : World) : Calls Tryz.prog 21 #[] w fun e w' => e = .returned (.slice (some ⟨w.heap.size, 0, none⟩) 14 14) ∧ Below w.heap.size w w' ∧ w'.heap[w.heap.size]? = some (.cells (kindWs.map S).toArray 9) := by
  generalize hQ : (fun (e : Ending) (w' : World) => e = .returned (.slice (some ⟨w.heap.size, 0, none⟩) 14 14) ∧ Below w.heap.size w w' ∧ w'.heap[w.heap.size]? = some (.cells (kindWs.map S).toArray 9)) = Q
  go_enter Tryz.func21, Tryz.ntmps21
  go_wp2
  subst hQ
  exact ⟨rfl, (Below.refl _ _).alloc (Nat.le_refl _) _, heap_alloc_last w _⟩
/-- alone -/
theorem alone (k : Nat) (w : World) : Calls Tryz.prog 30 #[.int .u8 k] w fun e w' => e = .returned (.bool (decide (k = 5 ∨ k = 13))) ∧ w' = w := by
  generalize hQ : (fun (e : Ending) (w' : World) => e = .returned (.bool (decide (k = 5 ∨ k = 13))) ∧ w' = w) = Q
  by_cases h5 : k = 5
  · subst h5
    go_enter Tryz.func30, Tryz.ntmps30
    go_wp2
    subst hQ
    exact ⟨rfl, rfl⟩
  · have e5 : ¬ (k : Int) = 5 := by omega
    have b5 : ((k : Int) == 5) = false := beq_eq_false_iff_ne.2 e5
    by_cases h13 : k = 13
    · subst h13
      go_enter Tryz.func30, Tryz.ntmps30
      go_wp2
      subst hQ
      exact ⟨rfl, rfl⟩
    · have e13 : ¬ (k : Int) = 13 := by omega
      have b13 : ((k : Int) == 13) = false := beq_eq_false_iff_ne.2 e13
      go_enter Tryz.func30, Tryz.ntmps30
      go_wp2
      subst hQ
      refine ⟨?_, rfl⟩
      simp [h5, h13]
/-- Word of the reference -/
theorem refWord (k : Nat) (hk : k < 256) (w : World) : Calls Tryz.prog 65 #[.int .u8 k] w fun e w' => e = .returned (S ((kindWs[k]?).getD [])) ∧ Below w.heap.size w w' := by
  by_cases h14 : 14 ≤ k
  · have hn : kindWs[k]? = none := List.getElem?_eq_none (by show 14 ≤ k; omega)
    rw [hn]
    have hi : (14 : Int) ≤ (k : Int) := by omega
    generalize hQ : (fun (e : Ending) (w' : World) => e = .returned (S ((none : Option (List UInt8)).getD [])) ∧ Below w.heap.size w w') = Q
    go_enter Tryz.func65, Tryz.ntmps65
    go_wp2
    subst hQ
    exact ⟨rfl, (Below.refl _ _).alloc (Nat.le_refl _) _⟩
  · have hlt : k < 14 := by omega
    generalize hQ : (fun (e : Ending) (w' : World) => e = .returned (S ((kindWs[k]?).getD [])) ∧ Below w.heap.size w w') = Q
    have : k = 0 ∨ k = 1 ∨ k = 2 ∨ k = 3 ∨ k = 4 ∨ k = 5 ∨ k = 6 ∨ k = 7 ∨ k = 8 ∨ k = 9 ∨ k = 10 ∨ k = 11 ∨ k = 12 ∨ k = 13 := by omega
    rcases this with rfl | rfl | rfl | rfl | rfl | rfl | rfl | rfl | rfl | rfl | rfl | rfl | rfl | rfl
    all_goals
      go_enter Tryz.func65, Tryz.ntmps65
      go_wp2
      subst hQ
      exact ⟨rfl, (Below.refl _ _).alloc (Nat.le_refl _) _⟩
end Go.Proofs.YtaojoifpekoecaaGreatDoor


namespace Go.Proofs.YtaojoifpekoecaaGreatDoor
open Go.RowKit Go.Shelf
theorem info28' : (Tryz.prog.info? 28).map (·.size) = some 4 := by kernel_rfl
abbrev nilB : Value := .slice none 0 0
abbrev mZ : MsgD := ⟨0, 0, 0, [], []⟩
def q1 (e : EvD) : EvD := ⟨e.k, 0, 0, [], [], false, 0, 0, mZ, 0, 0, 0, []⟩
def q2 (e : EvD) : EvD := if e.k = 5 ∨ e.k = 13 then q1 e else { q1 e with who := e.who }
def q3 (e : EvD) : EvD := if 6 ≤ e.k then { q2 e with name := e.name } else q2 e
def onlyD (e : EvD) : EvD :=
  if e.k = 3 ∨ e.k = 4 ∨ e.k = 5 ∨ e.k = 8 then { q3 e with n := e.n }
  else if e.k = 6 then { q3 e with flag := e.flag, text := e.text, snd := e.snd, rcv := e.rcv }
  else if e.k = 7 then { q3 e with m := e.m, flag := e.flag }
  else if e.k = 10 then { q3 e with text := e.text, ok := e.ok, oa := e.oa, ob := e.ob, cond := e.cond }
  else q3 e
def onlyB (e : EvD) (bv : Value) : Value := if e.k = 7 then bv else nilB
def kw (e : EvD) : List UInt8 := (kindWs[e.k]?).getD []
def wd2 (e : EvD) : List (List UInt8) := if e.k = 5 ∨ e.k = 13 then [kw e] else [kw e, Lib.itoa e.who]
def wd3 (e : EvD) : List (List UInt8) := if 6 ≤ e.k then wd2 e ++ [hexW e.name] else wd2 e
def wordsD (e : EvD) : List (List UInt8) :=
  if e.k = 3 ∨ e.k = 4 ∨ e.k = 5 ∨ e.k = 8 then wd3 e ++ [Lib.itoa e.n]
  else if e.k = 6 then wd3 e ++ [ansW e.flag, hexW e.text, Lib.decDigits e.snd, Lib.decDigits e.rcv]
  else if e.k = 7 then wd3 e ++ [e.m.w, ansW e.flag]
  else if e.k = 10 then wd3 e ++ [hexW e.text, outW e.ok e.oa e.ob e.cond]
  else wd3 e
/-- ranges of an event's numbers -/
structure EvD.Fine (e : EvD) : Prop where
  k : e.k < 256
  who : I64 e.who
  n : I64 e.n
  snd : e.snd < 256
  rcv : e.rcv < 256
  p : e.m.p < 256
  t : e.m.t < 4294967296
  c : e.m.c < 4294967296
  ok : e.ok < 256
  oa : e.oa < 18446744073709551616
  ob : e.ob < 18446744073709551616
/-- what stands while an event's words are gathered -/
structure St (w : World) (c1 : Array Value) (o2 : Obj) (qb : Nat) (cq : Array Value) (g cap : Nat) (ws : List (List UInt8)) (W : World) : Prop where
  e : W.heap[w.heap.size]? = some (.cells c1 30)
  r : W.heap[w.heap.size + 1]? = some o2
  q : W.heap[qb]? = some (.cells cq 30)
  qlo : w.heap.size + 2 ≤ qb
  l : W.ownsRow (w.heap.size + 2) 9 1 (.slice (some ⟨g, 0, none⟩) ws.length cap) ws.length (ws.map S)
  ne : g ≠ qb
  pow : Pow W
  below : Below w.heap.size w W
theorem own_step {B e size n : Nat} {v : Value} {xs : List Value} {W W' : World} (h : W.ownsRow B e size v n xs) (hb : ∀ g, v.ownBlock = some g → g < W.heap.size → W'.heap[g]? = W.heap[g]?) : W'.ownsRow B e size v n xs := by
  obtain ⟨h1, h2⟩ := h
  refine ⟨h1, ?_⟩
  rcases h2 with h2 | ⟨g, cap, cur, rfl, hB, hg, hr⟩
  · exact .inl h2
  · exact .inr ⟨g, cap, cur, rfl, hB, (hb g rfl (lt_of hg)).trans hg, hr⟩
theorem St.glo {w : World} {c1 cq : Array Value} {o2 : Obj} {qb g cap : Nat} {ws : List (List UInt8)} {W : World} (h : St w c1 o2 qb cq g cap ws W) : w.heap.size + 2 ≤ g ∧ g < W.heap.size := by
  obtain ⟨_, ⟨h1, _⟩ | ⟨g', _, _, h1, hB, hg, _⟩⟩ := h.l
  · cases h1
  · simp only [Value.slice.injEq, Option.some.injEq, Addr.mk.injEq] at h1
    obtain ⟨⟨rfl, _⟩, _⟩ := h1
    exact ⟨hB, lt_of hg⟩
theorem St.step {w : World} {c1 cq : Array Value} {o2 : Obj} {qb g cap : Nat} {ws : List (List UInt8)} {W W' : World} (h : St w c1 o2 qb cq g cap ws W) (hb : Below W.heap.size W W') : St w c1 o2 qb cq g cap ws W' where
  e := (hb.block _ (lt_of h.e)).trans h.e
  r := (hb.block _ (lt_of h.r)).trans h.r
  q := (hb.block _ (lt_of h.q)).trans h.q
  qlo := h.qlo
  l := own_step h.l fun k _ hk => hb.block k hk
  ne := h.ne
  pow := h.pow.below hb (Nat.le_refl _)
  below := h.below.trans (hb.mono h.below.size)
theorem pow_but {b : Nat} {W W' : World} (h : Pow W) (hb : But b W W') (h3 : b ≠ 3) : Pow W' := by
  unfold Pow Lib.TabIs World.var? at *
  rw [powG] at h ⊢
  simp only [Option.bind_some] at h ⊢
  have h0 : 3 < W.heap.size := by
    cases hq : W.heap[3]? with
    | none => rw [hq] at h; cases h
    | some o => exact lt_of hq
  rw [hb.block 3 h0 (fun e => h3 e.symm)]
  exact h
theorem pow_lt {W : World} (h : Pow W) : 3 < W.heap.size := by
  unfold Pow Lib.TabIs World.var? at h
  rw [powG] at h
  simp only [Option.bind_some] at h
  cases hq : W.heap[3]? with
  | none => rw [hq] at h; cases h
  | some o => exact lt_of hq
/-- q's block is written -/
theorem St.put {w : World} {c1 cq cq' : Array Value} {o2 : Obj} {qb g cap : Nat} {ws : List (List UInt8)} {W W' : World} (h : St w c1 o2 qb cq g cap ws W) (hw : 3 < w.heap.size) (hq : W'.heap[qb]? = some (.cells cq' 30)) (hb : But qb W W') : St w c1 o2 qb cq' g cap ws W' where
  e := (hb.block _ (lt_of h.e) (by have := h.qlo; omega)).trans h.e
  r := (hb.block _ (lt_of h.r) (by have := h.qlo; omega)).trans h.r
  q := hq
  qlo := h.qlo
  l := own_step h.l fun k hk hk2 => hb.block k hk2 (by
    have : g = k := Option.some.inj hk
    rw [← this]; exact h.ne)
  ne := h.ne
  pow := pow_but h.pow hb (by have := h.qlo; omega)
  below := h.below.trans (hb.below (by have := h.qlo; omega) h.below.size)
/-- the row has grown -/
theorem St.grow {w : World} {c1 cq : Array Value} {o2 : Obj} {qb g cap : Nat} {ws news : List (List UInt8)} {W W' : World} {g' cap' H m : Nat} (h : St w c1 o2 qb cq g cap ws W) (hw : 3 < w.heap.size)
    (hown : W'.ownsRow (w.heap.size + 2) 9 1 (.slice (some ⟨g', 0, none⟩) (ws.length + m) cap') (ws.length + m) (ws.map S ++ news.map S)) (hm : m = news.length) (hgrow : W.grownBy W' (Value.ownBlock (.slice (some ⟨g, 0, none⟩) ws.length cap)))
    (hat : Value.ownBlock (.slice (some ⟨g, 0, none⟩) ws.length cap) = some g' ∨ g' = H) (hH : W.heap.size = H) : St w c1 o2 qb cq g' cap' (ws ++ news) W' := by
  have hg := h.glo
  have hne : ∀ k, k < W.heap.size → k ≠ g → W'.heap[k]? = W.heap[k]? := fun k hk hkg => hgrow.block k hk (fun e => hkg (Option.some.inj e))
  refine ⟨(hne _ (lt_of h.e) (by omega)).trans h.e, (hne _ (lt_of h.r) (by omega)).trans h.r, (hne _ (lt_of h.q) (fun e => h.ne e.symm)).trans h.q, h.qlo, ?_, ?_, ?_, ?_⟩
  · subst hm
    rw [List.length_append, List.map_append]
    exact hown
  · rcases hat with h1 | h1
    · have : g = g' := Option.some.inj h1
      rw [← this]; exact h.ne
    · have := lt_of h.q
      omega
  · have : But g W W' := ⟨hgrow.os, hgrow.tape, hgrow.output, hgrow.size, fun k hk hkg => hne k hk hkg⟩
    exact pow_but h.pow this (by omega)
  · have : But g W W' := ⟨hgrow.os, hgrow.tape, hgrow.output, hgrow.size, fun k hk hkg => hne k hk hkg⟩
    exact h.below.trans (this.below (by omega) h.below.size)
theorem own_new (B : Nat) (W : World) (ws : List (List UInt8)) (hB : B ≤ W.heap.size) (hm : ws.length ≤ 100) : (W.alloc (.cells (ws.map S).toArray 9)).ownsRow B 9 1 (.slice (some ⟨W.heap.size, 0, none⟩) ws.length ws.length) ws.length (ws.map S) :=
  ⟨by simp, .inr ⟨W.heap.size, ws.length, (ws.map S).toArray, rfl, hB, heap_alloc_last W _, Nat.le_refl _, by unfold maxLen; omega, by simp, by rw [Nat.mul_one]; exact List.take_of_length_le (by simp)⟩⟩
theorem alone' (k : Nat) (w : World) : Calls Tryz.prog 30 #[.int .u8 k] w fun e w' => ∃ b, e = .returned (.bool b) ∧ (b = true ↔ k = 5 ∨ k = 13) ∧ w' = w :=
  (alone k w).mono fun _ _ ⟨h1, h2⟩ => ⟨_, h1, by simp, h2⟩
theorem St.strs {w : World} {c1 cq : Array Value} {o2 : Obj} {qb g cap : Nat} {ws : List (List UInt8)} {W : World} (h : St w c1 o2 qb cq g cap ws W) : StrsV W (.slice (some ⟨g, 0, none⟩) ws.length cap) ws := strs_own h.l
theorem St.qj {w : World} {c1 cq : Array Value} {o2 : Obj} {qb g cap : Nat} {ws : List (List UInt8)} {W : World} (h : St w c1 o2 qb cq g cap ws W) : ∀ j, W.cell? ⟨qb, j, none⟩ = cq[j]? := fun _ => cell_of h.q
theorem St.drew {w : World} {c1 cq : Array Value} {o2 : Obj} {qb g cap : Nat} {ws : List (List UInt8)} {W : World} (h : St w c1 o2 qb cq g cap ws W) : St w c1 o2 qb cq g cap ws W.drew := h.step (Below.refl _ _).drew
section
variable {P : Program}
theorem results_tmp_cell {fn : Func} {p q : Tmp} {ty : TypeId} (h : fn.results = #[.tmp p, .cell q ty]) (tmps : Array Value) (w : World) (g : Nat) (t : TypeId) (cs : Array Value) (d : TypeDesc)
    (hp : tmps.getD q undef = .pointer (some ⟨g, 0, none⟩)) (hg : w.heap[g]? = some (.cells cs t)) (hu : P.underlying ty = some d) (hd : (match d with | .struct _ | .array _ _ => true | _ => false) = true) (hi : (P.info? ty).map (·.size) = some cs.size) :
    (results fn tmps).run P w = .ok (.tuple #[tmps.getD p undef, .agg cs]) w := by
  have hp' : tmps[q]?.getD undef = .pointer (some ⟨g, 0, none⟩) := by simpa using hp
  have := run_loadVar_row w g t ty cs (0, 0) d hg hu hd hi
  simp [results, h, hp', asAddr, this]
theorem results_cell_tmp {fn : Func} {p q : Tmp} {ty : TypeId} (h : fn.results = #[.cell q ty, .tmp p]) (tmps : Array Value) (w : World) (g : Nat) (t : TypeId) (cs : Array Value) (d : TypeDesc)
    (hp : tmps.getD q undef = .pointer (some ⟨g, 0, none⟩)) (hg : w.heap[g]? = some (.cells cs t)) (hu : P.underlying ty = some d) (hd : (match d with | .struct _ | .array _ _ => true | _ => false) = true) (hi : (P.info? ty).map (·.size) = some cs.size) :
    (results fn tmps).run P w = .ok (.tuple #[.agg cs, tmps.getD p undef]) w := by
  have hp' : tmps[q]?.getD undef = .pointer (some ⟨g, 0, none⟩) := by simpa using hp
  have := run_loadVar_row w g t ty cs (0, 0) d hg hu hd hi
  simp [results, h, hp', asAddr, this]
end
theorem all_of_list {l : List Value} (h : l.all (·.oneCell') = true) : (List.toArray l).all (·.oneCell') = true := by simpa using h
theorem kw_len (e : EvD) : (kw e).length ≤ 7 := by
  unfold kw
  cases h : kindWs[e.k]? with
  | none => simp
  | some x =>
    have hall : ∀ x ∈ kindWs, x.length ≤ 7 := by decide
    exact hall x (List.mem_of_getElem? h)
theorem wd2_len (e : EvD) (hf : e.Fine) : (wd2 e).length ≤ 2 ∧ ∀ x ∈ wd2 e, x.length ≤ 100000 := by
  have h1 := kw_len e
  have h2 := itoa_len e.who hf.who
  unfold wd2
  split
  · exact ⟨by simp, fun x hx => by simp at hx; subst hx; omega⟩
  · exact ⟨by simp, fun x hx => by simp at hx; rcases hx with rfl | rfl <;> omega⟩
theorem wd3_len (e : EvD) (hf : e.Fine) (hs : e.Slim) : (wd3 e).length ≤ 3 ∧ ∀ x ∈ wd3 e, x.length ≤ 100000 := by
  obtain ⟨h1, h2⟩ := wd2_len e hf
  have h3 := hexW_len e.name
  have h4 := hs.1
  unfold wd3
  split
  · refine ⟨by simp; omega, fun x hx => ?_⟩
    rcases List.mem_append.1 hx with hx | hx
    · exact h2 x hx
    · simp at hx; subst hx; omega
  · exact ⟨by omega, h2⟩
/-- the lengths of an event's words -/
theorem words_len (e : EvD) (hf : e.Fine) (hs : e.Slim) : (wordsD e).length ≤ 7 ∧ ∀ x ∈ wordsD e, x.length ≤ 100000 := by
  obtain ⟨h1, h2⟩ := wd3_len e hf hs
  have l1 := itoa_len e.n hf.n
  have l2 := ansW_len e.flag
  have l3 := hexW_len e.text
  have l4 := short_dec e.snd (by have := hf.snd; omega)
  have l5 := short_dec e.rcv (by have := hf.rcv; omega)
  have l6 := msgW_len e.m.p e.m.t e.m.c e.m.id e.m.body hf.p hf.t hf.c (by have := hs.2.2.2.1; omega) (by have := hs.2.2.2.2; omega)
  have l7 := outW_len e.ok e.oa e.ob e.cond hf.ok hf.oa hf.ob (by have := hs.2.2.1; omega)
  have l8 := hs.2.1
  have grow : ∀ news : List (List UInt8), news.length ≤ 4 → (∀ x ∈ news, x.length ≤ 100000) → (wd3 e ++ news).length ≤ 7 ∧ ∀ x ∈ wd3 e ++ news, x.length ≤ 100000 := fun news hn hx =>
    ⟨by simp; omega, fun x hm => by rcases List.mem_append.1 hm with hm | hm; exact h2 x hm; exact hx x hm⟩
  unfold wordsD
  split
  · exact grow _ (by simp) (fun x hx => by simp at hx; subst hx; omega)
  split
  · exact grow _ (by simp) (fun x hx => by simp at hx; rcases hx with rfl | rfl | rfl | rfl <;> omega)
  split
  · exact grow _ (by simp) (fun x hx => by simp at hx; rcases hx with rfl | rfl; exact l6; omega)
  split
  · exact grow _ (by simp) (fun x hx => by simp at hx; rcases hx with rfl | rfl; omega; exact l7)
  · exact ⟨by omega, h2⟩
theorem words_short (e : EvD) (hf : e.Fine) (hs : e.Slim) : (Lib.join (wordsD e) [32]).length ≤ 140737488355328 := by
  obtain ⟨h1, h2⟩ := words_len e hf hs
  have := join_len (wordsD e) [32] 100000 7 h1 h2
  simp at this
  omega
section
variable {P : Program} {md : Region.Mode} {ops : Array Oper} {Q : Exit → Act → World → Prop} {S1 S2 : World → Prop}
/-- what is held may be said stronger on the way -/
theorem wpAnyH_imp (h : ∀ w, S2 w → S1 w) : ∀ (fuel : Nat) (listed : Array Bool) (a : Act) (w : World), wpAnyH P md ops Q S2 fuel listed a w → wpAnyH P md ops Q S1 fuel listed a w
  | 0, _, _, _, hw => hw
  | fuel + 1, _, _, _, hw => ⟨hw.1, fun i hi => wpOp_mono (fun _ _ h' => ⟨h _ h'.1, wpAnyH_imp h fuel _ _ _ h'.2⟩) (hw.2 i hi)⟩
end
theorem kw_cell {W : World} {b k : Nat} (hk : k < 14) (h : W.heap[b]? = some (.cells (kindWs.map S).toArray 9)) : W.cell? ⟨b, k, none⟩ = some (S ((kindWs[k]?).getD [])) := by
  rw [cell_of h]
  have : k < kindWs.length := hk
  simp [List.getElem?_eq_getElem this]
theorem St.init {w V : World} {ec cz : Array Value} {o2 : Obj} {qb g : Nat} {x : List UInt8} {l : List Value} (htab : Pow w)
    (hV : Below (w.heap.size + 2) ((w.alloc (.cells ec 30)).alloc o2) V) (hq : V.heap[qb]? = some (.cells cz 30)) (hsz : cz.size = l.length) (hg : V.heap[g]? = some (.cells #[S x] 9))
    (qlo : w.heap.size + 2 ≤ qb) (glo : w.heap.size + 2 ≤ g) (hne : g ≠ qb) : St w ec o2 qb l.toArray g 1 [x] (V.setCells qb 0 l) := by
  have hb0 : Below w.heap.size w ((w.alloc (.cells ec 30)).alloc o2) := ((Below.refl _ _).alloc (Nat.le_refl _) _).alloc (by simp) _
  have hb := hb0.trans (hV.mono (by omega))
  have hbut := setCells_but qb l 0 V
  have he : V.heap[w.heap.size]? = some (.cells ec 30) := (hV.block _ (by omega)).trans (heap_alloc2_old w _ _)
  have hr : V.heap[w.heap.size + 1]? = some o2 := (hV.block _ (by omega)).trans (heap_alloc2_new w _ _)
  refine ⟨(hbut.block _ (lt_of he) (by omega)).trans he, (hbut.block _ (lt_of hr) (by omega)).trans hr, ?_, qlo, ?_, hne, ?_, hb.trans (hbut.below (by omega) hb.size)⟩
  · have := setCells_heap qb 30 l 0 V cz hq (by omega)
    rw [this, List.take_zero, List.nil_append, List.drop_of_length_le (by simp [hsz]), List.append_nil]
  · refine ⟨rfl, .inr ⟨g, 1, #[S x], rfl, glo, (hbut.block _ (lt_of hg) hne).trans hg, Nat.le_refl _, by decide, rfl, rfl⟩⟩
  · have h3 := pow_lt htab
    exact pow_but (htab.below hb (Nat.le_refl _)) hbut (by omega)
end Go.Proofs.YtaojoifpekoecaaGreatDoor


namespace Go.Proofs.YtaojoifpekoecaaGreatDoor
open Go.RowKit Go.Shelf
set_option maxHeartbeats 400000
theorem range_of {w : World} {b o : Nat} {cs : Array Value} {l : List Value} {t : TypeId} (h : w.heap[b]? = some (.cells cs t)) (hc : (cs.toList.drop o).take l.length = l) : w.rangeAt b o l := fun j v hj => by
  rw [cell_of h, ← Array.getElem?_toList]
  rw [← hc, List.getElem?_take] at hj
  split at hj
  · rw [List.getElem?_drop] at hj; exact hj
  · cases hj
section
variable {P : Program} {md : Region.Mode} {ops : Array Oper} {Q : Exit → Act → World → Prop} {S : World → Prop}
/-- number i is taken first; its slot is named -/
theorem takeD {i : Nat} {oi : Oper} {v : Value} {fuel : Nat} {listed : Array Bool} {a : Act} {w : World} (d : Tmp) (hi : ops[i]? = some oi) (hd : oi.dst = some d)
    (hs : Region.noSelect ops = true) (hf : Region.free md ops listed i = true) (hr : (Region.ready md ops listed).contains i = true)
    (hQ : ∀ c a w, Q (.panic c) (a.put oi.dst v) w → Q (.panic c) a w) (hy : YieldsIf P ops S oi v a) (hS : S w)
    (h : wpAnyH P md ops Q S fuel (listed.setIfInBounds i true) (a.put (some d) v) w) : wpAnyH P md ops Q S (fuel + 1) listed a w :=
  wpAnyH_take hi hs hf hr hQ hy hS (hd ▸ h)
def tkC (md : Region.Mode) (ops : Array Oper) (listed : Array Bool) (i : Nat) : Bool := Region.noSelect ops && (Region.free md ops listed i && (Region.ready md ops listed).contains i)
theorem tk {i : Nat} {oi : Oper} {v : Value} {fuel : Nat} {listed : Array Bool} {a : Act} {w : World} (d : Tmp) (hi : ops[i]? = some oi) (hd : oi.dst = some d)
    (hc : tkC md ops listed i = true) (hw : Region.wanted oi (yielded ops a.tmps) = true) (hS : S w) (hy : ∀ w, S w → (execOp a.eval oi).run P w = .ok (.value v) w)
    (h : wpAnyH P md ops (NoPanic Q) S fuel (listed.setIfInBounds i true) (a.put (some d) v) w) : wpAnyH P md ops (NoPanic Q) S (fuel + 1) listed a w := by
  unfold tkC at hc
  simp only [Bool.and_eq_true] at hc
  exact takeD d hi hd hc.1 hc.2.1 hc.2.2 (fun _ _ _ h => h) (.inl ⟨hw, hy⟩) hS h
theorem tn {i : Nat} {oi : Oper} {fuel : Nat} {listed : Array Bool} {a : Act} {w : World} (d : Tmp) (hi : ops[i]? = some oi) (hd : oi.dst = some d)
    (hc : tkC md ops listed i = true) (hw : Region.wanted oi (yielded ops a.tmps) = false) (hS : S w)
    (h : wpAnyH P md ops (NoPanic Q) S fuel (listed.setIfInBounds i true) (a.put (some d) undef) w) : wpAnyH P md ops (NoPanic Q) S (fuel + 1) listed a w := by
  unfold tkC at hc
  simp only [Bool.and_eq_true] at hc
  exact takeD d hi hd hc.1 hc.2.1 hc.2.2 (fun _ _ _ h => h) (.inr ⟨hw, rfl⟩) hS h
end
theorem sA {α : Type} (l : List α) (i : Nat) (a : α) : l.toArray.setIfInBounds i a = (l.set i a).toArray := by simp
theorem s0 {α : Type} (x : α) (l : List α) (a : α) : (x :: l).set 0 a = a :: l := rfl
theorem s1 {α : Type} (x : α) (l : List α) (i : Nat) (a : α) : (x :: l).set (i + 1) a = x :: l.set i a := rfl
/-- two events' blocks stand, and what was there -/
structure Two (w : World) (ca cb : Array Value) (W : World) : Prop where
  ha : W.heap[w.heap.size]? = some (.cells ca 30)
  hb : W.heap[w.heap.size + 1]? = some (.cells cb 30)
  below : Below w.heap.size w W
theorem Two.init (w : World) (ca cb : Array Value) : Two w ca cb ((w.alloc (.cells ca 30)).alloc (.cells cb 30)) :=
  ⟨heap_alloc2_old w _ _, heap_alloc2_new w _ _, ((Below.refl _ _).alloc (Nat.le_refl _) _).alloc (by simp) _⟩
theorem Two.step {w W W' : World} {ca cb : Array Value} (h : Two w ca cb W) (hb : Below W.heap.size W W') : Two w ca cb W' :=
  ⟨(hb.block _ (lt_of h.ha)).trans h.ha, (hb.block _ (lt_of h.hb)).trans h.hb, h.below.trans (hb.mono h.below.size)⟩
theorem Two.drew {w W : World} {ca cb : Array Value} (h : Two w ca cb W) : Two w ca cb W.drew := h.step (Below.refl _ _).drew
theorem Two.a {w W : World} {ca cb : Array Value} (h : Two w ca cb W) (j : Nat) : W.cell? ⟨w.heap.size, j, none⟩ = ca[j]? := cell_of h.ha
theorem Two.b {w W : World} {ca cb : Array Value} (h : Two w ca cb W) (j : Nat) : W.cell? ⟨w.heap.size + 1, j, none⟩ = cb[j]? := cell_of h.hb
end Go.Proofs.YtaojoifpekoecaaGreatDoor
