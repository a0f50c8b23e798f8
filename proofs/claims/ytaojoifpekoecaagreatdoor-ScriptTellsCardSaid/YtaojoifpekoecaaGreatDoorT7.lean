/-
  list at three types. Conditions: as each theorem says.
-/
import Derived.Test.YtaojoifpekoecaaGreatDoorT6
import Derived.Deep.MidRow
import Derived.Deep.WholeRow
namespace Go.Proofs.YtaojoifpekoecaaGreatDoor
open Go.RowKit Go.Shelf
/-- a slice of structs of n cells that lies in the world -/
def SliceV {α : Type} (n : Nat) (EV : World → List Value → α → Prop) (w : World) (v : Value) (xs : List α) : Prop :=
  ∃ a c, v = .slice a xs.length c ∧ (xs ≠ [] → ∃ b o, a = some ⟨b, o, none⟩ ∧ b < w.heap.size ∧ ∀ (j : Nat) x, xs[j]? = some x → ∃ cs, cs.length = n ∧ cs.all (·.oneCell') = true ∧ w.rangeAt b (o + j * n) cs ∧ EV w cs x)
theorem rangeAt_below {w w' : World} {B b o : Nat} {cs : List Value} (h : w.rangeAt b o cs) (hb : Below B w w') (hlt : b < B) : w'.rangeAt b o cs := fun j v hv => (hb.cell hlt).trans (h j v hv)
theorem infoStr : (Tryz.prog.info? 9).map (fun i => (i.zero, i.size, i.bytes)) = some (some (.string { data := #[] }), 1, 16) := by kernel_rfl
def listW (ws : List (List UInt8)) : List UInt8 := if ws = [] then [110, 111, 110, 101] else Lib.join ws [44]
theorem own_below {w w' : World} {B e size n : Nat} {v : Value} {xs : List Value} (h : w.ownsRow B e size v n xs) (hb : Below w.heap.size w w') : w'.ownsRow B e size v n xs := by
  obtain ⟨h1, h2⟩ := h
  refine ⟨h1, ?_⟩
  rcases h2 with h2 | ⟨g, cap, cur, hv, hB, hg, hr⟩
  · exact .inl h2
  · have hlt : g < w.heap.size := (Array.getElem?_eq_some_iff.1 hg).1
    exact .inr ⟨g, cap, cur, hv, hB, (hb.block g hlt).trans hg, hr⟩
theorem strs_own {w : World} {B : Nat} {v : Value} {ws : List (List UInt8)} (h : w.ownsRow B 9 1 v ws.length (ws.map S)) : StrsV w v ws := by
  obtain ⟨_, ⟨rfl, h0⟩ | ⟨g, cap, cur, rfl, _, hg, hc, _, hcs, ht⟩⟩ := h
  · have : ws = [] := List.length_eq_zero_iff.1 h0
    subst this
    exact ⟨none, 0, rfl, Nat.le_refl _, fun h => absurd rfl h⟩
  · refine ⟨_, cap, rfl, hc, fun _ => ⟨g, 0, rfl, (Array.getElem?_eq_some_iff.1 hg).1, fun j x hx => ?_⟩⟩
    have : (cur.toList.take (ws.length * 1))[j]? = some (S x) := by rw [ht, List.getElem?_map, hx]; rfl
    rw [Nat.mul_one, List.getElem?_take] at this
    split at this
    · unfold World.cell?
      rw [hg, Nat.zero_add]
      simpa using this
    · cases this
set_option maxHeartbeats 600000
theorem info25 : (Tryz.prog.info? 25).map (·.size) = some 5 := by kernel_rfl
set_option maxRecDepth 100000 in
theorem list25a {α : Type} {EV : World → List Value → α → Prop} {word : α → List UInt8} (hst : ∀ {w w' : World} {cs x}, Below w.heap.size w w' → EV w cs x → EV w' cs x)
    (hcall : ∀ {w : World} {cs x}, Pow w → EV w cs x → Calls Tryz.prog 49 #[.agg cs.toArray] w fun e w' => e = .returned (S (word x)) ∧ Below w.heap.size w w')
    (b o c : Nat) (xs : List α) (h0 : xs.length ≠ 0) (hn : xs.length ≤ 1000) (w : World) (htab : Pow w) (hbl : b < w.heap.size) (hel : ∀ (j : Nat) x, xs[j]? = some x → ∃ cs, cs.length = 5 ∧ cs.all (·.oneCell') = true ∧ w.rangeAt b (o + j * 5) cs ∧ EV w cs x)
    (hlen : (Lib.join (xs.map word) [44]).length ≤ 140737488355328) :
    Calls Tryz.prog 48 #[.slice (some ⟨b, o, none⟩) xs.length c, .func (.func 49) #[] #[]] w fun e w' => e = .returned (S (Lib.join (xs.map word) [44])) ∧ Below w.heap.size w w' := by
  have hz : ((xs.length : Int) == 0) = false := beq_eq_false_iff_ne.2 (by omega)
  obtain ⟨i0, hi, hz0, hz1, hz2⟩ := info_parts infoStr
  go_enter Tryz.func48, Tryz.ntmps48
  go_wp2
  go_loopw [5, 13] (fun v i wr => ∃ k : Nat, k ≤ xs.length ∧ i = .int .i64 k ∧ wr.ownsRow w.heap.size 9 1 v k ((xs.take k).map fun x => S (word x)) ∧ Below w.heap.size w wr)
    (fun _ i _ => xs.length - (intOf i).toNat)
  case atStart => exact ⟨0, Nat.zero_le _, rfl, World.ownsRow_nil _ _ _ _, Below.refl _ _⟩
  case round =>
    obtain ⟨k, hk, rfl, hown, hb⟩ := hrel
    by_cases hlt : k < xs.length
    · obtain ⟨cs, hcl, hco, hcr, hev⟩ := hel k xs[k] (List.getElem?_eq_getElem hlt)
      have hcr' := rangeAt_below hcr hb hbl
      have hm : ((xs.take (k + 1)).map fun x => S (word x)) = ((xs.take k).map fun x => S (word x)) ++ [S (word xs[k])] := by
        rw [List.take_succ_eq_append_getElem hlt, List.map_append]; rfl
      have hsz := hb.size
      have hcsz : cs.toArray.size = 5 := by simpa using hcl
      have hsto : (storeCells ⟨wr.heap.size, 0, none⟩ cs).run Tryz.prog (wr.alloc (.cells #[.int .u8 0, .int .u32 0, .int .u32 0, .string { data := #[] }, .slice none 0 0] 25)) = .ok () (wr.alloc (.cells cs.toArray 25)) := by
        have := run_storeCells_new (P := Tryz.prog) wr 25 #[.int .u8 0, .int .u32 0, .int .u32 0, .string { data := #[] }, .slice none 0 0] cs.toArray (by rw [hcsz]; exact info25) (by rw [hcsz]; rfl) (by simpa using hco)
        simpa using this
      have hnew := heap_alloc_last wr (.cells cs.toArray 25)
      have hpw : Pow (wr.alloc (.cells cs.toArray 25)) := (htab.below hb (Nat.le_refl _)).below ((Below.refl _ _).alloc (Nat.le_refl _) _) (Nat.le_refl _)
      have hevw : EV (wr.alloc (.cells cs.toArray 25)) cs xs[k] := hst ((Below.refl _ _).alloc (Nat.le_refl _) _) (hst hb hev)
      go_wp2_with (first
        | (refine wpList_load_mid rfl 25 _ rfl b _ rfl cs _ hcr' Tryz.underlying25 rfl (by rw [hcl]; exact info25) ?_)
        | (refine wpList_load_row rfl 25 _ rfl wr.heap.size rfl 25 cs.toArray (0, 0) _ hnew Tryz.underlying25 rfl (by rw [hcsz]; exact info25) ?_)
        | (go_at_call 49; refine (hcall hpw hevw).mono ?_; rintro e w1 ⟨rfl, h1⟩; have hown1 := own_below (own_below hown ((Below.refl _ _).alloc (Nat.le_refl _) (.cells cs.toArray 25))) h1; have hs1 := h1.size)
        | (at_builtin; refine wpList_append_own _ rfl _ _ 58 rfl w.heap.size 9 i0 (.string { data := #[] }) 1 16 Tryz.underlying58 hi hz0 hz1 hz2 rfl (by decide) _ _ _ rfl (hown1.alloc _) ⟨w1.heap.size, 0, none⟩ 1 1 [S (word xs[k])] rfl rfl ?c1 ?c2 ?c3 ?c4 ?c5 ?_))
      case c1 =>
        intro j u hj
        match j, hj with
        | 0, hj => simp at hj; subst hj; simp [Addr.add]
      case c2 => intro u hu; simp at hu; subst hu; rfl
      case c3 => unfold maxLen; omega
      case c4 => omega
      case c5 => simp at hs1 ⊢; omega
      intro v' w2 hown2 hgrow _
      have hb2 : Below w.heap.size w w2 := ((hb.trans (((Below.refl _ _).alloc (Nat.le_refl _) _).mono hsz)).trans (h1.mono (by simp; omega))).trans (((Below.refl w.heap.size w1).alloc (by simp at hs1; omega) _).grown hgrow (by simp at hs1 ⊢; omega) (fun k hk => (hown1.lt k hk).1))
      go_wp2
      go_roundw
      case rel => exact ⟨k + 1, by omega, by go_num, by rw [hm, List.map_take]; exact hown2, hb2⟩
      case measure => simp [intOf]; omega
    · have hke : k = xs.length := by omega
      subst hke
      rw [List.take_length] at hown
      have hsv : StrsV wr u5 (xs.map word) := strs_own (by rw [List.length_map, List.map_map]; exact hown)
      go_wp2_with (go_at_call 39; refine (join_any _ (xs.map word) [44] _ hsv (by simp; omega) hlen).mono ?_; rintro e w1 ⟨rfl, h1⟩)
      go_wp2
      go_ret
      exact ⟨rfl, hb.trans (h1.mono hb.size)⟩
set_option maxRecDepth 100000 in
theorem list25 {α : Type} {EV : World → List Value → α → Prop} {word : α → List UInt8} (hst : ∀ {w w' : World} {cs x}, Below w.heap.size w w' → EV w cs x → EV w' cs x)
    (hcall : ∀ {w : World} {cs x}, Pow w → EV w cs x → Calls Tryz.prog 49 #[.agg cs.toArray] w fun e w' => e = .returned (S (word x)) ∧ Below w.heap.size w w')
    (v : Value) (xs : List α) (hn : xs.length ≤ 1000) (w : World) (htab : Pow w) (hv : SliceV 5 EV w v xs) (hlen : (Lib.join (xs.map word) [44]).length ≤ 140737488355328) :
    Calls Tryz.prog 48 #[v, .func (.func 49) #[] #[]] w fun e w' => e = .returned (S (listW (xs.map word))) ∧ Below w.heap.size w w' := by
  obtain ⟨a, c, rfl, hv⟩ := hv
  by_cases h0 : xs = []
  · subst h0
    go_enter Tryz.func48, Tryz.ntmps48
    go_wp2
    go_ret
    exact ⟨rfl, Below.refl _ _⟩
  · obtain ⟨b, o, rfl, hlt, hel⟩ := hv h0
    have := list25a (EV := EV) (word := word) @hst @hcall b o c xs (fun h => h0 (List.length_eq_zero_iff.1 h)) hn w htab hlt hel hlen
    have e : listW (xs.map word) = Lib.join (xs.map word) [44] := if_neg (fun h => h0 (List.map_eq_nil_iff.1 h))
    rw [e]
    exact this
theorem info50 : (Tryz.prog.info? 50).map (·.size) = some 7 := by kernel_rfl
set_option maxRecDepth 100000 in
theorem list50a {α : Type} {EV : World → List Value → α → Prop} {word : α → List UInt8} (hst : ∀ {w w' : World} {cs x}, Below w.heap.size w w' → EV w cs x → EV w' cs x)
    (hcall : ∀ {w : World} {cs x}, Pow w → EV w cs x → Calls Tryz.prog 51 #[.agg cs.toArray] w fun e w' => e = .returned (S (word x)) ∧ Below w.heap.size w w')
    (b o c : Nat) (xs : List α) (h0 : xs.length ≠ 0) (hn : xs.length ≤ 1000) (w : World) (htab : Pow w) (hbl : b < w.heap.size) (hel : ∀ (j : Nat) x, xs[j]? = some x → ∃ cs, cs.length = 7 ∧ cs.all (·.oneCell') = true ∧ w.rangeAt b (o + j * 7) cs ∧ EV w cs x)
    (hlen : (Lib.join (xs.map word) [44]).length ≤ 140737488355328) :
    Calls Tryz.prog 50 #[.slice (some ⟨b, o, none⟩) xs.length c, .func (.func 51) #[] #[]] w fun e w' => e = .returned (S (Lib.join (xs.map word) [44])) ∧ Below w.heap.size w w' := by
  have hz : ((xs.length : Int) == 0) = false := beq_eq_false_iff_ne.2 (by omega)
  obtain ⟨i0, hi, hz0, hz1, hz2⟩ := info_parts infoStr
  go_enter Tryz.func50, Tryz.ntmps50
  go_wp2
  go_loopw [5, 13] (fun v i wr => ∃ k : Nat, k ≤ xs.length ∧ i = .int .i64 k ∧ wr.ownsRow w.heap.size 9 1 v k ((xs.take k).map fun x => S (word x)) ∧ Below w.heap.size w wr)
    (fun _ i _ => xs.length - (intOf i).toNat)
  case atStart => exact ⟨0, Nat.zero_le _, rfl, World.ownsRow_nil _ _ _ _, Below.refl _ _⟩
  case round =>
    obtain ⟨k, hk, rfl, hown, hb⟩ := hrel
    by_cases hlt : k < xs.length
    · obtain ⟨cs, hcl, hco, hcr, hev⟩ := hel k xs[k] (List.getElem?_eq_getElem hlt)
      have hcr' := rangeAt_below hcr hb hbl
      have hm : ((xs.take (k + 1)).map fun x => S (word x)) = ((xs.take k).map fun x => S (word x)) ++ [S (word xs[k])] := by
        rw [List.take_succ_eq_append_getElem hlt, List.map_append]; rfl
      have hsz := hb.size
      have hcsz : cs.toArray.size = 7 := by simpa using hcl
      have hsto : (storeCells ⟨wr.heap.size, 0, none⟩ cs).run Tryz.prog (wr.alloc (.cells #[.int .i64 0, .string { data := #[] }, .string { data := #[] }, .int .u8 0, .int .u64 0, .int .u64 0, .string { data := #[] }] 50)) = .ok () (wr.alloc (.cells cs.toArray 50)) := by
        have := run_storeCells_new (P := Tryz.prog) wr 50 #[.int .i64 0, .string { data := #[] }, .string { data := #[] }, .int .u8 0, .int .u64 0, .int .u64 0, .string { data := #[] }] cs.toArray (by rw [hcsz]; exact info50) (by rw [hcsz]; rfl) (by simpa using hco)
        simpa using this
      have hnew := heap_alloc_last wr (.cells cs.toArray 50)
      have hpw : Pow (wr.alloc (.cells cs.toArray 50)) := (htab.below hb (Nat.le_refl _)).below ((Below.refl _ _).alloc (Nat.le_refl _) _) (Nat.le_refl _)
      have hevw : EV (wr.alloc (.cells cs.toArray 50)) cs xs[k] := hst ((Below.refl _ _).alloc (Nat.le_refl _) _) (hst hb hev)
      go_wp2_with (first
        | (refine wpList_load_mid rfl 50 _ rfl b _ rfl cs _ hcr' Tryz.underlying50 rfl (by rw [hcl]; exact info50) ?_)
        | (refine wpList_load_row rfl 50 _ rfl wr.heap.size rfl 50 cs.toArray (0, 0) _ hnew Tryz.underlying50 rfl (by rw [hcsz]; exact info50) ?_)
        | (go_at_call 51; refine (hcall hpw hevw).mono ?_; rintro e w1 ⟨rfl, h1⟩; have hown1 := own_below (own_below hown ((Below.refl _ _).alloc (Nat.le_refl _) (.cells cs.toArray 50))) h1; have hs1 := h1.size)
        | (at_builtin; refine wpList_append_own _ rfl _ _ 58 rfl w.heap.size 9 i0 (.string { data := #[] }) 1 16 Tryz.underlying58 hi hz0 hz1 hz2 rfl (by decide) _ _ _ rfl (hown1.alloc _) ⟨w1.heap.size, 0, none⟩ 1 1 [S (word xs[k])] rfl rfl ?c1 ?c2 ?c3 ?c4 ?c5 ?_))
      case c1 =>
        intro j u hj
        match j, hj with
        | 0, hj => simp at hj; subst hj; simp [Addr.add]
      case c2 => intro u hu; simp at hu; subst hu; rfl
      case c3 => unfold maxLen; omega
      case c4 => omega
      case c5 => simp at hs1 ⊢; omega
      intro v' w2 hown2 hgrow _
      have hb2 : Below w.heap.size w w2 := ((hb.trans (((Below.refl _ _).alloc (Nat.le_refl _) _).mono hsz)).trans (h1.mono (by simp; omega))).trans (((Below.refl w.heap.size w1).alloc (by simp at hs1; omega) _).grown hgrow (by simp at hs1 ⊢; omega) (fun k hk => (hown1.lt k hk).1))
      go_wp2
      go_roundw
      case rel => exact ⟨k + 1, by omega, by go_num, by rw [hm, List.map_take]; exact hown2, hb2⟩
      case measure => simp [intOf]; omega
    · have hke : k = xs.length := by omega
      subst hke
      rw [List.take_length] at hown
      have hsv : StrsV wr u5 (xs.map word) := strs_own (by rw [List.length_map, List.map_map]; exact hown)
      go_wp2_with (go_at_call 39; refine (join_any _ (xs.map word) [44] _ hsv (by simp; omega) hlen).mono ?_; rintro e w1 ⟨rfl, h1⟩)
      go_wp2
      go_ret
      exact ⟨rfl, hb.trans (h1.mono hb.size)⟩
set_option maxRecDepth 100000 in
theorem list50 {α : Type} {EV : World → List Value → α → Prop} {word : α → List UInt8} (hst : ∀ {w w' : World} {cs x}, Below w.heap.size w w' → EV w cs x → EV w' cs x)
    (hcall : ∀ {w : World} {cs x}, Pow w → EV w cs x → Calls Tryz.prog 51 #[.agg cs.toArray] w fun e w' => e = .returned (S (word x)) ∧ Below w.heap.size w w')
    (v : Value) (xs : List α) (hn : xs.length ≤ 1000) (w : World) (htab : Pow w) (hv : SliceV 7 EV w v xs) (hlen : (Lib.join (xs.map word) [44]).length ≤ 140737488355328) :
    Calls Tryz.prog 50 #[v, .func (.func 51) #[] #[]] w fun e w' => e = .returned (S (listW (xs.map word))) ∧ Below w.heap.size w w' := by
  obtain ⟨a, c, rfl, hv⟩ := hv
  by_cases h0 : xs = []
  · subst h0
    go_enter Tryz.func50, Tryz.ntmps50
    go_wp2
    go_ret
    exact ⟨rfl, Below.refl _ _⟩
  · obtain ⟨b, o, rfl, hlt, hel⟩ := hv h0
    have := list50a (EV := EV) (word := word) @hst @hcall b o c xs (fun h => h0 (List.length_eq_zero_iff.1 h)) hn w htab hlt hel hlen
    have e : listW (xs.map word) = Lib.join (xs.map word) [44] := if_neg (fun h => h0 (List.map_eq_nil_iff.1 h))
    rw [e]
    exact this
theorem info84 : (Tryz.prog.info? 84).map (·.size) = some 4 := by kernel_rfl
set_option maxRecDepth 100000 in
theorem list84a {α : Type} {EV : World → List Value → α → Prop} {word : α → List UInt8} (hst : ∀ {w w' : World} {cs x}, Below w.heap.size w w' → EV w cs x → EV w' cs x)
    (hcall : ∀ {w : World} {cs x}, Pow w → EV w cs x → Calls Tryz.prog 43 #[.agg cs.toArray] w fun e w' => e = .returned (S (word x)) ∧ Below w.heap.size w w')
    (b o c : Nat) (xs : List α) (h0 : xs.length ≠ 0) (hn : xs.length ≤ 1000) (w : World) (htab : Pow w) (hbl : b < w.heap.size) (hel : ∀ (j : Nat) x, xs[j]? = some x → ∃ cs, cs.length = 4 ∧ cs.all (·.oneCell') = true ∧ w.rangeAt b (o + j * 4) cs ∧ EV w cs x)
    (hlen : (Lib.join (xs.map word) [44]).length ≤ 140737488355328) :
    Calls Tryz.prog 42 #[.slice (some ⟨b, o, none⟩) xs.length c, .func (.func 43) #[] #[]] w fun e w' => e = .returned (S (Lib.join (xs.map word) [44])) ∧ Below w.heap.size w w' := by
  have hz : ((xs.length : Int) == 0) = false := beq_eq_false_iff_ne.2 (by omega)
  obtain ⟨i0, hi, hz0, hz1, hz2⟩ := info_parts infoStr
  go_enter Tryz.func42, Tryz.ntmps42
  go_wp2
  go_loopw [5, 13] (fun v i wr => ∃ k : Nat, k ≤ xs.length ∧ i = .int .i64 k ∧ wr.ownsRow w.heap.size 9 1 v k ((xs.take k).map fun x => S (word x)) ∧ Below w.heap.size w wr)
    (fun _ i _ => xs.length - (intOf i).toNat)
  case atStart => exact ⟨0, Nat.zero_le _, rfl, World.ownsRow_nil _ _ _ _, Below.refl _ _⟩
  case round =>
    obtain ⟨k, hk, rfl, hown, hb⟩ := hrel
    by_cases hlt : k < xs.length
    · obtain ⟨cs, hcl, hco, hcr, hev⟩ := hel k xs[k] (List.getElem?_eq_getElem hlt)
      have hcr' := rangeAt_below hcr hb hbl
      have hm : ((xs.take (k + 1)).map fun x => S (word x)) = ((xs.take k).map fun x => S (word x)) ++ [S (word xs[k])] := by
        rw [List.take_succ_eq_append_getElem hlt, List.map_append]; rfl
      have hsz := hb.size
      have hcsz : cs.toArray.size = 4 := by simpa using hcl
      have hsto : (storeCells ⟨wr.heap.size, 0, none⟩ cs).run Tryz.prog (wr.alloc (.cells #[.string { data := #[] }, .int .i64 0, .int .i64 0, .string { data := #[] }] 84)) = .ok () (wr.alloc (.cells cs.toArray 84)) := by
        have := run_storeCells_new (P := Tryz.prog) wr 84 #[.string { data := #[] }, .int .i64 0, .int .i64 0, .string { data := #[] }] cs.toArray (by rw [hcsz]; exact info84) (by rw [hcsz]; rfl) (by simpa using hco)
        simpa using this
      have hnew := heap_alloc_last wr (.cells cs.toArray 84)
      have hpw : Pow (wr.alloc (.cells cs.toArray 84)) := (htab.below hb (Nat.le_refl _)).below ((Below.refl _ _).alloc (Nat.le_refl _) _) (Nat.le_refl _)
      have hevw : EV (wr.alloc (.cells cs.toArray 84)) cs xs[k] := hst ((Below.refl _ _).alloc (Nat.le_refl _) _) (hst hb hev)
      go_wp2_with (first
        | (refine wpList_load_mid rfl 84 _ rfl b _ rfl cs _ hcr' Tryz.underlying84 rfl (by rw [hcl]; exact info84) ?_)
        | (refine wpList_load_row rfl 84 _ rfl wr.heap.size rfl 84 cs.toArray (0, 0) _ hnew Tryz.underlying84 rfl (by rw [hcsz]; exact info84) ?_)
        | (go_at_call 43; refine (hcall hpw hevw).mono ?_; rintro e w1 ⟨rfl, h1⟩; have hown1 := own_below (own_below hown ((Below.refl _ _).alloc (Nat.le_refl _) (.cells cs.toArray 84))) h1; have hs1 := h1.size)
        | (at_builtin; refine wpList_append_own _ rfl _ _ 58 rfl w.heap.size 9 i0 (.string { data := #[] }) 1 16 Tryz.underlying58 hi hz0 hz1 hz2 rfl (by decide) _ _ _ rfl (hown1.alloc _) ⟨w1.heap.size, 0, none⟩ 1 1 [S (word xs[k])] rfl rfl ?c1 ?c2 ?c3 ?c4 ?c5 ?_))
      case c1 =>
        intro j u hj
        match j, hj with
        | 0, hj => simp at hj; subst hj; simp [Addr.add]
      case c2 => intro u hu; simp at hu; subst hu; rfl
      case c3 => unfold maxLen; omega
      case c4 => omega
      case c5 => simp at hs1 ⊢; omega
      intro v' w2 hown2 hgrow _
      have hb2 : Below w.heap.size w w2 := ((hb.trans (((Below.refl _ _).alloc (Nat.le_refl _) _).mono hsz)).trans (h1.mono (by simp; omega))).trans (((Below.refl w.heap.size w1).alloc (by simp at hs1; omega) _).grown hgrow (by simp at hs1 ⊢; omega) (fun k hk => (hown1.lt k hk).1))
      go_wp2
      go_roundw
      case rel => exact ⟨k + 1, by omega, by go_num, by rw [hm, List.map_take]; exact hown2, hb2⟩
      case measure => simp [intOf]; omega
    · have hke : k = xs.length := by omega
      subst hke
      rw [List.take_length] at hown
      have hsv : StrsV wr u5 (xs.map word) := strs_own (by rw [List.length_map, List.map_map]; exact hown)
      go_wp2_with (go_at_call 39; refine (join_any _ (xs.map word) [44] _ hsv (by simp; omega) hlen).mono ?_; rintro e w1 ⟨rfl, h1⟩)
      go_wp2
      go_ret
      exact ⟨rfl, hb.trans (h1.mono hb.size)⟩
set_option maxRecDepth 100000 in
theorem list84 {α : Type} {EV : World → List Value → α → Prop} {word : α → List UInt8} (hst : ∀ {w w' : World} {cs x}, Below w.heap.size w w' → EV w cs x → EV w' cs x)
    (hcall : ∀ {w : World} {cs x}, Pow w → EV w cs x → Calls Tryz.prog 43 #[.agg cs.toArray] w fun e w' => e = .returned (S (word x)) ∧ Below w.heap.size w w')
    (v : Value) (xs : List α) (hn : xs.length ≤ 1000) (w : World) (htab : Pow w) (hv : SliceV 4 EV w v xs) (hlen : (Lib.join (xs.map word) [44]).length ≤ 140737488355328) :
    Calls Tryz.prog 42 #[v, .func (.func 43) #[] #[]] w fun e w' => e = .returned (S (listW (xs.map word))) ∧ Below w.heap.size w w' := by
  obtain ⟨a, c, rfl, hv⟩ := hv
  by_cases h0 : xs = []
  · subst h0
    go_enter Tryz.func42, Tryz.ntmps42
    go_wp2
    go_ret
    exact ⟨rfl, Below.refl _ _⟩
  · obtain ⟨b, o, rfl, hlt, hel⟩ := hv h0
    have := list84a (EV := EV) (word := word) @hst @hcall b o c xs (fun h => h0 (List.length_eq_zero_iff.1 h)) hn w htab hlt hel hlen
    have e : listW (xs.map word) = Lib.join (xs.map word) [44] := if_neg (fun h => h0 (List.map_eq_nil_iff.1 h))
    rw [e]
    exact this
end Go.Proofs.YtaojoifpekoecaaGreatDoor

