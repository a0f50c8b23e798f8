/-
  The reference's Head tells headW. Conditions: as each theorem says.
-/
import Derived.Test.YtaojoifpekoecaaGreatDoorT14
import Derived.Test.YtaojoifpekoecaaGreatDoorT9
namespace Go.Proofs.YtaojoifpekoecaaGreatDoor
open Go.RowKit Go.Shelf
set_option maxHeartbeats 400000
theorem Kp.grow {w w1 w2 : World} {c : Array Value} (h : Kp w c w1) (ht : Pow w) (hb : Below (w.heap.size + 1) w1 w2) : Kp w c w2 := by
  obtain ⟨h1, h2, h3, h4⟩ := h
  have h5 := h3.trans (hb.mono (Nat.le_succ _))
  refine ⟨?_, ht.below h5 (Nat.le_refl _), h5, Nat.le_trans h4 hb.size⟩
  rw [hb.block _ (Nat.lt_succ_self _)]; exact h1
theorem StrsV.below {w w' : World} {v : Value} {xs : List (List UInt8)} (h : StrsV w v xs) (hb : Below w.heap.size w w') : StrsV w' v xs := by
  obtain ⟨a, c, h1, h2, h⟩ := h
  refine ⟨a, c, h1, h2, fun h0 => ?_⟩
  obtain ⟨b, o, h3, h4, h5⟩ := h h0
  exact ⟨b, o, h3, Nat.lt_of_lt_of_le h4 hb.size, fun j x hx => (hb.cell h4).trans (h5 j x hx)⟩
def Kq (w : World) (c : Array Value) (v : Value) (xs : List (List UInt8)) (w' : World) : Prop := Kp w c w' ∧ StrsV w' v xs
theorem Kq.step {w w1 w2 : World} {c : Array Value} {v : Value} {xs : List (List UInt8)} (h : Kq w c v xs w1) (hb : Below w1.heap.size w1 w2) : Kq w c v xs w2 := ⟨h.1.step hb, h.2.below hb⟩
theorem Kq.five {w w1 : World} {a b c d e v : Value} {xs : List (List UInt8)} (h : Kq w #[a, b, c, d, e] v xs w1) : w1.cell? ⟨w.heap.size, 0, none⟩ = some a ∧ w1.cell? ⟨w.heap.size, 1, none⟩ = some b ∧ w1.cell? ⟨w.heap.size, 2, none⟩ = some c ∧ w1.cell? ⟨w.heap.size, 3, none⟩ = some d ∧ w1.cell? ⟨w.heap.size, 4, none⟩ = some e ∧ Kq w #[a, b, c, d, e] v xs w1 :=
  ⟨h.1.cell 0, h.1.cell 1, h.1.cell 2, h.1.cell 3, h.1.cell 4, h⟩
theorem rque_call {w : World} {cs : List Value} {m : QueD} (hp : Pow w) (h : QueE w cs m) : Calls Tryz.prog 44 #[.agg cs.toArray] w fun e w' => e = .returned (S m.w) ∧ Below w.heap.size w w' := by
  obtain ⟨rfl, h1, h2, h3, h4, h5⟩ := h
  exact queue m.name m.dead m.room m.limit w h1 h2 h3.1 h3.2 h4.1 h4.2 hp h5
set_option maxRecDepth 100000 in
theorem rhead_few (cl : Int) (mf wi id : Nat) (qv : Value) (qs : List QueD) (w : World) (hc : I64 cl) (hmf : mf < 4294967296) (hwi : wi < 4294967296) (hid : id < 4294967296) (hq : SliceV 4 QueE w qv qs) (hl : qs.length ≤ 8) (htab : Pow w) (hqf : Fits (Lib.join (qs.map QueD.w) [44])) (hlen : (headW cl mf wi id qs).length ≤ 140737488355328) :
    Calls Tryz.prog 14 #[.agg #[.int .i64 cl, .int .u32 mf, .int .u32 wi, .int .u32 id, qv]] w fun e w' => e = .returned (.tuple #[S (headW cl mf wi id qs), .int .i64 0]) ∧ Below w.heap.size w w' := by
  obtain ⟨a, c, rfl, hv⟩ := hq
  have k0 := Kp.init htab #[.int .i64 cl, .int .u32 mf, .int .u32 wi, .int .u32 id, .slice a qs.length c] 48
  obtain ⟨i0, hi, hz0, hz1, hz2⟩ := info_parts infoStr
  go_enter Tryz.func14, Tryz.ntmps14
  go_wp2_with fail
  go_loopw [4, 5] (fun v i wr => ∃ k : Nat, k ≤ qs.length ∧ i = .int .i64 k ∧ wr.ownsRow (w.heap.size + 1) 9 1 v k ((qs.take k).map fun x => S x.w) ∧ Kp w #[.int .i64 cl, .int .u32 mf, .int .u32 wi, .int .u32 id, .slice a qs.length c] wr)
    (fun _ i _ => qs.length - (intOf i).toNat)
  case atStart => exact ⟨0, Nat.zero_le _, rfl, World.ownsRow_nil _ _ _ _, k0⟩
  case round =>
    obtain ⟨k, hk, rfl, hown, hkp⟩ := hrel
    have h5 := hkp.five
    have hsz := hkp.2.2.2
    by_cases hlt : k < qs.length
    · obtain ⟨b, o, rfl, hbl, hel⟩ := hv (fun h => by subst h; cases hlt)
      obtain ⟨cs, hcl, hco, hcr, hev⟩ := hel k qs[k] (List.getElem?_eq_getElem hlt)
      have hcr' := rangeAt_below hcr hkp.below hbl
      have hm : ((qs.take (k + 1)).map fun x => S x.w) = ((qs.take k).map fun x => S x.w) ++ [S (QueD.w qs[k])] := by
        rw [List.take_succ_eq_append_getElem hlt, List.map_append]; rfl
      have hpw := hkp.pow
      have hevw : QueE wr cs qs[k] := hev
      go_wp2_with (first
        | (refine wpList_load_mid rfl 84 _ rfl b _ rfl cs _ hcr' Tryz.underlying84 rfl (by rw [hcl]; exact info84) ?_)
        | (go_at_call 44; refine (rque_call hpw hevw).mono ?_; rintro e w1 ⟨rfl, h1⟩; have hown1 := own_below hown h1; have hs1 := h1.size)
        | (at_builtin; refine wpList_append_own _ rfl _ _ 58 rfl (w.heap.size + 1) 9 i0 (.string { data := #[] }) 1 16 Tryz.underlying58 hi hz0 hz1 hz2 rfl (by decide) _ _ _ rfl (hown1.alloc _) ⟨w1.heap.size, 0, none⟩ 1 1 [S (QueD.w qs[k])] rfl rfl ?c1 ?c2 ?c3 ?c4 ?c5 ?_))
      case c1 =>
        intro j u hj
        match j, hj with
        | 0, hj => simp at hj; subst hj; simp [Addr.add]
      case c2 => intro u hu; simp at hu; subst hu; rfl
      case c3 => unfold maxLen; omega
      case c4 => omega
      case c5 => simp; omega
      intro v' w2 hown2 hgrow _
      have hb2 : Below (w.heap.size + 1) wr w2 := (h1.mono hsz).trans (((Below.refl (w.heap.size + 1) w1).alloc (by omega) _).grown hgrow (by simp; omega) (fun k hk => (hown1.lt k hk).1))
      have hkp2 := hkp.grow htab hb2
      go_wp2
      go_roundw
      case rel => exact ⟨k + 1, by omega, by go_num, by rw [hm, List.map_take]; exact hown2, hkp2⟩
      case measure => simp [intOf]; omega
    · have hke : k = qs.length := by omega
      subst hke
      rw [List.take_length] at hown
      have hsv : StrsV wr u4 (qs.map QueD.w) := strs_own (by rw [List.length_map, List.map_map]; exact hown)
      have kq : Kq w #[.int .i64 cl, .int .u32 mf, .int .u32 wi, .int .u32 id, .slice a qs.length c] u4 (qs.map QueD.w) wr.drew := Kq.step ⟨hkp, hsv⟩ (Below.refl _ _).drew
      clear hown hv
      have c0 := number cl hc.1 hc.2
      have c1 := numberN mf (by omega)
      have c2 := numberN wi (by omega)
      have c3 := numberN id (by omega)
      have d1 : ∀ W, StrsV W u4 (qs.map QueD.w) → Calls Tryz.prog 25 #[u4, .string { data := #[44] }, .string { data := #[110, 111, 110, 101] }] W fun e w' => e = .returned (S (togW (qs.map QueD.w) [44] [110, 111, 110, 101])) ∧ Below W.heap.size W w' :=
        fun W h => tog u4 (qs.map QueD.w) [44] [110, 111, 110, 101] (by simp; omega) W h hqf (by simp)
      have ht : togW [[110, 101, 116], Lib.itoa cl, Lib.decDigits mf, Lib.decDigits wi, Lib.decDigits id, togW (qs.map QueD.w) [44] [110, 111, 110, 101]] [32] [] = headW cl mf wi id qs := if_neg (by simp)
      have d2 : ∀ W : World, Calls Tryz.prog 25 #[.slice (some { block := W.heap.size, off := 0 }) 6 6, .string { data := #[32] }, .string { data := #[] }] (W.alloc (.cells #[.string { data := #[110, 101, 116] }, S (Lib.itoa cl), S (Lib.decDigits mf), S (Lib.decDigits wi), S (Lib.decDigits id), S (togW (qs.map QueD.w) [44] [110, 111, 110, 101])] 9)) fun e w' => e = .returned (S (headW cl mf wi id qs)) ∧ Below (W.alloc (.cells #[.string { data := #[110, 101, 116] }, S (Lib.itoa cl), S (Lib.decDigits mf), S (Lib.decDigits wi), S (Lib.decDigits id), S (togW (qs.map QueD.w) [44] [110, 111, 110, 101])] 9)).heap.size (W.alloc (.cells #[.string { data := #[110, 101, 116] }, S (Lib.itoa cl), S (Lib.decDigits mf), S (Lib.decDigits wi), S (Lib.decDigits id), S (togW (qs.map QueD.w) [44] [110, 111, 110, 101])] 9)) w' :=
        fun W => by
          have := tog _ [[110, 101, 116], Lib.itoa cl, Lib.decDigits mf, Lib.decDigits wi, Lib.decDigits id, togW (qs.map QueD.w) [44] [110, 111, 110, 101]] [32] [] (by simp) _ (strs_new W _ 9) (by exact hlen) (by simp)
          rw [ht] at this
          exact this
      have w1 : IntKind.i64.wrap (mf : Int) = mf := by rw [IntKind.wrap_i64]; omega
      have w2 : IntKind.i64.wrap (wi : Int) = wi := by rw [IntKind.wrap_i64]; omega
      have w3 : IntKind.i64.wrap (id : Int) = id := by rw [IntKind.wrap_i64]; omega
      go_wp2_with fail
      go_region_held3 (fun w' => w'.cell? ⟨w.heap.size, 0, none⟩ = some (.int .i64 cl) ∧ w'.cell? ⟨w.heap.size, 1, none⟩ = some (.int .u32 mf) ∧ w'.cell? ⟨w.heap.size, 2, none⟩ = some (.int .u32 wi) ∧ w'.cell? ⟨w.heap.size, 3, none⟩ = some (.int .u32 id) ∧ w'.cell? ⟨w.heap.size, 4, none⟩ = some (.slice a qs.length c) ∧ Kq w #[.int .i64 cl, .int .u32 mf, .int .u32 wi, .int .u32 id, .slice a qs.length c] u4 (qs.map QueD.w) w')
        (first
          | exact Kq.five kq
          | exact Kq.five (Kq.step (by assumption : _ ∧ _ ∧ _ ∧ _ ∧ _ ∧ Kq _ _ _ _ _).2.2.2.2.2 (by assumption))
          | exact Kq.five (Kq.step (by assumption : _ ∧ _ ∧ _ ∧ _ ∧ _ ∧ Kq _ _ _ _ _).2.2.2.2.2 ((Below.refl _ _).alloc (Nat.le_refl _) _)))
        (first
          | (go_at_call 45; (try simp only [w1, w2, w3]); with_reducible refine (c0 _).mono ?_; rintro e w' ⟨rfl, hb1⟩)
          | (go_at_call 45; (try simp only [w1, w2, w3]); with_reducible refine (c1 _).mono ?_; rintro e w' ⟨rfl, hb1⟩)
          | (go_at_call 45; (try simp only [w1, w2, w3]); with_reducible refine (c2 _).mono ?_; rintro e w' ⟨rfl, hb1⟩)
          | (go_at_call 45; (try simp only [w1, w2, w3]); with_reducible refine (c3 _).mono ?_; rintro e w' ⟨rfl, hb1⟩)
          | (go_at_call 25; have hh := And.right (by assumption : _ ∧ _ ∧ _ ∧ _ ∧ _ ∧ Kq _ _ _ _ _).2.2.2.2.2; with_reducible refine (d1 _ hh).mono ?_; rintro e w' ⟨rfl, hb1⟩)
          | (go_at_call 25; with_reducible refine (d2 _).mono ?_; rintro e w' ⟨rfl, hb1⟩))
      have hk := (by assumption : _ ∧ _ ∧ _ ∧ _ ∧ _ ∧ Kq _ _ _ _ _).2.2.2.2.2.1.below
      go_wp2
      go_ret2
      exact ⟨rfl, hk⟩
end Go.Proofs.YtaojoifpekoecaaGreatDoor

