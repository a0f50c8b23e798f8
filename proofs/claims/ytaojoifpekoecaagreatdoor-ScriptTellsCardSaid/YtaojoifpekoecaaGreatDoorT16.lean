/-
  The reference's Tell tells tellW. Conditions: as each theorem says.
-/
import Derived.Test.YtaojoifpekoecaaGreatDoorT15
namespace Go.Proofs.YtaojoifpekoecaaGreatDoor
open Go.RowKit Go.Shelf
set_option maxHeartbeats 400000
theorem rhead_many (cl : Int) (mf wi id : Nat) (qv : Value) (qs : List QueD) (w : World) (hq : SliceV 4 QueE w qv qs) (hl : 8 < qs.length) :
    Calls Tryz.prog 14 #[.agg #[.int .i64 cl, .int .u32 mf, .int .u32 wi, .int .u32 id, qv]] w fun e w' => e = .returned (.tuple #[S [], .int .i64 1]) ∧ Below w.heap.size w w' := by
  obtain ⟨a, c, rfl, _⟩ := hq
  go_enter Tryz.func14, Tryz.ntmps14
  go_wp2
  go_ret2
  exact ⟨rfl, (Below.refl _ _).alloc (Nat.le_refl _) _⟩
def Kr (w : World) (c : Array Value) (v : Value) (xs : List (List UInt8)) (u : Value) (ys : List (List UInt8)) (w' : World) : Prop := Kp w c w' ∧ StrsV w' v xs ∧ StrsV w' u ys
theorem Kr.step {w w1 w2 : World} {c : Array Value} {v u : Value} {xs ys : List (List UInt8)} (h : Kr w c v xs u ys w1) (hb : Below w1.heap.size w1 w2) : Kr w c v xs u ys w2 := ⟨h.1.step hb, h.2.1.below hb, h.2.2.below hb⟩
theorem Kr.seven {w w1 : World} {a b c d e f g v u : Value} {xs ys : List (List UInt8)} (h : Kr w #[a, b, c, d, e, f, g] v xs u ys w1) : w1.cell? ⟨w.heap.size, 0, none⟩ = some a ∧ w1.cell? ⟨w.heap.size, 1, none⟩ = some b ∧ w1.cell? ⟨w.heap.size, 2, none⟩ = some c ∧ w1.cell? ⟨w.heap.size, 3, none⟩ = some d ∧ w1.cell? ⟨w.heap.size, 4, none⟩ = some e ∧ w1.cell? ⟨w.heap.size, 5, none⟩ = some f ∧ w1.cell? ⟨w.heap.size, 6, none⟩ = some g ∧ Kr w #[a, b, c, d, e, f, g] v xs u ys w1 :=
  ⟨h.1.cell 0, h.1.cell 1, h.1.cell 2, h.1.cell 3, h.1.cell 4, h.1.cell 5, h.1.cell 6, h⟩
theorem rmsg_call {w : World} {cs : List Value} {m : MsgD} (hp : Pow w) (h : MsgE w cs m) : Calls Tryz.prog 52 #[.agg cs.toArray] w fun e w' => e = .returned (S m.w) ∧ Below w.heap.size w w' := by
  obtain ⟨bv, rfl, hb, h1, h2, h3, h4, h5, h6⟩ := h
  exact msg m.p m.t m.c m.id m.body bv w h1 h2 h3 h4 h5 hb hp h6
theorem rbec_call {w : World} {cs : List Value} {m : BecD} (hp : Pow w) (h : BecE w cs m) : Calls Tryz.prog 53 #[.agg cs.toArray] w fun e w' => e = .returned (S m.w) ∧ Below w.heap.size w w' := by
  obtain ⟨rfl, h1, h2, h3, h4, h5, h6, h7, h8, h9⟩ := h
  exact became m.who m.link m.tag m.k m.a m.b m.cond w h1.1 h1.2 h2 h3 h4 h5 h6 h7 h8 hp h9
set_option maxRecDepth 100000 in
theorem rtell (err a b : Int) (is : Bool) (text : List UInt8) (ms : List MsgD) (bs : List BecD) (mv bv : Value) (w : World) (he : I64 err) (ha : I64 a) (hb : I64 b) (htx : Short text) (hm : SliceV 5 MsgE w mv ms) (hbe : SliceV 7 BecE w bv bs) (hml : ms.length ≤ 1000) (hbl : bs.length ≤ 1000) (hmf : Fits (Lib.join (ms.map MsgD.w) [44])) (hbf : Fits (Lib.join (bs.map BecD.w) [44])) (htab : Pow w) (hlen : (tellW err a b is text ms bs).length ≤ 140737488355328) :
    Calls Tryz.prog 16 #[.agg #[.int .i64 err, .bool is, S text, .int .i64 a, .int .i64 b, mv, bv]] w fun e w' => e = .returned (S (tellW err a b is text ms bs)) ∧ Below w.heap.size w w' := by
  obtain ⟨ma, mc, rfl, hvm⟩ := hm
  obtain ⟨ba, bc, rfl, hvb⟩ := hbe
  have k0 := Kp.init htab #[.int .i64 err, .bool is, S text, .int .i64 a, .int .i64 b, .slice ma ms.length mc, .slice ba bs.length bc] 45
  obtain ⟨i0, hi, hz0, hz1, hz2⟩ := info_parts infoStr
  go_enter Tryz.func16, Tryz.ntmps16
  go_wp2_with fail
  go_loopw [3, 5] (fun v i wr => ∃ k : Nat, k ≤ ms.length ∧ i = .int .i64 k ∧ wr.ownsRow (w.heap.size + 1) 9 1 v k ((ms.take k).map fun x => S x.w) ∧ (True) ∧ Kp w #[.int .i64 err, .bool is, S text, .int .i64 a, .int .i64 b, .slice ma ms.length mc, .slice ba bs.length bc] wr)
    (fun _ i _ => ms.length - (intOf i).toNat)
  case atStart => exact ⟨0, Nat.zero_le _, rfl, World.ownsRow_nil _ _ _ _, True.intro, k0⟩
  case round =>
    obtain ⟨k, hk, rfl, hown, hkeep, hkp⟩ := hrel
    have h5 := hkp.seven
    have hsz := hkp.2.2.2
    by_cases hlt : k < ms.length
    · obtain ⟨bb, oo, rfl, hbl, hel⟩ := hvm (fun h => by subst h; cases hlt)
      obtain ⟨cs, hcl, hco, hcr, hev⟩ := hel k ms[k] (List.getElem?_eq_getElem hlt)
      have hcr' := rangeAt_below hcr hkp.below hbl
      have hm : ((ms.take (k + 1)).map fun x => S x.w) = ((ms.take k).map fun x => S x.w) ++ [S (MsgD.w ms[k])] := by
        rw [List.take_succ_eq_append_getElem hlt, List.map_append]; rfl
      have hpw := hkp.pow
      have hevw : MsgE wr cs ms[k] := MsgE.st hkp.below hev
      go_wp2_with (first
        | (refine wpList_load_mid rfl 25 _ rfl bb _ rfl cs _ hcr' Tryz.underlying25 rfl (by rw [hcl]; exact info25) ?_)
        | (go_at_call 52; refine (rmsg_call hpw hevw).mono ?_; rintro e w1 ⟨rfl, h1⟩; have hown1 := own_below hown h1; have hs1 := h1.size)
        | (at_builtin; refine wpList_append_own _ rfl _ _ 58 rfl (w.heap.size + 1) 9 i0 (.string { data := #[] }) 1 16 Tryz.underlying58 hi hz0 hz1 hz2 rfl (by decide) _ _ _ rfl (hown1.alloc _) ⟨w1.heap.size, 0, none⟩ 1 1 [S (MsgD.w ms[k])] rfl rfl ?c1 ?c2 ?c3 ?c4 ?c5 ?_))
      case c1 =>
        intro j u hj
        match j, hj with
        | 0, hj => simp at hj; subst hj; simp [Addr.add]
      case c2 => intro u hu; simp at hu; subst hu; rfl
      case c3 => unfold maxLen; omega
      case c4 => omega
      case c5 => simp; omega
      intro v' w2 hown2 hgrow _
      have hb2 : Below (w.heap.size + 1) wr w2 := (h1.mono hsz).trans (((Below.refl (w.heap.size + 1) w1).alloc (by omega) _).grown hgrow (by simp; omega) (fun k hk => (hown1.lt k hk).1))
      have hkp2 := hkp.grow htab (hb2.mono (by omega))
      go_wp2
      go_roundw
      case rel => exact ⟨k + 1, by omega, by go_num, by rw [hm, List.map_take]; exact hown2, True.intro, hkp2⟩
      case measure => simp [intOf]; omega
    · have hke : k = ms.length := by omega
      subst hke
      rw [List.take_length] at hown
      have hsv : StrsV wr u3 (ms.map MsgD.w) := strs_own (by rw [List.length_map, List.map_map]; exact hown)
      obtain ⟨B1, hB1⟩ : ∃ B, B = wr.heap.size := ⟨_, rfl⟩
      have hB2 : w.heap.size + 1 ≤ B1 := by omega
      have hkeep1 : B1 ≤ wr.heap.size ∧ ∀ w', Below B1 wr w' → StrsV w' u3 (ms.map MsgD.w) := ⟨by omega, fun w' h => hsv.below (by rw [← hB1]; exact h)⟩
      go_wp2_with fail
      clear hown h5 hlt k0 hvm hkeep hsv hB1 hsz
      go_loopw [4, 6] (fun v i wr => ∃ k : Nat, k ≤ bs.length ∧ i = .int .i64 k ∧ wr.ownsRow (B1) 9 1 v k ((bs.take k).map fun x => S x.w) ∧ (B1 ≤ wr.heap.size ∧ ∀ w', Below B1 wr w' → StrsV w' u3 (ms.map MsgD.w)) ∧ Kp w #[.int .i64 err, .bool is, S text, .int .i64 a, .int .i64 b, .slice ma ms.length mc, .slice ba bs.length bc] wr)
        (fun _ i _ => bs.length - (intOf i).toNat)
      case atStart => exact ⟨0, Nat.zero_le _, rfl, World.ownsRow_nil _ _ _ _, hkeep1, hkp⟩
      case round =>
        obtain ⟨k, hk, rfl, hown, hkeep, hkp⟩ := hrel
        have h5 := hkp.seven
        have hsz := hkeep.1
        by_cases hlt : k < bs.length
        · obtain ⟨bb, oo, rfl, hbl, hel⟩ := hvb (fun h => by subst h; cases hlt)
          obtain ⟨cs, hcl, hco, hcr, hev⟩ := hel k bs[k] (List.getElem?_eq_getElem hlt)
          have hcr' := rangeAt_below hcr hkp.below hbl
          have hm : ((bs.take (k + 1)).map fun x => S x.w) = ((bs.take k).map fun x => S x.w) ++ [S (BecD.w bs[k])] := by
            rw [List.take_succ_eq_append_getElem hlt, List.map_append]; rfl
          have hpw := hkp.pow
          have hevw : BecE wr cs bs[k] := BecE.st hkp.below hev
          go_wp2_with (first
            | (refine wpList_load_mid rfl 50 _ rfl bb _ rfl cs _ hcr' Tryz.underlying50 rfl (by rw [hcl]; exact info50) ?_)
            | (go_at_call 53; refine (rbec_call hpw hevw).mono ?_; rintro e w1 ⟨rfl, h1⟩; have hown1 := own_below hown h1; have hs1 := h1.size)
            | (at_builtin; refine wpList_append_own _ rfl _ _ 58 rfl (B1) 9 i0 (.string { data := #[] }) 1 16 Tryz.underlying58 hi hz0 hz1 hz2 rfl (by decide) _ _ _ rfl (hown1.alloc _) ⟨w1.heap.size, 0, none⟩ 1 1 [S (BecD.w bs[k])] rfl rfl ?c1 ?c2 ?c3 ?c4 ?c5 ?_))
          case c1 =>
            intro j u hj
            match j, hj with
            | 0, hj => simp at hj; subst hj; simp [Addr.add]
          case c2 => intro u hu; simp at hu; subst hu; rfl
          case c3 => unfold maxLen; omega
          case c4 => omega
          case c5 => simp; omega
          intro v' w2 hown2 hgrow _
          have hb2 : Below (B1) wr w2 := (h1.mono hsz).trans (((Below.refl (B1) w1).alloc (by omega) _).grown hgrow (by simp; omega) (fun k hk => (hown1.lt k hk).1))
          have hkp2 := hkp.grow htab (hb2.mono (by omega))
          go_wp2
          go_roundw
          case rel => exact ⟨k + 1, by omega, by go_num, by rw [hm, List.map_take]; exact hown2, ⟨Nat.le_trans hkeep.1 hb2.size, fun w3 h3 => hkeep.2 w3 (hb2.trans h3)⟩, hkp2⟩
          case measure => simp [intOf]; omega
        · have hke : k = bs.length := by omega
          subst hke
          rw [List.take_length] at hown
          have hsv : StrsV wr u4 (bs.map BecD.w) := strs_own (by rw [List.length_map, List.map_map]; exact hown)
          have kr : Kr w #[.int .i64 err, .bool is, S text, .int .i64 a, .int .i64 b, .slice ma ms.length mc, .slice ba bs.length bc] u3 (ms.map MsgD.w) u4 (bs.map BecD.w) wr.drew := Kr.step ⟨hkp, hkeep.2 wr (Below.refl _ _), hsv⟩ (Below.refl _ _).drew
          have c0 := number err he.1 he.2
          have c1 := number a ha.1 ha.2
          have c2 := number b hb.1 hb.2
          have c3 := yes is
          have c4 := fun W => str text W htx
          have d1 : ∀ W, StrsV W u3 (ms.map MsgD.w) → Calls Tryz.prog 25 #[u3, .string { data := #[44] }, .string { data := #[110, 111, 110, 101] }] W fun e w' => e = .returned (S (togW (ms.map MsgD.w) [44] [110, 111, 110, 101])) ∧ Below W.heap.size W w' :=
            fun W h => tog u3 (ms.map MsgD.w) [44] [110, 111, 110, 101] (by simp; omega) W h hmf (by simp)
          have d3 : ∀ W, StrsV W u4 (bs.map BecD.w) → Calls Tryz.prog 25 #[u4, .string { data := #[44] }, .string { data := #[110, 111, 110, 101] }] W fun e w' => e = .returned (S (togW (bs.map BecD.w) [44] [110, 111, 110, 101])) ∧ Below W.heap.size W w' :=
            fun W h => tog u4 (bs.map BecD.w) [44] [110, 111, 110, 101] (by simp; omega) W h hbf (by simp)
          have ht : togW [Lib.itoa err, ansW is, hexW text, Lib.itoa a, Lib.itoa b, togW (ms.map MsgD.w) [44] [110, 111, 110, 101], togW (bs.map BecD.w) [44] [110, 111, 110, 101]] [32] [] = tellW err a b is text ms bs := if_neg (by simp)
          have d2 : ∀ W : World, Calls Tryz.prog 25 #[.slice (some { block := W.heap.size, off := 0 }) 7 7, .string { data := #[32] }, .string { data := #[] }] (W.alloc (.cells #[S (Lib.itoa err), S (ansW is), S (hexW text), S (Lib.itoa a), S (Lib.itoa b), S (togW (ms.map MsgD.w) [44] [110, 111, 110, 101]), S (togW (bs.map BecD.w) [44] [110, 111, 110, 101])] 9)) fun e w' => e = .returned (S (tellW err a b is text ms bs)) ∧ Below (W.alloc (.cells #[S (Lib.itoa err), S (ansW is), S (hexW text), S (Lib.itoa a), S (Lib.itoa b), S (togW (ms.map MsgD.w) [44] [110, 111, 110, 101]), S (togW (bs.map BecD.w) [44] [110, 111, 110, 101])] 9)).heap.size (W.alloc (.cells #[S (Lib.itoa err), S (ansW is), S (hexW text), S (Lib.itoa a), S (Lib.itoa b), S (togW (ms.map MsgD.w) [44] [110, 111, 110, 101]), S (togW (bs.map BecD.w) [44] [110, 111, 110, 101])] 9)) w' :=
            fun W => by
              have := tog _ [Lib.itoa err, ansW is, hexW text, Lib.itoa a, Lib.itoa b, togW (ms.map MsgD.w) [44] [110, 111, 110, 101], togW (bs.map BecD.w) [44] [110, 111, 110, 101]] [32] [] (by simp) _ (strs_new W _ 9) (by exact hlen) (by simp)
              rw [ht] at this
              exact this
          go_wp2_with fail
          clear hown h5 hlt hkeep hvb hkeep1 hsv
          go_region_held3 (fun w' => w'.cell? ⟨w.heap.size, 0, none⟩ = some (.int .i64 err) ∧ w'.cell? ⟨w.heap.size, 1, none⟩ = some (.bool is) ∧ w'.cell? ⟨w.heap.size, 2, none⟩ = some (S text) ∧ w'.cell? ⟨w.heap.size, 3, none⟩ = some (.int .i64 a) ∧ w'.cell? ⟨w.heap.size, 4, none⟩ = some (.int .i64 b) ∧ w'.cell? ⟨w.heap.size, 5, none⟩ = some (.slice ma ms.length mc) ∧ w'.cell? ⟨w.heap.size, 6, none⟩ = some (.slice ba bs.length bc) ∧ Kr w #[.int .i64 err, .bool is, S text, .int .i64 a, .int .i64 b, .slice ma ms.length mc, .slice ba bs.length bc] u3 (ms.map MsgD.w) u4 (bs.map BecD.w) w')
            (first
              | exact Kr.seven kr
              | exact Kr.seven (Kr.step (by assumption : _ ∧ _ ∧ _ ∧ _ ∧ _ ∧ _ ∧ _ ∧ Kr _ _ _ _ _ _ _).2.2.2.2.2.2.2 (by assumption))
              | exact Kr.seven (Kr.step (by assumption : _ ∧ _ ∧ _ ∧ _ ∧ _ ∧ _ ∧ _ ∧ Kr _ _ _ _ _ _ _).2.2.2.2.2.2.2 ((Below.refl _ _).alloc (Nat.le_refl _) _)))
            (first
              | (go_at_call 45; with_reducible refine (c0 _).mono ?_; rintro e w' ⟨rfl, hb1⟩)
              | (go_at_call 45; with_reducible refine (c1 _).mono ?_; rintro e w' ⟨rfl, hb1⟩)
              | (go_at_call 45; with_reducible refine (c2 _).mono ?_; rintro e w' ⟨rfl, hb1⟩)
              | (go_at_call 54; with_reducible refine (c3 _).mono ?_; rintro e w' ⟨rfl, hb1⟩)
              | (go_at_call 55; with_reducible refine (c4 _).mono ?_; rintro e w' ⟨rfl, hb1⟩)
              | (go_at_call 25; have hh := And.left (And.right (by assumption : _ ∧ _ ∧ _ ∧ _ ∧ _ ∧ _ ∧ _ ∧ Kr _ _ _ _ _ _ _).2.2.2.2.2.2.2); with_reducible refine (d1 _ hh).mono ?_; rintro e w' ⟨rfl, hb1⟩)
              | (go_at_call 25; have hh := And.right (And.right (by assumption : _ ∧ _ ∧ _ ∧ _ ∧ _ ∧ _ ∧ _ ∧ Kr _ _ _ _ _ _ _).2.2.2.2.2.2.2); with_reducible refine (d3 _ hh).mono ?_; rintro e w' ⟨rfl, hb1⟩)
              | (go_at_call 25; with_reducible refine (d2 _).mono ?_; rintro e w' ⟨rfl, hb1⟩))
          have hk := (by assumption : _ ∧ _ ∧ _ ∧ _ ∧ _ ∧ _ ∧ _ ∧ Kr _ _ _ _ _ _ _).2.2.2.2.2.2.2.1.below
          go_wp2
          go_ret
          exact ⟨rfl, hk⟩
end Go.Proofs.YtaojoifpekoecaaGreatDoor

