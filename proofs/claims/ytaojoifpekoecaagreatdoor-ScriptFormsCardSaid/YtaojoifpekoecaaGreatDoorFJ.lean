/-
  The reader of words: numbers, bytes, texts, messages, outcomes. Conditions: as each theorem says.
-/
import Derived.Test.YtaojoifpekoecaaGreatDoorFC
import Derived.Test.YtaojoifpekoecaaGreatDoorFA
import Derived.Deep.RegionWith
namespace Go.Proofs.YtaojoifpekoecaaGreatDoor
open Go.RowKit Go.Shelf
set_option maxHeartbeats 4000000
set_option maxRecDepth 100000
/-- a reader at block b, its words in a block below B, has these words yet to read, and is not bad -/
def Rd (B b : Nat) (ws : List (List UInt8)) (W : World) : Prop :=
  ∃ g o c, W.heap[b]? = some (.cells #[.slice (some ⟨g, o, none⟩) ws.length c, .bool false] 71) ∧ ws.length ≤ c ∧ g ≠ b ∧ g < B ∧ (∀ (j : Nat) (x : List UInt8), ws[j]? = some x → W.cell? ⟨g, o + j, none⟩ = some (S x)) ∧ b < B ∧ B ≤ W.heap.size
theorem Rd.lt {B b : Nat} {ws : List (List UInt8)} {W : World} (h : Rd B b ws W) : b < W.heap.size := by
  obtain ⟨g, o, c, h, _⟩ := h
  exact lt_of h
theorem Rd.bB {B b : Nat} {ws : List (List UInt8)} {W : World} (h : Rd B b ws W) : b < B := by
  obtain ⟨g, o, c, _, _, _, _, _, h, _⟩ := h
  exact h
theorem Rd.BW {B b : Nat} {ws : List (List UInt8)} {W : World} (h : Rd B b ws W) : B ≤ W.heap.size := by
  obtain ⟨g, o, c, _, _, _, _, _, _, h⟩ := h
  exact h
theorem Rd.belowB {B B' b : Nat} {ws : List (List UInt8)} {W W' : World} (h : Rd B b ws W) (hb : Below B' W W') (hB : B ≤ B') : Rd B b ws W' := by
  obtain ⟨g, o, c, h1, h2, h4, h5, h6, h7, h8⟩ := h
  exact ⟨g, o, c, (hb.block _ (by omega)).trans h1, h2, h4, h5, fun j x hx => (hb.cell (show g < B' by omega)).trans (h6 j x hx), h7, Nat.le_trans h8 hb.size⟩
theorem Rd.below {B b : Nat} {ws : List (List UInt8)} {W W' : World} (h : Rd B b ws W) (hb : Below W.heap.size W W') : Rd B b ws W' := h.belowB hb h.BW
theorem Rd.cell1 {B b : Nat} {ws : List (List UInt8)} {W : World} (h : Rd B b ws W) : W.cell? ⟨b, 1, none⟩ = some (.bool false) := by
  obtain ⟨g, o, c, h, _⟩ := h
  exact cell_of h
theorem Rd.froz {B b : Nat} {ws : List (List UInt8)} {W : World} (h : Rd B b ws W) (j : Nat) : W.frozen? ⟨b, j, none⟩ = false := by
  obtain ⟨g, o, c, h, _⟩ := h
  exact frozen_of h
theorem Rd.bad {B b : Nat} {ws : List (List UInt8)} {W : World} (h : Rd B b ws W) : Rd B b ws (W.setCell ⟨b, 1, none⟩ (.bool false)) := by
  obtain ⟨g, o, c, h1, h2, h4, h5, h6, h7, h8⟩ := h
  refine ⟨g, o, c, heap_setCell_same W b 1 _ 71 _ h1, h2, h4, h5, fun j x hx => ?_, h7, by simpa using h8⟩
  exact (cell?_of_block (heap_setCell_other W ⟨b, 1, none⟩ g _ h4)).trans (h6 j x hx)
theorem But.then {b B : Nat} {w w1 w2 : World} (h : But b w w1) (k : Below B w1 w2) (hB : w.heap.size ≤ B) : But b w w2 :=
  ⟨k.os.trans h.os, k.tape.trans h.tape, k.output.trans h.output, Nat.le_trans h.size k.size, fun j hj hne => (k.block j (by omega)).trans (h.block j hj hne)⟩
/-- word -/
theorem rword {B : Nat} (b : Nat) (x : List UInt8) (ws : List (List UInt8)) (w : World) (h : Rd B b (x :: ws) w) :
    Calls Tryz.prog 29 #[.pointer (some ⟨b, 0, none⟩)] w fun r w' => r = .returned (S x) ∧ Rd B b ws w' ∧ But b w w' := by
  obtain ⟨g, o, c, h1, h2, h4, h5, h6, h7, h8⟩ := h
  have a0 : w.cell? ⟨b, 0, none⟩ = some (.slice (some ⟨g, o, none⟩) (ws.length + 1) c) := cell_of h1
  have z0 : w.frozen? ⟨b, 0, none⟩ = false := frozen_of h1
  have x0 : w.cell? ⟨g, o, none⟩ = some (S x) := h6 0 x rfl
  have hl : ws.length + 1 ≤ c := h2
  generalize hQ : (fun (r : Ending) (w' : World) => r = .returned (S x) ∧ Rd B b ws w' ∧ But b w w') = Q
  go_enter Tryz.func29, Tryz.ntmps29
  go_wp2_with fail
  all_goals subst hQ
  · rename_i hc
    refine ⟨rfl, ⟨g, o, 0, heap_setCell_same w b 0 _ 71 _ h1, by omega, h4, h5, fun j y hj => ?_, h7, by simpa using h8⟩, But.setCell b 0 w _⟩
    have : ws = [] := List.length_eq_zero_iff.1 (by omega)
    subst this
    simp at hj
  · refine ⟨rfl, ⟨g, o + 1, c - 1, heap_setCell_same w b 0 _ 71 _ h1, by omega, h4, h5, fun j y hj => ?_, h7, by simpa using h8⟩, But.setCell b 0 w _⟩
    refine (cell?_of_block (heap_setCell_other w ⟨b, 0, none⟩ g _ h4)).trans ?_
    rw [show o + 1 + j = o + (j + 1) by omega]
    exact h6 (j + 1) y (by simpa using hj)
theorem bw_below {w w' : World} {t : ByteArray} (h : w' = w ∨ w' = Lib.bytesWorld w 5 t) : Below w.heap.size w w' := by
  rcases h with rfl | rfl
  · exact Below.refl _ _
  · exact Lib.bytesWorld_below _ _ _
/-- integer -/
theorem rint {B : Nat} (b : Nat) (n : Int) (ws : List (List UInt8)) (w : World) (hn : I64 n) (h : Rd B b (Lib.itoa n :: ws) w) :
    Calls Tryz.prog 31 #[.pointer (some ⟨b, 0, none⟩)] w fun r w' => r = .returned (.int .i64 n) ∧ Rd B b ws w' ∧ But b w w' := by
  have hl := itoa_len n hn
  have c1 := rword b _ ws w h
  have c2 := fun W => Tryz.strconv_Atoi_ok ⟨(Lib.itoa n).toArray⟩ (by show (Lib.itoa n).toArray.size ≤ _; simp; omega) n (atoi_itoa n hn) W
  generalize hQ : (fun (r : Ending) (w' : World) => r = .returned (.int .i64 n) ∧ Rd B b ws w' ∧ But b w w') = Q
  go_enter Tryz.func31, Tryz.ntmps31
  go_wp2_with (first
    | (go_at_call 29; with_reducible refine c1.mono ?_; rintro r w1 ⟨rfl, hr1, hb1⟩)
    | (go_at_call 69; refine (c2 _).mono ?_; rintro r w2 ⟨rfl, hw2⟩; have hb2 : Below w1.heap.size w1 w2 := (by rcases hw2 with rfl | ⟨t, rfl⟩; exact Below.refl _ _; exact Lib.bytesWorld_below _ _ _); have hr2 := hr1.below hb2; have a1 := hr2.cell1; have z1 := hr2.froz 1))
  subst hQ
  exact ⟨rfl, hr2.bad, (hb1.trans (But.of_below hb2)).trans (But.setCell b 1 _ _)⟩
/-- yes -/
theorem ryes {B : Nat} (b : Nat) (f : Bool) (ws : List (List UInt8)) (w : World) (h : Rd B b (ansW f :: ws) w) :
    Calls Tryz.prog 33 #[.pointer (some ⟨b, 0, none⟩)] w fun r w' => r = .returned (.bool f) ∧ Rd B b ws w' ∧ But b w w' := by
  have c1 := rword b _ ws w h
  generalize hQ : (fun (r : Ending) (w' : World) => r = .returned (.bool f) ∧ Rd B b ws w' ∧ But b w w') = Q
  have hf : (ansW f == [121, 101, 115]) = f := by cases f <;> decide
  go_enter Tryz.func33, Tryz.ntmps33
  go_wp2_with (first
    | (go_at_call 29; with_reducible refine c1.mono ?_; rintro r w1 ⟨rfl, hr1, hb1⟩))
  subst hQ
  exact ⟨rfl, hr1, hb1⟩
theorem rnat8 {B : Nat} (b u : Nat) (ws : List (List UInt8)) (w : World) (hu : u < 2 ^ 8) (h : Rd B b (Lib.decDigits u :: ws) w) :
    Calls Tryz.prog 34 #[.pointer (some ⟨b, 0, none⟩), .int .i64 8] w fun r w' => r = .returned (.int .u64 u) ∧ Rd B b ws w' ∧ But b w w' := by
  have hl := short_dec u (Nat.lt_of_lt_of_le hu (by decide))
  have c1 := rword b _ ws w h
  have c2 := fun W => Tryz.strconv_ParseUint_10_at8_ok ⟨(Lib.decDigits u).toArray⟩ (by show (Lib.decDigits u).toArray.size ≤ _; simp; omega) u (parseB_dec 8 u (by decide) hu) W
  generalize hQ : (fun (r : Ending) (w' : World) => r = .returned (.int .u64 u) ∧ Rd B b ws w' ∧ But b w w') = Q
  go_enter Tryz.func34, Tryz.ntmps34
  go_wp2_with (first
    | (go_at_call 29; with_reducible refine c1.mono ?_; rintro r w1 ⟨rfl, hr1, hb1⟩)
    | (go_at_call 71; refine (c2 _).mono ?_; rintro r w2 ⟨rfl, hw2⟩; have hb2 : Below w1.heap.size w1 w2 := bw_below hw2; have hr2 := hr1.below hb2; have a1 := hr2.cell1; have z1 := hr2.froz 1))
  subst hQ
  exact ⟨rfl, hr2.bad, (hb1.trans (But.of_below hb2)).trans (But.setCell b 1 _ _)⟩
theorem rnat32 {B : Nat} (b u : Nat) (ws : List (List UInt8)) (w : World) (hu : u < 2 ^ 32) (h : Rd B b (Lib.decDigits u :: ws) w) :
    Calls Tryz.prog 34 #[.pointer (some ⟨b, 0, none⟩), .int .i64 32] w fun r w' => r = .returned (.int .u64 u) ∧ Rd B b ws w' ∧ But b w w' := by
  have hl := short_dec u (Nat.lt_of_lt_of_le hu (by decide))
  have c1 := rword b _ ws w h
  have c2 := fun W => Tryz.strconv_ParseUint_10_at32_ok ⟨(Lib.decDigits u).toArray⟩ (by show (Lib.decDigits u).toArray.size ≤ _; simp; omega) u (parseB_dec 32 u (by decide) hu) W
  generalize hQ : (fun (r : Ending) (w' : World) => r = .returned (.int .u64 u) ∧ Rd B b ws w' ∧ But b w w') = Q
  go_enter Tryz.func34, Tryz.ntmps34
  go_wp2_with (first
    | (go_at_call 29; with_reducible refine c1.mono ?_; rintro r w1 ⟨rfl, hr1, hb1⟩)
    | (go_at_call 71; refine (c2 _).mono ?_; rintro r w2 ⟨rfl, hw2⟩; have hb2 : Below w1.heap.size w1 w2 := bw_below hw2; have hr2 := hr1.below hb2; have a1 := hr2.cell1; have z1 := hr2.froz 1))
  subst hQ
  exact ⟨rfl, hr2.bad, (hb1.trans (But.of_below hb2)).trans (But.setCell b 1 _ _)⟩
theorem rnat64 {B : Nat} (b u : Nat) (ws : List (List UInt8)) (w : World) (hu : u < 2 ^ 64) (h : Rd B b (Lib.decDigits u :: ws) w) :
    Calls Tryz.prog 34 #[.pointer (some ⟨b, 0, none⟩), .int .i64 64] w fun r w' => r = .returned (.int .u64 u) ∧ Rd B b ws w' ∧ But b w w' := by
  have hl := short_dec u (Nat.lt_of_lt_of_le hu (by decide))
  have c1 := rword b _ ws w h
  have c2 := fun W => Tryz.strconv_ParseUint_10_at64_ok ⟨(Lib.decDigits u).toArray⟩ (by show (Lib.decDigits u).toArray.size ≤ _; simp; omega) u (parseB_dec 64 u (by decide) hu) W
  generalize hQ : (fun (r : Ending) (w' : World) => r = .returned (.int .u64 u) ∧ Rd B b ws w' ∧ But b w w') = Q
  go_enter Tryz.func34, Tryz.ntmps34
  go_wp2_with (first
    | (go_at_call 29; with_reducible refine c1.mono ?_; rintro r w1 ⟨rfl, hr1, hb1⟩)
    | (go_at_call 71; refine (c2 _).mono ?_; rintro r w2 ⟨rfl, hw2⟩; have hb2 : Below w1.heap.size w1 w2 := bw_below hw2; have hr2 := hr1.below hb2; have a1 := hr2.cell1; have z1 := hr2.froz 1))
  subst hQ
  exact ⟨rfl, hr2.bad, (hb1.trans (But.of_below hb2)).trans (But.setCell b 1 _ _)⟩
end Go.Proofs.YtaojoifpekoecaaGreatDoor


namespace Go.Proofs.YtaojoifpekoecaaGreatDoor
open Go.RowKit Go.Shelf
set_option maxHeartbeats 4000000
set_option maxRecDepth 100000
theorem u8_back (y : UInt8) : ((y.toNat : Int)).toNat.toUInt8 = y := by simp
theorem ix_hexd (n : Nat) (h : n < 16) : Lib.indexByte signs.data.toList (hexd n) = (n : Int) := hexd_ix ⟨n, h⟩
theorem at_of (s : ByteArray) (n m : Nat) (hn : n < s.size) (h : n = m) (y : UInt8) (hy : s.data.toList[m]? = some y) : s[n] = y := by
  subst h
  rw [ba_at s n hn] at hy
  exact Option.some.inj hy
theorem rix (n : Nat) (h : n < 16) (w : World) : Calls Tryz.prog 99 #[.string signs, .int .u8 ((hexd n).toNat : Int)] w fun e w' => e = .returned (.int .i64 (n : Int)) ∧ w' = w := by
  have := Tryz.strings_IndexByte signs ((hexd n).toNat : Int) w
  rw [u8_back, ix_hexd n h] at this
  exact this
theorem bits_back : ∀ y : Fin 256, bits .and .i64 ((y.val : Int) % 16) 15 = (y.val : Int) % 16 ∧ bits .or .i64 ((y.val : Int) / 16 * 16) ((y.val : Int) % 16) = (y.val : Int) := by decide +kernel
theorem Rd.same {B B' b : Nat} {ws : List (List UInt8)} {W : World} (h : Rd B' b ws W) : Below B W (W.setCell ⟨b, 1, none⟩ (.bool false)) := by
  obtain ⟨g, o, c, h1, _⟩ := h
  refine ⟨rfl, rfl, rfl, by simp, fun j _ => ?_⟩
  by_cases hj : j = b
  · subst hj
    rw [heap_setCell_same W j 1 _ 71 _ h1, h1]
    rfl
  · exact heap_setCell_other W ⟨b, 1, none⟩ j _ hj
/-- bytes, at a word that is not the sign of nothing -/
theorem rbytes1 {B : Nat} (b : Nat) (s : ByteArray) (l : List UInt8) (ws : List (List UInt8)) (w : World) (_h0 : l ≠ []) (hs : s.data.toList = hexL l) (hlim : l.length ≤ 100000000) (h : Rd B b (s.data.toList :: ws) w) :
    Calls Tryz.prog 70 #[.pointer (some ⟨b, 0, none⟩)] w fun r w' => (∃ v, r = .returned v ∧ BytesF w.heap.size w' v l) ∧ Rd B b ws w' ∧ But b w w' := by
  obtain ⟨i0, hi, hz0, hz1, hz2⟩ := info_parts infoByte
  have hsz : s.size = 2 * l.length := by
    have := congrArg List.length hs
    rw [hexL_length] at this
    simpa using this
  have c1 : Calls Tryz.prog 29 #[.pointer (some ⟨b, 0, none⟩)] w fun r w' => r = .returned (.string s) ∧ Rd B b ws w' ∧ But b w w' := rword b _ ws w h
  have hlt := h.lt
  have hne : (s.data.toList == [45]) = false := beq_eq_false_iff_ne.2 fun e => by
    have := congrArg List.length e
    rw [hs, hexL_length] at this
    simp at this
    omega
  have hne2 : (s.toList == [45]) = false := by rw [ByteArray.toList_eq]; exact hne
  generalize hQ : (fun (r : Ending) (w' : World) => (∃ v, r = .returned v ∧ BytesF w.heap.size w' v l) ∧ Rd B b ws w' ∧ But b w w') = Q
  go_enter Tryz.func70, Tryz.ntmps70
  go_wp2_with (first
    | (go_at_call 29; with_reducible refine c1.mono ?_; rintro r w1 ⟨rfl, hr1, hb1⟩))
  go_loopw [2, 4] (fun v i wr => ∃ k : Nat, k ≤ l.length ∧ i = .int .i64 ((2 * k : Nat) : Int) ∧ wr.ownsRow w1.heap.size 5 1 v k ((Lib.byteCells l).take k) ∧ Below w1.heap.size w1 wr)
    (fun _ i _ => 2 * l.length - (intOf i).toNat)
  case atStart => exact ⟨0, Nat.zero_le _, rfl, World.ownsRow_nil _ _ _ _, Below.refl _ _⟩
  case round =>
    obtain ⟨k, hk, rfl, hown, hbu⟩ := hrel
    have hr : Rd B b ws wr := hr1.below hbu
    by_cases hkl : k < l.length
    · have hk1 : ((2 * k : Nat) : Int) + 1 < (s.size : Int) := by omega
      have b0 : 2 * k < s.size := by omega
      have b1 : 2 * k + 1 < s.size := by omega
      have g0 : (0 : Int) ≤ 2 * (k : Int) := by omega
      have g1 : 2 * (k : Int) < 2 * (l.length : Int) := by omega
      have g2 : (0 : Int) ≤ 2 * (k : Int) + 1 := by omega
      have g3 : 2 * (k : Int) + 1 < 2 * (l.length : Int) := by omega
      have gw : IntKind.i64.wrap (2 * (k : Int) + 1) = 2 * (k : Int) + 1 := by rw [IntKind.wrap_i64]; omega
      obtain ⟨x, hx⟩ : ∃ x : UInt8, l[k]? = some x := ⟨_, List.getElem?_eq_getElem hkl⟩
      have hx256 := x.toNat_lt
      have hat := hexL_at l k x hx
      have e0 : s[(2 * (k : Int)).toNat]'(by omega) = hexd (x.toNat / 16) := at_of s _ (2 * k) _ (by omega) _ (by rw [hs]; exact hat.1)
      have e1 : s[(2 * (k : Int) + 1).toNat]'(by omega) = hexd (x.toNat % 16) := at_of s _ (2 * k + 1) _ (by omega) _ (by rw [hs]; exact hat.2)
      go_upto_region 7 with fail
      have i0' := rix (x.toNat / 16) (by omega)
      have i1' := rix (x.toNat % 16) (by omega)
      refine wp_region_noPanic ?_
      refine wp_region_held_drew (S := fun _ => True) (by kernel_rfl) trivial (fun hHeld => ?_)
      refine takeD (i := 0) (oi := _) (v := _) 18 rfl rfl (by kernel_rfl) (by kernel_rfl) (by kernel_rfl) (fun _ _ _ h => h) (Or.inl ⟨by rfl, fun _ _ => rfl⟩) hHeld ?_
      simp only [Act.put, List.setIfInBounds_toArray, List.set_cons_zero, List.set_cons_succ]
      refine takeD (i := 1) (oi := _) (v := _) 19 rfl rfl (by kernel_rfl) (by kernel_rfl) (by kernel_rfl) (fun _ _ _ h => h) (Or.inl ⟨by rfl, fun _ _ => rfl⟩) hHeld ?_
      simp only [Act.put, List.setIfInBounds_toArray, List.set_cons_zero, List.set_cons_succ]
      refine takeD (i := 4) (oi := _) (v := _) 22 rfl rfl (by kernel_rfl) (by kernel_rfl) (by kernel_rfl) (fun _ _ _ h => h) (Or.inl ⟨by rfl, fun _ _ => rfl⟩) hHeld ?_
      simp only [Act.put, List.setIfInBounds_toArray, List.set_cons_zero, List.set_cons_succ]
      refine takeD (i := 5) (oi := _) (v := _) 23 rfl rfl (by kernel_rfl) (by kernel_rfl) (by kernel_rfl) (fun _ _ _ h => h) (Or.inl ⟨by rfl, fun _ _ => rfl⟩) hHeld ?_
      simp only [Act.put, List.setIfInBounds_toArray, List.set_cons_zero, List.set_cons_succ]
      refine takeD (i := 6) (oi := _) (v := .int .i64 (2 * (k : Int) + 1)) 24 rfl rfl (by kernel_rfl) (by kernel_rfl) (by kernel_rfl) (fun _ _ _ h => h) (Or.inl ⟨by rfl, ?_⟩) hHeld ?_
      · intro W hS
        go_simp
      simp only [Act.put, List.setIfInBounds_toArray, List.set_cons_zero, List.set_cons_succ]
      refine takeD (i := 2) (oi := _) (v := .int .u8 ((hexd (x.toNat / 16)).toNat : Int)) 20 rfl rfl (by kernel_rfl) (by kernel_rfl) (by kernel_rfl) (fun _ _ _ h => h) (Or.inl ⟨by rfl, ?_⟩) hHeld ?_
      · intro W hS
        go_simp
      simp only [Act.put, List.setIfInBounds_toArray, List.set_cons_zero, List.set_cons_succ]
      refine takeD (i := 7) (oi := _) (v := .int .u8 ((hexd (x.toNat % 16)).toNat : Int)) 25 rfl rfl (by kernel_rfl) (by kernel_rfl) (by kernel_rfl) (fun _ _ _ h => h) (Or.inl ⟨by rfl, ?_⟩) hHeld ?_
      · intro W hS
        go_simp
      simp only [Act.put, List.setIfInBounds_toArray, List.set_cons_zero, List.set_cons_succ]
      refine wpAnyH_ready (rs := [3]) (by kernel_rfl) (by simp) ?_
      refine AllReadyH.cons (o := _) rfl (fun K hK => ?_) AllReadyH.nil
      go_simp
      go_at_call 99
      with_reducible refine (i0' _).mono ?_
      rintro r w' ⟨rfl, rfl⟩
      go_wp2_with fail
      refine hK.out _ _ trivial (fun hHeld => ?_)
      clear hK K
      try simp only [Act.put]
      try simp only [List.getElem_toArray]
      try simp only [List.getElem_cons_succ]
      try simp only [List.getElem_cons_zero]
      try simp only [List.setIfInBounds_toArray]
      try simp only [List.set_cons_succ]
      try simp only [List.set_cons_zero]
      refine wpAnyH_ready (rs := [8]) (by kernel_rfl) (by simp) ?_
      refine AllReadyH.cons (o := _) rfl (fun K hK => ?_) AllReadyH.nil
      go_simp
      go_at_call 99
      with_reducible refine (i1' _).mono ?_
      rintro r w' ⟨rfl, rfl⟩
      go_wp2_with fail
      refine hK.out _ _ trivial (fun hHeld => ?_)
      clear hK K
      try simp only [Act.put]
      try simp only [List.getElem_toArray]
      try simp only [List.getElem_cons_succ]
      try simp only [List.getElem_cons_zero]
      try simp only [List.setIfInBounds_toArray]
      try simp only [List.set_cons_succ]
      try simp only [List.set_cons_zero]
      refine takeD (i := 9) (oi := _) (v := .int .i64 ((x.toNat / 16 : Nat) : Int)) 5 rfl rfl (by kernel_rfl) (by kernel_rfl) (by kernel_rfl) (fun _ _ _ h => h) (Or.inl ⟨by rfl, fun _ _ => rfl⟩) hHeld ?_
      simp only [Act.put, List.setIfInBounds_toArray, List.set_cons_zero, List.set_cons_succ]
      refine takeD (i := 10) (oi := _) (v := .int .i64 ((x.toNat % 16 : Nat) : Int)) 6 rfl rfl (by kernel_rfl) (by kernel_rfl) (by kernel_rfl) (fun _ _ _ h => h) (Or.inl ⟨by rfl, fun _ _ => rfl⟩) hHeld ?_
      simp only [Act.put, List.setIfInBounds_toArray, List.set_cons_zero, List.set_cons_succ]
      refine wpAnyH_done (by kernel_rfl) ?_ _
      refine NoPanic.normal ?_
      have a1 := hr.cell1
      have z1 := hr.froz 1
      have d0 : ¬ (x.toNat : Int) / 16 < 0 := by omega
      have d1 : ¬ (x.toNat : Int) % 16 < 0 := by omega
      obtain ⟨m0, m1⟩ := bits_back ⟨x.toNat, hx256⟩
      simp only at m0 m1
      have m2 : (x.toNat : Int) % 256 = x.toNat := by omega
      have hbb : Below w1.heap.size w1 (wr.setCell ⟨b, 1, none⟩ (.bool false)) := hbu.trans hr.same
      have hbu' := hbb.size
      have hsv : (wr.setCell ⟨b, 1, none⟩ (.bool false)).heap.size = wr.heap.size := by simp
      have hownV : (wr.setCell ⟨b, 1, none⟩ (.bool false)).ownsRow w1.heap.size 5 1 u2 k ((Lib.byteCells l).take k) := own_step hown fun g hg hg2 => (hr.same (B := wr.heap.size)).block g hg2
      have hstep := byteCells_take_succ l k x hx
      go_wp2_with (first
        | (at_builtin; refine wpList_append_own _ rfl _ _ 23 rfl w1.heap.size 5 i0 (.int .u8 0) 1 1 Tryz.underlying23 hi hz0 hz1 hz2 rfl (by decide) _ _ _ rfl (hownV.alloc _) ⟨wr.heap.size, 0, none⟩ 1 1 [.int .u8 (x.toNat : Int)] rfl rfl ?c1 ?c2 ?c3 ?c4 ?c5 ?_))
      case c2 => first | rfl | (intro u hu; simp at hu; subst hu; rfl)
      case c3 => unfold maxLen; omega
      case c4 => omega
      case c5 => first | omega | (simp; omega)
      intro v' w2 hown2 hgrow _
      rw [← hstep] at hown2
      have hb2 : Below w1.heap.size w1 w2 := hbb.trans (((Below.refl w1.heap.size _).alloc (by omega) _).drew.grown hgrow (by simp; omega) (fun g hg => (hownV.lt g hg).1))
      go_wp2
      go_roundw
      case rel => exact ⟨k + 1, by omega, by go_num, hown2, hb2⟩
      case measure => simp [intOf]; omega
    · have hke : k = l.length := by omega
      subst hke
      rw [show (Lib.byteCells l).take l.length = Lib.byteCells l by rw [← byteCells_length l, List.take_length]] at hown
      have hnk : ¬ 2 * (l.length : Int) + 1 < 2 * (l.length : Int) := by omega
      have hbf : BytesF w1.heap.size wr u2 l := bytes_own hown
      go_wp2
      subst hQ
      exact ⟨⟨_, rfl, hbf.mono hb1.size⟩, hr, hb1.trans (But.of_below hbu)⟩
/-- bytes -/
theorem rbytes {B : Nat} (b : Nat) (l : List UInt8) (ws : List (List UInt8)) (w : World) (hlim : l.length ≤ 100000000) (h : Rd B b (hexW l :: ws) w) :
    Calls Tryz.prog 70 #[.pointer (some ⟨b, 0, none⟩)] w fun r w' => (∃ v, r = .returned v ∧ BytesF w.heap.size w' v l) ∧ Rd B b ws w' ∧ But b w w' := by
  by_cases h0 : l = []
  · subst h0
    have c1 := rword b _ ws w h
    generalize hQ : (fun (r : Ending) (w' : World) => (∃ v, r = .returned v ∧ BytesF w.heap.size w' v []) ∧ Rd B b ws w' ∧ But b w w') = Q
    go_enter Tryz.func70, Tryz.ntmps70
    go_wp2_with (first
      | (go_at_call 29; with_reducible refine c1.mono ?_; rintro r w1 ⟨rfl, hr1, hb1⟩; simp only [hexW, if_true, S]))
    subst hQ
    exact ⟨⟨_, rfl, ⟨none, 0, rfl, fun h => absurd rfl h⟩⟩, hr1, hb1⟩
  · have e : hexW l = hexL l := if_neg h0
    rw [e] at h
    exact rbytes1 b ⟨(hexL l).toArray⟩ l ws w h0 rfl hlim h
/-- text -/
theorem rtext {B : Nat} (b : Nat) (l : List UInt8) (ws : List (List UInt8)) (w : World) (hlim : l.length ≤ 100000000) (h : Rd B b (hexW l :: ws) w) :
    Calls Tryz.prog 32 #[.pointer (some ⟨b, 0, none⟩)] w fun r w' => r = .returned (S l) ∧ Rd B b ws w' ∧ But b w w' := by
  have c1 := rbytes b l ws w hlim h
  generalize hQ : (fun (r : Ending) (w' : World) => r = .returned (S l) ∧ Rd B b ws w' ∧ But b w w') = Q
  go_enter Tryz.func32, Tryz.ntmps32
  go_wp2_with (first
    | (go_at_call 70; with_reducible refine c1.mono ?_; rintro r w1 ⟨⟨v, rfl, hv⟩, hr1, hb1⟩; have hcv := conv_str v l w1 hv.v))
  subst hQ
  exact ⟨rfl, hr1, hb1⟩
end Go.Proofs.YtaojoifpekoecaaGreatDoor


namespace Go.Proofs.YtaojoifpekoecaaGreatDoor
open Go.RowKit Go.Shelf
set_option maxHeartbeats 4000000
set_option maxRecDepth 100000
/-- the library's open variable holds some int -/
def Mx (w : World) : Prop := ∃ m, w.cell? ⟨0, 0, none⟩ = some (.int .i64 m)
theorem mx_lt {w : World} (h : Mx w) : 0 < w.heap.size := by
  obtain ⟨m, h⟩ := h
  exact Lib.lt_of_cell h
theorem Mx.below {B : Nat} {w w' : World} (h : Mx w) (hb : Below B w w') (hB : w.heap.size ≤ B) : Mx w' := by
  have h0 := mx_lt h
  obtain ⟨m, h⟩ := h
  exact ⟨m, (hb.cell (show 0 < B by omega)).trans h⟩
theorem Mx.but {b : Nat} {w w' : World} (h : Mx w) (hb : But b w w') (h0 : b ≠ 0) : Mx w' := by
  have h1 := mx_lt h
  obtain ⟨m, h⟩ := h
  exact ⟨m, (cell?_of_block (hb.block 0 h1 (fun e => h0 e.symm))).trans h⟩
theorem strs_of : ∀ (l : List ByteArray) (ps : List (List UInt8)), l.map (·.data.toList) = ps → l.map Value.string = ps.map S
  | [], ps, h => by subst h; rfl
  | b :: l, ps, h => by
    subst h
    have := strs_of l _ rfl
    simp only [List.map_cons] at this ⊢
    rw [this]
/-- Split of what was joined -/
theorem split_ok (c : UInt8) (ps : List (List UInt8)) (hne : ps ≠ []) (hno : ∀ x ∈ ps, c ∉ x) (hsz : (Lib.join ps [c]).length < 4294967281) (w : World) (hm : Mx w) :
    Calls Tryz.prog 27 #[S (Lib.join ps [c]), .string { data := #[c] }] w fun e w' => e = .returned (.slice (some ⟨w.heap.size, 0, none⟩) ps.length ps.length) ∧ w' = w.alloc (.cells (ps.map S).toArray 9) := by
  obtain ⟨m, hm⟩ := hm
  have h1 := Tryz.strings_Split ⟨(Lib.join ps [c]).toArray⟩ { data := #[c] } m w (by show (Lib.join ps [c]).toArray.size < _; simpa using hsz) hm (Nat.le_refl 1)
  have hd : (Lib.splitB { data := #[c] } 0 (Lib.countB ⟨(Lib.join ps [c]).toArray⟩ { data := #[c] }) ⟨(Lib.join ps [c]).toArray⟩).map (·.data.toList) = ps := by
    rw [Lib.splitB_data]
    exact split_join c ps hne hno
  have hl := Lib.splitB_all { data := #[c] } (Nat.le_refl 1) 0 _ ⟨(Lib.join ps [c]).toArray⟩ rfl
  have hl2 := congrArg List.length hd
  rw [List.length_map, hl] at hl2
  refine h1.mono ?_
  rintro e w' ⟨rfl, rfl⟩
  rw [strs_of _ ps hd, hl2]
  exact ⟨rfl, rfl⟩
/-- a new reader -/
theorem rd_new (ps : List (List UInt8)) (w : World) (f : Value) (hf : f = .bool false) : Rd (w.heap.size + 2) (w.heap.size + 1) ps ((w.alloc (.cells (ps.map S).toArray 9)).alloc (.cells #[.slice (some ⟨w.heap.size, 0, none⟩) ps.length ps.length, f] 71)) := by
  subst hf
  refine ⟨w.heap.size, 0, ps.length, heap_alloc2_new w _ _, Nat.le_refl _, by omega, by omega, fun j x hx => ?_, by omega, by simp⟩
  rw [cell_of (heap_alloc2_old w _ _)]
  simp [hx]
/-- within -/
theorem rwithin {B : Nat} (b : Nat) (ps ws : List (List UInt8)) (w : World) (hm : Mx w) (h0 : b ≠ 0) (hne : ps ≠ []) (hno : ∀ x ∈ ps, (46 : UInt8) ∉ x) (hsz : (Lib.join ps [46]).length < 4294967281) (h : Rd B b (Lib.join ps [46] :: ws) w) :
    Calls Tryz.prog 72 #[.pointer (some ⟨b, 0, none⟩)] w fun r w' => (∃ N, r = .returned (.pointer (some ⟨N, 0, none⟩)) ∧ w.heap.size ≤ N ∧ (∃ B', Rd B' N ps w')) ∧ Rd B b ws w' ∧ But b w w' := by
  have c1 := rword b _ ws w h
  generalize hQ : (fun (r : Ending) (w' : World) => (∃ N, r = .returned (.pointer (some ⟨N, 0, none⟩)) ∧ w.heap.size ≤ N ∧ (∃ B', Rd B' N ps w')) ∧ Rd B b ws w' ∧ But b w w') = Q
  go_enter Tryz.func72, Tryz.ntmps72
  go_wp2_with (first
    | (go_at_call 29; with_reducible refine c1.mono ?_; rintro r w1 ⟨rfl, hr1, hb1⟩; have c2 := split_ok 46 ps hne hno hsz w1 (hm.but hb1 h0))
    | (go_at_call 27; with_reducible refine c2.mono ?_; rintro r w2 ⟨rfl, rfl⟩; have hr2 := hr1.below ((Below.refl _ _).alloc (Nat.le_refl _) (.cells (ps.map S).toArray 9)); have a1 := hr2.cell1; have z1 := hr2.froz 1))
  subst hQ
  have hb2 : Below w1.heap.size w1 ((w1.alloc (.cells (ps.map S).toArray 9)).alloc (.cells #[.slice (some ⟨w1.heap.size, 0, none⟩) ps.length ps.length, .bool false] 71)) := ((Below.refl _ _).alloc (Nat.le_refl _) _).alloc (by simp) _
  exact ⟨⟨_, rfl, by have := hb1.size; omega, _, rd_new ps w1 _ rfl⟩, hr1.below hb2, hb1.trans (But.of_below hb2)⟩
end Go.Proofs.YtaojoifpekoecaaGreatDoor


namespace Go.Proofs.YtaojoifpekoecaaGreatDoor
open Go.RowKit Go.Shelf
set_option maxHeartbeats 4000000
set_option maxRecDepth 100000
/-- a message's five words are read -/
theorem rmsg {B : Nat} (b p t c : Nat) (id body : List UInt8) (w : World) (hp : p < 256) (ht : t < 4294967296) (hc : c < 4294967296) (hid : id.length ≤ 100000000) (hbody : body.length ≤ 100000000)
    (h : Rd B b [Lib.decDigits p, Lib.decDigits t, Lib.decDigits c, hexW id, hexW body] w) :
    Calls Tryz.prog 36 #[.pointer (some ⟨b, 0, none⟩)] w fun r w' => (∃ bv, r = .returned (.agg #[.int .u8 p, .int .u32 t, .int .u32 c, S id, bv]) ∧ BytesF w.heap.size w' bv body) ∧ Rd B b [] w' ∧ But b w w' := by
  have hb0 : Below w.heap.size w (w.alloc (.cells #[.int .u8 0, .int .u32 0, .int .u32 0, .string { data := #[] }, .slice none 0 0] 25)) := (Below.refl _ _).alloc (Nat.le_refl _) _
  have h0 := h.below hb0
  have hz0 := heap_alloc_last w (.cells #[.int .u8 0, .int .u32 0, .int .u32 0, .string { data := #[] }, .slice none 0 0] 25)
  have hlt := h.lt
  have p1 : (p : Int) % 256 = p := by omega
  have p2 : (t : Int) % 4294967296 = t := by omega
  have p3 : (c : Int) % 4294967296 = c := by omega
  have c1 := rnat8 b p _ _ hp h0
  generalize hQ : (fun (r : Ending) (w' : World) => (∃ bv, r = .returned (.agg #[.int .u8 p, .int .u32 t, .int .u32 c, S id, bv]) ∧ BytesF w.heap.size w' bv body) ∧ Rd B b [] w' ∧ But b w w') = Q
  go_enter Tryz.func36, Tryz.ntmps36
  go_wp2_with (first
    | (go_at_call 34; (with_reducible refine c1.mono ?_); rintro r w1 ⟨rfl, h1, hb1⟩; have c2 := rnat32 b t _ _ ht h1)
    | (go_at_call 34; (with_reducible refine c2.mono ?_); rintro r w2 ⟨rfl, h2, hb2⟩; have c3 := rnat32 b c _ _ hc h2)
    | (go_at_call 34; (with_reducible refine c3.mono ?_); rintro r w3 ⟨rfl, h3, hb3⟩; have c4 := rtext b id _ _ hid h3)
    | (go_at_call 32; (with_reducible refine c4.mono ?_); rintro r w4 ⟨rfl, h4, hb4⟩; have c5 := rbytes b body _ _ hbody h4)
    | (go_at_call 70; (with_reducible refine c5.mono ?_); rintro r w5 ⟨⟨bv, rfl, hbv⟩, h5, hb5⟩; have hz5 := (((((hb1.trans hb2).trans hb3).trans hb4).trans hb5).block w.heap.size (by simp) (by omega)).trans hz0; have hbv0 := hbv; obtain ⟨va, vc, rfl, _⟩ := hbv0)
    | (refine wpList_store_whole rfl 25 _ _ rfl w.heap.size #[.int .u8 p, .int .u32 t, .int .u32 c, S id, .slice va body.length vc] _ 25 rfl rfl hz5 rfl info25' rfl ?_; intro w6 hz6 hbut hsz6))
  refine bodyPost_ret (results_cell_row Tryz.results36 _ _ w.heap.size 25 _ (0, 0) _ rfl hz6 Tryz.underlying25 rfl info25') rfl ?_
  subst hQ
  have hch := (((hb1.trans hb2).trans hb3).trans hb4).trans hb5
  have hsz5 := hch.size
  have hsz4 := (((hb1.trans hb2).trans hb3).trans hb4).size
  simp only [World.size_alloc] at hsz5 hsz4
  have hbw := hbut.below (Nat.le_refl w.heap.size) (by omega)
  exact ⟨⟨_, rfl, (hbv.but hbut (by omega)).mono (by omega)⟩, h5.belowB hbw h.BW, ((But.of_below hb0).trans hch).then hbw (Nat.le_refl _)⟩
/-- an outcome's four words are read -/
theorem rout {B : Nat} (b k a d : Nat) (cond : List UInt8) (w : World) (hk : k < 256) (ha : a < 18446744073709551616) (hd : d < 18446744073709551616) (hcond : cond.length ≤ 100000000)
    (h : Rd B b [Lib.decDigits k, Lib.decDigits a, Lib.decDigits d, hexW cond] w) :
    Calls Tryz.prog 38 #[.pointer (some ⟨b, 0, none⟩)] w fun r w' => r = .returned (.agg #[.int .u8 k, .int .u64 a, .int .u64 d, S cond]) ∧ Rd B b [] w' ∧ But b w w' := by
  have hb0 : Below w.heap.size w (w.alloc (.cells #[.int .u8 0, .int .u64 0, .int .u64 0, .string { data := #[] }] 28)) := (Below.refl _ _).alloc (Nat.le_refl _) _
  have h0 := h.below hb0
  have hz0 := heap_alloc_last w (.cells #[.int .u8 0, .int .u64 0, .int .u64 0, .string { data := #[] }] 28)
  have hlt := h.lt
  have p1 : (k : Int) % 256 = k := by omega
  have c1 := rnat8 b k _ _ hk h0
  generalize hQ : (fun (r : Ending) (w' : World) => r = .returned (.agg #[.int .u8 k, .int .u64 a, .int .u64 d, S cond]) ∧ Rd B b [] w' ∧ But b w w') = Q
  go_enter Tryz.func38, Tryz.ntmps38
  go_wp2_with (first
    | (go_at_call 34; (with_reducible refine c1.mono ?_); rintro r w1 ⟨rfl, h1, hb1⟩; have c2 := rnat64 b a _ _ ha h1)
    | (go_at_call 34; (with_reducible refine c2.mono ?_); rintro r w2 ⟨rfl, h2, hb2⟩; have c3 := rnat64 b d _ _ hd h2)
    | (go_at_call 34; (with_reducible refine c3.mono ?_); rintro r w3 ⟨rfl, h3, hb3⟩; have c4 := rtext b cond _ _ hcond h3)
    | (go_at_call 32; (with_reducible refine c4.mono ?_); rintro r w4 ⟨rfl, h4, hb4⟩; have hz5 := ((((hb1.trans hb2).trans hb3).trans hb4).block w.heap.size (by simp) (by omega)).trans hz0)
    | (refine wpList_store_whole rfl 28 _ _ rfl w.heap.size #[.int .u8 k, .int .u64 a, .int .u64 d, S cond] _ 28 rfl rfl hz5 rfl info28' rfl ?_; intro w6 hz6 hbut hsz6))
  refine bodyPost_ret (results_cell_row Tryz.results38 _ _ w.heap.size 28 _ (0, 0) _ rfl hz6 Tryz.underlying28 rfl info28') rfl ?_
  subst hQ
  have hch := ((hb1.trans hb2).trans hb3).trans hb4
  have hsz5 := hch.size
  simp only [World.size_alloc] at hsz5
  have hbw := hbut.below (Nat.le_refl w.heap.size) (by omega)
  exact ⟨rfl, h4.belowB hbw h.BW, ((But.of_below hb0).trans hch).then hbw (Nat.le_refl _)⟩
end Go.Proofs.YtaojoifpekoecaaGreatDoor


namespace Go.Proofs.YtaojoifpekoecaaGreatDoor
open Go.RowKit Go.Shelf
set_option maxHeartbeats 4000000
set_option maxRecDepth 100000
/-- pieces -/
theorem rpmsg {B : Nat} (b p t c : Nat) (id body : List UInt8) (ws : List (List UInt8)) (w : World) (hm : Mx w) (h0b : b ≠ 0) (hp : p < 256) (ht : t < 4294967296) (hc : c < 4294967296) (hid : id.length ≤ 8192) (hbody : body.length ≤ 8192)
    (h : Rd B b (msgW p t c id body :: ws) w) :
    Calls Tryz.prog 35 #[.pointer (some ⟨b, 0, none⟩), .func (.func 36) #[] #[]] w fun r w' => (∃ bv, r = .returned (.agg #[.int .u8 p, .int .u32 t, .int .u32 c, S id, bv]) ∧ BytesF w.heap.size w' bv body) ∧ Rd B b ws w' ∧ But b w w' := by
  have hb0 : Below w.heap.size w (w.alloc (.cells #[.int .u8 0, .int .u32 0, .int .u32 0, .string { data := #[] }, .slice none 0 0] 25)) := (Below.refl _ _).alloc (Nat.le_refl _) _
  have h0 := h.below hb0
  have hz0 := heap_alloc_last w (.cells #[.int .u8 0, .int .u32 0, .int .u32 0, .string { data := #[] }, .slice none 0 0] 25)
  have hlt := h.lt
  have hBW := h.BW
  have c1 := rwithin b [Lib.decDigits p, Lib.decDigits t, Lib.decDigits c, hexW id, hexW body] ws _ (hm.below hb0 (Nat.le_refl _)) h0b (by simp) (msg_no p t c id body) (Nat.lt_of_le_of_lt (msgW_len p t c id body hp ht hc hid hbody) (by decide)) h0
  generalize hQ : (fun (r : Ending) (w' : World) => (∃ bv, r = .returned (.agg #[.int .u8 p, .int .u32 t, .int .u32 c, S id, bv]) ∧ BytesF w.heap.size w' bv body) ∧ Rd B b ws w' ∧ But b w w') = Q
  go_enter Tryz.func35, Tryz.ntmps35
  go_upto_region 3 with (first
    | (go_at_call 72; (with_reducible refine c1.mono ?_); rintro r w1 ⟨⟨N, rfl, hN, B', hrN⟩, h1, hb1⟩; have c2 := rmsg N p t c id body w1 hp ht hc (by omega) (by omega) hrN)
    | (go_at_call 36; (with_reducible refine c2.mono ?_); rintro r w2 ⟨⟨bv, rfl, hbv⟩, h2, hb2⟩; have hz2 := heap_alloc_last w2 (.cells #[.int .u8 0, .int .u32 0, .int .u32 0, .string { data := #[] }, .slice none 0 0] 25); have hbv0 := hbv; obtain ⟨va, vc, rfl, _⟩ := hbv0)
    | (refine wpList_store_whole rfl 25 _ _ rfl w2.heap.size #[.int .u8 p, .int .u32 t, .int .u32 c, S id, (.slice va body.length vc)] _ 25 rfl rfl hz2 rfl info25' rfl ?_; intro w4 hz4 hbut hsz4))
  simp only [World.size_alloc] at hN
  have hs1 := hb1.size
  have hs2 := hb2.size
  simp only [World.size_alloc] at hs1
  have hNl := hrN.lt
  have hk12 : Below (w.heap.size + 1) w1 w2 := hb2.below hN hs1
  have hk24 : Below w2.heap.size w2 w4 := ((Below.refl _ _).alloc (Nat.le_refl _) _).trans (hbut.below (Nat.le_refl _) (by simp))
  have hr4 : Rd B b ws w4 := (h1.belowB hk12 (by omega)).below hk24
  have hn4 := h2.below hk24
  have a1 := hr4.cell1
  have z1 := hr4.froz 1
  have n1 := hn4.cell1
  have q0 : w4.heap[w.heap.size]? = some (.cells #[.int .u8 0, .int .u32 0, .int .u32 0, .string { data := #[] }, .slice none 0 0] 25) := (hk24.block _ (by omega)).trans ((hk12.block _ (by omega)).trans ((hb1.block _ (by simp) (by omega)).trans hz0))
  have q5 : (w4.setCell ⟨b, 1, none⟩ (.bool false)).heap[w2.heap.size]? = some (.cells #[.int .u8 p, .int .u32 t, .int .u32 c, S id, (.slice va body.length vc)] 25) := (heap_setCell_other w4 ⟨b, 1, none⟩ _ _ (show w2.heap.size ≠ b by omega)).trans hz4
  have q6 : (w4.setCell ⟨b, 1, none⟩ (.bool false)).heap[w.heap.size]? = some (.cells #[.int .u8 0, .int .u32 0, .int .u32 0, .string { data := #[] }, .slice none 0 0] 25) := (heap_setCell_other w4 ⟨b, 1, none⟩ _ _ (show w.heap.size ≠ b by omega)).trans q0
  go_wp2_with (first
    | (refine wpList_load_row rfl 25 _ rfl w2.heap.size rfl 25 _ (0, 0) _ q5 Tryz.underlying25 rfl info25' ?_)
    | (refine wpList_store_whole rfl 25 _ _ rfl w.heap.size #[.int .u8 p, .int .u32 t, .int .u32 c, S id, (.slice va body.length vc)] _ 25 rfl rfl q6 rfl info25' rfl ?_; intro w6 hz6 hbut6 hsz6))
  refine bodyPost_ret (results_cell_row Tryz.results35 _ _ w.heap.size 25 _ (0, 0) _ rfl hz6 Tryz.underlying25 rfl info25') rfl ?_
  subst hQ
  have hs4 := hk24.size
  have hbw6 := hbut6.below (Nat.le_refl w.heap.size) (by simp; omega)
  have hbb : But b w w4 := ((But.of_below hb0).trans hb1).then (hk12.trans (hk24.mono (by omega))) (by omega)
  refine ⟨⟨_, rfl, ?_⟩, (hr4.bad).belowB hbw6 hBW, (hbb.trans (But.setCell b 1 w4 _)).then hbw6 (Nat.le_refl _)⟩
  exact ((((hbv.below hk24).but (But.setCell b 1 w4 _) (by omega)).but hbut6 (by omega)).mono (by omega))
/-- pieces -/
theorem rpout {B : Nat} (b k a d : Nat) (cond : List UInt8) (ws : List (List UInt8)) (w : World) (hm : Mx w) (h0b : b ≠ 0) (hk : k < 256) (ha : a < 18446744073709551616) (hd : d < 18446744073709551616) (hcond : cond.length ≤ 8192)
    (h : Rd B b (outW k a d cond :: ws) w) :
    Calls Tryz.prog 37 #[.pointer (some ⟨b, 0, none⟩), .func (.func 38) #[] #[]] w fun r w' => r = .returned (.agg #[.int .u8 k, .int .u64 a, .int .u64 d, S cond]) ∧ Rd B b ws w' ∧ But b w w' := by
  have hb0 : Below w.heap.size w (w.alloc (.cells #[.int .u8 0, .int .u64 0, .int .u64 0, .string { data := #[] }] 28)) := (Below.refl _ _).alloc (Nat.le_refl _) _
  have h0 := h.below hb0
  have hz0 := heap_alloc_last w (.cells #[.int .u8 0, .int .u64 0, .int .u64 0, .string { data := #[] }] 28)
  have hlt := h.lt
  have hBW := h.BW
  have c1 := rwithin b [Lib.decDigits k, Lib.decDigits a, Lib.decDigits d, hexW cond] ws _ (hm.below hb0 (Nat.le_refl _)) h0b (by simp) (out_no k a d cond) (Nat.lt_of_le_of_lt (outW_len k a d cond hk ha hd hcond) (by decide)) h0
  generalize hQ : (fun (r : Ending) (w' : World) => r = .returned (.agg #[.int .u8 k, .int .u64 a, .int .u64 d, S cond]) ∧ Rd B b ws w' ∧ But b w w') = Q
  go_enter Tryz.func37, Tryz.ntmps37
  go_upto_region 3 with (first
    | (go_at_call 72; (with_reducible refine c1.mono ?_); rintro r w1 ⟨⟨N, rfl, hN, B', hrN⟩, h1, hb1⟩; have c2 := rout N k a d cond w1 hk ha hd (by omega) hrN)
    | (go_at_call 38; (with_reducible refine c2.mono ?_); rintro r w2 ⟨rfl, h2, hb2⟩; have hz2 := heap_alloc_last w2 (.cells #[.int .u8 0, .int .u64 0, .int .u64 0, .string { data := #[] }] 28))
    | (refine wpList_store_whole rfl 28 _ _ rfl w2.heap.size #[.int .u8 k, .int .u64 a, .int .u64 d, S cond] _ 28 rfl rfl hz2 rfl info28' rfl ?_; intro w4 hz4 hbut hsz4))
  simp only [World.size_alloc] at hN
  have hs1 := hb1.size
  have hs2 := hb2.size
  simp only [World.size_alloc] at hs1
  have hNl := hrN.lt
  have hk12 : Below (w.heap.size + 1) w1 w2 := hb2.below hN hs1
  have hk24 : Below w2.heap.size w2 w4 := ((Below.refl _ _).alloc (Nat.le_refl _) _).trans (hbut.below (Nat.le_refl _) (by simp))
  have hr4 : Rd B b ws w4 := (h1.belowB hk12 (by omega)).below hk24
  have hn4 := h2.below hk24
  have a1 := hr4.cell1
  have z1 := hr4.froz 1
  have n1 := hn4.cell1
  have q0 : w4.heap[w.heap.size]? = some (.cells #[.int .u8 0, .int .u64 0, .int .u64 0, .string { data := #[] }] 28) := (hk24.block _ (by omega)).trans ((hk12.block _ (by omega)).trans ((hb1.block _ (by simp) (by omega)).trans hz0))
  have q5 : (w4.setCell ⟨b, 1, none⟩ (.bool false)).heap[w2.heap.size]? = some (.cells #[.int .u8 k, .int .u64 a, .int .u64 d, S cond] 28) := (heap_setCell_other w4 ⟨b, 1, none⟩ _ _ (show w2.heap.size ≠ b by omega)).trans hz4
  have q6 : (w4.setCell ⟨b, 1, none⟩ (.bool false)).heap[w.heap.size]? = some (.cells #[.int .u8 0, .int .u64 0, .int .u64 0, .string { data := #[] }] 28) := (heap_setCell_other w4 ⟨b, 1, none⟩ _ _ (show w.heap.size ≠ b by omega)).trans q0
  go_wp2_with (first
    | (refine wpList_load_row rfl 28 _ rfl w2.heap.size rfl 28 _ (0, 0) _ q5 Tryz.underlying28 rfl info28' ?_)
    | (refine wpList_store_whole rfl 28 _ _ rfl w.heap.size #[.int .u8 k, .int .u64 a, .int .u64 d, S cond] _ 28 rfl rfl q6 rfl info28' rfl ?_; intro w6 hz6 hbut6 hsz6))
  refine bodyPost_ret (results_cell_row Tryz.results37 _ _ w.heap.size 28 _ (0, 0) _ rfl hz6 Tryz.underlying28 rfl info28') rfl ?_
  subst hQ
  have hs4 := hk24.size
  have hbw6 := hbut6.below (Nat.le_refl w.heap.size) (by simp; omega)
  have hbb : But b w w4 := ((But.of_below hb0).trans hb1).then (hk12.trans (hk24.mono (by omega))) (by omega)
  refine ⟨rfl, (hr4.bad).belowB hbw6 hBW, (hbb.trans (But.setCell b 1 w4 _)).then hbw6 (Nat.le_refl _)⟩
end Go.Proofs.YtaojoifpekoecaaGreatDoor


namespace Go.Proofs.YtaojoifpekoecaaGreatDoor
open Go.RowKit Go.Shelf
set_option maxHeartbeats 4000000
set_option maxRecDepth 100000
theorem kinds_eq : ∀ i j : Fin 14, ((kindWs[i.val]?).getD [] == (kindWs[j.val]?).getD []) = decide (i = j) := by decide +kernel
/-- slices.Index, of a kind's word -/
theorem rindex (k g : Nat) (hk : k < 14) (w : World) (hg : w.heap[g]? = some (.cells (kindWs.map S).toArray 9)) :
    Calls Tryz.prog 28 #[.slice (some ⟨g, 0, none⟩) 14 14, S ((kindWs[k]?).getD [])] w fun e w' => e = .returned (.int .i64 k) ∧ w' = w := by
  generalize hQ : (fun (e : Ending) (w' : World) => e = .returned (.int .i64 k) ∧ w' = w) = Q
  go_enter Tryz.func28, Tryz.ntmps28
  go_wp2_with fail
  go_loopw [8] (fun t wr => ∃ i : Nat, i ≤ k ∧ t = .int .i64 i ∧ wr = w) (fun t _ => 14 - (intOf t).toNat)
  case atStart => exact ⟨0, Nat.zero_le _, rfl, rfl⟩
  case round =>
    obtain ⟨i, hi, rfl, rfl⟩ := hrel
    have hi14 : (i : Int) < 14 := by omega
    have hi0 : (0 : Int) ≤ (i : Int) := by omega
    have hc : wr.cell? ⟨g, i, none⟩ = some (S ((kindWs[i]?).getD [])) := kw_cell (by omega) hg
    have he := kinds_eq ⟨k, hk⟩ ⟨i, by omega⟩
    by_cases hik : i = k
    · subst hik
      have he2 : ((kindWs[i]?).getD [] == (kindWs[i]?).getD []) = true := beq_self_eq_true _
      clear he
      go_wp2_with fail
      subst hQ
      exact ⟨rfl, rfl⟩
    · have he2 : ((kindWs[k]?).getD [] == (kindWs[i]?).getD []) = false := by
        rw [he]
        exact decide_eq_false fun h => hik (by have := congrArg Fin.val h; exact this.symm)
      clear he
      go_wp2_with fail
      go_roundw
      case rel => exact ⟨i + 1, by omega, by go_num, by trivial⟩
      case measure => simp [intOf]; omega
end Go.Proofs.YtaojoifpekoecaaGreatDoor
