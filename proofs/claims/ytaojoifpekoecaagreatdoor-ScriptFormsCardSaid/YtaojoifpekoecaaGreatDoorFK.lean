/-
  script.Read of a line that was formed; the law's function returns true. Conditions: as each theorem says.
-/
import Derived.Test.YtaojoifpekoecaaGreatDoorFJ
import Derived.Test.YtaojoifpekoecaaGreatDoorFI
import Derived.Deep.Cut
import Derived.Deep.CutBlock
import Derived.Deep.CutRange
import Derived.Deep.DeepCutAuto
namespace Go.Proofs.YtaojoifpekoecaaGreatDoor
open Go.RowKit Go.Shelf
set_option maxHeartbeats 40000000
set_option maxRecDepth 100000
def wh (e : EvD) : List (List UInt8) := if e.k = 5 ∨ e.k = 13 then [] else [Lib.itoa e.who]
def nm (e : EvD) : List (List UInt8) := if 6 ≤ e.k then [hexW e.name] else []
def tl (e : EvD) : List (List UInt8) :=
  if e.k = 3 ∨ e.k = 4 ∨ e.k = 5 ∨ e.k = 8 then [Lib.itoa e.n]
  else if e.k = 6 then [ansW e.flag, hexW e.text, Lib.decDigits e.snd, Lib.decDigits e.rcv]
  else if e.k = 7 then [e.m.w, ansW e.flag]
  else if e.k = 10 then [hexW e.text, outW e.ok e.oa e.ob e.cond]
  else []
theorem words_parts (e : EvD) : wordsD e = kw e :: (wh e ++ (nm e ++ tl e)) := by
  have h2 : wd2 e = kw e :: wh e := by unfold wd2 wh; split <;> rfl
  have h3 : wd3 e = wd2 e ++ nm e := by unfold wd3 nm; split <;> simp
  have h4 : wordsD e = wd3 e ++ tl e := by
    unfold wordsD tl
    split
    · rfl
    split
    · rfl
    split
    · rfl
    split
    · rfl
    · simp
  rw [h4, h3, h2]
  simp
theorem kw_sp (e : EvD) (hk2 : e.k < 14) : (32 : UInt8) ∉ kw e := by
  unfold kw
  have : ∀ i : Fin 14, (32 : UInt8) ∉ (kindWs[i.val]?).getD [] := by decide
  exact this ⟨e.k, hk2⟩
theorem words_sp (e : EvD) (hk2 : e.k < 14) : ∀ x ∈ wordsD e, (32 : UInt8) ∉ x := by
  rw [words_parts]
  intro x hx
  rcases List.mem_cons.1 hx with rfl | hx
  · exact kw_sp e hk2
  rcases List.mem_append.1 hx with hx | hx
  · unfold wh at hx
    split at hx
    · simp at hx
    · simp at hx; subst hx; exact itoa_no _ (.inl rfl) _
  rcases List.mem_append.1 hx with hx | hx
  · unfold nm at hx
    split at hx
    · simp at hx; subst hx; exact hex_no _ (.inl rfl) _
    · simp at hx
  · unfold tl at hx
    split at hx
    · simp at hx; subst hx; exact itoa_no _ (.inl rfl) _
    split at hx
    · simp at hx
      rcases hx with rfl | rfl | rfl | rfl
      · exact ans_no _ (.inl rfl) _
      · exact hex_no _ (.inl rfl) _
      · exact dec_no _ (by decide) _
      · exact dec_no _ (by decide) _
    split at hx
    · simp at hx
      rcases hx with rfl | rfl
      · exact msgW_sp _ _ _ _ _
      · exact ans_no _ (.inl rfl) _
    split at hx
    · simp at hx
      rcases hx with rfl | rfl
      · exact hex_no _ (.inl rfl) _
      · exact outW_sp _ _ _ _
    · simp at hx
theorem only_mz (e : EvD) (h7 : ¬ e.k = 7) : (onlyD e).m = mZ := by
  unfold onlyD
  rw [if_neg h7]
  split
  · exact q3_m e
  split
  · exact q3_m e
  split <;> exact q3_m e
theorem only_nil (e : EvD) (h7 : ¬ e.k = 7) (B : Nat) (W : World) : BytesF B W nilB (onlyD e).m.body := by
  rw [only_mz e h7]
  exact ⟨none, 0, rfl, fun h => absurd rfl h⟩
/-- what stands while an event is read -/
structure Rs (w : World) (B b eb : Nat) (ws : List (List UInt8)) (cq : Array Value) (W : World) : Prop where
  r : Rd B b ws W
  z : W.heap[w.heap.size]? = some (.cells zEv 30)
  q : W.heap[eb]? = some (.cells cq 30)
  lo : w.heap.size < b
  hi : B ≤ eb
  pow : Pow W
  mx : Mx W
  below : Below w.heap.size w W
  w3 : 3 < w.heap.size
theorem Rs.read {w W W' : World} {B b eb : Nat} {ws ws' : List (List UInt8)} {cq : Array Value} (h : Rs w B b eb ws cq W) (hr : Rd B b ws' W') (hb : But b W W') : Rs w B b eb ws' cq W' where
  r := hr
  z := (hb.block _ (lt_of h.z) (by have := h.lo; omega)).trans h.z
  q := (hb.block _ (lt_of h.q) (by have := h.hi; have := h.r.bB; omega)).trans h.q
  lo := h.lo
  hi := h.hi
  pow := pow_but h.pow hb (by have := h.lo; have := h.w3; omega)
  mx := h.mx.but hb (by have := h.lo; omega)
  below := h.below.trans (hb.below (by have := h.lo; omega) h.below.size)
  w3 := h.w3
theorem Rs.put {w W W' : World} {B b eb : Nat} {ws : List (List UInt8)} {cq cq' : Array Value} (h : Rs w B b eb ws cq W) (hq : W'.heap[eb]? = some (.cells cq' 30)) (hb : But eb W W') : Rs w B b eb ws cq' W' where
  r := h.r.belowB (hb.below h.hi h.r.BW) (Nat.le_refl _)
  z := (hb.block _ (lt_of h.z) (by have := h.hi; have := h.r.bB; have := h.lo; omega)).trans h.z
  q := hq
  lo := h.lo
  hi := h.hi
  pow := pow_but h.pow hb (by have := h.hi; have := h.r.bB; have := h.lo; have := h.w3; omega)
  mx := h.mx.but hb (by have := h.hi; have := h.r.bB; have := h.lo; omega)
  below := h.below.trans (hb.below (by have := h.hi; have := h.r.bB; have := h.lo; omega) h.below.size)
  w3 := h.w3
theorem Rs.step {w W W' : World} {B b eb : Nat} {ws : List (List UInt8)} {cq : Array Value} (h : Rs w B b eb ws cq W) (hb : Below W.heap.size W W') : Rs w B b eb ws cq W' where
  r := h.r.below hb
  z := (hb.block _ (lt_of h.z)).trans h.z
  q := (hb.block _ (lt_of h.q)).trans h.q
  lo := h.lo
  hi := h.hi
  pow := h.pow.below hb (Nat.le_refl _)
  mx := h.mx.below hb (Nat.le_refl _)
  below := h.below.trans (hb.mono h.below.size)
  w3 := h.w3
theorem form_good {e : EvD} {r : Ending} (hg : Good e) (h : FormP e r) : r = .returned (.tuple #[S (Lib.join (wordsD e) [32]), .int .i64 0]) := by
  rcases h with h | h
  · exact h.2
  · exact absurd hg h.1
/-- Read of a line that was formed -/
theorem readS (e : EvD) (w : World) (hg : Good e) (hf : e.Fine) (hs : e.Slim) (htab : Pow w) (hmx : Mx w) :
    Calls Tryz.prog 11 #[S (Lib.join (wordsD e) [32])] w fun r w' => (∃ bv, r = .returned (.tuple #[.agg (e.cs bv), .int .i64 0]) ∧ BytesV w' bv e.m.body) ∧ Below w.heap.size w w' := by
  obtain ⟨hk1, hk2, hon⟩ := hg
  have hg : Good e := ⟨hk1, hk2, hon⟩
  have h3w := pow_lt htab
  have hb0 : Below w.heap.size w (w.alloc (.cells zEv 30)) := (Below.refl _ _).alloc (Nat.le_refl _) _
  have hz0 := heap_alloc_last w (.cells zEv 30)
  have hm0 : Mx (w.alloc (.cells zEv 30)) := hmx.below hb0 (Nat.le_refl _)
  have hwl := words_len e hf hs
  have hjl : (Lib.join (wordsD e) [32]).length < 4294967281 := by
    have := join_len (wordsD e) [32] 100000 7 hwl.1 hwl.2
    simp at this
    omega
  have c27 := split_ok 32 (wordsD e) (by rw [words_parts]; simp) (words_sp e hk2) hjl _ hm0
  have hi0 : (0 : Int) ≤ (e.k : Int) := by omega
  have hmax : max (e.k : Int) 0 = e.k := by omega
  have hk256 : (e.k : Int) % 256 = e.k := by omega
  have hkwp := kw_len e
  generalize hQ : (fun (r : Ending) (w' : World) => (∃ bv, r = .returned (.tuple #[.agg (e.cs bv), .int .i64 0]) ∧ BytesV w' bv e.m.body) ∧ Below w.heap.size w w') = Q
  go_enter Tryz.func11, Tryz.ntmps11
  go_upto_region 2 with (first
    | (go_at_call 27; refine c27.mono ?_; rintro r w1 ⟨rfl, hw1⟩))
  clear hw1
  have rd0 := rd_new (wordsD e) (w.alloc (.cells zEv 30)) (.bool false) rfl
  have hbA : Below (w.heap.size + 1) (w.alloc (.cells zEv 30)) (((w.alloc (.cells zEv 30)).alloc (.cells ((wordsD e).map S).toArray 9)).alloc (.cells #[.slice (some ⟨(w.alloc (.cells zEv 30)).heap.size, 0, none⟩) (wordsD e).length (wordsD e).length, .bool false] 71)) := ((Below.refl _ _).alloc (by simp) _).alloc (by simp) _
  have hsA : (((w.alloc (.cells zEv 30)).alloc (.cells ((wordsD e).map S).toArray 9)).alloc (.cells #[.slice (some ⟨w.heap.size + 1, 0, none⟩) (wordsD e).length (wordsD e).length, .bool false] 71)).heap.size = w.heap.size + 3 := by simp
  simp only [World.size_alloc] at rd0 hbA
  generalize ((w.alloc (.cells zEv 30)).alloc (.cells ((wordsD e).map S).toArray 9)).alloc (.cells #[.slice (some ⟨w.heap.size + 1, 0, none⟩) (wordsD e).length (wordsD e).length, .bool false] 71) = wA at rd0 hbA hsA ⊢
  have hbA0 : Below w.heap.size w wA := hb0.trans (hbA.mono (by omega))
  have hzA : wA.heap[w.heap.size]? = some (.cells zEv 30) := (hbA.block _ (by omega)).trans hz0
  rw [words_parts] at rd0
  have c28 : ∀ W : World, W.heap[w.heap.size + 3]? = some (.cells (kindWs.map S).toArray 9) → Calls Tryz.prog 28 #[.slice (some ⟨w.heap.size + 3, 0, none⟩) 14 14, S (kw e)] W fun e' w' => e' = .returned (.int .i64 e.k) ∧ w' = W := fun W h => rindex e.k _ hk2 W h
  have c21 := words wA
  rw [hsA] at c21
  go_upto_region 3 with (first
    | (go_at_call 21; (with_reducible refine c21.mono ?_); rintro r w2 ⟨rfl, hb2, hw2⟩; have c29 := rword _ _ _ w2 (rd0.belowB hb2 (by omega)))
    | (go_at_call 29; (with_reducible refine c29.mono ?_); rintro r w3 ⟨rfl, hr3, hb3⟩; have hw3 := (hb3.block _ (lt_of hw2) (by omega)).trans hw2; have hz3 := heap_alloc_last w3 (.cells zEv 30))
    | (go_at_call 28; (with_reducible refine (c28 _ hw3).mono ?_); rintro r w4 ⟨rfl, rfl⟩)
    | (refine wpList_store_whole rfl 30 _ _ rfl w4.heap.size ((q1 e).cs nilB) _ 30 rfl rfl hz3 rfl info30' rfl ?_; intro w5 hz5 hbut5 hsz5))
  have hk45 : Below w4.heap.size w4 w5 := ((Below.refl _ _).alloc (Nat.le_refl _) _).trans (hbut5.below (Nat.le_refl _) (by simp))
  have hs2 := hb2.size
  have hs4 := hb3.size
  have hp4 : Pow w4 := pow_but ((htab.below hbA0 (Nat.le_refl _)).below hb2 (by omega)) hb3 (by omega)
  have st0 : Rs w (w.heap.size + 1 + 2) (w.heap.size + 1 + 1) w4.heap.size (wh e ++ (nm e ++ tl e)) ((q1 e).cs nilB) w5 := by
    refine ⟨hr3.below hk45, ?_, hz5, by omega, by omega, hp4.below hk45 (Nat.le_refl _), ?_, ?_, h3w⟩
    · exact (hk45.block _ (by omega)).trans ((hb3.block _ (by omega) (by omega)).trans ((hb2.block _ (by omega)).trans hzA))
    · exact (((hm0.below hbA (by simp)).below hb2 (by omega)).but hb3 (by omega)).below hk45 (Nat.le_refl _)
    · exact ((hbA0.trans (hb2.mono (by omega))).trans (hb3.below (by omega) (by omega))).trans (hk45.mono (by omega))
  clear c27 c28 c21 c29 hw2 hw3 hz3 hz5 hbut5 hsz5 hr3 hb3 hb2 hp4 rd0 hbA hbA0 hzA hk45
  simp only [Act.put]
  go_cut [4, 5, 22] (fun rp ep c wx => ∃ B b eb f, rp = .pointer (some ⟨b, 0, none⟩) ∧ ep = .pointer (some ⟨eb, 0, none⟩) ∧ c = .bool f ∧ (f = true ↔ ¬ (e.k = 5 ∨ e.k = 13)) ∧ Rs w B b eb (wh e ++ (nm e ++ tl e)) ((q1 e).cs nilB) wx)
  case first =>
    have a0 : w5.cell? ⟨w4.heap.size, 0, none⟩ = some (.int .u8 e.k) := cell_of st0.q
    go_wp2_with (first | (go_at_call 30; refine (alone' e.k _).mono ?_; rintro r wa ⟨b, rfl, hal, rfl⟩))
    go_meet
    exact ⟨_, _, _, !b, rfl, rfl, rfl, by rw [← hal]; cases b <;> simp, st0⟩
  case rest =>
    clear st0
    obtain ⟨B, b, eb, f, rfl, rfl, rfl, hal, st⟩ := hcut
    go_upto_if 22 with fail
    go_cut [4] (fun rp wx => rp = .pointer (some ⟨b, 0, none⟩) ∧ Rs w B b eb (nm e ++ tl e) ((q2 e).cs nilB) wx)
    case first =>
      cases f
      case false =>
        have hal' : e.k = 5 ∨ e.k = 13 := Classical.not_not.1 fun h => by cases hal.2 h
        have hq2 : q2 e = q1 e := if_pos hal'
        have hw2 : wh e = [] := if_pos hal'
        clear hal
        rw [hw2] at st
        go_wp2_with fail
        go_meet
        rw [hq2]
        exact ⟨rfl, st⟩
      case true =>
        have hal' : ¬ (e.k = 5 ∨ e.k = 13) := hal.1 rfl
        have hq2 : (q2 e).cs nilB = ((q1 e).cs nilB).setIfInBounds 1 (.int .i64 e.who) := by unfold q2; rw [if_neg hal']; rfl
        have hw2 : wh e = [Lib.itoa e.who] := if_neg hal'
        clear hal
        rw [hw2] at st
        have c0 := rint b e.who (nm e ++ tl e) wc hf.who st.r
        have b1 : wc.cell? ⟨eb, 1, none⟩ = some (.int .i64 0) := cell_of st.q
        go_wp2_with (first
          | (go_at_call 31; (with_reducible refine c0.mono ?_); rintro r w1 ⟨rfl, hr1, hb1⟩; have st1 := st.read hr1 hb1; have bb : w1.cell? ⟨eb, 1, none⟩ = some (.int .i64 0) := cell_of st1.q; have zz : w1.frozen? ⟨eb, 1, none⟩ = false := frozen_of st1.q))
        have st2 := st1.put (W' := w1.setCell ⟨eb, 1, none⟩ (.int .i64 e.who)) (heap_setCell_same w1 eb 1 _ 30 _ st1.q) (But.setCell eb 1 w1 _)
        rw [← hq2] at st2
        go_meet
        exact ⟨rfl, st2⟩
    case rest =>
      clear hal st
      obtain ⟨rfl, st⟩ := hcut
      have a0 : wc.cell? ⟨eb, 0, none⟩ = some (.int .u8 (q2 e).k) := cell_of st.q
      rw [q2_k] at a0
      go_upto_if 28 with fail
      go_cut [4] (fun rp wx => rp = .pointer (some ⟨b, 0, none⟩) ∧ Rs w B b eb (tl e) ((q3 e).cs nilB) wx)
      case first =>
        by_cases h6 : 6 ≤ e.k
        · have hi6 : (6 : Int) ≤ (e.k : Int) := by omega
          have hq3 : (q3 e).cs nilB = ((q2 e).cs nilB).setIfInBounds 3 (S e.name) := by unfold q3; rw [if_pos h6]; rfl
          have hw3 : nm e = [hexW e.name] := if_pos h6
          rw [hw3] at st
          have c0 := rtext b e.name (tl e) wc (by have := hs.1; omega) st.r
          have b3 : wc.cell? ⟨eb, 3, none⟩ = some (S (q2 e).name) := cell_of st.q
          go_wp2_with (first
            | (go_at_call 32; (with_reducible refine c0.mono ?_); rintro r w1 ⟨rfl, hr1, hb1⟩; have st1 := st.read hr1 hb1; have bb : w1.cell? ⟨eb, 3, none⟩ = some (S (q2 e).name) := cell_of st1.q; have zz : w1.frozen? ⟨eb, 3, none⟩ = false := frozen_of st1.q))
          have st2 := st1.put (W' := w1.setCell ⟨eb, 3, none⟩ (S e.name)) (heap_setCell_same w1 eb 3 _ 30 _ st1.q) (But.setCell eb 3 w1 _)
          rw [← hq3] at st2
          go_meet
          exact ⟨rfl, st2⟩
        · have hi6 : ¬ (6 : Int) ≤ (e.k : Int) := by omega
          have hq3 : q3 e = q2 e := if_neg h6
          have hw3 : nm e = [] := if_neg h6
          rw [hw3] at st
          go_wp2_with fail
          go_meet
          rw [hq3]
          exact ⟨rfl, st⟩
      case rest =>
        clear a0 st
        obtain ⟨rfl, st⟩ := hcut
        have a0 : wc.cell? ⟨eb, 0, none⟩ = some (.int .u8 (q3 e).k) := cell_of st.q
        rw [q3_k] at a0
        go_upto_block 0 with fail
        go_cut [4, 33] (fun rp s wx => rp = .pointer (some ⟨b, 0, none⟩) ∧ s = .int .u8 e.k ∧ ∃ bv, Rs w B b eb [] ((onlyD e).cs bv) wx ∧ BytesF (w.heap.size + 1) wx bv (onlyD e).m.body)
        case first =>
          have hltc := st.r.BW
          by_cases hn : e.k = 3 ∨ e.k = 4 ∨ e.k = 5 ∨ e.k = 8
          · have hq4 : (onlyD e).cs nilB = ((q3 e).cs nilB).setIfInBounds 2 (.int .i64 e.n) := by
              unfold onlyD; rw [if_pos hn]; rfl
            have hw4 : tl e = [Lib.itoa e.n] := if_pos hn
            have hnl := only_nil e (by omega) (w.heap.size + 1)
            rw [hw4] at st
            by_cases k3 : e.k = 3
            · have i3 : (e.k : Int) = 3 := by omega
              have c0 := rint b e.n [] wc hf.n st.r
              have b2 : wc.cell? ⟨eb, 2, none⟩ = some (.int .i64 (q3 e).n) := cell_of st.q
              go_wp2_with (first
                | (go_at_call 31; (with_reducible refine c0.mono ?_); rintro r w1 ⟨rfl, hr1, hb1⟩; have st1 := st.read hr1 hb1; have bb : w1.cell? ⟨eb, 2, none⟩ = some (.int .i64 (q3 e).n) := cell_of st1.q; have zz : w1.frozen? ⟨eb, 2, none⟩ = false := frozen_of st1.q))
              have st2 := st1.put (W' := w1.setCell ⟨eb, 2, none⟩ (.int .i64 e.n)) (heap_setCell_same w1 eb 2 _ 30 _ st1.q) (But.setCell eb 2 w1 _)
              rw [← hq4] at st2
              go_meet
              exact ⟨rfl, by rw [i3], _, st2, hnl _⟩
            have i3 : ¬ (e.k : Int) = 3 := by omega
            by_cases k4 : e.k = 4
            · have i4 : (e.k : Int) = 4 := by omega
              have c0 := rint b e.n [] wc hf.n st.r
              have b2 : wc.cell? ⟨eb, 2, none⟩ = some (.int .i64 (q3 e).n) := cell_of st.q
              go_wp2_with (first
                | (go_at_call 31; (with_reducible refine c0.mono ?_); rintro r w1 ⟨rfl, hr1, hb1⟩; have st1 := st.read hr1 hb1; have bb : w1.cell? ⟨eb, 2, none⟩ = some (.int .i64 (q3 e).n) := cell_of st1.q; have zz : w1.frozen? ⟨eb, 2, none⟩ = false := frozen_of st1.q))
              have st2 := st1.put (W' := w1.setCell ⟨eb, 2, none⟩ (.int .i64 e.n)) (heap_setCell_same w1 eb 2 _ 30 _ st1.q) (But.setCell eb 2 w1 _)
              rw [← hq4] at st2
              go_meet
              exact ⟨rfl, by rw [i4], _, st2, hnl _⟩
            have i4 : ¬ (e.k : Int) = 4 := by omega
            by_cases k5 : e.k = 5
            · have i5 : (e.k : Int) = 5 := by omega
              have c0 := rint b e.n [] wc hf.n st.r
              have b2 : wc.cell? ⟨eb, 2, none⟩ = some (.int .i64 (q3 e).n) := cell_of st.q
              go_wp2_with (first
                | (go_at_call 31; (with_reducible refine c0.mono ?_); rintro r w1 ⟨rfl, hr1, hb1⟩; have st1 := st.read hr1 hb1; have bb : w1.cell? ⟨eb, 2, none⟩ = some (.int .i64 (q3 e).n) := cell_of st1.q; have zz : w1.frozen? ⟨eb, 2, none⟩ = false := frozen_of st1.q))
              have st2 := st1.put (W' := w1.setCell ⟨eb, 2, none⟩ (.int .i64 e.n)) (heap_setCell_same w1 eb 2 _ 30 _ st1.q) (But.setCell eb 2 w1 _)
              rw [← hq4] at st2
              go_meet
              exact ⟨rfl, by rw [i5], _, st2, hnl _⟩
            have i5 : ¬ (e.k : Int) = 5 := by omega
            by_cases k8 : e.k = 8
            · have i8 : (e.k : Int) = 8 := by omega
              have c0 := rint b e.n [] wc hf.n st.r
              have b2 : wc.cell? ⟨eb, 2, none⟩ = some (.int .i64 (q3 e).n) := cell_of st.q
              go_wp2_with (first
                | (go_at_call 31; (with_reducible refine c0.mono ?_); rintro r w1 ⟨rfl, hr1, hb1⟩; have st1 := st.read hr1 hb1; have bb : w1.cell? ⟨eb, 2, none⟩ = some (.int .i64 (q3 e).n) := cell_of st1.q; have zz : w1.frozen? ⟨eb, 2, none⟩ = false := frozen_of st1.q))
              have st2 := st1.put (W' := w1.setCell ⟨eb, 2, none⟩ (.int .i64 e.n)) (heap_setCell_same w1 eb 2 _ 30 _ st1.q) (But.setCell eb 2 w1 _)
              rw [← hq4] at st2
              go_meet
              exact ⟨rfl, by rw [i8], _, st2, hnl _⟩
            have i8 : ¬ (e.k : Int) = 8 := by omega
            exact absurd hn (by omega)
          · have i3 : ¬ (e.k : Int) = 3 := by omega
            have i4 : ¬ (e.k : Int) = 4 := by omega
            have i5 : ¬ (e.k : Int) = 5 := by omega
            have i8 : ¬ (e.k : Int) = 8 := by omega
            by_cases k6 : e.k = 6
            · have i6 : (e.k : Int) = 6 := by omega
              have hq4 : (onlyD e).cs nilB = ((((((q3 e).cs nilB).setIfInBounds 5 (.bool e.flag)).setIfInBounds 4 (S e.text)).setIfInBounds 6 (.int .u8 e.snd)).setIfInBounds 7 (.int .u8 e.rcv)) := by
                unfold onlyD; rw [if_neg hn, if_pos k6]; rfl
              have hw4 : tl e = [ansW e.flag, hexW e.text, Lib.decDigits e.snd, Lib.decDigits e.rcv] := by unfold tl; rw [if_neg hn, if_pos k6]
              have hnl := only_nil e (by omega) (w.heap.size + 1)
              rw [hw4] at st
              have p1 : (e.snd : Int) % 256 = e.snd := by have := hf.snd; omega
              have p2 : (e.rcv : Int) % 256 = e.rcv := by have := hf.rcv; omega
              have c0 := ryes b e.flag _ wc st.r
              go_wp2_with (first
                | (go_at_call 33; (with_reducible refine c0.mono ?_); rintro r w1 ⟨rfl, hr1, hb1⟩; have st1 := st.read hr1 hb1; have c1 := rtext b e.text _ w1 (by have := hs.2.1; omega) st1.r)
                | (go_at_call 32; (with_reducible refine c1.mono ?_); rintro r w2 ⟨rfl, hr2, hb2⟩; have st2 := st1.read hr2 hb2; have c2 := rnat8 b e.snd _ w2 hf.snd st2.r)
                | (go_at_call 34; (with_reducible refine c2.mono ?_); rintro r w3 ⟨rfl, hr3, hb3⟩; have st3 := st2.read hr3 hb3; have c3 := rnat8 b e.rcv _ w3 hf.rcv st3.r)
                | (go_at_call 34; (with_reducible refine c3.mono ?_); rintro r w5 ⟨rfl, hr5, hb5⟩; have st5 := st3.read hr5 hb5; have b4 : w5.cell? ⟨eb, 4, none⟩ = some (S (q3 e).text) := cell_of st5.q; have b5 : w5.cell? ⟨eb, 5, none⟩ = some (.bool (q3 e).flag) := cell_of st5.q; have b6 : w5.cell? ⟨eb, 6, none⟩ = some (.int .u8 (q3 e).snd) := cell_of st5.q; have b7 : w5.cell? ⟨eb, 7, none⟩ = some (.int .u8 (q3 e).rcv) := cell_of st5.q; have zq : ∀ j, w5.frozen? ⟨eb, j, none⟩ = false := fun j => frozen_of st5.q))
              have p1' := st5.put (W' := w5.setCell ⟨eb, 5, none⟩ (.bool e.flag)) (heap_setCell_same _ eb 5 _ 30 _ st5.q) (But.setCell eb 5 _ _)
              have p2' := p1'.put (W' := (w5.setCell ⟨eb, 5, none⟩ (.bool e.flag)).setCell ⟨eb, 4, none⟩ (S e.text)) (heap_setCell_same _ eb 4 _ 30 _ p1'.q) (But.setCell eb 4 _ _)
              have p3' := p2'.put (W' := ((w5.setCell ⟨eb, 5, none⟩ (.bool e.flag)).setCell ⟨eb, 4, none⟩ (S e.text)).setCell ⟨eb, 6, none⟩ (.int .u8 e.snd)) (heap_setCell_same _ eb 6 _ 30 _ p2'.q) (But.setCell eb 6 _ _)
              have p4' := p3'.put (W' := (((w5.setCell ⟨eb, 5, none⟩ (.bool e.flag)).setCell ⟨eb, 4, none⟩ (S e.text)).setCell ⟨eb, 6, none⟩ (.int .u8 e.snd)).setCell ⟨eb, 7, none⟩ (.int .u8 e.rcv)) (heap_setCell_same _ eb 7 _ 30 _ p3'.q) (But.setCell eb 7 _ _)
              rw [← hq4] at p4'
              go_meet
              exact ⟨rfl, by rw [i6], _, p4', hnl _⟩
            have i6 : ¬ (e.k : Int) = 6 := by omega
            by_cases k7 : e.k = 7
            · have i7 : (e.k : Int) = 7 := by omega
              have hw4 : tl e = [e.m.w, ansW e.flag] := by unfold tl; rw [if_neg hn, if_neg k6, if_pos k7]
              have hom : (onlyD e).m = e.m := by unfold onlyD; rw [if_neg hn, if_neg k6, if_pos k7]
              rw [hw4] at st
              have c0 := rpmsg b e.m.p e.m.t e.m.c e.m.id e.m.body [ansW e.flag] wc st.mx (by have := st.lo; omega) hf.p hf.t hf.c (by have := hs.2.2.2.1; omega) (by have := hs.2.2.2.2; omega) st.r
              go_wp2_with (first
                | (go_at_call 35; (with_reducible refine c0.mono ?_); rintro r w1 ⟨⟨bv, rfl, hbv⟩, hr1, hb1⟩; have st1 := st.read hr1 hb1; have hbv0 := hbv; obtain ⟨va, vc, rfl, _⟩ := hbv0; have c1 := ryes b e.flag _ w1 st1.r)
                | (go_at_call 33; (with_reducible refine c1.mono ?_); rintro r w2 ⟨rfl, hr2, hb2⟩; have st2 := st1.read hr2 hb2; have hsq := st2.q)
                | (refine wpList_store_part rfl 25 _ _ rfl eb 8 #[.int .u8 e.m.p, .int .u32 e.m.t, .int .u32 e.m.c, S e.m.id, .slice va e.m.body.length vc] _ 30 rfl rfl hsq (by show 8 + 5 ≤ 17; omega) info25' rfl ?_; intro w3 h3 hbut3 hsz3; have p1 := st2.put h3 hbut3; have b5 : w3.cell? ⟨eb, 5, none⟩ = some (.bool (q3 e).flag) := cell_of h3; have z5 : w3.frozen? ⟨eb, 5, none⟩ = false := frozen_of h3))
              have p2 := p1.put (W' := w3.setCell ⟨eb, 5, none⟩ (.bool e.flag)) (heap_setCell_same _ eb 5 _ 30 _ p1.q) (But.setCell eb 5 _ _)
              have st4 : Rs w B b eb [] ((onlyD e).cs (.slice va e.m.body.length vc)) (w3.setCell ⟨eb, 5, none⟩ (.bool e.flag)) := by
                have := p2
                unfold onlyD
                rw [if_neg hn, if_neg k6, if_pos k7]
                exact this
              have heb := lt_of st.q
              have hbB := st.r.bB
              have hlo := st.lo
              go_meet
              refine ⟨rfl, by rw [i7], _, st4, ?_⟩
              rw [hom]
              exact ((((hbv.but hb2 (by omega)).but hbut3 (by omega)).but (But.setCell eb 5 w3 _) (by omega)).mono (by omega))
            have i7 : ¬ (e.k : Int) = 7 := by omega
            by_cases k10 : e.k = 10
            · have i10 : (e.k : Int) = 10 := by omega
              have hw4 : tl e = [hexW e.text, outW e.ok e.oa e.ob e.cond] := by unfold tl; rw [if_neg hn, if_neg k6, if_neg k7, if_pos k10]
              have hnl := only_nil e k7 (w.heap.size + 1)
              rw [hw4] at st
              have c0 := rtext b e.text [outW e.ok e.oa e.ob e.cond] wc (by have := hs.2.1; omega) st.r
              go_wp2_with (first
                | (go_at_call 32; (with_reducible refine c0.mono ?_); rintro r w1 ⟨rfl, hr1, hb1⟩; have st1 := st.read hr1 hb1; have c1 := rpout b e.ok e.oa e.ob e.cond [] w1 st1.mx (by have := st.lo; omega) hf.ok hf.oa hf.ob (by have := hs.2.2.1; omega) st1.r)
                | (go_at_call 37; (with_reducible refine c1.mono ?_); rintro r w2 ⟨rfl, hr2, hb2⟩; have st2 := st1.read hr2 hb2; have b4 : w2.cell? ⟨eb, 4, none⟩ = some (S (q3 e).text) := cell_of st2.q; have z4 : w2.frozen? ⟨eb, 4, none⟩ = false := frozen_of st2.q; have p1 := st2.put (W' := w2.setCell ⟨eb, 4, none⟩ (S e.text)) (heap_setCell_same _ eb 4 _ 30 _ st2.q) (But.setCell eb 4 _ _); have hsq := p1.q)
                | (refine wpList_store_part rfl 28 _ _ rfl eb 13 #[.int .u8 e.ok, .int .u64 e.oa, .int .u64 e.ob, S e.cond] _ 30 rfl rfl hsq (by show 13 + 4 ≤ 17; omega) info28' rfl ?_; intro w3 h3 hbut3 hsz3; have p2 := p1.put h3 hbut3))
              have st4 : Rs w B b eb [] ((onlyD e).cs nilB) w3 := by
                have := p2
                unfold onlyD
                rw [if_neg hn, if_neg k6, if_neg k7, if_pos k10]
                exact this
              go_meet
              exact ⟨rfl, by rw [i10], _, st4, hnl _⟩
            have i10 : ¬ (e.k : Int) = 10 := by omega
            have hq4 : onlyD e = q3 e := by unfold onlyD; rw [if_neg hn, if_neg k6, if_neg k7, if_neg k10]
            have hw4 : tl e = [] := by unfold tl; rw [if_neg hn, if_neg k6, if_neg k7, if_neg k10]
            have hnl := only_nil e k7 (w.heap.size + 1)
            rw [hw4] at st
            go_wp2_with fail
            go_meet
            exact ⟨rfl, rfl, _, by rw [hq4]; exact st, hnl _⟩
        case rest =>
          clear a0 st
          obtain ⟨rfl, rfl, bv, st, hbv⟩ := hcut
          rw [hon] at st hbv
          have hbv0 := hbv
          obtain ⟨va, vc, rfl, _⟩ := hbv0
          have c8 := formS e _ wc hf hs hbv.v st.pow
          have hsq := st.q
          have hjj : (Lib.join (wordsD e) [32] != Lib.join (wordsD e) [32]) = false := bne_self_eq_false _
          go_wp2_with (first
            | (refine wpList_load_row rfl 30 _ rfl eb rfl 30 _ (0, 0) _ hsq Tryz.underlying30 rfl info30' ?_)
            | (go_at_call 8; (with_reducible refine c8.mono ?_); rintro r w1 ⟨hfp, hb1⟩; obtain rfl := form_good hg hfp; have st1 := st.step hb1; have a1 := st1.r.cell1; have hsq1 := st1.q; have hz1 := st1.z)
            | (refine wpList_load_row rfl 30 _ rfl eb rfl 30 _ (0, 0) _ hsq1 Tryz.underlying30 rfl info30' ?_)
            | (refine wpList_store_whole rfl 30 _ _ rfl w.heap.size (e.cs (.slice va e.m.body.length vc)) _ 30 rfl rfl hz1 rfl info30' rfl ?_; intro w3 h3 hbut hsz3))
          refine bodyPost_ret (results_cell_tmp Tryz.results11 _ _ w.heap.size 30 _ _ rfl h3 Tryz.underlying30 rfl info30') rfl ?_
          subst hQ
          exact ⟨⟨_, rfl, ((hbv.below hb1).but hbut (by omega)).v⟩, st1.below.trans (hbut.below (Nat.le_refl _) st1.below.size)⟩
end Go.Proofs.YtaojoifpekoecaaGreatDoor


namespace Go.Proofs.YtaojoifpekoecaaGreatDoor
open Go.RowKit Go.Shelf
set_option maxHeartbeats 40000000
set_option maxRecDepth 100000
theorem form_bad {e : EvD} {r : Ending} (hg : ¬ Good e) (h : FormP e r) : r = .returned (.tuple #[S [], .int .i64 1]) := by
  rcases h with h | h
  · exact absurd h.1 hg
  · exact h.2
/-- what stands while the law goes: the event, its copy, the tables -/
structure Ls (w : World) (ib : Nat) (ce ci : Array Value) (W : World) : Prop where
  he : W.heap[w.heap.size]? = some (.cells ce 30)
  hi : W.heap[ib]? = some (.cells ci 30)
  below : Below w.heap.size w W
theorem Ls.step {w W W' : World} {ib : Nat} {ce ci : Array Value} (h : Ls w ib ce ci W) (hb : Below W.heap.size W W') : Ls w ib ce ci W' :=
  ⟨(hb.block _ (lt_of h.he)).trans h.he, (hb.block _ (lt_of h.hi)).trans h.hi, h.below.trans (hb.mono h.below.size)⟩
/-- THE LAW's FUNCTION RETURNS TRUE -/
theorem law3 (e : EvD) (bv : Value) (w : World) (hf : e.Fine) (hb : BytesV w bv e.m.body) (htab : Pow w) (hmx : Mx w)
    (hworks : ∀ W, Below w.heap.size w W → Calls Tryz.prog 6 #[] W fun e w' => e = .returned (.bool true) ∧ Below W.heap.size W w') :
    Calls Tryz.prog 3 #[.agg (e.cs bv)] w fun r w' => r = .returned (.bool true) ∧ Below w.heap.size w w' := by
  have hb00 := hb
  obtain ⟨ba, bc, rfl, _⟩ := hb00
  have hE0 := heap_alloc_last w (.cells (e.cs (.slice ba e.m.body.length bc)) 30)
  have hb0 : Below w.heap.size w ((w.alloc (.cells (e.cs (.slice ba e.m.body.length bc)) 30)).alloc (.cells (e.cs (.slice ba e.m.body.length bc)) 30)) := ((Below.refl _ _).alloc (Nat.le_refl _) _).alloc (by simp) _
  have hh0 : ((w.alloc (.cells (e.cs (.slice ba e.m.body.length bc)) 30)).alloc (.cells (e.cs (.slice ba e.m.body.length bc)) 30)).heap[w.heap.size + 1]? = some (.cells (e.cs (.slice ba e.m.body.length bc)) 30) := heap_alloc2_new w _ _
  have hE1 : ((w.alloc (.cells (e.cs (.slice ba e.m.body.length bc)) 30)).alloc (.cells (e.cs (.slice ba e.m.body.length bc)) 30)).heap[w.heap.size]? = some (.cells (e.cs (.slice ba e.m.body.length bc)) 30) := heap_alloc2_old w _ _
  have c5 := vast1 e _ _ (w.heap.size + 1) 1 (hb.below hb0 (Nat.le_refl _)) hh0
  generalize hQ : (fun (r : Ending) (w' : World) => r = .returned (.bool true) ∧ Below w.heap.size w w') = Q
  go_enter Tryz.func3, Tryz.ntmps3
  go_upto_if 12 with (first
    | (refine wpList_load_row rfl 30 _ rfl w.heap.size rfl 30 _ (0, 0) _ hE0 Tryz.underlying30 rfl info30' ?_)
    | (go_at_call 5; refine c5.mono ?_; rintro r w2 ⟨⟨b, rfl, hbs⟩, hb2⟩))
  have hbl2 : Below w.heap.size w w2 := hb0.trans (hb2.mono hb0.size)
  have hE2 : w2.heap[w.heap.size]? = some (.cells (e.cs (.slice ba e.m.body.length bc)) 30) := (hb2.block _ (lt_of hE1)).trans hE1
  clear c5 hh0 hE0 hE1
  cases b
  case true =>
    have c6 := hworks w2 hbl2
    go_wp2_with (first
      | (go_at_call 6; (with_reducible refine c6.mono ?_); rintro r w3 ⟨rfl, hb3⟩))
    subst hQ
    exact ⟨rfl, hbl2.trans (hb3.mono hbl2.size)⟩
  case false =>
    have hs : e.Slim := hbs rfl
    have c7 := copyEv e _ w2 (hb.below hbl2 (Nat.le_refl _)) (by have := hs.2.2.2.2; omega)
    go_upto_region 4 with (first
      | (refine wpList_load_row rfl 30 _ rfl w.heap.size rfl 30 _ (0, 0) _ hE2 Tryz.underlying30 rfl info30' ?_)
      | (go_at_call 7; (with_reducible refine c7.mono ?_); rintro r w4 ⟨⟨iv, rfl, hiv⟩, hb4⟩; have hiv0 := hiv; obtain ⟨ia, ic, rfl, _⟩ := hiv0; have hz4 := heap_alloc_last w4 (.cells zEv 30))
      | (refine wpList_store_whole rfl 30 _ _ rfl w4.heap.size (e.cs (.slice ia e.m.body.length ic)) _ 30 rfl rfl hz4 rfl info30' rfl ?_; intro w5 h5 hbut5 hsz5))
    have hk45 : Below w4.heap.size w4 w5 := ((Below.refl _ _).alloc (Nat.le_refl _) _).trans (hbut5.below (Nat.le_refl _) (by simp))
    have hbl5 : Below w.heap.size w w5 := (hbl2.trans (hb4.mono hbl2.size)).trans (hk45.mono (by have := hb4.size; have := hbl2.size; omega))
    have ls : Ls w w4.heap.size (e.cs (.slice ba e.m.body.length bc)) (e.cs (.slice ia e.m.body.length ic)) w5 := ⟨(hk45.block _ (by have := hb4.size; have := lt_of hE2; omega)).trans ((hb4.block _ (lt_of hE2)).trans hE2), h5, hbl5⟩
    have hv5 : BytesV w5 (.slice ia e.m.body.length ic) e.m.body := (hiv.below hk45).v
    have c8 := formS e _ w5 hf hs hv5 (htab.below hbl5 (Nat.le_refl _))
    clear hz4 hk45 h5 hbut5 hsz5 hE2 hb4 hiv c7
    have hls := ls.hi
    have hsn : (([] : List UInt8) != []) = false := rfl
    have hjj : (Lib.join (wordsD e) [32] != Lib.join (wordsD e) [32]) = false := bne_self_eq_false _
    by_cases hg : Good e
    case neg =>
      go_wp2_with (first
        | (refine wpList_load_row rfl 30 _ rfl w4.heap.size rfl 30 _ (0, 0) _ hls Tryz.underlying30 rfl info30' ?_)
        | (go_at_call 8; (with_reducible refine c8.mono ?_); rintro r w6 ⟨hfp, hb6⟩; obtain rfl := form_bad hg hfp; have ls6 := ls.step hb6; have he6 := ls6.he; have c9 := formR e _ w6 hf hs (hb.below ls6.below (Nat.le_refl _)) (htab.below ls6.below (Nat.le_refl _)))
        | (refine wpList_load_row rfl 30 _ rfl w.heap.size rfl 30 _ (0, 0) _ he6 Tryz.underlying30 rfl info30' ?_)
        | (go_at_call 9; (with_reducible refine c9.mono ?_); rintro r w7 ⟨hfp7, hb7⟩; obtain rfl := form_bad hg hfp7; have ls7 := ls6.step hb7; have he7 := ls7.he; have hi7 := ls7.hi; have c10 := sameEv e e _ _ w7 ((hv5.below hb6 (Nat.le_refl _)).below hb7 (Nat.le_refl _)) (hb.below ls7.below (Nat.le_refl _)))
        | (refine wpList_load_if (by rfl) 30 _ rfl w4.heap.size rfl 30 _ (0, 0) _ hi7 Tryz.underlying30 rfl info30' ?_)
        | (refine wpList_load_if (by rfl) 30 _ rfl w.heap.size rfl 30 _ (0, 0) _ he7 Tryz.underlying30 rfl info30' ?_)
        | (go_at_call 10; (with_reducible refine c10.mono ?_); rintro r w8 ⟨⟨b8, rfl, hb8e⟩, hb8⟩; obtain rfl := hb8e.2 (by first | rfl | trivial); have hbl8 := ls7.below.trans (hb8.mono ls7.below.size); have c6 := hworks w8 hbl8)
        | (go_at_call 6; (with_reducible refine c6.mono ?_); rintro r w9 ⟨rfl, hb9⟩))
      subst hQ
      exact ⟨rfl, hbl8.trans (hb9.mono hbl8.size)⟩
    case pos =>
      go_wp2_with (first
        | (refine wpList_load_row rfl 30 _ rfl w4.heap.size rfl 30 _ (0, 0) _ hls Tryz.underlying30 rfl info30' ?_)
        | (go_at_call 8; (with_reducible refine c8.mono ?_); rintro r w6 ⟨hfp, hb6⟩; obtain rfl := form_good hg hfp; have ls6 := ls.step hb6; have he6 := ls6.he; have c9 := formR e _ w6 hf hs (hb.below ls6.below (Nat.le_refl _)) (htab.below ls6.below (Nat.le_refl _)))
        | (refine wpList_load_row rfl 30 _ rfl w.heap.size rfl 30 _ (0, 0) _ he6 Tryz.underlying30 rfl info30' ?_)
        | (go_at_call 9; (with_reducible refine c9.mono ?_); rintro r w7 ⟨hfp7, hb7⟩; obtain rfl := form_good hg hfp7; have ls7 := ls6.step hb7; have he7 := ls7.he; have hi7 := ls7.hi; have c10 := sameEv e e _ _ w7 ((hv5.below hb6 (Nat.le_refl _)).below hb7 (Nat.le_refl _)) (hb.below ls7.below (Nat.le_refl _)))
        | (refine wpList_load_if (by rfl) 30 _ rfl w4.heap.size rfl 30 _ (0, 0) _ hi7 Tryz.underlying30 rfl info30' ?_)
        | (refine wpList_load_if (by rfl) 30 _ rfl w.heap.size rfl 30 _ (0, 0) _ he7 Tryz.underlying30 rfl info30' ?_)
        | (go_at_call 10; (with_reducible refine c10.mono ?_); rintro r w8 ⟨⟨b8, rfl, hb8e⟩, hb8⟩; obtain rfl := hb8e.2 (by first | rfl | trivial); have ls8 := ls7.step hb8; have c11 := readS e w8 hg hf hs (htab.below ls8.below (Nat.le_refl _)) (hmx.below ls8.below (Nat.le_refl _)))
        | (go_at_call 11; (with_reducible refine c11.mono ?_); rintro r w9 ⟨⟨dv, rfl, hdv⟩, hb9⟩; have ls9 := ls8.step hb9; have hdv0 := hdv; obtain ⟨da, dc, rfl, _⟩ := hdv0; have hz9 := heap_alloc_last w9 (.cells zEv 30))
        | (refine wpList_store_whole rfl 30 _ _ rfl w9.heap.size (e.cs (.slice da e.m.body.length dc)) _ 30 rfl rfl hz9 rfl info30' rfl ?_; intro w10 h10 hbut10 hsz10
           have hk910 : Below w9.heap.size w9 w10 := ((Below.refl _ _).alloc (Nat.le_refl _) _).trans (hbut10.below (Nat.le_refl _) (by simp))
           have ls10 := ls9.step hk910
           have he10 := ls10.he
           have c12 := sameEv e e _ _ w10 (hb.below ls10.below (Nat.le_refl _)) (hdv.below hk910 (Nat.le_refl _)))
        | (refine wpList_load_if (by rfl) 30 _ rfl w.heap.size rfl 30 _ (0, 0) _ he10 Tryz.underlying30 rfl info30' ?_)
        | (refine wpList_load_if (by rfl) 30 _ rfl w9.heap.size rfl 30 _ (0, 0) _ h10 Tryz.underlying30 rfl info30' ?_)
        | (go_at_call 10; (with_reducible refine c12.mono ?_); rintro r w11 ⟨⟨b11, rfl, hb11e⟩, hb11⟩; obtain rfl := hb11e.2 (by first | rfl | trivial); have ls11 := ls10.step hb11; have c6 := hworks w11 ls11.below)
        | (go_at_call 6; (with_reducible refine c6.mono ?_); rintro r w12 ⟨rfl, hb12⟩))
      subst hQ
      exact ⟨rfl, ls11.below.trans (hb12.mono ls11.below.size)⟩
end Go.Proofs.YtaojoifpekoecaaGreatDoor
