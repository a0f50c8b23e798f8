/-
  The reference's only. Conditions: as the theorem says.
-/
import Derived.Test.YtaojoifpekoecaaGreatDoorFC
import Derived.Deep.RegionWith
namespace Go.Proofs.YtaojoifpekoecaaGreatDoor
open Go.RowKit Go.Shelf
set_option maxHeartbeats 40000000
set_option maxRecDepth 100000
theorem kw_ne (e : EvD) (hk1 : 1 ≤ e.k) (hk2 : e.k < 14) : kw e ≠ [] := by
  unfold kw
  have : ∀ i : Fin 14, 1 ≤ i.val → (kindWs[i.val]?).getD [] ≠ [] := by decide
  exact this ⟨e.k, hk2⟩ hk1
theorem only (e : EvD) (bv : Value) (w : World) (hk1 : 1 ≤ e.k) (hk2 : e.k < 14) (hf : e.Fine) (hs : e.Slim) (hb : BytesV w bv e.m.body) (htab : Pow w) :
    Calls Tryz.prog 24 #[.agg (e.cs bv)] w fun r w' => (∃ v, r = .returned (.tuple #[.agg ((onlyD e).cs (onlyB e bv)), v]) ∧ StrsV w' v (wordsD e)) ∧ Below w.heap.size w w' := by
  have hb0 := hb
  obtain ⟨ba, bc, rfl, _⟩ := hb0
  have h3w := pow_lt htab
  obtain ⟨i0, hi, hz0, hz1, hz2⟩ := info_parts infoStr
  have hkn : ((kindWs[e.k]?).getD []).isEmpty = false := by
    have := kw_ne e hk1 hk2
    unfold kw at this
    cases hh : (kindWs[e.k]?).getD [] with
    | nil => exact absurd hh this
    | cons => rfl
  have ws3 : IntKind.i64.wrap (e.snd : Int) = e.snd := by rw [IntKind.wrap_i64]; have := hf.snd; omega
  have ws4 : IntKind.i64.wrap (e.rcv : Int) = e.rcv := by rw [IntKind.wrap_i64]; have := hf.rcv; omega
  have c65 := fun W => refWord e.k hf.k W
  have v1 : ∀ W : World, (W.alloc (.cells (e.cs (.slice ba e.m.body.length bc)) 30)).heap.size = W.heap.size + 1 := fun W => by simp
  have z0 : (((w.alloc (.cells (e.cs (.slice ba e.m.body.length bc)) 30)).alloc (.cells zEv 30)).alloc (.cells zEv 30)).heap[w.heap.size + 1 + 1]? = some (.cells zEv 30) := by
    have := heap_alloc_last ((w.alloc (.cells (e.cs (.slice ba e.m.body.length bc)) 30)).alloc (.cells zEv 30)) (.cells zEv 30)
    simpa using this
  have y0 : (((w.alloc (.cells (e.cs (.slice ba e.m.body.length bc)) 30)).alloc (.cells zEv 30)).alloc (.cells zEv 30)).heap[w.heap.size]? = some (.cells (e.cs (.slice ba e.m.body.length bc)) 30) := by
    rw [((Below.refl (w.heap.size + 2) ((w.alloc (.cells (e.cs (.slice ba e.m.body.length bc)) 30)).alloc (.cells zEv 30))).alloc (by simp) _).block _ (by omega)]; exact heap_alloc2_old w _ _
  have y1 : (((w.alloc (.cells (e.cs (.slice ba e.m.body.length bc)) 30)).alloc (.cells zEv 30)).alloc (.cells zEv 30)).heap[w.heap.size + 1]? = some (.cells zEv 30) := by
    rw [((Below.refl (w.heap.size + 2) ((w.alloc (.cells (e.cs (.slice ba e.m.body.length bc)) 30)).alloc (.cells zEv 30))).alloc (by simp) _).block _ (by omega)]; exact heap_alloc2_new w _ _
  have hbl0 : Below w.heap.size w (((w.alloc (.cells (e.cs (.slice ba e.m.body.length bc)) 30)).alloc (.cells zEv 30)).alloc (.cells zEv 30)) := (((Below.refl w.heap.size w).alloc (Nat.le_refl _) _).alloc (by simp) _).alloc (by simp; omega) _
  generalize hQ : (fun (r : Ending) (w' : World) => (∃ v, r = .returned (.tuple #[.agg ((onlyD e).cs (onlyB e (.slice ba e.m.body.length bc))), v]) ∧ StrsV w' v (wordsD e)) ∧ Below w.heap.size w w') = Q
  go_enter Tryz.func24, Tryz.ntmps24
  go_upto_region 5 with (first
    | (refine wpList_store_whole rfl 30 _ _ rfl (w.heap.size + 1 + 1) ((q1 e).cs nilB) _ 30 rfl rfl z0 rfl info30' rfl ?_; intro w3 h3 hbut hsz3; have a3 : w3.cell? ⟨w.heap.size, 0, none⟩ = some (.int .u8 e.k) := cell_of ((hbut.block w.heap.size (by simp; omega) (by omega)).trans y0))
    | (go_at_call 65; with_reducible refine (c65 _).mono ?_; rintro r w1 ⟨rfl, hb1⟩))
  have st0 : St w (e.cs (.slice ba e.m.body.length bc)) (.cells zEv 30) (w.heap.size + 1 + 1) ((q1 e).cs nilB) w1.heap.size 1 [kw e] (w1.alloc (.cells #[S ((kindWs[e.k]?).getD [])] 9)) := by
    have hbw : Below w3.heap.size w3 (w1.alloc (.cells #[S ((kindWs[e.k]?).getD [])] 9)) := hb1.alloc hb1.size _
    have hs3 : w3.heap.size = w.heap.size + 3 := by rw [hsz3]; simp
    have hs1 := hb1.size
    refine ⟨?_, ?_, ?_, by omega, ?_, by omega, ?_, ?_⟩
    · rw [hbw.block w.heap.size (by omega), hbut.block w.heap.size (by simp; omega) (by omega)]; exact y0
    · rw [hbw.block (w.heap.size + 1) (by omega), hbut.block (w.heap.size + 1) (by simp) (by omega)]; exact y1
    · rw [hbw.block (w.heap.size + 1 + 1) (by omega)]; exact h3
    · exact own_new (w.heap.size + 2) w1 [kw e] (by omega) (by simp)
    · have p1 : Pow w3 := pow_but (htab.below hbl0 (Nat.le_refl _)) hbut (by omega)
      exact p1.below hbw (Nat.le_refl _)
    · exact (hbl0.trans (hbut.below (by omega) hbl0.size)).trans (hbw.mono (by omega))
  generalize w1.alloc (.cells #[S ((kindWs[e.k]?).getD [])] 9) = V0 at st0 ⊢
  go_cut [4, 5, 26] (fun q l c wx => ∃ qb g cap b, q = .pointer (some ⟨qb, 0, none⟩) ∧ l = .slice (some ⟨g, 0, none⟩) 1 cap ∧ c = .bool b ∧ (b = true ↔ ¬ (e.k = 5 ∨ e.k = 13)) ∧ St w (e.cs (.slice ba e.m.body.length bc)) (.cells zEv 30) qb ((q1 e).cs nilB) g cap [kw e] wx)
  case first =>
    have a0 : V0.cell? ⟨w.heap.size, 0, none⟩ = some (.int .u8 e.k) := cell_of st0.e
    by_cases i5 : (e.k : Int) = 5
    · go_wp2_with fail
      go_meet
      exact ⟨_, _, _, false, rfl, rfl, rfl, ⟨fun h => (by cases h), fun h => absurd (.inl (by omega)) h⟩, st0⟩
    · by_cases i13 : (e.k : Int) = 13
      · go_wp2_with fail
        go_meet
        exact ⟨_, _, _, false, rfl, rfl, rfl, ⟨fun h => (by cases h), fun h => absurd (.inr (by omega)) h⟩, st0⟩
      · go_wp2_with fail
        go_meet
        exact ⟨_, _, _, true, rfl, rfl, by simp [i5, i13], ⟨fun _ h => by omega, fun _ => rfl⟩, st0⟩
  case rest =>
    clear st0 a3 h3 hbut hsz3 hb1 z0 y0 y1 hbl0 hkn c65 v1
    obtain ⟨qb, g, cap, b, rfl, rfl, rfl, hal, st⟩ := hcut
    go_upto_if 26 with fail
    go_cut [5] (fun l wx => ∃ g cap, l = .slice (some ⟨g, 0, none⟩) (wd2 e).length cap ∧ St w (e.cs (.slice ba e.m.body.length bc)) (.cells zEv 30) qb ((q2 e).cs nilB) g cap (wd2 e) wx)
    case first =>
      cases b
      case false =>
        have hal' : e.k = 5 ∨ e.k = 13 := Classical.not_not.1 fun h => by cases hal.2 h
        have hq2 : q2 e = q1 e := if_pos hal'
        have hw2 : wd2 e = [kw e] := if_pos hal'
        go_wp2_with fail
        go_meet
        rw [hq2, hw2]
        exact ⟨g, cap, rfl, st⟩
      case true =>
        have hal' : ¬ (e.k = 5 ∨ e.k = 13) := hal.1 rfl
        clear hal
        have hq2 : (q2 e).cs nilB = ((q1 e).cs nilB).setIfInBounds 1 (.int .i64 e.who) := by unfold q2; rw [if_neg hal']; rfl
        have hw2 : wd2 e = [kw e] ++ [Lib.itoa e.who] := if_neg hal'
        have l1 : True := trivial
        have a1 : wc.cell? ⟨w.heap.size, 1, none⟩ = some (.int .i64 e.who) := cell_of st.e
        have b1 : wc.cell? ⟨qb, 1, none⟩ = some (.int .i64 0) := cell_of st.q
        have z1 : wc.frozen? ⟨qb, 1, none⟩ = false := frozen_of st.q
        have st1 := st.put (W' := wc.setCell ⟨qb, 1, none⟩ (.int .i64 e.who)) h3w (heap_setCell_same wc qb 1 _ 30 _ st.q) (But.setCell qb 1 wc _)
        rw [← hq2] at st1
        have a1' : (wc.setCell ⟨qb, 1, none⟩ (.int .i64 e.who)).cell? ⟨w.heap.size, 1, none⟩ = some (.int .i64 e.who) := cell_of st1.e
        have c0 := number e.who hf.who.1 hf.who.2 (wc.setCell ⟨qb, 1, none⟩ (.int .i64 e.who))
        go_wp2_with (first
          | (go_at_call 45; with_reducible refine c0.mono ?_; rintro r w1 ⟨rfl, hb1⟩; have st2 := (st1.step hb1).step ((Below.refl _ _).alloc (Nat.le_refl _) (.cells #[S (Lib.itoa e.who)] 9)))
          | (at_builtin; refine wpList_append_lies _ rfl _ _ 58 (by rfl) (w.heap.size + 2) 9 i0 (.string { data := #[] }) 1 16 Tryz.underlying58 hi hz0 hz1 hz2 rfl (by decide) _ _ _ (by rfl) st2.l ⟨w1.heap.size, 0, none⟩ 1 1 [S (Lib.itoa e.who)] (by rfl) rfl ?c1 ?c2 (by omega) ?c3 ?c4 ?c5 (w1.heap.size + 1) (by simp) ?_))
        case c1 =>
          intro j u hj
          match j, hj with
          | 0, hj => simp at hj; subst hj; simp [Addr.add]
        case c2 => intro u hu; simp at hu; subst hu; rfl
        case c3 => have := l1; simp [maxLen]; try omega
        case c4 => have := l1; simp; try omega
        case c5 => have := st2.below.size; simp at this ⊢; have := lt_of st2.r; simp at this; omega
        intro g2 cap2 w3 hown hgrow hat hlt
        have st3 := st2.grow (news := [Lib.itoa e.who]) h3w (by simpa using hown) rfl hgrow hat (by simp)
        go_wp2_with fail
        go_meet
        rw [hw2]
        exact ⟨_, _, by simp, st3⟩
    case rest =>
      clear hal st
      obtain ⟨g, cap, rfl, st⟩ := hcut
      have a0 : wc.cell? ⟨w.heap.size, 0, none⟩ = some (.int .u8 e.k) := cell_of st.e
      have l2 : (wd2 e).length ≤ 2 := by unfold wd2; split <;> simp
      go_upto_if 38 with fail
      go_cut [5] (fun l wx => ∃ g cap, l = .slice (some ⟨g, 0, none⟩) (wd3 e).length cap ∧ St w (e.cs (.slice ba e.m.body.length bc)) (.cells zEv 30) qb ((q3 e).cs nilB) g cap (wd3 e) wx)
      case first =>
        by_cases h6 : 6 ≤ e.k
        · have hi6 : (6 : Int) ≤ (e.k : Int) := by omega
          have hq3 : (q3 e).cs nilB = ((q2 e).cs nilB).setIfInBounds 3 (S e.name) := by unfold q3; rw [if_pos h6]; rfl
          have hw3 : wd3 e = wd2 e ++ [hexW e.name] := if_pos h6
          have a3 : wc.cell? ⟨w.heap.size, 3, none⟩ = some (S e.name) := cell_of st.e
          have b3 : wc.cell? ⟨qb, 3, none⟩ = some (S (q2 e).name) := cell_of st.q
          have z3 : wc.frozen? ⟨qb, 3, none⟩ = false := frozen_of st.q
          have st1 := st.put (W' := wc.setCell ⟨qb, 3, none⟩ (S e.name)) h3w (heap_setCell_same wc qb 3 _ 30 _ st.q) (But.setCell qb 3 wc _)
          rw [← hq3] at st1
          have a3' : (wc.setCell ⟨qb, 3, none⟩ (S e.name)).cell? ⟨w.heap.size, 3, none⟩ = some (S e.name) := cell_of st1.e
          have c0 := str e.name (wc.setCell ⟨qb, 3, none⟩ (S e.name)) (by have := hs.1; omega)
          go_wp2_with (first
            | (go_at_call 55; with_reducible refine c0.mono ?_; rintro r w1 ⟨rfl, hb1⟩; have st2 := (st1.step hb1).step ((Below.refl _ _).alloc (Nat.le_refl _) (.cells #[S (hexW e.name)] 9)))
            | (at_builtin; refine wpList_append_lies _ rfl _ _ 58 (by rfl) (w.heap.size + 2) 9 i0 (.string { data := #[] }) 1 16 Tryz.underlying58 hi hz0 hz1 hz2 rfl (by decide) _ _ _ (by rfl) st2.l ⟨w1.heap.size, 0, none⟩ 1 1 [S (hexW e.name)] (by rfl) rfl ?c1 ?c2 (by omega) ?c3 ?c4 ?c5 (w1.heap.size + 1) (by simp) ?_))
          case c1 =>
            intro j u hj
            match j, hj with
            | 0, hj => simp at hj; subst hj; simp [Addr.add]
          case c2 => intro u hu; simp at hu; subst hu; rfl
          case c3 => have := l2; simp [maxLen]; try omega
          case c4 => have := l2; simp; try omega
          case c5 => have := st2.below.size; simp at this ⊢; have := lt_of st2.r; simp at this; omega
          intro g2 cap2 w3 hown hgrow hat hlt
          have st3 := st2.grow (news := [hexW e.name]) h3w (by simpa using hown) rfl hgrow hat (by simp)
          go_wp2_with fail
          go_meet
          rw [hw3]
          exact ⟨_, _, by simp, st3⟩
        · have hi6 : ¬ (6 : Int) ≤ (e.k : Int) := by omega
          have hq3 : q3 e = q2 e := if_neg h6
          have hw3 : wd3 e = wd2 e := if_neg h6
          go_wp2_with fail
          go_meet
          rw [hq3, hw3]
          exact ⟨g, cap, rfl, st⟩
      case rest =>
        clear a0 st
        obtain ⟨g, cap, rfl, st⟩ := hcut
        have a0 : wc.cell? ⟨w.heap.size, 0, none⟩ = some (.int .u8 e.k) := cell_of st.e
        have l3 : (wd3 e).length ≤ 3 := by unfold wd3; split <;> (try simp) <;> omega
        go_upto_block 0 with fail
        go_cut [5, 49] (fun l s wx => s = .int .u8 e.k ∧ ∃ g cap, l = .slice (some ⟨g, 0, none⟩) (wordsD e).length cap ∧ St w (e.cs (.slice ba e.m.body.length bc)) (.cells zEv 30) qb ((onlyD e).cs (onlyB e (.slice ba e.m.body.length bc))) g cap (wordsD e) wx)
        case first =>
          by_cases hn : e.k = 3 ∨ e.k = 4 ∨ e.k = 5 ∨ e.k = 8
          · have hq4 : (onlyD e).cs (onlyB e (.slice ba e.m.body.length bc)) = ((q3 e).cs nilB).setIfInBounds 2 (.int .i64 e.n) := by
              unfold onlyD onlyB; rw [if_pos hn, if_neg (by omega)]; rfl
            have hw4 : wordsD e = wd3 e ++ [Lib.itoa e.n] := if_pos hn
            by_cases k3 : e.k = 3
            · have i3 : (e.k : Int) = 3 := by omega
              have a2 : wc.cell? ⟨w.heap.size, 2, none⟩ = some (.int .i64 e.n) := cell_of st.e
              have b2 : wc.cell? ⟨qb, 2, none⟩ = some (.int .i64 (q3 e).n) := cell_of st.q
              have z2 : wc.frozen? ⟨qb, 2, none⟩ = false := frozen_of st.q
              have st1 := st.put (W' := wc.setCell ⟨qb, 2, none⟩ (.int .i64 e.n)) h3w (heap_setCell_same wc qb 2 _ 30 _ st.q) (But.setCell qb 2 wc _)
              rw [← hq4] at st1
              have a2' : (wc.setCell ⟨qb, 2, none⟩ (.int .i64 e.n)).cell? ⟨w.heap.size, 2, none⟩ = some (.int .i64 e.n) := cell_of st1.e
              have c0 := number e.n hf.n.1 hf.n.2 (wc.setCell ⟨qb, 2, none⟩ (.int .i64 e.n))
              go_wp2_with (first
                | (go_at_call 45; with_reducible refine c0.mono ?_; rintro r w1 ⟨rfl, hb1⟩; have st2 := (st1.step hb1).step ((Below.refl _ _).alloc (Nat.le_refl _) (.cells #[S (Lib.itoa e.n)] 9)))
                | (at_builtin; refine wpList_append_lies _ rfl _ _ 58 (by rfl) (w.heap.size + 2) 9 i0 (.string { data := #[] }) 1 16 Tryz.underlying58 hi hz0 hz1 hz2 rfl (by decide) _ _ _ (by rfl) st2.l ⟨w1.heap.size, 0, none⟩ 1 1 [S (Lib.itoa e.n)] (by rfl) rfl ?c1 ?c2 (by omega) ?c3 ?c4 ?c5 (w1.heap.size + 1) (by simp) ?_))
              case c1 =>
                intro j u hj
                match j, hj with
                | 0, hj => simp at hj; subst hj; simp [Addr.add]
              case c2 => intro u hu; simp at hu; subst hu; rfl
              case c3 => have := l3; simp [maxLen]; try omega
              case c4 => have := l3; simp; try omega
              case c5 => have := st2.below.size; simp at this ⊢; have := lt_of st2.r; simp at this; omega
              intro g2 cap2 w3 hown hgrow hat hlt
              have st3 := st2.grow (news := [Lib.itoa e.n]) h3w (by simpa using hown) rfl hgrow hat (by simp)
              go_wp2_with fail
              go_meet
              rw [hw4]
              exact ⟨by rw [i3], _, _, by simp, st3⟩
            have i3 : ¬ (e.k : Int) = 3 := by omega
            by_cases k4 : e.k = 4
            · have i4 : (e.k : Int) = 4 := by omega
              have a2 : wc.cell? ⟨w.heap.size, 2, none⟩ = some (.int .i64 e.n) := cell_of st.e
              have b2 : wc.cell? ⟨qb, 2, none⟩ = some (.int .i64 (q3 e).n) := cell_of st.q
              have z2 : wc.frozen? ⟨qb, 2, none⟩ = false := frozen_of st.q
              have st1 := st.put (W' := wc.setCell ⟨qb, 2, none⟩ (.int .i64 e.n)) h3w (heap_setCell_same wc qb 2 _ 30 _ st.q) (But.setCell qb 2 wc _)
              rw [← hq4] at st1
              have a2' : (wc.setCell ⟨qb, 2, none⟩ (.int .i64 e.n)).cell? ⟨w.heap.size, 2, none⟩ = some (.int .i64 e.n) := cell_of st1.e
              have c0 := number e.n hf.n.1 hf.n.2 (wc.setCell ⟨qb, 2, none⟩ (.int .i64 e.n))
              go_wp2_with (first
                | (go_at_call 45; with_reducible refine c0.mono ?_; rintro r w1 ⟨rfl, hb1⟩; have st2 := (st1.step hb1).step ((Below.refl _ _).alloc (Nat.le_refl _) (.cells #[S (Lib.itoa e.n)] 9)))
                | (at_builtin; refine wpList_append_lies _ rfl _ _ 58 (by rfl) (w.heap.size + 2) 9 i0 (.string { data := #[] }) 1 16 Tryz.underlying58 hi hz0 hz1 hz2 rfl (by decide) _ _ _ (by rfl) st2.l ⟨w1.heap.size, 0, none⟩ 1 1 [S (Lib.itoa e.n)] (by rfl) rfl ?c1 ?c2 (by omega) ?c3 ?c4 ?c5 (w1.heap.size + 1) (by simp) ?_))
              case c1 =>
                intro j u hj
                match j, hj with
                | 0, hj => simp at hj; subst hj; simp [Addr.add]
              case c2 => intro u hu; simp at hu; subst hu; rfl
              case c3 => have := l3; simp [maxLen]; try omega
              case c4 => have := l3; simp; try omega
              case c5 => have := st2.below.size; simp at this ⊢; have := lt_of st2.r; simp at this; omega
              intro g2 cap2 w3 hown hgrow hat hlt
              have st3 := st2.grow (news := [Lib.itoa e.n]) h3w (by simpa using hown) rfl hgrow hat (by simp)
              go_wp2_with fail
              go_meet
              rw [hw4]
              exact ⟨by rw [i4], _, _, by simp, st3⟩
            have i4 : ¬ (e.k : Int) = 4 := by omega
            by_cases k5 : e.k = 5
            · have i5 : (e.k : Int) = 5 := by omega
              have a2 : wc.cell? ⟨w.heap.size, 2, none⟩ = some (.int .i64 e.n) := cell_of st.e
              have b2 : wc.cell? ⟨qb, 2, none⟩ = some (.int .i64 (q3 e).n) := cell_of st.q
              have z2 : wc.frozen? ⟨qb, 2, none⟩ = false := frozen_of st.q
              have st1 := st.put (W' := wc.setCell ⟨qb, 2, none⟩ (.int .i64 e.n)) h3w (heap_setCell_same wc qb 2 _ 30 _ st.q) (But.setCell qb 2 wc _)
              rw [← hq4] at st1
              have a2' : (wc.setCell ⟨qb, 2, none⟩ (.int .i64 e.n)).cell? ⟨w.heap.size, 2, none⟩ = some (.int .i64 e.n) := cell_of st1.e
              have c0 := number e.n hf.n.1 hf.n.2 (wc.setCell ⟨qb, 2, none⟩ (.int .i64 e.n))
              go_wp2_with (first
                | (go_at_call 45; with_reducible refine c0.mono ?_; rintro r w1 ⟨rfl, hb1⟩; have st2 := (st1.step hb1).step ((Below.refl _ _).alloc (Nat.le_refl _) (.cells #[S (Lib.itoa e.n)] 9)))
                | (at_builtin; refine wpList_append_lies _ rfl _ _ 58 (by rfl) (w.heap.size + 2) 9 i0 (.string { data := #[] }) 1 16 Tryz.underlying58 hi hz0 hz1 hz2 rfl (by decide) _ _ _ (by rfl) st2.l ⟨w1.heap.size, 0, none⟩ 1 1 [S (Lib.itoa e.n)] (by rfl) rfl ?c1 ?c2 (by omega) ?c3 ?c4 ?c5 (w1.heap.size + 1) (by simp) ?_))
              case c1 =>
                intro j u hj
                match j, hj with
                | 0, hj => simp at hj; subst hj; simp [Addr.add]
              case c2 => intro u hu; simp at hu; subst hu; rfl
              case c3 => have := l3; simp [maxLen]; try omega
              case c4 => have := l3; simp; try omega
              case c5 => have := st2.below.size; simp at this ⊢; have := lt_of st2.r; simp at this; omega
              intro g2 cap2 w3 hown hgrow hat hlt
              have st3 := st2.grow (news := [Lib.itoa e.n]) h3w (by simpa using hown) rfl hgrow hat (by simp)
              go_wp2_with fail
              go_meet
              rw [hw4]
              exact ⟨by rw [i5], _, _, by simp, st3⟩
            have i5 : ¬ (e.k : Int) = 5 := by omega
            by_cases k8 : e.k = 8
            · have i8 : (e.k : Int) = 8 := by omega
              have a2 : wc.cell? ⟨w.heap.size, 2, none⟩ = some (.int .i64 e.n) := cell_of st.e
              have b2 : wc.cell? ⟨qb, 2, none⟩ = some (.int .i64 (q3 e).n) := cell_of st.q
              have z2 : wc.frozen? ⟨qb, 2, none⟩ = false := frozen_of st.q
              have st1 := st.put (W' := wc.setCell ⟨qb, 2, none⟩ (.int .i64 e.n)) h3w (heap_setCell_same wc qb 2 _ 30 _ st.q) (But.setCell qb 2 wc _)
              rw [← hq4] at st1
              have a2' : (wc.setCell ⟨qb, 2, none⟩ (.int .i64 e.n)).cell? ⟨w.heap.size, 2, none⟩ = some (.int .i64 e.n) := cell_of st1.e
              have c0 := number e.n hf.n.1 hf.n.2 (wc.setCell ⟨qb, 2, none⟩ (.int .i64 e.n))
              go_wp2_with (first
                | (go_at_call 45; with_reducible refine c0.mono ?_; rintro r w1 ⟨rfl, hb1⟩; have st2 := (st1.step hb1).step ((Below.refl _ _).alloc (Nat.le_refl _) (.cells #[S (Lib.itoa e.n)] 9)))
                | (at_builtin; refine wpList_append_lies _ rfl _ _ 58 (by rfl) (w.heap.size + 2) 9 i0 (.string { data := #[] }) 1 16 Tryz.underlying58 hi hz0 hz1 hz2 rfl (by decide) _ _ _ (by rfl) st2.l ⟨w1.heap.size, 0, none⟩ 1 1 [S (Lib.itoa e.n)] (by rfl) rfl ?c1 ?c2 (by omega) ?c3 ?c4 ?c5 (w1.heap.size + 1) (by simp) ?_))
              case c1 =>
                intro j u hj
                match j, hj with
                | 0, hj => simp at hj; subst hj; simp [Addr.add]
              case c2 => intro u hu; simp at hu; subst hu; rfl
              case c3 => have := l3; simp [maxLen]; try omega
              case c4 => have := l3; simp; try omega
              case c5 => have := st2.below.size; simp at this ⊢; have := lt_of st2.r; simp at this; omega
              intro g2 cap2 w3 hown hgrow hat hlt
              have st3 := st2.grow (news := [Lib.itoa e.n]) h3w (by simpa using hown) rfl hgrow hat (by simp)
              go_wp2_with fail
              go_meet
              rw [hw4]
              exact ⟨by rw [i8], _, _, by simp, st3⟩
            have i8 : ¬ (e.k : Int) = 8 := by omega
            exact absurd hn (by omega)
          · have i3 : ¬ (e.k : Int) = 3 := by omega
            have i4 : ¬ (e.k : Int) = 4 := by omega
            have i5 : ¬ (e.k : Int) = 5 := by omega
            have i8 : ¬ (e.k : Int) = 8 := by omega
            have hlt : w.heap.size < wc.heap.size := lt_of st.e
            have hne : qb ≠ w.heap.size := by have := st.qlo; omega
            have hne2 : w.heap.size ≠ qb := fun h => hne h.symm
            by_cases k6 : e.k = 6
            · have i6 : (e.k : Int) = 6 := by omega
              have hq4 : (onlyD e).cs (onlyB e (.slice ba e.m.body.length bc)) = ((((((q3 e).cs nilB).setIfInBounds 5 (.bool e.flag)).setIfInBounds 4 (S e.text)).setIfInBounds 6 (.int .u8 e.snd)).setIfInBounds 7 (.int .u8 e.rcv)) := by
                unfold onlyD onlyB; rw [if_neg hn, if_pos k6, if_neg (by omega)]; rfl
              have hw4 : wordsD e = wd3 e ++ [ansW e.flag, hexW e.text, Lib.decDigits e.snd, Lib.decDigits e.rcv] := by unfold wordsD; rw [if_neg hn, if_pos k6]
              have a4 : wc.cell? ⟨w.heap.size, 4, none⟩ = some (S e.text) := cell_of st.e
              have a5 : wc.cell? ⟨w.heap.size, 5, none⟩ = some (.bool e.flag) := cell_of st.e
              have a6 : wc.cell? ⟨w.heap.size, 6, none⟩ = some (.int .u8 e.snd) := cell_of st.e
              have a7 : wc.cell? ⟨w.heap.size, 7, none⟩ = some (.int .u8 e.rcv) := cell_of st.e
              have b4 : wc.cell? ⟨qb, 4, none⟩ = some (S (q3 e).text) := cell_of st.q
              have b5 : wc.cell? ⟨qb, 5, none⟩ = some (.bool (q3 e).flag) := cell_of st.q
              have b6 : wc.cell? ⟨qb, 6, none⟩ = some (.int .u8 (q3 e).snd) := cell_of st.q
              have b7 : wc.cell? ⟨qb, 7, none⟩ = some (.int .u8 (q3 e).rcv) := cell_of st.q
              have zq : ∀ j, wc.frozen? ⟨qb, j, none⟩ = false := fun j => frozen_of st.q
              go_upto_region 23 with fail
              have p1 := st.put (W' := wc.setCell ⟨qb, 5, none⟩ (.bool e.flag)) h3w (heap_setCell_same _ qb 5 _ 30 _ st.q) (But.setCell qb 5 _ _)
              have p2 := p1.put (W' := (wc.setCell ⟨qb, 5, none⟩ (.bool e.flag)).setCell ⟨qb, 4, none⟩ (S e.text)) h3w (heap_setCell_same _ qb 4 _ 30 _ p1.q) (But.setCell qb 4 _ _)
              have p3 := p2.put (W' := ((wc.setCell ⟨qb, 5, none⟩ (.bool e.flag)).setCell ⟨qb, 4, none⟩ (S e.text)).setCell ⟨qb, 6, none⟩ (.int .u8 e.snd)) h3w (heap_setCell_same _ qb 6 _ 30 _ p2.q) (But.setCell qb 6 _ _)
              have st4 := p3.put (W' := (((wc.setCell ⟨qb, 5, none⟩ (.bool e.flag)).setCell ⟨qb, 4, none⟩ (S e.text)).setCell ⟨qb, 6, none⟩ (.int .u8 e.snd)).setCell ⟨qb, 7, none⟩ (.int .u8 e.rcv)) h3w (heap_setCell_same _ qb 7 _ 30 _ p3.q) (But.setCell qb 7 _ _)
              rw [← hq4] at st4
              clear p1 p2 p3 a4 a5 a6 a7 b4 b5 b6 b7 zq st a0 hlt
              generalize (((wc.setCell ⟨qb, 5, none⟩ (.bool e.flag)).setCell ⟨qb, 4, none⟩ (S e.text)).setCell ⟨qb, 6, none⟩ (.int .u8 e.snd)).setCell ⟨qb, 7, none⟩ (.int .u8 e.rcv) = V at st4 ⊢
              have sv := st4.drew
              refine wp_region_noPanic ?_
              refine wp_region_held_drew (S := fun W => W.cell? ⟨w.heap.size, 5, none⟩ = some (.bool e.flag) ∧ W.cell? ⟨w.heap.size, 4, none⟩ = some (S e.text) ∧ W.cell? ⟨w.heap.size, 6, none⟩ = some (.int .u8 e.snd) ∧ W.cell? ⟨w.heap.size, 7, none⟩ = some (.int .u8 e.rcv)) (by kernel_rfl) ⟨cell_of sv.e, cell_of sv.e, cell_of sv.e, cell_of sv.e⟩ (fun hHeld => ?_)
              refine wpAnyH_take (i := 0) (oi := _) (v := _) rfl (by kernel_rfl) (by kernel_rfl) (by kernel_rfl) (fun _ _ _ h => h) (Or.inl ⟨by rfl, fun _ _ => rfl⟩) hHeld ?_
              try simp only [Act.put]
              try simp only [List.getElem_toArray]
              try simp only [List.getElem_cons_succ]
              try simp only [List.getElem_cons_zero]
              try simp only [List.setIfInBounds_toArray]
              refine wpAnyH_take (i := 1) (oi := _) (v := ?_) rfl (by kernel_rfl) (by kernel_rfl) (by kernel_rfl) (fun _ _ _ h => h) (Or.inl ⟨by rfl, ?_⟩) hHeld ?_
              rotate_left 1
              · intro W hS
                try dsimp only at hS
                go_simp <;> with_reducible rfl
              try simp only [Act.put]
              try simp only [List.getElem_toArray]
              try simp only [List.getElem_cons_succ]
              try simp only [List.getElem_cons_zero]
              try simp only [List.setIfInBounds_toArray]
              refine wpAnyH_take (i := 2) (oi := _) (v := ?_) rfl (by kernel_rfl) (by kernel_rfl) (by kernel_rfl) (fun _ _ _ h => h) (Or.inl ⟨by rfl, ?_⟩) hHeld ?_
              rotate_left 1
              · intro W hS
                try dsimp only at hS
                go_simp <;> with_reducible rfl
              try simp only [Act.put]
              try simp only [List.getElem_toArray]
              try simp only [List.getElem_cons_succ]
              try simp only [List.getElem_cons_zero]
              try simp only [List.setIfInBounds_toArray]
              refine wpAnyH_take (i := 4) (oi := _) (v := ?_) rfl (by kernel_rfl) (by kernel_rfl) (by kernel_rfl) (fun _ _ _ h => h) (Or.inl ⟨by rfl, ?_⟩) hHeld ?_
              rotate_left 1
              · intro W hS
                try dsimp only at hS
                go_simp <;> with_reducible rfl
              try simp only [Act.put]
              try simp only [List.getElem_toArray]
              try simp only [List.getElem_cons_succ]
              try simp only [List.getElem_cons_zero]
              try simp only [List.setIfInBounds_toArray]
              refine wpAnyH_take (i := 5) (oi := _) (v := ?_) rfl (by kernel_rfl) (by kernel_rfl) (by kernel_rfl) (fun _ _ _ h => h) (Or.inl ⟨by rfl, ?_⟩) hHeld ?_
              rotate_left 1
              · intro W hS
                try dsimp only at hS
                go_simp <;> with_reducible rfl
              try simp only [Act.put]
              try simp only [List.getElem_toArray]
              try simp only [List.getElem_cons_succ]
              try simp only [List.getElem_cons_zero]
              try simp only [List.setIfInBounds_toArray]
              refine wpAnyH_take (i := 7) (oi := _) (v := ?_) rfl (by kernel_rfl) (by kernel_rfl) (by kernel_rfl) (fun _ _ _ h => h) (Or.inl ⟨by rfl, ?_⟩) hHeld ?_
              rotate_left 1
              · intro W hS
                try dsimp only at hS
                go_simp <;> with_reducible rfl
              try simp only [Act.put]
              try simp only [List.getElem_toArray]
              try simp only [List.getElem_cons_succ]
              try simp only [List.getElem_cons_zero]
              try simp only [List.setIfInBounds_toArray]
              refine wpAnyH_take (i := 8) (oi := _) (v := ?_) rfl (by kernel_rfl) (by kernel_rfl) (by kernel_rfl) (fun _ _ _ h => h) (Or.inl ⟨by rfl, ?_⟩) hHeld ?_
              rotate_left 1
              · intro W hS
                try dsimp only at hS
                go_simp <;> with_reducible rfl
              try simp only [Act.put]
              try simp only [List.getElem_toArray]
              try simp only [List.getElem_cons_succ]
              try simp only [List.getElem_cons_zero]
              try simp only [List.setIfInBounds_toArray]
              refine wpAnyH_take (i := 9) (oi := _) (v := .int .i64 (e.snd : Int)) rfl (by kernel_rfl) (by kernel_rfl) (by kernel_rfl) (fun _ _ _ h => h) (Or.inl ⟨by rfl, ?_⟩) hHeld ?_
              · intro W hS
                go_simp
              try simp only [Act.put]
              try simp only [List.getElem_toArray]
              try simp only [List.getElem_cons_succ]
              try simp only [List.getElem_cons_zero]
              try simp only [List.setIfInBounds_toArray]
              refine wpAnyH_take (i := 11) (oi := _) (v := ?_) rfl (by kernel_rfl) (by kernel_rfl) (by kernel_rfl) (fun _ _ _ h => h) (Or.inl ⟨by rfl, ?_⟩) hHeld ?_
              rotate_left 1
              · intro W hS
                try dsimp only at hS
                go_simp <;> with_reducible rfl
              try simp only [Act.put]
              try simp only [List.getElem_toArray]
              try simp only [List.getElem_cons_succ]
              try simp only [List.getElem_cons_zero]
              try simp only [List.setIfInBounds_toArray]
              refine wpAnyH_take (i := 12) (oi := _) (v := ?_) rfl (by kernel_rfl) (by kernel_rfl) (by kernel_rfl) (fun _ _ _ h => h) (Or.inl ⟨by rfl, ?_⟩) hHeld ?_
              rotate_left 1
              · intro W hS
                try dsimp only at hS
                go_simp <;> with_reducible rfl
              try simp only [Act.put]
              try simp only [List.getElem_toArray]
              try simp only [List.getElem_cons_succ]
              try simp only [List.getElem_cons_zero]
              try simp only [List.setIfInBounds_toArray]
              refine wpAnyH_take (i := 13) (oi := _) (v := .int .i64 (e.rcv : Int)) rfl (by kernel_rfl) (by kernel_rfl) (by kernel_rfl) (fun _ _ _ h => h) (Or.inl ⟨by rfl, ?_⟩) hHeld ?_
              · intro W hS
                go_simp
              try simp only [Act.put]
              try simp only [List.getElem_toArray]
              try simp only [List.getElem_cons_succ]
              try simp only [List.getElem_cons_zero]
              try simp only [List.setIfInBounds_toArray]
              refine wpAnyH_ready (rs := [3]) (by kernel_rfl) (by simp) ?_
              refine AllReadyH.cons (o := _) rfl (fun K hK => ?_) AllReadyH.nil
              have c0 := yes e.flag (V.drew)
              go_simp
              go_at_call 54
              with_reducible refine c0.mono ?_
              rintro r x0 ⟨rfl, hx0⟩
              have s0 := sv.step hx0
              clear c0 hx0
              go_wp2_with fail
              refine hK.out _ _ ⟨cell_of s0.e, cell_of s0.e, cell_of s0.e, cell_of s0.e⟩ (fun hHeld => ?_)
              clear hK K
              try simp only [Act.put]
              try simp only [List.setIfInBounds_toArray]
              refine wpAnyH_ready (rs := [6]) (by kernel_rfl) (by simp) ?_
              refine AllReadyH.cons (o := _) rfl (fun K hK => ?_) AllReadyH.nil
              have c1 := str e.text (x0) (by have := hs.2.1; omega)
              go_simp
              go_at_call 55
              with_reducible refine c1.mono ?_
              rintro r x1 ⟨rfl, hx1⟩
              have s1 := s0.step hx1
              clear c1 hx1
              go_wp2_with fail
              refine hK.out _ _ ⟨cell_of s1.e, cell_of s1.e, cell_of s1.e, cell_of s1.e⟩ (fun hHeld => ?_)
              clear hK K
              try simp only [Act.put]
              try simp only [List.setIfInBounds_toArray]
              refine wpAnyH_ready (rs := [10]) (by kernel_rfl) (by simp) ?_
              refine AllReadyH.cons (o := _) rfl (fun K hK => ?_) AllReadyH.nil
              have c2 := numberN e.snd (by have := hf.snd; omega) (x1)
              go_simp
              go_at_call 45
              with_reducible refine c2.mono ?_
              rintro r x2 ⟨rfl, hx2⟩
              have s2 := s1.step hx2
              clear c2 hx2
              go_wp2_with fail
              refine hK.out _ _ ⟨cell_of s2.e, cell_of s2.e, cell_of s2.e, cell_of s2.e⟩ (fun hHeld => ?_)
              clear hK K
              try simp only [Act.put]
              try simp only [List.setIfInBounds_toArray]
              refine wpAnyH_ready (rs := [14]) (by kernel_rfl) (by simp) ?_
              refine AllReadyH.cons (o := _) rfl (fun K hK => ?_) AllReadyH.nil
              have c3 := numberN e.rcv (by have := hf.rcv; omega) (x2)
              go_simp
              go_at_call 45
              with_reducible refine c3.mono ?_
              rintro r x3 ⟨rfl, hx3⟩
              have s3 := s2.step hx3
              clear c3 hx3
              go_wp2_with fail
              refine hK.out _ _ ⟨cell_of s3.e, cell_of s3.e, cell_of s3.e, cell_of s3.e⟩ (fun hHeld => ?_)
              clear hK K
              try simp only [Act.put]
              try simp only [List.setIfInBounds_toArray]
              refine wpAnyH_ready (rs := [15]) (by kernel_rfl) (by simp) ?_
              refine AllReadyH.cons (o := _) rfl (fun K hK => ?_) AllReadyH.nil
              have sb := s3.step ((Below.refl _ _).alloc (Nat.le_refl _) (.cells #[S (ansW e.flag), S (hexW e.text), S (Lib.decDigits e.snd), S (Lib.decDigits e.rcv)] 9))
              go_simp
              refine hK.out _ _ ⟨cell_of sb.e, cell_of sb.e, cell_of sb.e, cell_of sb.e⟩ (fun hHeld => ?_)
              clear hK K
              try simp only [Act.put]
              try simp only [List.setIfInBounds_toArray]
              refine wpAnyH_ready (rs := [16]) (by kernel_rfl) (by simp) ?_
              refine AllReadyH.cons (o := _) rfl (fun K hK => ?_) AllReadyH.nil
              have hsb := sb.below.size
              have hsr := lt_of sb.r
              simp only [World.size_alloc] at hsb hsr
              refine step_append_lies _ (by rfl) _ _ 58 (by rfl) (w.heap.size + 2) 9 i0 (.string { data := #[] }) 1 16 Tryz.underlying58 hi hz0 hz1 hz2 rfl (by decide) _ _ _ (by rfl) sb.l ⟨x3.heap.size, 0, none⟩ 4 4 [S (ansW e.flag), S (hexW e.text), S (Lib.decDigits e.snd), S (Lib.decDigits e.rcv)] (by rfl) rfl ?c1 ?c2 (by omega) ?c3 ?c4 ?c5 (x3.heap.size + 1) (by simp) ?_
              case c1 =>
                intro j u hj
                match j, hj with
                | 0, hj => simp at hj; subst hj; simp [Addr.add]
                | 1, hj => simp at hj; subst hj; simp [Addr.add]
                | 2, hj => simp at hj; subst hj; simp [Addr.add]
                | 3, hj => simp at hj; subst hj; simp [Addr.add]
              case c2 => intro u hu; simp at hu; rcases hu with rfl | rfl | rfl | rfl <;> rfl
              case c3 => simp only [maxLen]; omega
              case c4 => omega
              case c5 => simp only [World.size_alloc]; omega
              intro g2 cap2 w3 hown hgrow hat hlt
              have st3 := sb.grow (news := [ansW e.flag, hexW e.text, Lib.decDigits e.snd, Lib.decDigits e.rcv]) h3w (by simpa using hown) rfl hgrow hat (by simp)
              refine hK.out _ _ ⟨cell_of st3.e, cell_of st3.e, cell_of st3.e, cell_of st3.e⟩ (fun hHeld => ?_)
              clear hK K
              try simp only [Act.put]
              try simp only [List.getElem_toArray]
              try simp only [List.getElem_cons_succ]
              try simp only [List.getElem_cons_zero]
              try simp only [List.setIfInBounds_toArray]
              refine wpAnyH_take (i := 17) (oi := _) (v := ?_) rfl (by kernel_rfl) (by kernel_rfl) (by kernel_rfl) (fun _ _ _ h => h) (Or.inl ⟨by rfl, ?_⟩) hHeld ?_
              rotate_left 1
              · intro W hS
                try dsimp only at hS
                go_simp <;> with_reducible rfl
              try simp only [Act.put]
              try simp only [List.getElem_toArray]
              try simp only [List.getElem_cons_succ]
              try simp only [List.getElem_cons_zero]
              try simp only [List.setIfInBounds_toArray]
              refine wpAnyH_done (by kernel_rfl) ?_ _
              refine NoPanic.normal ?_
              go_wp2_with fail
              go_meet
              rw [hw4]
              exact ⟨by rw [i6], _, _, by simp, st3⟩
            have i6 : ¬ (e.k : Int) = 6 := by omega
            by_cases k7 : e.k = 7
            · have i7 : (e.k : Int) = 7 := by omega
              have hw4 : wordsD e = wd3 e ++ [e.m.w, ansW e.flag] := by unfold wordsD; rw [if_neg hn, if_neg k6, if_pos k7]
              have hra : ∀ W : World, W.heap[w.heap.size]? = some (.cells (e.cs (.slice ba e.m.body.length bc)) 30) → W.rangeAt w.heap.size 8 ([.int .u8 e.m.p, .int .u32 e.m.t, .int .u32 e.m.c, S e.m.id, .slice ba e.m.body.length bc] : List Value) ∧ W.cell? ⟨w.heap.size, 5, none⟩ = some (.bool e.flag) := fun W h => ⟨range_of h (by rfl), cell_of h⟩
              have hsq := st.q
              go_upto_region 27 with (first
                | (refine wpList_load_mid rfl 25 _ rfl w.heap.size 8 rfl ([.int .u8 e.m.p, .int .u32 e.m.t, .int .u32 e.m.c, S e.m.id, .slice ba e.m.body.length bc] : List Value) _ (hra _ st.e).1 Tryz.underlying25 rfl info25' ?_)
                | (refine wpList_store_part rfl 25 _ _ rfl qb 8 (List.toArray ([.int .u8 e.m.p, .int .u32 e.m.t, .int .u32 e.m.c, S e.m.id, .slice ba e.m.body.length bc] : List Value)) _ 30 rfl rfl hsq (by show 8 + 5 ≤ 17; omega) info25' rfl ?_; intro w2 h2 hbut2 hsz2; have p1 := st.put h3w h2 hbut2; have b5 : w2.cell? ⟨qb, 5, none⟩ = some (.bool (q3 e).flag) := cell_of h2; have z5 : w2.frozen? ⟨qb, 5, none⟩ = false := frozen_of h2; have a5 : w2.cell? ⟨w.heap.size, 5, none⟩ = some (.bool e.flag) := cell_of p1.e))
              have p2 := p1.put (W' := w2.setCell ⟨qb, 5, none⟩ (.bool e.flag)) h3w (heap_setCell_same _ qb 5 _ 30 _ p1.q) (But.setCell qb 5 _ _)
              have st4 : St w (e.cs (.slice ba e.m.body.length bc)) (.cells zEv 30) qb ((onlyD e).cs (onlyB e (.slice ba e.m.body.length bc))) g cap (wd3 e) (w2.setCell ⟨qb, 5, none⟩ (.bool e.flag)) := by
                have := p2
                unfold onlyD onlyB
                rw [if_neg hn, if_neg k6, if_pos k7, if_pos k7]
                exact this
              clear p1 p2 st a0 b5 z5 a5 hsq h2 hbut2 hsz2 hlt
              generalize w2.setCell ⟨qb, 5, none⟩ (.bool e.flag) = V at st4 ⊢
              have sv := st4.drew
              refine wp_region_noPanic ?_
              refine wp_region_held_drew (S := fun W => W.rangeAt w.heap.size 8 ([.int .u8 e.m.p, .int .u32 e.m.t, .int .u32 e.m.c, S e.m.id, .slice ba e.m.body.length bc] : List Value) ∧ W.cell? ⟨w.heap.size, 5, none⟩ = some (.bool e.flag)) (by kernel_rfl) (hra _ sv.e) (fun hHeld => ?_)
              refine wpAnyH_take (i := 0) (oi := _) (v := _) rfl (by kernel_rfl) (by kernel_rfl) (by kernel_rfl) (fun _ _ _ h => h) (Or.inl ⟨by rfl, fun _ _ => rfl⟩) hHeld ?_
              try simp only [Act.put]
              try simp only [List.getElem_toArray]
              try simp only [List.getElem_cons_succ]
              try simp only [List.getElem_cons_zero]
              try simp only [List.setIfInBounds_toArray]
              refine wpAnyH_take (i := 1) (oi := _) (v := ?_) rfl (by kernel_rfl) (by kernel_rfl) (by kernel_rfl) (fun _ _ _ h => h) (Or.inl ⟨by rfl, ?_⟩) hHeld ?_
              rotate_left 1
              · intro W hS
                try dsimp only at hS
                go_simp <;> with_reducible rfl
              try simp only [Act.put]
              try simp only [List.getElem_toArray]
              try simp only [List.getElem_cons_succ]
              try simp only [List.getElem_cons_zero]
              try simp only [List.setIfInBounds_toArray]
              refine wpAnyH_take (i := 2) (oi := _) (v := _) rfl (by kernel_rfl) (by kernel_rfl) (by kernel_rfl) (fun _ _ _ h => h) (yieldsIf_load_mid (by rfl) 25 _ rfl w.heap.size 8 rfl _ _ (fun _ h => h.1) Tryz.underlying25 rfl info25') hHeld ?_
              try simp only [Act.put]
              try simp only [List.setIfInBounds_toArray]
              refine wpAnyH_take (i := 4) (oi := _) (v := ?_) rfl (by kernel_rfl) (by kernel_rfl) (by kernel_rfl) (fun _ _ _ h => h) (Or.inl ⟨by rfl, ?_⟩) hHeld ?_
              rotate_left 1
              · intro W hS
                try dsimp only at hS
                go_simp <;> with_reducible rfl
              try simp only [Act.put]
              try simp only [List.getElem_toArray]
              try simp only [List.getElem_cons_succ]
              try simp only [List.getElem_cons_zero]
              try simp only [List.setIfInBounds_toArray]
              refine wpAnyH_take (i := 5) (oi := _) (v := ?_) rfl (by kernel_rfl) (by kernel_rfl) (by kernel_rfl) (fun _ _ _ h => h) (Or.inl ⟨by rfl, ?_⟩) hHeld ?_
              rotate_left 1
              · intro W hS
                try dsimp only at hS
                go_simp <;> with_reducible rfl
              try simp only [Act.put]
              try simp only [List.getElem_toArray]
              try simp only [List.getElem_cons_succ]
              try simp only [List.getElem_cons_zero]
              try simp only [List.setIfInBounds_toArray]
              refine wpAnyH_ready (rs := [3]) (by kernel_rfl) (by simp) ?_
              refine AllReadyH.cons (o := _) rfl (fun K hK => ?_) AllReadyH.nil
              have c0 := msg e.m.p e.m.t e.m.c e.m.id e.m.body (.slice ba e.m.body.length bc) (V.drew) hf.p hf.t hf.c (by have := hs.2.2.2.1; omega) (by have := hs.2.2.2.2; omega) (hb.below sv.below (Nat.le_refl _)) sv.pow (Nat.le_trans (msgW_len e.m.p e.m.t e.m.c e.m.id e.m.body hf.p hf.t hf.c (by have := hs.2.2.2.1; omega) (by have := hs.2.2.2.2; omega)) (by omega))
              go_simp
              go_at_call 52
              with_reducible refine c0.mono ?_
              rintro r x0 ⟨rfl, hx0⟩
              have s0 := sv.step hx0
              clear c0 hx0
              go_wp2_with fail
              refine hK.out _ _ (hra _ s0.e) (fun hHeld => ?_)
              clear hK K
              try simp only [Act.put]
              try simp only [List.setIfInBounds_toArray]
              refine wpAnyH_ready (rs := [6]) (by kernel_rfl) (by simp) ?_
              refine AllReadyH.cons (o := _) rfl (fun K hK => ?_) AllReadyH.nil
              have c1 := yes e.flag (x0)
              go_simp
              go_at_call 54
              with_reducible refine c1.mono ?_
              rintro r x1 ⟨rfl, hx1⟩
              have s1 := s0.step hx1
              clear c1 hx1
              go_wp2_with fail
              refine hK.out _ _ (hra _ s1.e) (fun hHeld => ?_)
              clear hK K
              try simp only [Act.put]
              try simp only [List.setIfInBounds_toArray]
              refine wpAnyH_ready (rs := [7]) (by kernel_rfl) (by simp) ?_
              refine AllReadyH.cons (o := _) rfl (fun K hK => ?_) AllReadyH.nil
              have sb := s1.step ((Below.refl _ _).alloc (Nat.le_refl _) (.cells #[S (e.m.w), S (ansW e.flag)] 9))
              go_simp
              refine hK.out _ _ (hra _ sb.e) (fun hHeld => ?_)
              clear hK K
              try simp only [Act.put]
              try simp only [List.setIfInBounds_toArray]
              refine wpAnyH_ready (rs := [8]) (by kernel_rfl) (by simp) ?_
              refine AllReadyH.cons (o := _) rfl (fun K hK => ?_) AllReadyH.nil
              have hsb := sb.below.size
              have hsr := lt_of sb.r
              simp only [World.size_alloc] at hsb hsr
              refine step_append_lies _ (by rfl) _ _ 58 (by rfl) (w.heap.size + 2) 9 i0 (.string { data := #[] }) 1 16 Tryz.underlying58 hi hz0 hz1 hz2 rfl (by decide) _ _ _ (by rfl) sb.l ⟨x1.heap.size, 0, none⟩ 2 2 [S (e.m.w), S (ansW e.flag)] (by rfl) rfl ?c1 ?c2 (by omega) ?c3 ?c4 ?c5 (x1.heap.size + 1) (by simp) ?_
              case c1 =>
                intro j u hj
                match j, hj with
                | 0, hj => simp at hj; subst hj; simp [Addr.add]
                | 1, hj => simp at hj; subst hj; simp [Addr.add]
              case c2 => intro u hu; simp at hu; rcases hu with rfl | rfl <;> rfl
              case c3 => simp only [maxLen]; omega
              case c4 => omega
              case c5 => simp only [World.size_alloc]; omega
              intro g2 cap2 w3 hown hgrow hat hlt
              have st3 := sb.grow (news := [e.m.w, ansW e.flag]) h3w (by simpa using hown) rfl hgrow hat (by simp)
              refine hK.out _ _ (hra _ st3.e) (fun hHeld => ?_)
              clear hK K
              try simp only [Act.put]
              try simp only [List.getElem_toArray]
              try simp only [List.getElem_cons_succ]
              try simp only [List.getElem_cons_zero]
              try simp only [List.setIfInBounds_toArray]
              refine wpAnyH_take (i := 9) (oi := _) (v := ?_) rfl (by kernel_rfl) (by kernel_rfl) (by kernel_rfl) (fun _ _ _ h => h) (Or.inl ⟨by rfl, ?_⟩) hHeld ?_
              rotate_left 1
              · intro W hS
                try dsimp only at hS
                go_simp <;> with_reducible rfl
              try simp only [Act.put]
              try simp only [List.getElem_toArray]
              try simp only [List.getElem_cons_succ]
              try simp only [List.getElem_cons_zero]
              try simp only [List.setIfInBounds_toArray]
              refine wpAnyH_done (by kernel_rfl) ?_ _
              refine NoPanic.normal ?_
              go_wp2_with fail
              go_meet
              rw [hw4]
              exact ⟨by rw [i7], _, _, by simp, st3⟩
            have i7 : ¬ (e.k : Int) = 7 := by omega
            by_cases k10 : e.k = 10
            · have i10 : (e.k : Int) = 10 := by omega
              have hw4 : wordsD e = wd3 e ++ [hexW e.text, outW e.ok e.oa e.ob e.cond] := by unfold wordsD; rw [if_neg hn, if_neg k6, if_neg k7, if_pos k10]
              have hra : ∀ W : World, W.heap[w.heap.size]? = some (.cells (e.cs (.slice ba e.m.body.length bc)) 30) → W.rangeAt w.heap.size 13 ([.int .u8 e.ok, .int .u64 e.oa, .int .u64 e.ob, S e.cond] : List Value) ∧ W.cell? ⟨w.heap.size, 4, none⟩ = some (S e.text) := fun W h => ⟨range_of h (by rfl), cell_of h⟩
              have a4 : wc.cell? ⟨w.heap.size, 4, none⟩ = some (S e.text) := cell_of st.e
              have b4 : wc.cell? ⟨qb, 4, none⟩ = some (S (q3 e).text) := cell_of st.q
              have z4 : wc.frozen? ⟨qb, 4, none⟩ = false := frozen_of st.q
              have p1 := st.put (W' := wc.setCell ⟨qb, 4, none⟩ (S e.text)) h3w (heap_setCell_same _ qb 4 _ 30 _ st.q) (But.setCell qb 4 _ _)
              go_upto_region 31 with (first
                | (refine wpList_load_mid rfl 28 _ rfl w.heap.size 13 rfl ([.int .u8 e.ok, .int .u64 e.oa, .int .u64 e.ob, S e.cond] : List Value) _ (hra _ p1.e).1 Tryz.underlying28 rfl info28' ?_)
                | (refine wpList_store_part rfl 28 _ _ rfl qb 13 (List.toArray ([.int .u8 e.ok, .int .u64 e.oa, .int .u64 e.ob, S e.cond] : List Value)) _ 30 rfl rfl p1.q (by show 13 + 4 ≤ 17; omega) info28' rfl ?_; intro w2 h2 hbut2 hsz2; have p2 := p1.put h3w h2 hbut2))
              have st4 : St w (e.cs (.slice ba e.m.body.length bc)) (.cells zEv 30) qb ((onlyD e).cs (onlyB e (.slice ba e.m.body.length bc))) g cap (wd3 e) w2 := by
                have := p2
                unfold onlyD onlyB
                rw [if_neg hn, if_neg k6, if_neg k7, if_pos k10, if_neg k7]
                exact this
              clear p1 p2 st a0 b4 z4 a4 h2 hbut2 hsz2 hlt
              have sv := st4.drew
              refine wp_region_noPanic ?_
              refine wp_region_held_drew (S := fun W => W.rangeAt w.heap.size 13 ([.int .u8 e.ok, .int .u64 e.oa, .int .u64 e.ob, S e.cond] : List Value) ∧ W.cell? ⟨w.heap.size, 4, none⟩ = some (S e.text)) (by kernel_rfl) (hra _ sv.e) (fun hHeld => ?_)
              refine wpAnyH_take (i := 0) (oi := _) (v := _) rfl (by kernel_rfl) (by kernel_rfl) (by kernel_rfl) (fun _ _ _ h => h) (Or.inl ⟨by rfl, fun _ _ => rfl⟩) hHeld ?_
              try simp only [Act.put]
              try simp only [List.getElem_toArray]
              try simp only [List.getElem_cons_succ]
              try simp only [List.getElem_cons_zero]
              try simp only [List.setIfInBounds_toArray]
              refine wpAnyH_take (i := 1) (oi := _) (v := ?_) rfl (by kernel_rfl) (by kernel_rfl) (by kernel_rfl) (fun _ _ _ h => h) (Or.inl ⟨by rfl, ?_⟩) hHeld ?_
              rotate_left 1
              · intro W hS
                try dsimp only at hS
                go_simp <;> with_reducible rfl
              try simp only [Act.put]
              try simp only [List.getElem_toArray]
              try simp only [List.getElem_cons_succ]
              try simp only [List.getElem_cons_zero]
              try simp only [List.setIfInBounds_toArray]
              refine wpAnyH_take (i := 2) (oi := _) (v := ?_) rfl (by kernel_rfl) (by kernel_rfl) (by kernel_rfl) (fun _ _ _ h => h) (Or.inl ⟨by rfl, ?_⟩) hHeld ?_
              rotate_left 1
              · intro W hS
                try dsimp only at hS
                go_simp <;> with_reducible rfl
              try simp only [Act.put]
              try simp only [List.getElem_toArray]
              try simp only [List.getElem_cons_succ]
              try simp only [List.getElem_cons_zero]
              try simp only [List.setIfInBounds_toArray]
              refine wpAnyH_take (i := 4) (oi := _) (v := ?_) rfl (by kernel_rfl) (by kernel_rfl) (by kernel_rfl) (fun _ _ _ h => h) (Or.inl ⟨by rfl, ?_⟩) hHeld ?_
              rotate_left 1
              · intro W hS
                try dsimp only at hS
                go_simp <;> with_reducible rfl
              try simp only [Act.put]
              try simp only [List.getElem_toArray]
              try simp only [List.getElem_cons_succ]
              try simp only [List.getElem_cons_zero]
              try simp only [List.setIfInBounds_toArray]
              refine wpAnyH_take (i := 5) (oi := _) (v := _) rfl (by kernel_rfl) (by kernel_rfl) (by kernel_rfl) (fun _ _ _ h => h) (yieldsIf_load_mid (by rfl) 28 _ rfl w.heap.size 13 rfl _ _ (fun _ h => h.1) Tryz.underlying28 rfl info28') hHeld ?_
              try simp only [Act.put]
              try simp only [List.setIfInBounds_toArray]
              refine wpAnyH_ready (rs := [3]) (by kernel_rfl) (by simp) ?_
              refine AllReadyH.cons (o := _) rfl (fun K hK => ?_) AllReadyH.nil
              have c0 := str e.text (w2.drew) (by have := hs.2.1; omega)
              go_simp
              go_at_call 55
              with_reducible refine c0.mono ?_
              rintro r x0 ⟨rfl, hx0⟩
              have s0 := sv.step hx0
              clear c0 hx0
              go_wp2_with fail
              refine hK.out _ _ (hra _ s0.e) (fun hHeld => ?_)
              clear hK K
              try simp only [Act.put]
              try simp only [List.setIfInBounds_toArray]
              refine wpAnyH_ready (rs := [6]) (by kernel_rfl) (by simp) ?_
              refine AllReadyH.cons (o := _) rfl (fun K hK => ?_) AllReadyH.nil
              have c1 := outcome e.ok e.oa e.ob e.cond (x0) hf.ok hf.oa hf.ob (by have := hs.2.2.1; omega) s0.pow (Nat.le_trans (outW_len e.ok e.oa e.ob e.cond hf.ok hf.oa hf.ob (by have := hs.2.2.1; omega)) (by omega))
              go_simp
              go_at_call 66
              with_reducible refine c1.mono ?_
              rintro r x1 ⟨rfl, hx1⟩
              have s1 := s0.step hx1
              clear c1 hx1
              go_wp2_with fail
              refine hK.out _ _ (hra _ s1.e) (fun hHeld => ?_)
              clear hK K
              try simp only [Act.put]
              try simp only [List.setIfInBounds_toArray]
              refine wpAnyH_ready (rs := [7]) (by kernel_rfl) (by simp) ?_
              refine AllReadyH.cons (o := _) rfl (fun K hK => ?_) AllReadyH.nil
              have sb := s1.step ((Below.refl _ _).alloc (Nat.le_refl _) (.cells #[S (hexW e.text), S (outW e.ok e.oa e.ob e.cond)] 9))
              go_simp
              refine hK.out _ _ (hra _ sb.e) (fun hHeld => ?_)
              clear hK K
              try simp only [Act.put]
              try simp only [List.setIfInBounds_toArray]
              refine wpAnyH_ready (rs := [8]) (by kernel_rfl) (by simp) ?_
              refine AllReadyH.cons (o := _) rfl (fun K hK => ?_) AllReadyH.nil
              have hsb := sb.below.size
              have hsr := lt_of sb.r
              simp only [World.size_alloc] at hsb hsr
              refine step_append_lies _ (by rfl) _ _ 58 (by rfl) (w.heap.size + 2) 9 i0 (.string { data := #[] }) 1 16 Tryz.underlying58 hi hz0 hz1 hz2 rfl (by decide) _ _ _ (by rfl) sb.l ⟨x1.heap.size, 0, none⟩ 2 2 [S (hexW e.text), S (outW e.ok e.oa e.ob e.cond)] (by rfl) rfl ?c1 ?c2 (by omega) ?c3 ?c4 ?c5 (x1.heap.size + 1) (by simp) ?_
              case c1 =>
                intro j u hj
                match j, hj with
                | 0, hj => simp at hj; subst hj; simp [Addr.add]
                | 1, hj => simp at hj; subst hj; simp [Addr.add]
              case c2 => intro u hu; simp at hu; rcases hu with rfl | rfl <;> rfl
              case c3 => simp only [maxLen]; omega
              case c4 => omega
              case c5 => simp only [World.size_alloc]; omega
              intro g2 cap2 w3 hown hgrow hat hlt
              have st3 := sb.grow (news := [hexW e.text, outW e.ok e.oa e.ob e.cond]) h3w (by simpa using hown) rfl hgrow hat (by simp)
              refine hK.out _ _ (hra _ st3.e) (fun hHeld => ?_)
              clear hK K
              try simp only [Act.put]
              try simp only [List.getElem_toArray]
              try simp only [List.getElem_cons_succ]
              try simp only [List.getElem_cons_zero]
              try simp only [List.setIfInBounds_toArray]
              refine wpAnyH_take (i := 9) (oi := _) (v := ?_) rfl (by kernel_rfl) (by kernel_rfl) (by kernel_rfl) (fun _ _ _ h => h) (Or.inl ⟨by rfl, ?_⟩) hHeld ?_
              rotate_left 1
              · intro W hS
                try dsimp only at hS
                go_simp <;> with_reducible rfl
              try simp only [Act.put]
              try simp only [List.getElem_toArray]
              try simp only [List.getElem_cons_succ]
              try simp only [List.getElem_cons_zero]
              try simp only [List.setIfInBounds_toArray]
              refine wpAnyH_done (by kernel_rfl) ?_ _
              refine NoPanic.normal ?_
              go_wp2_with fail
              go_meet
              rw [hw4]
              exact ⟨by rw [i10], _, _, by simp, st3⟩
            have i10 : ¬ (e.k : Int) = 10 := by omega
            have hq4 : (onlyD e).cs (onlyB e (.slice ba e.m.body.length bc)) = (q3 e).cs nilB := by
              unfold onlyD onlyB; rw [if_neg hn, if_neg k6, if_neg k7, if_neg k10, if_neg k7]
            have hw4 : wordsD e = wd3 e := by unfold wordsD; rw [if_neg hn, if_neg k6, if_neg k7, if_neg k10]
            go_wp2_with fail
            go_meet
            rw [hq4, hw4]
            exact ⟨rfl, g, cap, rfl, st⟩
        case rest =>
          clear a0 st
          obtain ⟨rfl, g, cap, rfl, st⟩ := hcut
          obtain ⟨bq, nq, cq0, hbq⟩ : ∃ a n c, onlyB e (.slice ba e.m.body.length bc) = .slice a n c := by
            unfold onlyB
            by_cases h7 : e.k = 7
            · rw [if_pos h7]; exact ⟨_, _, _, rfl⟩
            · rw [if_neg h7]; exact ⟨_, _, _, rfl⟩
          rw [hbq] at st hQ
          have hsq := st.q
          have hsr := st.r
          clear hi hz0 hz1 hz2
          go_wp2_with (first
            | (refine wpList_load_row rfl 30 _ rfl qb rfl 30 _ (0, 0) _ hsq Tryz.underlying30 rfl info30' ?_)
            | (refine wpList_store_whole rfl 30 _ _ rfl (w.heap.size + 1) ((onlyD e).cs (.slice bq nq cq0)) _ 30 rfl rfl hsr rfl info30' rfl ?_; intro w3 h3 hbut hsz3))
          refine bodyPost_ret (results_cell_tmp Tryz.results24 _ _ (w.heap.size + 1) 30 _ _ rfl h3 Tryz.underlying30 rfl info30') rfl ?_
          subst hQ
          refine ⟨⟨_, rfl, strs_own (own_step st.l fun k hk hk2 => hbut.block k hk2 ?_)⟩, st.below.trans (hbut.below (Nat.le_succ _) st.below.size)⟩
          have h1 : g = k := Option.some.inj hk
          have h2 := st.glo
          omega
end Go.Proofs.YtaojoifpekoecaaGreatDoor
