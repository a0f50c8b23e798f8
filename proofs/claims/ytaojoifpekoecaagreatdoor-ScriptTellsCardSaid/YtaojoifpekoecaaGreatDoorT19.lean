/-
  ScriptTells returns true and writes nothing old. Conditions: as the theorem says.
-/
import Derived.Test.YtaojoifpekoecaaGreatDoorT18b
import Derived.Deep.Cut
import Derived.Deep.CutBlock
import Derived.Deep.CutRange
import Derived.Deep.DeepCutAuto
namespace Go.Proofs.YtaojoifpekoecaaGreatDoor
open Go.RowKit Go.Shelf
set_option maxHeartbeats 400000
def Two (w : World) (c1 c2 : Array Value) (W : World) : Prop := W.heap[w.heap.size]? = some (.cells c1 45) ∧ W.heap[w.heap.size + 1]? = some (.cells c2 48) ∧ Below w.heap.size w W ∧ w.heap.size + 2 ≤ W.heap.size
theorem Two.step {w W W' : World} {c1 c2 : Array Value} (h : Two w c1 c2 W) (hb : Below W.heap.size W W') : Two w c1 c2 W' := by
  obtain ⟨h1, h2, h3, h4⟩ := h
  exact ⟨by rw [hb.block _ (by omega)]; exact h1, by rw [hb.block _ (by omega)]; exact h2, h3.trans (hb.mono (by omega)), Nat.le_trans h4 hb.size⟩
theorem Two.cell {w W : World} {c1 c2 : Array Value} (h : Two w c1 c2 W) (j : Nat) : W.cell? ⟨w.heap.size, j, none⟩ = c1[j]? := by
  unfold World.cell?
  rw [h.1]; rfl
theorem Two.cell' {w W : World} {c1 c2 : Array Value} (h : Two w c1 c2 W) (j : Nat) : W.cell? ⟨w.heap.size + 1, j, none⟩ = c2[j]? := by
  unfold World.cell?
  rw [h.2.1]; rfl
theorem Two.init (w : World) (c1 c2 : Array Value) : Two w c1 c2 ((w.alloc (.cells c1 45)).alloc (.cells c2 48)) := by
  refine ⟨?_, ?_, ((Below.refl _ _).alloc (Nat.le_refl _) _).alloc (by simp) _, by simp⟩
  · rw [((Below.refl (w.heap.size + 1) (w.alloc (.cells c1 45))).alloc (by simp) (.cells c2 48)).block _ (Nat.lt_succ_self _)]
    exact heap_alloc_last w _
  · have := heap_alloc_last (w.alloc (.cells c1 45)) (.cells c2 48)
    simpa using this
set_option maxHeartbeats 4000000 in
set_option maxRecDepth 100000 in
theorem law4 (err a b : Int) (is : Bool) (text : List UInt8) (ms : List MsgD) (bs : List BecD) (mv bv : Value) (cl : Int) (mf wi id : Nat) (qv : Value) (qs : List QueD) (w : World)
    (he : I64 err) (ha : I64 a) (hb : I64 b) (htx : Lim text) (hm : SliceV 5 MsgE0 w mv ms) (hbe : SliceV 7 BecE0 w bv bs) (hc : I64 cl) (hmf : mf < 4294967296) (hwi : wi < 4294967296) (hid : id < 4294967296) (hq : SliceV 4 QueE0 w qv qs) (htab : Pow w)
    (hworks : ∀ W, Below w.heap.size w W → Calls Tryz.prog 6 #[] W fun e w' => e = .returned (.bool true) ∧ Below W.heap.size W w') :
    Calls Tryz.prog 4 #[.agg #[.int .i64 err, .bool is, S text, .int .i64 a, .int .i64 b, mv, bv], .agg #[.int .i64 cl, .int .u32 mf, .int .u32 wi, .int .u32 id, qv]] w fun e w' => e = .returned (.bool true) ∧ Below w.heap.size w w' := by
  have hm0 := hm
  have hbe0 := hbe
  obtain ⟨ma, mc, rfl, hvm⟩ := hm0
  obtain ⟨ba, bc, rfl, hvb⟩ := hbe0
  have htx' : text.length ≤ 281474976710656 := htx
  have t0 := Two.init w #[.int .i64 err, .bool is, S text, .int .i64 a, .int .i64 b, .slice ma ms.length mc, .slice ba bs.length bc] #[.int .i64 cl, .int .u32 mf, .int .u32 wi, .int .u32 id, qv]
  go_enter Tryz.func4, Tryz.ntmps4
  go_upto_block 0 with fail
  go_cut [5] (fun n wx => ∃ N : Nat, n = .int .i64 N ∧ N ≤ 281474976710656 * 201 ∧ text.length ≤ N ∧ (ms.length ≤ 100 → ∀ m ∈ ms, m.id.length + m.body.length ≤ N) ∧ Two w #[.int .i64 err, .bool is, S text, .int .i64 a, .int .i64 b, .slice ma ms.length mc, .slice ba bs.length bc] #[.int .i64 cl, .int .u32 mf, .int .u32 wi, .int .u32 id, qv] wx)
  case first =>
    go_wp2_with fail
    go_loopw [5, 6] (fun n i wr => ∃ k N : Nat, k ≤ ms.length ∧ k ≤ 100 ∧ i = .int .i64 k ∧ n = .int .i64 N ∧ N ≤ 281474976710656 * (2 * k + 1) ∧ text.length ≤ N ∧ (∀ m ∈ ms.take k, m.id.length + m.body.length ≤ N) ∧ Two w #[.int .i64 err, .bool is, S text, .int .i64 a, .int .i64 b, .slice ma ms.length mc, .slice ba bs.length bc] #[.int .i64 cl, .int .u32 mf, .int .u32 wi, .int .u32 id, qv] wr)
      (fun _ i _ => ms.length - (intOf i).toNat)
    case atStart => exact ⟨0, text.length, Nat.zero_le _, Nat.zero_le _, rfl, rfl, by omega, Nat.le_refl _, by simp, t0⟩
    case round =>
      obtain ⟨k, N, hk, hk1, rfl, rfl, hN, htN, hmN, tw⟩ := hrel
      have h5 := tw.cell 5
      have h6 := tw.cell 6
      simp at h5 h6
      by_cases hlt : k < ms.length
      · by_cases hlt1 : k < 100
        · obtain ⟨bb, oo, rfl, hbl, hel⟩ := hvm (fun h => by subst h; cases hlt)
          obtain ⟨cs, hcl, hco, hcr, bdv, rfl, hbv, hl1, hl2, hl3, hl4, hl5⟩ := hel k ms[k] (List.getElem?_eq_getElem hlt)
          have hcr' := rangeAt_below hcr tw.2.2.1 hbl
          obtain ⟨bda, bdc, rfl, _⟩ := hbv
          have e3 := hcr' 3 _ rfl
          have e4 := hcr' 4 _ rfl
          have hl4' : ms[k].id.length ≤ 281474976710656 := hl4
          have hl5' : ms[k].body.length ≤ 281474976710656 := hl5
          have hs1 : IntKind.i64.wrap ((N : Int) + (ms[k].id.length : Int)) = (N : Int) + (ms[k].id.length : Int) := by rw [IntKind.wrap_i64]; omega
          have hs2 : IntKind.i64.wrap ((N : Int) + (ms[k].id.length : Int) + (ms[k].body.length : Int)) = (N : Int) + (ms[k].id.length : Int) + (ms[k].body.length : Int) := by rw [IntKind.wrap_i64]; omega
          go_wp2_with fail
          go_quiet (fail)
          go_wp2_with fail
          go_roundw
          case rel =>
            refine ⟨k + 1, N + ms[k].id.length + ms[k].body.length, by omega, by omega, by go_num, by go_num, by omega, by omega, ?_, tw.step (Below.drewN (Below.refl _ _) _)⟩
            intro m hmm
            rw [List.take_succ_eq_append_getElem hlt, List.mem_append] at hmm
            rcases hmm with hmm | hmm
            · have := hmN m hmm; omega
            · rw [List.mem_singleton] at hmm
              subst hmm
              omega
          case measure => simp [intOf]; omega
        · go_wp2_with fail
          go_meet
          exact ⟨N, rfl, by omega, htN, fun h => by omega, tw⟩
      · have hke : k = ms.length := by omega
        subst hke
        rw [List.take_length] at hmN
        go_wp2_with fail
        all_goals go_meet
        all_goals exact ⟨N, rfl, by omega, htN, fun _ => hmN, tw⟩
  case rest =>
    obtain ⟨N0, rfl, hN0, htN0, hmN0, tw0⟩ := hcut
    go_upto_block 2 with fail
    go_cut [5] (fun n wx => ∃ N : Nat, n = .int .i64 N ∧ text.length ≤ N ∧ (ms.length ≤ 100 → ∀ m ∈ ms, m.id.length + m.body.length ≤ N) ∧ (bs.length ≤ 100 → ∀ m ∈ bs, m.link.length + m.tag.length + m.cond.length ≤ N) ∧ N ≤ 281474976710656 * 1000 ∧ Two w #[.int .i64 err, .bool is, S text, .int .i64 a, .int .i64 b, .slice ma ms.length mc, .slice ba bs.length bc] #[.int .i64 cl, .int .u32 mf, .int .u32 wi, .int .u32 id, qv] wx)
    case first =>
      go_wp2_with fail
      go_loopw [5, 7] (fun n i wr => ∃ k N : Nat, k ≤ bs.length ∧ k ≤ 100 ∧ i = .int .i64 k ∧ n = .int .i64 N ∧ N ≤ 281474976710656 * (201 + 3 * k) ∧ N0 ≤ N ∧ (∀ m ∈ bs.take k, m.link.length + m.tag.length + m.cond.length ≤ N) ∧ Two w #[.int .i64 err, .bool is, S text, .int .i64 a, .int .i64 b, .slice ma ms.length mc, .slice ba bs.length bc] #[.int .i64 cl, .int .u32 mf, .int .u32 wi, .int .u32 id, qv] wr)
        (fun _ i _ => bs.length - (intOf i).toNat)
      case atStart => exact ⟨0, N0, Nat.zero_le _, Nat.zero_le _, rfl, rfl, by omega, Nat.le_refl _, by simp, tw0⟩
      case round =>
        obtain ⟨k, N, hk, hk1, rfl, rfl, hN, htN, hmN, tw⟩ := hrel
        have h5 := tw.cell 5
        have h6 := tw.cell 6
        simp at h5 h6
        by_cases hlt : k < bs.length
        · by_cases hlt1 : k < 100
          · obtain ⟨bb, oo, rfl, hbl, hel⟩ := hvb (fun h => by subst h; cases hlt)
            obtain ⟨cs, hcl, hco, hcr, rfl, hl0, hl1, hl2, hl3, hl4, hl5, hl6⟩ := hel k bs[k] (List.getElem?_eq_getElem hlt)
            have hcr' := rangeAt_below hcr tw.2.2.1 hbl
            have e1 := hcr' 1 _ rfl
            have e2 := hcr' 2 _ rfl
            have e6 := hcr' 6 _ rfl
            have hl4' : bs[k].link.length ≤ 281474976710656 := hl4
            have hl5' : bs[k].tag.length ≤ 281474976710656 := hl5
            have hl6' : bs[k].cond.length ≤ 281474976710656 := hl6
            have hs1 : IntKind.i64.wrap ((N : Int) + (bs[k].link.length : Int)) = (N : Int) + (bs[k].link.length : Int) := by rw [IntKind.wrap_i64]; omega
            have hs2 : IntKind.i64.wrap ((N : Int) + (bs[k].link.length : Int) + (bs[k].tag.length : Int)) = (N : Int) + (bs[k].link.length : Int) + (bs[k].tag.length : Int) := by rw [IntKind.wrap_i64]; omega
            have hs3 : IntKind.i64.wrap ((N : Int) + (bs[k].link.length : Int) + (bs[k].tag.length : Int) + (bs[k].cond.length : Int)) = (N : Int) + (bs[k].link.length : Int) + (bs[k].tag.length : Int) + (bs[k].cond.length : Int) := by rw [IntKind.wrap_i64]; omega
            go_wp2_with fail
            go_quiet (fail)
            go_wp2_with fail
            go_roundw
            case rel =>
              refine ⟨k + 1, N + bs[k].link.length + bs[k].tag.length + bs[k].cond.length, by omega, by omega, by go_num, by go_num, by omega, by omega, ?_, tw.step (Below.drewN (Below.refl _ _) _)⟩
              intro m hmm
              rw [List.take_succ_eq_append_getElem hlt, List.mem_append] at hmm
              rcases hmm with hmm | hmm
              · have := hmN m hmm; omega
              · rw [List.mem_singleton] at hmm
                subst hmm
                omega
            case measure => simp [intOf]; omega
          · go_wp2_with fail
            go_meet
            exact ⟨N, rfl, by omega, fun h m hmm => Nat.le_trans (hmN0 h m hmm) htN, fun h => by omega, by omega, tw⟩
        · have hke : k = bs.length := by omega
          subst hke
          rw [List.take_length] at hmN
          go_wp2_with fail
          all_goals go_meet
          all_goals exact ⟨N, rfl, by omega, fun h m hmm => Nat.le_trans (hmN0 h m hmm) htN, fun _ => hmN, by omega, tw⟩
    case rest =>
      obtain ⟨N, rfl, htN, hmN, hbN, hNb, tw⟩ := hcut
      clear hN0 htN0 hmN0 tw0 t0
      have h5 := tw.cell 5
      have h6 := tw.cell 6
      simp at h5 h6
      have hq' := hq.below @QueE0.st tw.2.2.1
      have hvs := vastSetup cl mf wi id qv qs wc hq'
      have htw1 := tw.2.1
      by_cases hb1 : 8192 < N
      · have hw := hworks wc tw.2.2.1
        go_wp2_with (go_at_call 6; with_reducible refine hw.mono ?_; rintro e w2 ⟨rfl, hb2⟩)
        go_ret
        exact ⟨rfl, tw.2.2.1.trans (hb2.mono tw.2.2.1.size)⟩
      by_cases hb3 : 100 < ms.length
      · have hw := hworks wc tw.2.2.1
        go_wp2_with (go_at_call 6; with_reducible refine hw.mono ?_; rintro e w2 ⟨rfl, hb2⟩)
        go_ret
        exact ⟨rfl, tw.2.2.1.trans (hb2.mono tw.2.2.1.size)⟩
      by_cases hb4 : 100 < bs.length
      · have hw := hworks wc tw.2.2.1
        go_wp2_with (go_at_call 6; with_reducible refine hw.mono ?_; rintro e w2 ⟨rfl, hb2⟩)
        go_ret
        exact ⟨rfl, tw.2.2.1.trans (hb2.mono tw.2.2.1.size)⟩
      have c0 := tw.cell' 0
      have c1 := tw.cell' 1
      have c2 := tw.cell' 2
      have c3 := tw.cell' 3
      have c4 := tw.cell' 4
      simp at c0 c1 c2 c3 c4
      go_wp2_with fail
      refine hvs.mono ?_
      rintro e w2 ⟨⟨vb, rfl, hvb⟩, hb2⟩
      have hw := hworks w2 (tw.2.2.1.trans (hb2.mono tw.2.2.1.size))
      cases vb
      · have tw2 := tw.step hb2
        have hq2 := hq.below @QueE0.st tw2.2.2.1
        clear c0 c1 c2 c3 c4
        have c0 := tw2.cell' 0
        have c1 := tw2.cell' 1
        have c2 := tw2.cell' 2
        have c3 := tw2.cell' 3
        have c4 := tw2.cell' 4
        simp at c0 c1 c2 c3 c4
        have hpw : ∀ W, Below w.heap.size w W → Pow W := fun W h => htab.below h (Nat.le_refl _)
        obtain ⟨p, er, hh1, hh2⟩ := heads cl mf wi id qv qs w hc hmf hwi hid hq (hvb rfl).2
        obtain ⟨q, ht1, ht2⟩ := tells err a b is text ms bs (.slice ma ms.length mc) (.slice ba bs.length bc) w he ha hb (by omega) hm hbe (by omega) (by omega) (fun m hm' => Nat.le_trans (hmN (by omega) m hm') (by omega)) (fun m hm' => Nat.le_trans (hbN (by omega) m hm') (by omega))
        go_wp2_with fail
        refine (hh1 w2 tw2.2.2.1 (hpw _ tw2.2.2.1)).mono ?_
        rintro e w3 ⟨rfl, hb3⟩
        have tw3 := tw2.step hb3
        clear c0 c1 c2 c3 c4
        have c0 := tw3.cell' 0
        have c1 := tw3.cell' 1
        have c2 := tw3.cell' 2
        have c3 := tw3.cell' 3
        have c4 := tw3.cell' 4
        simp at c0 c1 c2 c3 c4
        go_wp2_with fail
        refine (hh2 w3 tw3.2.2.1 (hpw _ tw3.2.2.1)).mono ?_
        rintro e w4 ⟨rfl, hb4⟩
        have tw4 := tw3.step hb4
        go_wp2_with fail
        have t1 : ∀ W, Two w #[.int .i64 err, .bool is, S text, .int .i64 a, .int .i64 b, .slice ma ms.length mc, .slice ba bs.length bc] #[.int .i64 cl, .int .u32 mf, .int .u32 wi, .int .u32 id, qv] W → _ := fun W h => ht1 W h.2.2.1 (hpw W h.2.2.1)
        have t2 : ∀ W, Two w #[.int .i64 err, .bool is, S text, .int .i64 a, .int .i64 b, .slice ma ms.length mc, .slice ba bs.length bc] #[.int .i64 cl, .int .u32 mf, .int .u32 wi, .int .u32 id, qv] W → _ := fun W h => ht2 W h.2.2.1 (hpw W h.2.2.1)
        have t3 : ∀ W, Two w #[.int .i64 err, .bool is, S text, .int .i64 a, .int .i64 b, .slice ma ms.length mc, .slice ba bs.length bc] #[.int .i64 cl, .int .u32 mf, .int .u32 wi, .int .u32 id, qv] W → _ := fun W h => hworks W h.2.2.1
        have tw5 := tw4.step (Below.refl _ w4).drew
        clear c0 c1 c2 c3 c4 h5 h6 hvs hh1 hh2 hw hq' hq2
        go_region_held3 (fun w' => w'.cell? ⟨w.heap.size, 0, none⟩ = some (.int .i64 err) ∧ w'.cell? ⟨w.heap.size, 1, none⟩ = some (.bool is) ∧ w'.cell? ⟨w.heap.size, 2, none⟩ = some (S text) ∧ w'.cell? ⟨w.heap.size, 3, none⟩ = some (.int .i64 a) ∧ w'.cell? ⟨w.heap.size, 4, none⟩ = some (.int .i64 b) ∧ w'.cell? ⟨w.heap.size, 5, none⟩ = some (.slice ma ms.length mc) ∧ w'.cell? ⟨w.heap.size, 6, none⟩ = some (.slice ba bs.length bc) ∧ Two w #[.int .i64 err, .bool is, S text, .int .i64 a, .int .i64 b, .slice ma ms.length mc, .slice ba bs.length bc] #[.int .i64 cl, .int .u32 mf, .int .u32 wi, .int .u32 id, qv] w')
          (first
            | exact ⟨tw5.cell 0, tw5.cell 1, tw5.cell 2, tw5.cell 3, tw5.cell 4, tw5.cell 5, tw5.cell 6, tw5⟩
            | (have tx := Two.step (by assumption : _ ∧ _ ∧ _ ∧ _ ∧ _ ∧ _ ∧ _ ∧ Two _ _ _ _).2.2.2.2.2.2.2 (by assumption); exact ⟨tx.cell 0, tx.cell 1, tx.cell 2, tx.cell 3, tx.cell 4, tx.cell 5, tx.cell 6, tx⟩))
          (first
            | (go_at_call 15; have hx := (by assumption : _ ∧ _ ∧ _ ∧ _ ∧ _ ∧ _ ∧ _ ∧ Two _ _ _ _).2.2.2.2.2.2.2; with_reducible refine (t1 _ hx).mono ?_; rintro e w' ⟨rfl, hbx⟩)
            | (go_at_call 16; have hx := (by assumption : _ ∧ _ ∧ _ ∧ _ ∧ _ ∧ _ ∧ _ ∧ Two _ _ _ _).2.2.2.2.2.2.2; with_reducible refine (t2 _ hx).mono ?_; rintro e w' ⟨rfl, hbx⟩)
            | (go_at_call 6; have hx := (by assumption : _ ∧ _ ∧ _ ∧ _ ∧ _ ∧ _ ∧ _ ∧ Two _ _ _ _).2.2.2.2.2.2.2; with_reducible refine (t3 _ hx).mono ?_; rintro e w' ⟨rfl, hbx⟩))
        have hk := (by assumption : _ ∧ _ ∧ _ ∧ _ ∧ _ ∧ _ ∧ _ ∧ Two _ _ _ _).2.2.2.2.2.2.2.2.2.1
        go_wp2
        go_ret
        exact ⟨rfl, hk⟩
      · go_wp2_with (go_at_call 6; with_reducible refine hw.mono ?_; rintro e w3 ⟨rfl, hb3⟩)
        go_ret
        exact ⟨rfl, (tw.2.2.1.trans (hb2.mono tw.2.2.1.size)).trans (hb3.mono (tw.2.2.1.trans (hb2.mono tw.2.2.1.size)).size)⟩
end Go.Proofs.YtaojoifpekoecaaGreatDoor

