/-
  script.line: an event's line, and the event with the fields of its kind alone. Conditions: as the theorem says.
-/
import Derived.Test.YtaojoifpekoecaaGreatDoorFC
import Derived.Deep.RegionWith
namespace Go.Proofs.YtaojoifpekoecaaGreatDoor
open Go.RowKit Go.Shelf
set_option maxHeartbeats 40000000
set_option maxRecDepth 100000
theorem line (e : EvD) (bv : Value) (w : World) (hk1 : 1 ≤ e.k) (hk2 : e.k < 14) (hf : e.Fine) (hs : e.Slim) (hb : BytesV w bv e.m.body) (htab : Pow w) :
    Calls Tryz.prog 22 #[.agg (e.cs bv)] w fun r w' => r = .returned (.tuple #[S (Lib.join (wordsD e) [32]), .agg ((onlyD e).cs (onlyB e bv))]) ∧ Below w.heap.size w w' := by
  have hb0 := hb
  obtain ⟨ba, bc, rfl, _⟩ := hb0
  have h3w := pow_lt htab
  obtain ⟨i0, hi, hz0, hz1, hz2⟩ := info_parts infoStr
  generalize hQ : (fun (r : Ending) (w' : World) => r = .returned (.tuple #[S (Lib.join (wordsD e) [32]), .agg ((onlyD e).cs (onlyB e (.slice ba e.m.body.length bc)))]) ∧ Below w.heap.size w w') = Q
  go_enter Tryz.func22, Tryz.ntmps22
  go_wp2_with fail
  go_cut [4, 5] (fun l q wx => ∃ qb g cap, q = .pointer (some ⟨qb, 0, none⟩) ∧ l = .slice (some ⟨g, 0, none⟩) 1 cap ∧ St w (e.cs (.slice ba e.m.body.length bc)) (.cells zEv 30) qb ((q1 e).cs nilB) g cap [kw e] wx)
  case first =>
    have hi0 : (0 : Int) ≤ (e.k : Int) := by omega
    have hi1 : (e.k : Int) < 14 := by omega
    have cE : ∀ W, Below (w.heap.size + 2) ((w.alloc (.cells (e.cs (.slice ba e.m.body.length bc)) 30)).alloc (.cells zEv 30)) W → W.cell? ⟨w.heap.size, 0, none⟩ = some (.int .u8 e.k) := fun W h => by
      rw [h.cell (by show w.heap.size < w.heap.size + 2; omega), cell_of (heap_alloc2_old w _ _)]; rfl
    have e0 : ((((w.alloc (.cells (e.cs (.slice ba e.m.body.length bc)) 30)).alloc (.cells zEv 30)).drew).alloc (.cells zEv 30)).cell? ⟨w.heap.size, 0, none⟩ = some (.int .u8 e.k) := cE _ ((Below.refl _ _).drew.alloc (by simp) _)
    refine wp_region_noPanic ?_
    refine wp_region_held_drew (S := fun W => W.cell? ⟨w.heap.size, 0, none⟩ = some (.int .u8 e.k)) (by kernel_rfl) (cE _ (Below.refl _ _).drew) (fun hHeld => ?_)
    refine wpAnyH_take (i := 1) (oi := _) (v := ?_) rfl (by kernel_rfl) (by kernel_rfl) (by kernel_rfl) (fun _ _ _ h => h) (Or.inl ⟨by rfl, ?_⟩) hHeld ?_
    rotate_left 1
    · intro W hS
      try dsimp only at hS
      go_simp <;> with_reducible rfl
    try simp only [Act.put]
    try simp only [List.setIfInBounds_toArray]
    refine wpAnyH_take (i := 2) (oi := _) (v := ?_) rfl (by kernel_rfl) (by kernel_rfl) (by kernel_rfl) (fun _ _ _ h => h) (Or.inl ⟨by rfl, ?_⟩) hHeld ?_
    rotate_left 1
    · intro W hS
      try dsimp only at hS
      go_simp <;> with_reducible rfl
    try simp only [Act.put]
    try simp only [List.setIfInBounds_toArray]
    refine wpAnyH_take (i := 6) (oi := _) (v := ?_) rfl (by kernel_rfl) (by kernel_rfl) (by kernel_rfl) (fun _ _ _ h => h) (Or.inl ⟨by rfl, ?_⟩) hHeld ?_
    rotate_left 1
    · intro W hS
      try dsimp only at hS
      go_simp <;> with_reducible rfl
    try simp only [Act.put]
    try simp only [List.setIfInBounds_toArray]
    refine wpAnyH_take (i := 7) (oi := _) (v := ?_) rfl (by kernel_rfl) (by kernel_rfl) (by kernel_rfl) (fun _ _ _ h => h) (Or.inl ⟨by rfl, ?_⟩) hHeld ?_
    rotate_left 1
    · intro W hS
      try dsimp only at hS
      go_simp <;> with_reducible rfl
    try simp only [Act.put]
    try simp only [List.setIfInBounds_toArray]
    refine wpAnyH_take (i := 8) (oi := _) (v := ?_) rfl (by kernel_rfl) (by kernel_rfl) (by kernel_rfl) (fun _ _ _ h => h) (Or.inl ⟨by rfl, ?_⟩) hHeld ?_
    rotate_left 1
    · intro W hS
      try dsimp only at hS
      go_simp <;> with_reducible rfl
    try simp only [Act.put]
    try simp only [List.setIfInBounds_toArray]
    refine wpAnyH_ready (rs := [0, 9]) (by kernel_rfl) (by simp) ?_
    refine AllReadyH.cons (o := _) rfl (fun K hK => ?_) (AllReadyH.cons (o := _) rfl (fun K hK => ?_) AllReadyH.nil)
    · go_simp
      go_at_call 21
      refine (words _).mono ?_
      rintro r w1 ⟨rfl, hb1, hw1⟩
      have hB1 : Below (w.heap.size + 2) ((w.alloc (.cells (e.cs (.slice ba e.m.body.length bc)) 30)).alloc (.cells zEv 30)) w1 := (Below.refl _ _).drew.trans (hb1.mono (by simp))
      have hlt1 := lt_of hw1
      have hc1 := kw_cell hk2 hw1
      have he1 : w1.cell? ⟨w.heap.size, 0, none⟩ = some (.int .u8 e.k) := cE w1 hB1
      simp only [World.size_alloc, World.size_drew] at hc1 hlt1
      go_wp2_with fail
      refine hK.out _ _ (he1) (fun hHeld => ?_)
      clear hK K
      try simp only [Act.put]
      try simp only [List.setIfInBounds_toArray]
      refine wpAnyH_imp (S2 := fun W => W.cell? ⟨w.heap.size, 0, none⟩ = some (.int .u8 e.k) ∧ W.cell? ⟨w.heap.size + 1 + 1, e.k, none⟩ = some (S ((kindWs[e.k]?).getD []))) (fun _ h => h.1) _ _ _ _ ?_
      have hHeld := And.intro hHeld hc1
      have hbs : ∀ V, Below w1.heap.size w1 V → V.cell? ⟨w.heap.size, 0, none⟩ = some (.int .u8 e.k) ∧ V.cell? ⟨w.heap.size + 1 + 1, e.k, none⟩ = some (S ((kindWs[e.k]?).getD [])) := fun V h => ⟨(h.cell (by show w.heap.size < _; omega)).trans he1, (h.cell (by show w.heap.size + 1 + 1 < _; omega)).trans hc1⟩
      refine wpAnyH_take (i := 3) (oi := _) (v := ?_) rfl (by kernel_rfl) (by kernel_rfl) (by kernel_rfl) (fun _ _ _ h => h) (Or.inl ⟨by rfl, ?_⟩) hHeld ?_
      rotate_left 1
      · intro W hS
        try dsimp only at hS
        go_simp <;> with_reducible rfl
      try simp only [Act.put]
      try simp only [List.setIfInBounds_toArray]
      refine wpAnyH_take (i := 4) (oi := _) (v := ?_) rfl (by kernel_rfl) (by kernel_rfl) (by kernel_rfl) (fun _ _ _ h => h) (Or.inl ⟨by rfl, ?_⟩) hHeld ?_
      rotate_left 1
      · intro W hS
        try dsimp only at hS
        go_simp <;> with_reducible rfl
      try simp only [Act.put]
      try simp only [List.setIfInBounds_toArray]
      refine wpAnyH_ready (rs := [5, 9]) (by kernel_rfl) (by simp) ?_
      refine AllReadyH.cons (o := _) rfl (fun K hK => ?_) (AllReadyH.cons (o := _) rfl (fun K hK => ?_) AllReadyH.nil)
      · go_simp
        refine hK.out _ _ (hbs _ ((Below.refl _ w1).alloc (Nat.le_refl _) (.cells #[S ((kindWs[e.k]?).getD [])] 9))) (fun hHeld => ?_)
        clear hK K
        try simp only [Act.put]
        try simp only [List.setIfInBounds_toArray]
        refine wpAnyH_ready (rs := [9]) (by kernel_rfl) (by simp) ?_
        refine AllReadyH.cons (o := _) rfl (fun K hK => ?_) AllReadyH.nil
        go_simp
        refine hK.out _ _ (hbs _ (((Below.refl _ w1).alloc (Nat.le_refl _) (.cells #[S ((kindWs[e.k]?).getD [])] 9)).alloc (by simp) (.cells zEv 30))) (fun hHeld => ?_)
        clear hK K
        try simp only [Act.put]
        try simp only [List.setIfInBounds_toArray]
        refine wpAnyH_take (i := 10) (oi := _) (v := _) rfl (by kernel_rfl) (by kernel_rfl) (by kernel_rfl) (fun _ _ _ h => h) (Or.inl ⟨by rfl, fun _ _ => rfl⟩) hHeld ?_
        try simp only [Act.put]
        try simp only [List.setIfInBounds_toArray]
        refine wpAnyH_ready (rs := [11]) (by kernel_rfl) (by simp) ?_
        refine AllReadyH.cons (o := _) rfl (fun K hK => ?_) AllReadyH.nil
        rw [if_pos (by rfl)]
        have hbw : Below w1.heap.size w1 ((w1.alloc (.cells #[S ((kindWs[e.k]?).getD [])] 9)).alloc (.cells zEv 30)) := ((Below.refl _ w1).alloc (Nat.le_refl _) _).alloc (by simp) _
        have hq : ((w1.alloc (.cells #[S ((kindWs[e.k]?).getD [])] 9)).alloc (.cells zEv 30)).heap[w1.heap.size + 1]? = some (.cells zEv 30) := heap_alloc2_new w1 _ _
        have hg : ((w1.alloc (.cells #[S ((kindWs[e.k]?).getD [])] 9)).alloc (.cells zEv 30)).heap[w1.heap.size]? = some (.cells #[S ((kindWs[e.k]?).getD [])] 9) := heap_alloc2_old w1 _ _
        have hth : ((w1.alloc (.cells #[S ((kindWs[e.k]?).getD [])] 9)).alloc (.cells zEv 30)).there (w1.heap.size + 1) 0 17 := fun j hj => ⟨by rw [Nat.zero_add, cell_of hq, Array.getElem?_eq_getElem (by exact hj)]; rfl, frozen_of hq⟩
        refine wp_store_mid 30 _ _ rfl (w1.heap.size + 1) 0 (List.toArray ([.int .u8 e.k, .int .i64 0, .int .i64 0, .string { data := #[] }, .string { data := #[] }, .bool false, .int .u8 0, .int .u8 0, .int .u8 0, .int .u32 0, .int .u32 0, .string { data := #[] }, .slice none 0 0, .int .u8 0, .int .u64 0, .int .u64 0, .string { data := #[] }] : List Value)) rfl rfl hth info30' (all_of_list rfl) ?_
        have sF : St w (e.cs (.slice ba e.m.body.length bc)) (.cells zEv 30) (w1.heap.size + 1) ((q1 e).cs nilB) (w1.heap.size) 1 [kw e] (World.setCells ((w1.alloc (.cells #[S ((kindWs[e.k]?).getD [])] 9)).alloc (.cells zEv 30)) (w1.heap.size + 1) 0 [.int .u8 e.k, .int .i64 0, .int .i64 0, .string { data := #[] }, .string { data := #[] }, .bool false, .int .u8 0, .int .u8 0, .int .u8 0, .int .u32 0, .int .u32 0, .string { data := #[] }, .slice none 0 0, .int .u8 0, .int .u64 0, .int .u64 0, .string { data := #[] }]) := St.init htab (hB1.trans (hbw.mono (by omega))) hq rfl hg (by omega) (by omega) (by omega)
        refine hK.out _ _ ⟨cell_of sF.e, (cell?_of_block ((setCells_but (w1.heap.size + 1) [.int .u8 e.k, .int .i64 0, .int .i64 0, .string { data := #[] }, .string { data := #[] }, .bool false, .int .u8 0, .int .u8 0, .int .u8 0, .int .u32 0, .int .u32 0, .string { data := #[] }, .slice none 0 0, .int .u8 0, .int .u64 0, .int .u64 0, .string { data := #[] }] 0 ((w1.alloc (.cells #[S ((kindWs[e.k]?).getD [])] 9)).alloc (.cells zEv 30))).block (w.heap.size + 1 + 1) (by have := hbw.size; omega) (by omega))).trans (hbs _ hbw).2⟩ (fun hHeld => ?_)
        clear hK K
        refine wpAnyH_done (by kernel_rfl) ?_ _
        refine NoPanic.normal ?_
        go_wp2_with fail
        go_meet
        exact ⟨_, _, _, rfl, rfl, sF⟩
      · go_simp
        refine hK.out _ _ (hbs _ ((Below.refl _ w1).alloc (Nat.le_refl _) (.cells zEv 30))) (fun hHeld => ?_)
        clear hK K
        try simp only [Act.put]
        try simp only [List.setIfInBounds_toArray]
        refine wpAnyH_ready (rs := [5]) (by kernel_rfl) (by simp) ?_
        refine AllReadyH.cons (o := _) rfl (fun K hK => ?_) AllReadyH.nil
        go_simp
        refine hK.out _ _ (hbs _ (((Below.refl _ w1).alloc (Nat.le_refl _) (.cells zEv 30)).alloc (by simp) (.cells #[S ((kindWs[e.k]?).getD [])] 9))) (fun hHeld => ?_)
        clear hK K
        try simp only [Act.put]
        try simp only [List.setIfInBounds_toArray]
        refine wpAnyH_take (i := 10) (oi := _) (v := _) rfl (by kernel_rfl) (by kernel_rfl) (by kernel_rfl) (fun _ _ _ h => h) (Or.inl ⟨by rfl, fun _ _ => rfl⟩) hHeld ?_
        try simp only [Act.put]
        try simp only [List.setIfInBounds_toArray]
        refine wpAnyH_ready (rs := [11]) (by kernel_rfl) (by simp) ?_
        refine AllReadyH.cons (o := _) rfl (fun K hK => ?_) AllReadyH.nil
        rw [if_pos (by rfl)]
        have hbw : Below w1.heap.size w1 ((w1.alloc (.cells zEv 30)).alloc (.cells #[S ((kindWs[e.k]?).getD [])] 9)) := ((Below.refl _ w1).alloc (Nat.le_refl _) _).alloc (by simp) _
        have hq : ((w1.alloc (.cells zEv 30)).alloc (.cells #[S ((kindWs[e.k]?).getD [])] 9)).heap[w1.heap.size]? = some (.cells zEv 30) := heap_alloc2_old w1 _ _
        have hg : ((w1.alloc (.cells zEv 30)).alloc (.cells #[S ((kindWs[e.k]?).getD [])] 9)).heap[w1.heap.size + 1]? = some (.cells #[S ((kindWs[e.k]?).getD [])] 9) := heap_alloc2_new w1 _ _
        have hth : ((w1.alloc (.cells zEv 30)).alloc (.cells #[S ((kindWs[e.k]?).getD [])] 9)).there (w1.heap.size) 0 17 := fun j hj => ⟨by rw [Nat.zero_add, cell_of hq, Array.getElem?_eq_getElem (by exact hj)]; rfl, frozen_of hq⟩
        refine wp_store_mid 30 _ _ rfl (w1.heap.size) 0 (List.toArray ([.int .u8 e.k, .int .i64 0, .int .i64 0, .string { data := #[] }, .string { data := #[] }, .bool false, .int .u8 0, .int .u8 0, .int .u8 0, .int .u32 0, .int .u32 0, .string { data := #[] }, .slice none 0 0, .int .u8 0, .int .u64 0, .int .u64 0, .string { data := #[] }] : List Value)) rfl rfl hth info30' (all_of_list rfl) ?_
        have sF : St w (e.cs (.slice ba e.m.body.length bc)) (.cells zEv 30) (w1.heap.size) ((q1 e).cs nilB) (w1.heap.size + 1) 1 [kw e] (World.setCells ((w1.alloc (.cells zEv 30)).alloc (.cells #[S ((kindWs[e.k]?).getD [])] 9)) (w1.heap.size) 0 [.int .u8 e.k, .int .i64 0, .int .i64 0, .string { data := #[] }, .string { data := #[] }, .bool false, .int .u8 0, .int .u8 0, .int .u8 0, .int .u32 0, .int .u32 0, .string { data := #[] }, .slice none 0 0, .int .u8 0, .int .u64 0, .int .u64 0, .string { data := #[] }]) := St.init htab (hB1.trans (hbw.mono (by omega))) hq rfl hg (by omega) (by omega) (by omega)
        refine hK.out _ _ ⟨cell_of sF.e, (cell?_of_block ((setCells_but (w1.heap.size) [.int .u8 e.k, .int .i64 0, .int .i64 0, .string { data := #[] }, .string { data := #[] }, .bool false, .int .u8 0, .int .u8 0, .int .u8 0, .int .u32 0, .int .u32 0, .string { data := #[] }, .slice none 0 0, .int .u8 0, .int .u64 0, .int .u64 0, .string { data := #[] }] 0 ((w1.alloc (.cells zEv 30)).alloc (.cells #[S ((kindWs[e.k]?).getD [])] 9))).block (w.heap.size + 1 + 1) (by have := hbw.size; omega) (by omega))).trans (hbs _ hbw).2⟩ (fun hHeld => ?_)
        clear hK K
        refine wpAnyH_done (by kernel_rfl) ?_ _
        refine NoPanic.normal ?_
        go_wp2_with fail
        go_meet
        exact ⟨_, _, _, rfl, rfl, sF⟩
    · go_simp
      refine hK.out _ _ (e0) (fun hHeld => ?_)
      clear hK K
      try simp only [Act.put]
      try simp only [List.setIfInBounds_toArray]
      refine wpAnyH_ready (rs := [0]) (by kernel_rfl) (by simp) ?_
      refine AllReadyH.cons (o := _) rfl (fun K hK => ?_) AllReadyH.nil
      go_simp
      go_at_call 21
      refine (words _).mono ?_
      rintro r w1 ⟨rfl, hb1, hw1⟩
      have hB1 : Below (w.heap.size + 2) ((w.alloc (.cells (e.cs (.slice ba e.m.body.length bc)) 30)).alloc (.cells zEv 30)) w1 := ((Below.refl _ _).drew.alloc (by simp) _).trans (hb1.mono (by simp))
      have hlt1 := lt_of hw1
      have hc1 := kw_cell hk2 hw1
      have he1 : w1.cell? ⟨w.heap.size, 0, none⟩ = some (.int .u8 e.k) := cE w1 hB1
      simp only [World.size_alloc, World.size_drew] at hc1 hlt1
      go_wp2_with fail
      refine hK.out _ _ (he1) (fun hHeld => ?_)
      clear hK K
      try simp only [Act.put]
      try simp only [List.setIfInBounds_toArray]
      refine wpAnyH_imp (S2 := fun W => W.cell? ⟨w.heap.size, 0, none⟩ = some (.int .u8 e.k) ∧ W.cell? ⟨w.heap.size + 1 + 1 + 1, e.k, none⟩ = some (S ((kindWs[e.k]?).getD []))) (fun _ h => h.1) _ _ _ _ ?_
      have hHeld := And.intro hHeld hc1
      have hbs : ∀ V, Below w1.heap.size w1 V → V.cell? ⟨w.heap.size, 0, none⟩ = some (.int .u8 e.k) ∧ V.cell? ⟨w.heap.size + 1 + 1 + 1, e.k, none⟩ = some (S ((kindWs[e.k]?).getD [])) := fun V h => ⟨(h.cell (by show w.heap.size < _; omega)).trans he1, (h.cell (by show w.heap.size + 1 + 1 + 1 < _; omega)).trans hc1⟩
      refine wpAnyH_take (i := 3) (oi := _) (v := ?_) rfl (by kernel_rfl) (by kernel_rfl) (by kernel_rfl) (fun _ _ _ h => h) (Or.inl ⟨by rfl, ?_⟩) hHeld ?_
      rotate_left 1
      · intro W hS
        try dsimp only at hS
        go_simp <;> with_reducible rfl
      try simp only [Act.put]
      try simp only [List.setIfInBounds_toArray]
      refine wpAnyH_take (i := 4) (oi := _) (v := ?_) rfl (by kernel_rfl) (by kernel_rfl) (by kernel_rfl) (fun _ _ _ h => h) (Or.inl ⟨by rfl, ?_⟩) hHeld ?_
      rotate_left 1
      · intro W hS
        try dsimp only at hS
        go_simp <;> with_reducible rfl
      try simp only [Act.put]
      try simp only [List.setIfInBounds_toArray]
      have hqz : w1.heap[w.heap.size + 1 + 1]? = some (.cells zEv 30) := by
        have h1 : ((((w.alloc (.cells (e.cs (.slice ba e.m.body.length bc)) 30)).alloc (.cells zEv 30)).drew).alloc (.cells zEv 30)).heap[w.heap.size + 1 + 1]? = some (.cells zEv 30) := by
          have := heap_alloc_last (((w.alloc (.cells (e.cs (.slice ba e.m.body.length bc)) 30)).alloc (.cells zEv 30)).drew) (.cells zEv 30)
          simpa using this
        exact (hb1.block (w.heap.size + 1 + 1) (by simp)).trans h1
      refine wpAnyH_ready (rs := [5]) (by kernel_rfl) (by simp) ?_
      refine AllReadyH.cons (o := _) rfl (fun K hK => ?_) AllReadyH.nil
      go_simp
      refine hK.out _ _ (hbs _ ((Below.refl _ w1).alloc (Nat.le_refl _) (.cells #[S ((kindWs[e.k]?).getD [])] 9))) (fun hHeld => ?_)
      clear hK K
      try simp only [Act.put]
      try simp only [List.setIfInBounds_toArray]
      refine wpAnyH_take (i := 10) (oi := _) (v := _) rfl (by kernel_rfl) (by kernel_rfl) (by kernel_rfl) (fun _ _ _ h => h) (Or.inl ⟨by rfl, fun _ _ => rfl⟩) hHeld ?_
      try simp only [Act.put]
      try simp only [List.setIfInBounds_toArray]
      refine wpAnyH_ready (rs := [11]) (by kernel_rfl) (by simp) ?_
      refine AllReadyH.cons (o := _) rfl (fun K hK => ?_) AllReadyH.nil
      rw [if_pos (by rfl)]
      have hbw : Below w1.heap.size w1 (w1.alloc (.cells #[S ((kindWs[e.k]?).getD [])] 9)) := (Below.refl _ w1).alloc (Nat.le_refl _) _
      have hq : (w1.alloc (.cells #[S ((kindWs[e.k]?).getD [])] 9)).heap[w.heap.size + 1 + 1]? = some (.cells zEv 30) := (((Below.refl _ w1).alloc (Nat.le_refl _) _).block _ (lt_of hqz)).trans hqz
      have hg : (w1.alloc (.cells #[S ((kindWs[e.k]?).getD [])] 9)).heap[w1.heap.size]? = some (.cells #[S ((kindWs[e.k]?).getD [])] 9) := heap_alloc_last w1 _
      have hth : (w1.alloc (.cells #[S ((kindWs[e.k]?).getD [])] 9)).there (w.heap.size + 1 + 1) 0 17 := fun j hj => ⟨by rw [Nat.zero_add, cell_of hq, Array.getElem?_eq_getElem (by exact hj)]; rfl, frozen_of hq⟩
      refine wp_store_mid 30 _ _ rfl (w.heap.size + 1 + 1) 0 (List.toArray ([.int .u8 e.k, .int .i64 0, .int .i64 0, .string { data := #[] }, .string { data := #[] }, .bool false, .int .u8 0, .int .u8 0, .int .u8 0, .int .u32 0, .int .u32 0, .string { data := #[] }, .slice none 0 0, .int .u8 0, .int .u64 0, .int .u64 0, .string { data := #[] }] : List Value)) rfl rfl hth info30' (all_of_list rfl) ?_
      have sF : St w (e.cs (.slice ba e.m.body.length bc)) (.cells zEv 30) (w.heap.size + 1 + 1) ((q1 e).cs nilB) (w1.heap.size) 1 [kw e] (World.setCells (w1.alloc (.cells #[S ((kindWs[e.k]?).getD [])] 9)) (w.heap.size + 1 + 1) 0 [.int .u8 e.k, .int .i64 0, .int .i64 0, .string { data := #[] }, .string { data := #[] }, .bool false, .int .u8 0, .int .u8 0, .int .u8 0, .int .u32 0, .int .u32 0, .string { data := #[] }, .slice none 0 0, .int .u8 0, .int .u64 0, .int .u64 0, .string { data := #[] }]) := St.init htab (hB1.trans (hbw.mono (by omega))) hq rfl hg (by omega) (by omega) (by omega)
      refine hK.out _ _ ⟨cell_of sF.e, (cell?_of_block ((setCells_but (w.heap.size + 1 + 1) [.int .u8 e.k, .int .i64 0, .int .i64 0, .string { data := #[] }, .string { data := #[] }, .bool false, .int .u8 0, .int .u8 0, .int .u8 0, .int .u32 0, .int .u32 0, .string { data := #[] }, .slice none 0 0, .int .u8 0, .int .u64 0, .int .u64 0, .string { data := #[] }] 0 (w1.alloc (.cells #[S ((kindWs[e.k]?).getD [])] 9))).block (w.heap.size + 1 + 1 + 1) (by have := hbw.size; omega) (by omega))).trans (hbs _ hbw).2⟩ (fun hHeld => ?_)
      clear hK K
      refine wpAnyH_done (by kernel_rfl) ?_ _
      refine NoPanic.normal ?_
      go_wp2_with fail
      go_meet
      exact ⟨_, _, _, rfl, rfl, sF⟩
  case rest =>
    obtain ⟨qb, g, cap, rfl, rfl, st⟩ := hcut
    have a0 : wc.cell? ⟨w.heap.size, 0, none⟩ = some (.int .u8 e.k) := cell_of st.e
    go_upto_if 18 with (first | (go_at_call 30; refine (alone' e.k _).mono ?_; rintro r wa ⟨b, rfl, hal, rfl⟩))
    go_cut [4] (fun l wx => ∃ g cap, l = .slice (some ⟨g, 0, none⟩) (wd2 e).length cap ∧ St w (e.cs (.slice ba e.m.body.length bc)) (.cells zEv 30) qb ((q2 e).cs nilB) g cap (wd2 e) wx)
    case first =>
      cases b
      case true =>
        have hal' := hal.1 rfl
        have hq2 : q2 e = q1 e := if_pos hal'
        have hw2 : wd2 e = [kw e] := if_pos hal'
        go_wp2_with fail
        go_meet
        rw [hq2, hw2]
        exact ⟨g, cap, rfl, st⟩
      case false =>
        have hal' : ¬ (e.k = 5 ∨ e.k = 13) := fun h => by cases hal.2 h
        have hq2 : (q2 e).cs nilB = ((q1 e).cs nilB).setIfInBounds 1 (.int .i64 e.who) := by unfold q2; rw [if_neg hal']; rfl
        have hw2 : wd2 e = [kw e] ++ [Lib.itoa e.who] := if_neg hal'
        have l1 : True := trivial
        have a1 : wa.cell? ⟨w.heap.size, 1, none⟩ = some (.int .i64 e.who) := cell_of st.e
        have b1 : wa.cell? ⟨qb, 1, none⟩ = some (.int .i64 0) := cell_of st.q
        have z1 : wa.frozen? ⟨qb, 1, none⟩ = false := frozen_of st.q
        have st1 := st.put (W' := wa.setCell ⟨qb, 1, none⟩ (.int .i64 e.who)) h3w (heap_setCell_same wa qb 1 _ 30 _ st.q) (But.setCell qb 1 wa _)
        rw [← hq2] at st1
        have a1' : (wa.setCell ⟨qb, 1, none⟩ (.int .i64 e.who)).cell? ⟨w.heap.size, 1, none⟩ = some (.int .i64 e.who) := cell_of st1.e
        have c0 := num_int e.who hf.who.1 hf.who.2 _ st1.pow
        go_wp2_with (first
          | (go_at_call 40; with_reducible refine c0.mono ?_; rintro r w1 ⟨rfl, hb1⟩; have st2 := (st1.step hb1).step ((Below.refl _ _).alloc (Nat.le_refl _) (.cells #[S (Lib.itoa e.who)] 9)))
          | (at_builtin; refine wpList_append_lies _ rfl _ _ 58 (by rfl) (w.heap.size + 2) 9 i0 (.string { data := #[] }) 1 16 Tryz.underlying58 hi hz0 hz1 hz2 rfl (by decide) _ _ _ (by rfl) st2.l ⟨w1.heap.size, 0, none⟩ 1 1 [S (Lib.itoa e.who)] (by rfl) rfl ?c1 ?c2 (by omega) ?c3 ?c4 ?c5 (w1.heap.size + 1) (by simp) ?_))
        case c1 =>
          intro j u hj
          match j, hj with
          | 0, hj => simp at hj; subst hj; simp [Addr.add]
        case c2 => intro u hu; simp at hu; subst hu; rfl
        case c3 => have := l1; simp [maxLen]; try omega
        case c4 => have := l1; simp; try omega
        case c5 => have := st2.below.size; simp at this ⊢; have := lt_of st2.r; simp at this; omega
        intro g2 cap2 w3 hown hgrow hat hlt
        have st3 := st2.grow (news := [Lib.itoa e.who]) h3w (by simpa using hown) rfl hgrow hat (by simp)
        go_wp2_with fail
        go_meet
        rw [hw2]
        exact ⟨_, _, by simp, st3⟩
    case rest =>
      clear a0 st
      obtain ⟨g, cap, rfl, st⟩ := hcut
      have a0 : wc.cell? ⟨w.heap.size, 0, none⟩ = some (.int .u8 e.k) := cell_of st.e
      have l2 : (wd2 e).length ≤ 2 := by unfold wd2; split <;> simp
      go_upto_if 30 with fail
      go_cut [4] (fun l wx => ∃ g cap, l = .slice (some ⟨g, 0, none⟩) (wd3 e).length cap ∧ St w (e.cs (.slice ba e.m.body.length bc)) (.cells zEv 30) qb ((q3 e).cs nilB) g cap (wd3 e) wx)
      case first =>
        by_cases h6 : 6 ≤ e.k
        · have hi6 : (6 : Int) ≤ (e.k : Int) := by omega
          have hq3 : (q3 e).cs nilB = ((q2 e).cs nilB).setIfInBounds 3 (S e.name) := by unfold q3; rw [if_pos h6]; rfl
          have hw3 : wd3 e = wd2 e ++ [hexW e.name] := if_pos h6
          have a3 : wc.cell? ⟨w.heap.size, 3, none⟩ = some (S e.name) := cell_of st.e
          have b3 : wc.cell? ⟨qb, 3, none⟩ = some (S (q2 e).name) := cell_of st.q
          have z3 : wc.frozen? ⟨qb, 3, none⟩ = false := frozen_of st.q
          have st1 := st.put (W' := wc.setCell ⟨qb, 3, none⟩ (S e.name)) h3w (heap_setCell_same wc qb 3 _ 30 _ st.q) (But.setCell qb 3 wc _)
          rw [← hq3] at st1
          have a3' : (wc.setCell ⟨qb, 3, none⟩ (S e.name)).cell? ⟨w.heap.size, 3, none⟩ = some (S e.name) := cell_of st1.e
          have c0 := hex_strL e.name (by have := hs.1; omega) (wc.setCell ⟨qb, 3, none⟩ (S e.name))
          go_wp2_with (first
            | (go_at_call 47; with_reducible refine c0.mono ?_; rintro r w1 ⟨rfl, hb1⟩; have st2 := (st1.step hb1).step ((Below.refl _ _).alloc (Nat.le_refl _) (.cells #[S (hexW e.name)] 9)))
            | (at_builtin; refine wpList_append_lies _ rfl _ _ 58 (by rfl) (w.heap.size + 2) 9 i0 (.string { data := #[] }) 1 16 Tryz.underlying58 hi hz0 hz1 hz2 rfl (by decide) _ _ _ (by rfl) st2.l ⟨w1.heap.size, 0, none⟩ 1 1 [S (hexW e.name)] (by rfl) rfl ?c1 ?c2 (by omega) ?c3 ?c4 ?c5 (w1.heap.size + 1) (by simp) ?_))
          case c1 =>
            intro j u hj
            match j, hj with
            | 0, hj => simp at hj; subst hj; simp [Addr.add]
          case c2 => intro u hu; simp at hu; subst hu; rfl
          case c3 => have := l2; simp [maxLen]; try omega
          case c4 => have := l2; simp; try omega
          case c5 => have := st2.below.size; simp at this ⊢; have := lt_of st2.r; simp at this; omega
          intro g2 cap2 w3 hown hgrow hat hlt
          have st3 := st2.grow (news := [hexW e.name]) h3w (by simpa using hown) rfl hgrow hat (by simp)
          go_wp2_with fail
          go_meet
          rw [hw3]
          exact ⟨_, _, by simp, st3⟩
        · have hi6 : ¬ (6 : Int) ≤ (e.k : Int) := by omega
          have hq3 : q3 e = q2 e := if_neg h6
          have hw3 : wd3 e = wd2 e := if_neg h6
          go_wp2_with fail
          go_meet
          rw [hq3, hw3]
          exact ⟨g, cap, rfl, st⟩
      case rest =>
        clear a0 st
        obtain ⟨g, cap, rfl, st⟩ := hcut
        have a0 : wc.cell? ⟨w.heap.size, 0, none⟩ = some (.int .u8 e.k) := cell_of st.e
        have l3 : (wd3 e).length ≤ 3 := by unfold wd3; split <;> (try simp) <;> omega
        go_upto_block 0 with fail
        go_cut [4, 41] (fun l s wx => s = .int .u8 e.k ∧ ∃ g cap, l = .slice (some ⟨g, 0, none⟩) (wordsD e).length cap ∧ St w (e.cs (.slice ba e.m.body.length bc)) (.cells zEv 30) qb ((onlyD e).cs (onlyB e (.slice ba e.m.body.length bc))) g cap (wordsD e) wx)
        case first =>
          by_cases hn : e.k = 3 ∨ e.k = 4 ∨ e.k = 5 ∨ e.k = 8
          · have hq4 : (onlyD e).cs (onlyB e (.slice ba e.m.body.length bc)) = ((q3 e).cs nilB).setIfInBounds 2 (.int .i64 e.n) := by
              unfold onlyD onlyB; rw [if_pos hn, if_neg (by omega)]; rfl
            have hw4 : wordsD e = wd3 e ++ [Lib.itoa e.n] := if_pos hn
            have o2 : (q3 e).n = 0 := by unfold q3 q2 q1; split <;> split <;> rfl
            by_cases k3 : e.k = 3
            · have i3 : (e.k : Int) = 3 := by omega
              have a2 : wc.cell? ⟨w.heap.size, 2, none⟩ = some (.int .i64 e.n) := cell_of st.e
              have b2 : wc.cell? ⟨qb, 2, none⟩ = some (.int .i64 (q3 e).n) := cell_of st.q
              have z2 : wc.frozen? ⟨qb, 2, none⟩ = false := frozen_of st.q
              have st1 := st.put (W' := wc.setCell ⟨qb, 2, none⟩ (.int .i64 e.n)) h3w (heap_setCell_same wc qb 2 _ 30 _ st.q) (But.setCell qb 2 wc _)
              rw [← hq4] at st1
              have a2' : (wc.setCell ⟨qb, 2, none⟩ (.int .i64 e.n)).cell? ⟨w.heap.size, 2, none⟩ = some (.int .i64 e.n) := cell_of st1.e
              have c0 := num_int e.n hf.n.1 hf.n.2 _ st1.pow
              go_wp2_with (first
                | (go_at_call 40; with_reducible refine c0.mono ?_; rintro r w1 ⟨rfl, hb1⟩; have st2 := (st1.step hb1).step ((Below.refl _ _).alloc (Nat.le_refl _) (.cells #[S (Lib.itoa e.n)] 9)))
                | (at_builtin; refine wpList_append_lies _ rfl _ _ 58 (by rfl) (w.heap.size + 2) 9 i0 (.string { data := #[] }) 1 16 Tryz.underlying58 hi hz0 hz1 hz2 rfl (by decide) _ _ _ (by rfl) st2.l ⟨w1.heap.size, 0, none⟩ 1 1 [S (Lib.itoa e.n)] (by rfl) rfl ?c1 ?c2 (by omega) ?c3 ?c4 ?c5 (w1.heap.size + 1) (by simp) ?_))
              case c1 =>
                intro j u hj
                match j, hj with
                | 0, hj => simp at hj; subst hj; simp [Addr.add]
              case c2 => intro u hu; simp at hu; subst hu; rfl
              case c3 => have := l3; simp [maxLen]; try omega
              case c4 => have := l3; simp; try omega
              case c5 => have := st2.below.size; simp at this ⊢; have := lt_of st2.r; simp at this; omega
              intro g2 cap2 w3 hown hgrow hat hlt
              have st3 := st2.grow (news := [Lib.itoa e.n]) h3w (by simpa using hown) rfl hgrow hat (by simp)
              go_wp2_with fail
              go_meet
              rw [hw4]
              exact ⟨by rw [i3], _, _, by simp, st3⟩
            have i3 : ¬ (e.k : Int) = 3 := by omega
            by_cases k4 : e.k = 4
            · have i4 : (e.k : Int) = 4 := by omega
              have a2 : wc.cell? ⟨w.heap.size, 2, none⟩ = some (.int .i64 e.n) := cell_of st.e
              have b2 : wc.cell? ⟨qb, 2, none⟩ = some (.int .i64 (q3 e).n) := cell_of st.q
              have z2 : wc.frozen? ⟨qb, 2, none⟩ = false := frozen_of st.q
              have st1 := st.put (W' := wc.setCell ⟨qb, 2, none⟩ (.int .i64 e.n)) h3w (heap_setCell_same wc qb 2 _ 30 _ st.q) (But.setCell qb 2 wc _)
              rw [← hq4] at st1
              have a2' : (wc.setCell ⟨qb, 2, none⟩ (.int .i64 e.n)).cell? ⟨w.heap.size, 2, none⟩ = some (.int .i64 e.n) := cell_of st1.e
              have c0 := num_int e.n hf.n.1 hf.n.2 _ st1.pow
              go_wp2_with (first
                | (go_at_call 40; with_reducible refine c0.mono ?_; rintro r w1 ⟨rfl, hb1⟩; have st2 := (st1.step hb1).step ((Below.refl _ _).alloc (Nat.le_refl _) (.cells #[S (Lib.itoa e.n)] 9)))
                | (at_builtin; refine wpList_append_lies _ rfl _ _ 58 (by rfl) (w.heap.size + 2) 9 i0 (.string { data := #[] }) 1 16 Tryz.underlying58 hi hz0 hz1 hz2 rfl (by decide) _ _ _ (by rfl) st2.l ⟨w1.heap.size, 0, none⟩ 1 1 [S (Lib.itoa e.n)] (by rfl) rfl ?c1 ?c2 (by omega) ?c3 ?c4 ?c5 (w1.heap.size + 1) (by simp) ?_))
              case c1 =>
                intro j u hj
                match j, hj with
                | 0, hj => simp at hj; subst hj; simp [Addr.add]
              case c2 => intro u hu; simp at hu; subst hu; rfl
              case c3 => have := l3; simp [maxLen]; try omega
              case c4 => have := l3; simp; try omega
              case c5 => have := st2.below.size; simp at this ⊢; have := lt_of st2.r; simp at this; omega
              intro g2 cap2 w3 hown hgrow hat hlt
              have st3 := st2.grow (news := [Lib.itoa e.n]) h3w (by simpa using hown) rfl hgrow hat (by simp)
              go_wp2_with fail
              go_meet
              rw [hw4]
              exact ⟨by rw [i4], _, _, by simp, st3⟩
            have i4 : ¬ (e.k : Int) = 4 := by omega
            by_cases k5 : e.k = 5
            · have i5 : (e.k : Int) = 5 := by omega
              have a2 : wc.cell? ⟨w.heap.size, 2, none⟩ = some (.int .i64 e.n) := cell_of st.e
              have b2 : wc.cell? ⟨qb, 2, none⟩ = some (.int .i64 (q3 e).n) := cell_of st.q
              have z2 : wc.frozen? ⟨qb, 2, none⟩ = false := frozen_of st.q
              have st1 := st.put (W' := wc.setCell ⟨qb, 2, none⟩ (.int .i64 e.n)) h3w (heap_setCell_same wc qb 2 _ 30 _ st.q) (But.setCell qb 2 wc _)
              rw [← hq4] at st1
              have a2' : (wc.setCell ⟨qb, 2, none⟩ (.int .i64 e.n)).cell? ⟨w.heap.size, 2, none⟩ = some (.int .i64 e.n) := cell_of st1.e
              have c0 := num_int e.n hf.n.1 hf.n.2 _ st1.pow
              go_wp2_with (first
                | (go_at_call 40; with_reducible refine c0.mono ?_; rintro r w1 ⟨rfl, hb1⟩; have st2 := (st1.step hb1).step ((Below.refl _ _).alloc (Nat.le_refl _) (.cells #[S (Lib.itoa e.n)] 9)))
                | (at_builtin; refine wpList_append_lies _ rfl _ _ 58 (by rfl) (w.heap.size + 2) 9 i0 (.string { data := #[] }) 1 16 Tryz.underlying58 hi hz0 hz1 hz2 rfl (by decide) _ _ _ (by rfl) st2.l ⟨w1.heap.size, 0, none⟩ 1 1 [S (Lib.itoa e.n)] (by rfl) rfl ?c1 ?c2 (by omega) ?c3 ?c4 ?c5 (w1.heap.size + 1) (by simp) ?_))
              case c1 =>
                intro j u hj
                match j, hj with
                | 0, hj => simp at hj; subst hj; simp [Addr.add]
              case c2 => intro u hu; simp at hu; subst hu; rfl
              case c3 => have := l3; simp [maxLen]; try omega
              case c4 => have := l3; simp; try omega
              case c5 => have := st2.below.size; simp at this ⊢; have := lt_of st2.r; simp at this; omega
              intro g2 cap2 w3 hown hgrow hat hlt
              have st3 := st2.grow (news := [Lib.itoa e.n]) h3w (by simpa using hown) rfl hgrow hat (by simp)
              go_wp2_with fail
              go_meet
              rw [hw4]
              exact ⟨by rw [i5], _, _, by simp, st3⟩
            have i5 : ¬ (e.k : Int) = 5 := by omega
            by_cases k8 : e.k = 8
            · have i8 : (e.k : Int) = 8 := by omega
              have a2 : wc.cell? ⟨w.heap.size, 2, none⟩ = some (.int .i64 e.n) := cell_of st.e
              have b2 : wc.cell? ⟨qb, 2, none⟩ = some (.int .i64 (q3 e).n) := cell_of st.q
              have z2 : wc.frozen? ⟨qb, 2, none⟩ = false := frozen_of st.q
              have st1 := st.put (W' := wc.setCell ⟨qb, 2, none⟩ (.int .i64 e.n)) h3w (heap_setCell_same wc qb 2 _ 30 _ st.q) (But.setCell qb 2 wc _)
              rw [← hq4] at st1
              have a2' : (wc.setCell ⟨qb, 2, none⟩ (.int .i64 e.n)).cell? ⟨w.heap.size, 2, none⟩ = some (.int .i64 e.n) := cell_of st1.e
              have c0 := num_int e.n hf.n.1 hf.n.2 _ st1.pow
              go_wp2_with (first
                | (go_at_call 40; with_reducible refine c0.mono ?_; rintro r w1 ⟨rfl, hb1⟩; have st2 := (st1.step hb1).step ((Below.refl _ _).alloc (Nat.le_refl _) (.cells #[S (Lib.itoa e.n)] 9)))
                | (at_builtin; refine wpList_append_lies _ rfl _ _ 58 (by rfl) (w.heap.size + 2) 9 i0 (.string { data := #[] }) 1 16 Tryz.underlying58 hi hz0 hz1 hz2 rfl (by decide) _ _ _ (by rfl) st2.l ⟨w1.heap.size, 0, none⟩ 1 1 [S (Lib.itoa e.n)] (by rfl) rfl ?c1 ?c2 (by omega) ?c3 ?c4 ?c5 (w1.heap.size + 1) (by simp) ?_))
              case c1 =>
                intro j u hj
                match j, hj with
                | 0, hj => simp at hj; subst hj; simp [Addr.add]
              case c2 => intro u hu; simp at hu; subst hu; rfl
              case c3 => have := l3; simp [maxLen]; try omega
              case c4 => have := l3; simp; try omega
              case c5 => have := st2.below.size; simp at this ⊢; have := lt_of st2.r; simp at this; omega
              intro g2 cap2 w3 hown hgrow hat hlt
              have st3 := st2.grow (news := [Lib.itoa e.n]) h3w (by simpa using hown) rfl hgrow hat (by simp)
              go_wp2_with fail
              go_meet
              rw [hw4]
              exact ⟨by rw [i8], _, _, by simp, st3⟩
            have i8 : ¬ (e.k : Int) = 8 := by omega
            exact absurd hn (by omega)
          · have i3 : ¬ (e.k : Int) = 3 := by omega
            have i4 : ¬ (e.k : Int) = 4 := by omega
            have i5 : ¬ (e.k : Int) = 5 := by omega
            have i8 : ¬ (e.k : Int) = 8 := by omega
            by_cases k6 : e.k = 6
            · have i6 : (e.k : Int) = 6 := by omega
              have hq4 : (onlyD e).cs (onlyB e (.slice ba e.m.body.length bc)) = ((((((q3 e).cs nilB).setIfInBounds 5 (.bool e.flag)).setIfInBounds 4 (S e.text)).setIfInBounds 6 (.int .u8 e.snd)).setIfInBounds 7 (.int .u8 e.rcv)) := by
                unfold onlyD onlyB; rw [if_neg hn, if_pos k6, if_neg (by omega)]; rfl
              have hw4 : wordsD e = wd3 e ++ [ansW e.flag, hexW e.text, Lib.decDigits e.snd, Lib.decDigits e.rcv] := by unfold wordsD; rw [if_neg hn, if_pos k6]
              have sd := st.drew
              have a4 : wc.cell? ⟨w.heap.size, 4, none⟩ = some (S e.text) := cell_of st.e
              have a5 : wc.cell? ⟨w.heap.size, 5, none⟩ = some (.bool e.flag) := cell_of st.e
              have a6 : wc.cell? ⟨w.heap.size, 6, none⟩ = some (.int .u8 e.snd) := cell_of st.e
              have a7 : wc.cell? ⟨w.heap.size, 7, none⟩ = some (.int .u8 e.rcv) := cell_of st.e
              have b4 : wc.cell? ⟨qb, 4, none⟩ = some (S (q3 e).text) := cell_of st.q
              have b5 : wc.cell? ⟨qb, 5, none⟩ = some (.bool (q3 e).flag) := cell_of st.q
              have b6 : wc.cell? ⟨qb, 6, none⟩ = some (.int .u8 (q3 e).snd) := cell_of st.q
              have b7 : wc.cell? ⟨qb, 7, none⟩ = some (.int .u8 (q3 e).rcv) := cell_of st.q
              have zq : ∀ j, wc.frozen? ⟨qb, j, none⟩ = false := fun j => frozen_of st.q
              have hne : qb ≠ w.heap.size := by have := st.qlo; omega
              have hne2 : w.heap.size ≠ qb := fun h => hne h.symm
              go_wp2_with fail
              go_region_held3 (fun W => W.cell? ⟨w.heap.size, 5, none⟩ = some (.bool e.flag) ∧ W.cell? ⟨w.heap.size, 4, none⟩ = some (S e.text) ∧ W.cell? ⟨w.heap.size, 6, none⟩ = some (.int .u8 e.snd) ∧ W.cell? ⟨w.heap.size, 7, none⟩ = some (.int .u8 e.rcv))
                (first | exact ⟨cell_of sd.e, cell_of sd.e, cell_of sd.e, cell_of sd.e⟩ | exact ⟨by simp [World.cell?_setCell_far, hne, a5], by simp [World.cell?_setCell_far, hne, a4], by simp [World.cell?_setCell_far, hne, a6], by simp [World.cell?_setCell_far, hne, a7]⟩)
                (fail)
              have p1 := st.put (W' := wc.setCell ⟨qb, 5, none⟩ (.bool e.flag)) h3w (heap_setCell_same _ qb 5 _ 30 _ st.q) (But.setCell qb 5 _ _)
              have p2 := p1.put (W' := (wc.setCell ⟨qb, 5, none⟩ (.bool e.flag)).setCell ⟨qb, 4, none⟩ (S e.text)) h3w (heap_setCell_same _ qb 4 _ 30 _ p1.q) (But.setCell qb 4 _ _)
              have p3 := p2.put (W' := ((wc.setCell ⟨qb, 5, none⟩ (.bool e.flag)).setCell ⟨qb, 4, none⟩ (S e.text)).setCell ⟨qb, 6, none⟩ (.int .u8 e.snd)) h3w (heap_setCell_same _ qb 6 _ 30 _ p2.q) (But.setCell qb 6 _ _)
              have p4 := p3.put (W' := (((wc.setCell ⟨qb, 5, none⟩ (.bool e.flag)).setCell ⟨qb, 4, none⟩ (S e.text)).setCell ⟨qb, 6, none⟩ (.int .u8 e.snd)).setCell ⟨qb, 7, none⟩ (.int .u8 e.rcv)) h3w (heap_setCell_same _ qb 7 _ 30 _ p3.q) (But.setCell qb 7 _ _)
              have st4 := p4.drew
              rw [← hq4] at st4
              clear p1 p2 p3 p4 a4 a5 a6 a7 b4 b5 b6 b7 zq sd st a0
              generalize ((((wc.setCell ⟨qb, 5, none⟩ (.bool e.flag)).setCell ⟨qb, 4, none⟩ (S e.text)).setCell ⟨qb, 6, none⟩ (.int .u8 e.snd)).setCell ⟨qb, 7, none⟩ (.int .u8 e.rcv)).drew = V at st4 ⊢
              go_wp2_with fail
              have sv := st4.drew
              refine wp_region_noPanic ?_
              refine wp_region_held_drew (S := fun W => W.cell? ⟨w.heap.size, 5, none⟩ = some (.bool e.flag) ∧ W.cell? ⟨w.heap.size, 4, none⟩ = some (S e.text) ∧ W.cell? ⟨w.heap.size, 6, none⟩ = some (.int .u8 e.snd) ∧ W.cell? ⟨w.heap.size, 7, none⟩ = some (.int .u8 e.rcv)) (by kernel_rfl) ⟨cell_of sv.e, cell_of sv.e, cell_of sv.e, cell_of sv.e⟩ (fun hHeld => ?_)
              refine wpAnyH_take (i := 0) (oi := _) (v := _) rfl (by kernel_rfl) (by kernel_rfl) (by kernel_rfl) (fun _ _ _ h => h) (Or.inl ⟨by rfl, fun _ _ => rfl⟩) hHeld ?_
              try simp only [Act.put]
              try simp only [List.getElem_toArray]
              try simp only [List.getElem_cons_succ]
              try simp only [List.getElem_cons_zero]
              try simp only [List.setIfInBounds_toArray]
              refine wpAnyH_take (i := 1) (oi := _) (v := ?_) rfl (by kernel_rfl) (by kernel_rfl) (by kernel_rfl) (fun _ _ _ h => h) (Or.inl ⟨by rfl, ?_⟩) hHeld ?_
              rotate_left 1
              · intro W hS
                try dsimp only at hS
                go_simp <;> with_reducible rfl
              try simp only [Act.put]
              try simp only [List.getElem_toArray]
              try simp only [List.getElem_cons_succ]
              try simp only [List.getElem_cons_zero]
              try simp only [List.setIfInBounds_toArray]
              refine wpAnyH_take (i := 2) (oi := _) (v := ?_) rfl (by kernel_rfl) (by kernel_rfl) (by kernel_rfl) (fun _ _ _ h => h) (Or.inl ⟨by rfl, ?_⟩) hHeld ?_
              rotate_left 1
              · intro W hS
                try dsimp only at hS
                go_simp <;> with_reducible rfl
              try simp only [Act.put]
              try simp only [List.getElem_toArray]
              try simp only [List.getElem_cons_succ]
              try simp only [List.getElem_cons_zero]
              try simp only [List.setIfInBounds_toArray]
              refine wpAnyH_take (i := 4) (oi := _) (v := ?_) rfl (by kernel_rfl) (by kernel_rfl) (by kernel_rfl) (fun _ _ _ h => h) (Or.inl ⟨by rfl, ?_⟩) hHeld ?_
              rotate_left 1
              · intro W hS
                try dsimp only at hS
                go_simp <;> with_reducible rfl
              try simp only [Act.put]
              try simp only [List.getElem_toArray]
              try simp only [List.getElem_cons_succ]
              try simp only [List.getElem_cons_zero]
              try simp only [List.setIfInBounds_toArray]
              refine wpAnyH_take (i := 5) (oi := _) (v := ?_) rfl (by kernel_rfl) (by kernel_rfl) (by kernel_rfl) (fun _ _ _ h => h) (Or.inl ⟨by rfl, ?_⟩) hHeld ?_
              rotate_left 1
              · intro W hS
                try dsimp only at hS
                go_simp <;> with_reducible rfl
              try simp only [Act.put]
              try simp only [List.getElem_toArray]
              try simp only [List.getElem_cons_succ]
              try simp only [List.getElem_cons_zero]
              try simp only [List.setIfInBounds_toArray]
              refine wpAnyH_take (i := 7) (oi := _) (v := ?_) rfl (by kernel_rfl) (by kernel_rfl) (by kernel_rfl) (fun _ _ _ h => h) (Or.inl ⟨by rfl, ?_⟩) hHeld ?_
              rotate_left 1
              · intro W hS
                try dsimp only at hS
                go_simp <;> with_reducible rfl
              try simp only [Act.put]
              try simp only [List.getElem_toArray]
              try simp only [List.getElem_cons_succ]
              try simp only [List.getElem_cons_zero]
              try simp only [List.setIfInBounds_toArray]
              refine wpAnyH_take (i := 8) (oi := _) (v := ?_) rfl (by kernel_rfl) (by kernel_rfl) (by kernel_rfl) (fun _ _ _ h => h) (Or.inl ⟨by rfl, ?_⟩) hHeld ?_
              rotate_left 1
              · intro W hS
                try dsimp only at hS
                go_simp <;> with_reducible rfl
              try simp only [Act.put]
              try simp only [List.getElem_toArray]
              try simp only [List.getElem_cons_succ]
              try simp only [List.getElem_cons_zero]
              try simp only [List.setIfInBounds_toArray]
              refine wpAnyH_take (i := 10) (oi := _) (v := ?_) rfl (by kernel_rfl) (by kernel_rfl) (by kernel_rfl) (fun _ _ _ h => h) (Or.inl ⟨by rfl, ?_⟩) hHeld ?_
              rotate_left 1
              · intro W hS
                try dsimp only at hS
                go_simp <;> with_reducible rfl
              try simp only [Act.put]
              try simp only [List.getElem_toArray]
              try simp only [List.getElem_cons_succ]
              try simp only [List.getElem_cons_zero]
              try simp only [List.setIfInBounds_toArray]
              refine wpAnyH_take (i := 11) (oi := _) (v := ?_) rfl (by kernel_rfl) (by kernel_rfl) (by kernel_rfl) (fun _ _ _ h => h) (Or.inl ⟨by rfl, ?_⟩) hHeld ?_
              rotate_left 1
              · intro W hS
                try dsimp only at hS
                go_simp <;> with_reducible rfl
              try simp only [Act.put]
              try simp only [List.getElem_toArray]
              try simp only [List.getElem_cons_succ]
              try simp only [List.getElem_cons_zero]
              try simp only [List.setIfInBounds_toArray]
              refine wpAnyH_ready (rs := [3]) (by kernel_rfl) (by simp) ?_
              refine AllReadyH.cons (o := _) rfl (fun K hK => ?_) AllReadyH.nil
              have c0 := answer e.flag (V.drew)
              go_simp
              go_at_call 46
              with_reducible refine c0.mono ?_
              rintro r x0 ⟨rfl, hx0⟩
              have s0 := sv.step hx0
              clear c0 hx0
              go_wp2_with fail
              refine hK.out _ _ ⟨cell_of s0.e, cell_of s0.e, cell_of s0.e, cell_of s0.e⟩ (fun hHeld => ?_)
              clear hK K
              try simp only [Act.put]
              try simp only [List.setIfInBounds_toArray]
              refine wpAnyH_ready (rs := [6]) (by kernel_rfl) (by simp) ?_
              refine AllReadyH.cons (o := _) rfl (fun K hK => ?_) AllReadyH.nil
              have c1 := hex_strL e.text (by have := hs.2.1; omega) (x0)
              go_simp
              go_at_call 47
              with_reducible refine c1.mono ?_
              rintro r x1 ⟨rfl, hx1⟩
              have s1 := s0.step hx1
              clear c1 hx1
              go_wp2_with fail
              refine hK.out _ _ ⟨cell_of s1.e, cell_of s1.e, cell_of s1.e, cell_of s1.e⟩ (fun hHeld => ?_)
              clear hK K
              try simp only [Act.put]
              try simp only [List.setIfInBounds_toArray]
              refine wpAnyH_ready (rs := [9]) (by kernel_rfl) (by simp) ?_
              refine AllReadyH.cons (o := _) rfl (fun K hK => ?_) AllReadyH.nil
              have c2 := num_u8 e.snd hf.snd (x1) s1.pow
              go_simp
              go_at_call 63
              with_reducible refine c2.mono ?_
              rintro r x2 ⟨rfl, hx2⟩
              have s2 := s1.step hx2
              clear c2 hx2
              go_wp2_with fail
              refine hK.out _ _ ⟨cell_of s2.e, cell_of s2.e, cell_of s2.e, cell_of s2.e⟩ (fun hHeld => ?_)
              clear hK K
              try simp only [Act.put]
              try simp only [List.setIfInBounds_toArray]
              refine wpAnyH_ready (rs := [12]) (by kernel_rfl) (by simp) ?_
              refine AllReadyH.cons (o := _) rfl (fun K hK => ?_) AllReadyH.nil
              have c3 := num_u8 e.rcv hf.rcv (x2) s2.pow
              go_simp
              go_at_call 63
              with_reducible refine c3.mono ?_
              rintro r x3 ⟨rfl, hx3⟩
              have s3 := s2.step hx3
              clear c3 hx3
              go_wp2_with fail
              refine hK.out _ _ ⟨cell_of s3.e, cell_of s3.e, cell_of s3.e, cell_of s3.e⟩ (fun hHeld => ?_)
              clear hK K
              try simp only [Act.put]
              try simp only [List.setIfInBounds_toArray]
              refine wpAnyH_ready (rs := [13]) (by kernel_rfl) (by simp) ?_
              refine AllReadyH.cons (o := _) rfl (fun K hK => ?_) AllReadyH.nil
              have sb := s3.step ((Below.refl _ _).alloc (Nat.le_refl _) (.cells #[S (ansW e.flag), S (hexW e.text), S (Lib.decDigits e.snd), S (Lib.decDigits e.rcv)] 9))
              go_simp
              refine hK.out _ _ ⟨cell_of sb.e, cell_of sb.e, cell_of sb.e, cell_of sb.e⟩ (fun hHeld => ?_)
              clear hK K
              try simp only [Act.put]
              try simp only [List.setIfInBounds_toArray]
              refine wpAnyH_ready (rs := [14]) (by kernel_rfl) (by simp) ?_
              refine AllReadyH.cons (o := _) rfl (fun K hK => ?_) AllReadyH.nil
              have hsb := sb.below.size
              have hsr := lt_of sb.r
              simp only [World.size_alloc] at hsb hsr
              refine step_append_lies _ (by rfl) _ _ 58 (by rfl) (w.heap.size + 2) 9 i0 (.string { data := #[] }) 1 16 Tryz.underlying58 hi hz0 hz1 hz2 rfl (by decide) _ _ _ (by rfl) sb.l ⟨x3.heap.size, 0, none⟩ 4 4 [S (ansW e.flag), S (hexW e.text), S (Lib.decDigits e.snd), S (Lib.decDigits e.rcv)] (by rfl) rfl ?c1 ?c2 (by omega) ?c3 ?c4 ?c5 (x3.heap.size + 1) (by simp) ?_
              case c1 =>
                intro j u hj
                match j, hj with
                | 0, hj => simp at hj; subst hj; simp [Addr.add]
                | 1, hj => simp at hj; subst hj; simp [Addr.add]
                | 2, hj => simp at hj; subst hj; simp [Addr.add]
                | 3, hj => simp at hj; subst hj; simp [Addr.add]
              case c2 => intro u hu; simp at hu; rcases hu with rfl | rfl | rfl | rfl <;> rfl
              case c3 => simp only [maxLen]; omega
              case c4 => omega
              case c5 => simp only [World.size_alloc]; omega
              intro g2 cap2 w3 hown hgrow hat hlt
              have st3 := sb.grow (news := [ansW e.flag, hexW e.text, Lib.decDigits e.snd, Lib.decDigits e.rcv]) h3w (by simpa using hown) rfl hgrow hat (by simp)
              refine hK.out _ _ ⟨cell_of st3.e, cell_of st3.e, cell_of st3.e, cell_of st3.e⟩ (fun hHeld => ?_)
              clear hK K
              try simp only [Act.put]
              try simp only [List.getElem_toArray]
              try simp only [List.getElem_cons_succ]
              try simp only [List.getElem_cons_zero]
              try simp only [List.setIfInBounds_toArray]
              refine wpAnyH_take (i := 15) (oi := _) (v := ?_) rfl (by kernel_rfl) (by kernel_rfl) (by kernel_rfl) (fun _ _ _ h => h) (Or.inl ⟨by rfl, ?_⟩) hHeld ?_
              rotate_left 1
              · intro W hS
                try dsimp only at hS
                go_simp <;> with_reducible rfl
              try simp only [Act.put]
              try simp only [List.getElem_toArray]
              try simp only [List.getElem_cons_succ]
              try simp only [List.getElem_cons_zero]
              try simp only [List.setIfInBounds_toArray]
              refine wpAnyH_done (by kernel_rfl) ?_ _
              refine NoPanic.normal ?_
              go_wp2_with fail
              go_meet
              rw [hw4]
              exact ⟨by rw [i6], _, _, by simp, st3⟩
            have i6 : ¬ (e.k : Int) = 6 := by omega
            by_cases k7 : e.k = 7
            · have i7 : (e.k : Int) = 7 := by omega
              have hq4 : (onlyD e).cs (onlyB e (.slice ba e.m.body.length bc)) = (((((((q3 e).cs nilB).setIfInBounds 8 (.int .u8 e.m.p)).setIfInBounds 9 (.int .u32 e.m.t)).setIfInBounds 10 (.int .u32 e.m.c)).setIfInBounds 11 (S e.m.id)).setIfInBounds 12 (.slice ba e.m.body.length bc)).setIfInBounds 5 (.bool e.flag) := by
                unfold onlyD onlyB; rw [if_neg hn, if_neg k6, if_pos k7, if_pos k7]; rfl
              have hw4 : wordsD e = wd3 e ++ [e.m.w, ansW e.flag] := by unfold wordsD; rw [if_neg hn, if_neg k6, if_pos k7]
              have sd := st.drew
              have hne : qb ≠ w.heap.size := by have := st.qlo; omega
              have hra : ∀ W : World, W.heap[w.heap.size]? = some (.cells (e.cs (.slice ba e.m.body.length bc)) 30) → W.rangeAt w.heap.size 8 ([.int .u8 e.m.p, .int .u32 e.m.t, .int .u32 e.m.c, S e.m.id, .slice ba e.m.body.length bc] : List Value) ∧ W.cell? ⟨w.heap.size, 5, none⟩ = some (.bool e.flag) := fun W h => ⟨fun j v hj => by
                rw [cell_of h]
                match j, hj with
                | 0, hj => cases hj; rfl
                | 1, hj => cases hj; rfl
                | 2, hj => cases hj; rfl
                | 3, hj => cases hj; rfl
                | 4, hj => cases hj; rfl
                | j + 5, hj => simp at hj, cell_of h⟩
              go_wp2_with fail
              refine wp_region_noPanic ?_
              refine wp_region_held_drew (S := fun W => W.rangeAt w.heap.size 8 ([.int .u8 e.m.p, .int .u32 e.m.t, .int .u32 e.m.c, S e.m.id, .slice ba e.m.body.length bc] : List Value) ∧ W.cell? ⟨w.heap.size, 5, none⟩ = some (.bool e.flag)) (by kernel_rfl) (hra _ sd.e) (fun hHeld => ?_)
              refine wpAnyH_take (i := 0) (oi := _) (v := ?_) rfl (by kernel_rfl) (by kernel_rfl) (by kernel_rfl) (fun _ _ _ h => h) (Or.inl ⟨by rfl, ?_⟩) hHeld ?_
              rotate_left 1
              · intro W hS
                try dsimp only at hS
                go_simp <;> with_reducible rfl
              try simp only [Act.put]
              try simp only [List.getElem_toArray]
              try simp only [List.getElem_cons_succ]
              try simp only [List.getElem_cons_zero]
              try simp only [List.setIfInBounds_toArray]
              refine wpAnyH_take (i := 1) (oi := _) (v := _) rfl (by kernel_rfl) (by kernel_rfl) (by kernel_rfl) (fun _ _ _ h => h) (yieldsIf_load_mid (by rfl) 25 _ rfl w.heap.size 8 rfl _ _ (fun _ h => h.1) Tryz.underlying25 rfl info25') hHeld ?_
              try simp only [Act.put]
              try simp only [List.setIfInBounds_toArray]
              refine wpAnyH_take (i := 2) (oi := _) (v := ?_) rfl (by kernel_rfl) (by kernel_rfl) (by kernel_rfl) (fun _ _ _ h => h) (Or.inl ⟨by rfl, ?_⟩) hHeld ?_
              rotate_left 1
              · intro W hS
                try dsimp only at hS
                go_simp <;> with_reducible rfl
              try simp only [Act.put]
              try simp only [List.getElem_toArray]
              try simp only [List.getElem_cons_succ]
              try simp only [List.getElem_cons_zero]
              try simp only [List.setIfInBounds_toArray]
              refine wpAnyH_take (i := 3) (oi := _) (v := ?_) rfl (by kernel_rfl) (by kernel_rfl) (by kernel_rfl) (fun _ _ _ h => h) (Or.inl ⟨by rfl, ?_⟩) hHeld ?_
              rotate_left 1
              · intro W hS
                try dsimp only at hS
                go_simp <;> with_reducible rfl
              try simp only [Act.put]
              try simp only [List.getElem_toArray]
              try simp only [List.getElem_cons_succ]
              try simp only [List.getElem_cons_zero]
              try simp only [List.setIfInBounds_toArray]
              refine wpAnyH_take (i := 4) (oi := _) (v := ?_) rfl (by kernel_rfl) (by kernel_rfl) (by kernel_rfl) (fun _ _ _ h => h) (Or.inl ⟨by rfl, ?_⟩) hHeld ?_
              rotate_left 1
              · intro W hS
                try dsimp only at hS
                go_simp <;> with_reducible rfl
              try simp only [Act.put]
              try simp only [List.getElem_toArray]
              try simp only [List.getElem_cons_succ]
              try simp only [List.getElem_cons_zero]
              try simp only [List.setIfInBounds_toArray]
              refine wpAnyH_ready (rs := [5]) (by kernel_rfl) (by simp) ?_
              refine AllReadyH.cons (o := _) rfl (fun K hK => ?_) AllReadyH.nil
              rw [if_pos (by rfl)]
              have hth : wc.drew.there qb 8 5 := fun j hj => ⟨by rw [cell_of sd.q, Array.getElem?_eq_getElem (by show 8 + j < 17; omega)]; rfl, frozen_of sd.q⟩
              refine wp_store_mid 25 _ _ rfl qb 8 (List.toArray ([.int .u8 e.m.p, .int .u32 e.m.t, .int .u32 e.m.c, S e.m.id, .slice ba e.m.body.length bc] : List Value)) rfl rfl hth info25' (all_of_list rfl) ?_
              have p1 := sd.put (W' := wc.drew.setCells qb 8 ([.int .u8 e.m.p, .int .u32 e.m.t, .int .u32 e.m.c, S e.m.id, .slice ba e.m.body.length bc] : List Value)) h3w (setCells_heap qb 30 ([.int .u8 e.m.p, .int .u32 e.m.t, .int .u32 e.m.c, S e.m.id, .slice ba e.m.body.length bc] : List Value) 8 _ _ sd.q (by show 8 + 5 ≤ 17; omega)) (setCells_but qb _ 8 _)
              refine hK.out _ _ (hra _ p1.e) (fun hHeld => ?_)
              clear hK K
              try simp only [Act.put]
              try simp only [List.setIfInBounds_toArray]
              have b5 : (wc.drew.setCells qb 8 ([.int .u8 e.m.p, .int .u32 e.m.t, .int .u32 e.m.c, S e.m.id, .slice ba e.m.body.length bc] : List Value)).cell? ⟨qb, 5, none⟩ = some (.bool (q3 e).flag) := cell_of p1.q
              have z5 : (wc.drew.setCells qb 8 ([.int .u8 e.m.p, .int .u32 e.m.t, .int .u32 e.m.c, S e.m.id, .slice ba e.m.body.length bc] : List Value)).frozen? ⟨qb, 5, none⟩ = false := frozen_of p1.q
              refine wpAnyH_take (i := 6) (oi := _) (v := ?_) rfl (by kernel_rfl) (by kernel_rfl) (by kernel_rfl) (fun _ _ _ h => h) (Or.inl ⟨by rfl, ?_⟩) hHeld ?_
              rotate_left 1
              · intro W hS
                try dsimp only at hS
                go_simp <;> with_reducible rfl
              try simp only [Act.put]
              try simp only [List.getElem_toArray]
              try simp only [List.getElem_cons_succ]
              try simp only [List.getElem_cons_zero]
              try simp only [List.setIfInBounds_toArray]
              refine wpAnyH_ready (rs := [7]) (by kernel_rfl) (by simp) ?_
              refine AllReadyH.cons (o := _) rfl (fun K hK => ?_) AllReadyH.nil
              go_simp
              have p2 := p1.put (W' := (wc.drew.setCells qb 8 ([.int .u8 e.m.p, .int .u32 e.m.t, .int .u32 e.m.c, S e.m.id, .slice ba e.m.body.length bc] : List Value)).setCell ⟨qb, 5, none⟩ (.bool e.flag)) h3w (heap_setCell_same _ qb 5 _ 30 _ p1.q) (But.setCell qb 5 _ _)
              refine hK.out _ _ (hra _ p2.e) (fun hHeld => ?_)
              clear hK K
              refine wpAnyH_done (by kernel_rfl) ?_ _
              refine NoPanic.normal ?_
              have st4 : St w (e.cs (.slice ba e.m.body.length bc)) (.cells zEv 30) qb ((onlyD e).cs (onlyB e (.slice ba e.m.body.length bc))) g cap (wd3 e) ((wc.drew.setCells qb 8 ([.int .u8 e.m.p, .int .u32 e.m.t, .int .u32 e.m.c, S e.m.id, .slice ba e.m.body.length bc] : List Value)).setCell ⟨qb, 5, none⟩ (.bool e.flag)) := by
                have := p2
                unfold onlyD onlyB
                rw [if_neg hn, if_neg k6, if_pos k7, if_pos k7]
                exact this
              clear p1 p2 sd st a0 b5 z5 hth
              generalize (wc.drew.setCells qb 8 ([.int .u8 e.m.p, .int .u32 e.m.t, .int .u32 e.m.c, S e.m.id, .slice ba e.m.body.length bc] : List Value)).setCell ⟨qb, 5, none⟩ (.bool e.flag) = V at st4 ⊢
              go_wp2_with fail
              have sv := st4.drew
              refine wp_region_noPanic ?_
              refine wp_region_held_drew (S := fun W => W.rangeAt w.heap.size 8 ([.int .u8 e.m.p, .int .u32 e.m.t, .int .u32 e.m.c, S e.m.id, .slice ba e.m.body.length bc] : List Value) ∧ W.cell? ⟨w.heap.size, 5, none⟩ = some (.bool e.flag)) (by kernel_rfl) (hra _ sv.e) (fun hHeld => ?_)
              refine wpAnyH_take (i := 0) (oi := _) (v := _) rfl (by kernel_rfl) (by kernel_rfl) (by kernel_rfl) (fun _ _ _ h => h) (Or.inl ⟨by rfl, fun _ _ => rfl⟩) hHeld ?_
              try simp only [Act.put]
              try simp only [List.getElem_toArray]
              try simp only [List.getElem_cons_succ]
              try simp only [List.getElem_cons_zero]
              try simp only [List.setIfInBounds_toArray]
              refine wpAnyH_take (i := 1) (oi := _) (v := ?_) rfl (by kernel_rfl) (by kernel_rfl) (by kernel_rfl) (fun _ _ _ h => h) (Or.inl ⟨by rfl, ?_⟩) hHeld ?_
              rotate_left 1
              · intro W hS
                try dsimp only at hS
                go_simp <;> with_reducible rfl
              try simp only [Act.put]
              try simp only [List.getElem_toArray]
              try simp only [List.getElem_cons_succ]
              try simp only [List.getElem_cons_zero]
              try simp only [List.setIfInBounds_toArray]
              refine wpAnyH_take (i := 2) (oi := _) (v := _) rfl (by kernel_rfl) (by kernel_rfl) (by kernel_rfl) (fun _ _ _ h => h) (yieldsIf_load_mid (by rfl) 25 _ rfl w.heap.size 8 rfl _ _ (fun _ h => h.1) Tryz.underlying25 rfl info25') hHeld ?_
              try simp only [Act.put]
              try simp only [List.setIfInBounds_toArray]
              refine wpAnyH_take (i := 4) (oi := _) (v := ?_) rfl (by kernel_rfl) (by kernel_rfl) (by kernel_rfl) (fun _ _ _ h => h) (Or.inl ⟨by rfl, ?_⟩) hHeld ?_
              rotate_left 1
              · intro W hS
                try dsimp only at hS
                go_simp <;> with_reducible rfl
              try simp only [Act.put]
              try simp only [List.getElem_toArray]
              try simp only [List.getElem_cons_succ]
              try simp only [List.getElem_cons_zero]
              try simp only [List.setIfInBounds_toArray]
              refine wpAnyH_take (i := 5) (oi := _) (v := ?_) rfl (by kernel_rfl) (by kernel_rfl) (by kernel_rfl) (fun _ _ _ h => h) (Or.inl ⟨by rfl, ?_⟩) hHeld ?_
              rotate_left 1
              · intro W hS
                try dsimp only at hS
                go_simp <;> with_reducible rfl
              try simp only [Act.put]
              try simp only [List.getElem_toArray]
              try simp only [List.getElem_cons_succ]
              try simp only [List.getElem_cons_zero]
              try simp only [List.setIfInBounds_toArray]
              refine wpAnyH_ready (rs := [3]) (by kernel_rfl) (by simp) ?_
              refine AllReadyH.cons (o := _) rfl (fun K hK => ?_) AllReadyH.nil
              have c0 := msgWord e.m.p e.m.t e.m.c e.m.id e.m.body (.slice ba e.m.body.length bc) (V.drew) hf.p hf.t hf.c (by have := hs.2.2.2.1; omega) (by have := hs.2.2.2.2; omega) sv.pow (hb.below sv.below (Nat.le_refl _)) (Nat.le_trans (msgW_len e.m.p e.m.t e.m.c e.m.id e.m.body hf.p hf.t hf.c (by have := hs.2.2.2.1; omega) (by have := hs.2.2.2.2; omega)) (by omega))
              go_simp
              go_at_call 49
              with_reducible refine c0.mono ?_
              rintro r x0 ⟨rfl, hx0⟩
              have s0 := sv.step hx0
              clear c0 hx0
              go_wp2_with fail
              refine hK.out _ _ (hra _ s0.e) (fun hHeld => ?_)
              clear hK K
              try simp only [Act.put]
              try simp only [List.setIfInBounds_toArray]
              refine wpAnyH_ready (rs := [6]) (by kernel_rfl) (by simp) ?_
              refine AllReadyH.cons (o := _) rfl (fun K hK => ?_) AllReadyH.nil
              have c1 := answer e.flag (x0)
              go_simp
              go_at_call 46
              with_reducible refine c1.mono ?_
              rintro r x1 ⟨rfl, hx1⟩
              have s1 := s0.step hx1
              clear c1 hx1
              go_wp2_with fail
              refine hK.out _ _ (hra _ s1.e) (fun hHeld => ?_)
              clear hK K
              try simp only [Act.put]
              try simp only [List.setIfInBounds_toArray]
              refine wpAnyH_ready (rs := [7]) (by kernel_rfl) (by simp) ?_
              refine AllReadyH.cons (o := _) rfl (fun K hK => ?_) AllReadyH.nil
              have sb := s1.step ((Below.refl _ _).alloc (Nat.le_refl _) (.cells #[S (e.m.w), S (ansW e.flag)] 9))
              go_simp
              refine hK.out _ _ (hra _ sb.e) (fun hHeld => ?_)
              clear hK K
              try simp only [Act.put]
              try simp only [List.setIfInBounds_toArray]
              refine wpAnyH_ready (rs := [8]) (by kernel_rfl) (by simp) ?_
              refine AllReadyH.cons (o := _) rfl (fun K hK => ?_) AllReadyH.nil
              have hsb := sb.below.size
              have hsr := lt_of sb.r
              simp only [World.size_alloc] at hsb hsr
              refine step_append_lies _ (by rfl) _ _ 58 (by rfl) (w.heap.size + 2) 9 i0 (.string { data := #[] }) 1 16 Tryz.underlying58 hi hz0 hz1 hz2 rfl (by decide) _ _ _ (by rfl) sb.l ⟨x1.heap.size, 0, none⟩ 2 2 [S (e.m.w), S (ansW e.flag)] (by rfl) rfl ?c1 ?c2 (by omega) ?c3 ?c4 ?c5 (x1.heap.size + 1) (by simp) ?_
              case c1 =>
                intro j u hj
                match j, hj with
                | 0, hj => simp at hj; subst hj; simp [Addr.add]
                | 1, hj => simp at hj; subst hj; simp [Addr.add]
              case c2 => intro u hu; simp at hu; rcases hu with rfl | rfl <;> rfl
              case c3 => simp only [maxLen]; omega
              case c4 => omega
              case c5 => simp only [World.size_alloc]; omega
              intro g2 cap2 w3 hown hgrow hat hlt
              have st3 := sb.grow (news := [e.m.w, ansW e.flag]) h3w (by simpa using hown) rfl hgrow hat (by simp)
              refine hK.out _ _ (hra _ st3.e) (fun hHeld => ?_)
              clear hK K
              try simp only [Act.put]
              try simp only [List.getElem_toArray]
              try simp only [List.getElem_cons_succ]
              try simp only [List.getElem_cons_zero]
              try simp only [List.setIfInBounds_toArray]
              refine wpAnyH_take (i := 9) (oi := _) (v := ?_) rfl (by kernel_rfl) (by kernel_rfl) (by kernel_rfl) (fun _ _ _ h => h) (Or.inl ⟨by rfl, ?_⟩) hHeld ?_
              rotate_left 1
              · intro W hS
                try dsimp only at hS
                go_simp <;> with_reducible rfl
              try simp only [Act.put]
              try simp only [List.getElem_toArray]
              try simp only [List.getElem_cons_succ]
              try simp only [List.getElem_cons_zero]
              try simp only [List.setIfInBounds_toArray]
              refine wpAnyH_done (by kernel_rfl) ?_ _
              refine NoPanic.normal ?_
              go_wp2_with fail
              go_meet
              rw [hw4]
              exact ⟨by rw [i7], _, _, by simp, st3⟩
            have i7 : ¬ (e.k : Int) = 7 := by omega
            by_cases k10 : e.k = 10
            · have i10 : (e.k : Int) = 10 := by omega
              have hq4 : (onlyD e).cs (onlyB e (.slice ba e.m.body.length bc)) = ((((((q3 e).cs nilB).setIfInBounds 4 (S e.text)).setIfInBounds 13 (.int .u8 e.ok)).setIfInBounds 14 (.int .u64 e.oa)).setIfInBounds 15 (.int .u64 e.ob)).setIfInBounds 16 (S e.cond) := by
                unfold onlyD onlyB; rw [if_neg hn, if_neg k6, if_neg k7, if_pos k10, if_neg k7]; rfl
              have hw4 : wordsD e = wd3 e ++ [hexW e.text, outW e.ok e.oa e.ob e.cond] := by unfold wordsD; rw [if_neg hn, if_neg k6, if_neg k7, if_pos k10]
              have sd := st.drew
              have hra : ∀ W : World, W.heap[w.heap.size]? = some (.cells (e.cs (.slice ba e.m.body.length bc)) 30) → W.rangeAt w.heap.size 13 ([.int .u8 e.ok, .int .u64 e.oa, .int .u64 e.ob, S e.cond] : List Value) ∧ W.cell? ⟨w.heap.size, 4, none⟩ = some (S e.text) := fun W h => ⟨fun j v hj => by
                rw [cell_of h]
                match j, hj with
                | 0, hj => cases hj; rfl
                | 1, hj => cases hj; rfl
                | 2, hj => cases hj; rfl
                | 3, hj => cases hj; rfl
                | j + 4, hj => simp at hj, cell_of h⟩
              go_wp2_with fail
              refine wp_region_noPanic ?_
              refine wp_region_held_drew (S := fun W => W.rangeAt w.heap.size 13 ([.int .u8 e.ok, .int .u64 e.oa, .int .u64 e.ob, S e.cond] : List Value) ∧ W.cell? ⟨w.heap.size, 4, none⟩ = some (S e.text)) (by kernel_rfl) (hra _ sd.e) (fun hHeld => ?_)
              refine wpAnyH_take (i := 0) (oi := _) (v := ?_) rfl (by kernel_rfl) (by kernel_rfl) (by kernel_rfl) (fun _ _ _ h => h) (Or.inl ⟨by rfl, ?_⟩) hHeld ?_
              rotate_left 1
              · intro W hS
                try dsimp only at hS
                go_simp <;> with_reducible rfl
              try simp only [Act.put]
              try simp only [List.getElem_toArray]
              try simp only [List.getElem_cons_succ]
              try simp only [List.getElem_cons_zero]
              try simp only [List.setIfInBounds_toArray]
              refine wpAnyH_take (i := 1) (oi := _) (v := ?_) rfl (by kernel_rfl) (by kernel_rfl) (by kernel_rfl) (fun _ _ _ h => h) (Or.inl ⟨by rfl, ?_⟩) hHeld ?_
              rotate_left 1
              · intro W hS
                try dsimp only at hS
                go_simp <;> with_reducible rfl
              try simp only [Act.put]
              try simp only [List.getElem_toArray]
              try simp only [List.getElem_cons_succ]
              try simp only [List.getElem_cons_zero]
              try simp only [List.setIfInBounds_toArray]
              refine wpAnyH_take (i := 2) (oi := _) (v := ?_) rfl (by kernel_rfl) (by kernel_rfl) (by kernel_rfl) (fun _ _ _ h => h) (Or.inl ⟨by rfl, ?_⟩) hHeld ?_
              rotate_left 1
              · intro W hS
                try dsimp only at hS
                go_simp <;> with_reducible rfl
              try simp only [Act.put]
              try simp only [List.getElem_toArray]
              try simp only [List.getElem_cons_succ]
              try simp only [List.getElem_cons_zero]
              try simp only [List.setIfInBounds_toArray]
              refine wpAnyH_take (i := 3) (oi := _) (v := _) rfl (by kernel_rfl) (by kernel_rfl) (by kernel_rfl) (fun _ _ _ h => h) (yieldsIf_load_mid (by rfl) 28 _ rfl w.heap.size 13 rfl _ _ (fun _ h => h.1) Tryz.underlying28 rfl info28') hHeld ?_
              try simp only [Act.put]
              try simp only [List.setIfInBounds_toArray]
              have b4 : wc.drew.cell? ⟨qb, 4, none⟩ = some (S (q3 e).text) := cell_of sd.q
              have z4 : wc.drew.frozen? ⟨qb, 4, none⟩ = false := frozen_of sd.q
              simp only [World.cell?_drew, World.frozen?_drew] at b4 z4
              refine wpAnyH_take (i := 4) (oi := _) (v := ?_) rfl (by kernel_rfl) (by kernel_rfl) (by kernel_rfl) (fun _ _ _ h => h) (Or.inl ⟨by rfl, ?_⟩) hHeld ?_
              rotate_left 1
              · intro W hS
                try dsimp only at hS
                go_simp <;> with_reducible rfl
              try simp only [Act.put]
              try simp only [List.getElem_toArray]
              try simp only [List.getElem_cons_succ]
              try simp only [List.getElem_cons_zero]
              try simp only [List.setIfInBounds_toArray]
              refine wpAnyH_ready (rs := [5]) (by kernel_rfl) (by simp) ?_
              refine AllReadyH.cons (o := _) rfl (fun K hK => ?_) AllReadyH.nil
              have p1 := (st.put (W' := wc.setCell ⟨qb, 4, none⟩ (S e.text)) h3w (heap_setCell_same wc qb 4 _ 30 _ st.q) (But.setCell qb 4 wc _)).drew
              go_simp
              refine hK.out _ _ (hra _ p1.e) (fun hHeld => ?_)
              clear hK K
              try simp only [Act.put]
              try simp only [List.setIfInBounds_toArray]
              refine wpAnyH_take (i := 6) (oi := _) (v := ?_) rfl (by kernel_rfl) (by kernel_rfl) (by kernel_rfl) (fun _ _ _ h => h) (Or.inl ⟨by rfl, ?_⟩) hHeld ?_
              rotate_left 1
              · intro W hS
                try dsimp only at hS
                go_simp <;> with_reducible rfl
              try simp only [Act.put]
              try simp only [List.getElem_toArray]
              try simp only [List.getElem_cons_succ]
              try simp only [List.getElem_cons_zero]
              try simp only [List.setIfInBounds_toArray]
              refine wpAnyH_ready (rs := [7]) (by kernel_rfl) (by simp) ?_
              refine AllReadyH.cons (o := _) rfl (fun K hK => ?_) AllReadyH.nil
              rw [if_pos (by rfl)]
              have hth : ((wc.setCell ⟨qb, 4, none⟩ (S e.text)).drew).there qb 13 4 := fun j hj => ⟨by rw [cell_of p1.q, Array.getElem?_eq_getElem (by show 13 + j < 17; omega)]; rfl, frozen_of p1.q⟩
              refine wp_store_mid 28 _ _ rfl qb 13 (List.toArray ([.int .u8 e.ok, .int .u64 e.oa, .int .u64 e.ob, S e.cond] : List Value)) rfl rfl hth info28' (all_of_list rfl) ?_
              have p2 := p1.put (W' := ((wc.setCell ⟨qb, 4, none⟩ (S e.text)).drew).setCells qb 13 ([.int .u8 e.ok, .int .u64 e.oa, .int .u64 e.ob, S e.cond] : List Value)) h3w (setCells_heap qb 30 ([.int .u8 e.ok, .int .u64 e.oa, .int .u64 e.ob, S e.cond] : List Value) 13 _ _ p1.q (by show 13 + 4 ≤ 17; omega)) (setCells_but qb _ 13 _)
              refine hK.out _ _ (hra _ p2.e) (fun hHeld => ?_)
              clear hK K
              refine wpAnyH_done (by kernel_rfl) ?_ _
              refine NoPanic.normal ?_
              have st4 : St w (e.cs (.slice ba e.m.body.length bc)) (.cells zEv 30) qb ((onlyD e).cs (onlyB e (.slice ba e.m.body.length bc))) g cap (wd3 e) (((wc.setCell ⟨qb, 4, none⟩ (S e.text)).drew).setCells qb 13 ([.int .u8 e.ok, .int .u64 e.oa, .int .u64 e.ob, S e.cond] : List Value)) := by
                have := p2
                unfold onlyD onlyB
                rw [if_neg hn, if_neg k6, if_neg k7, if_pos k10, if_neg k7]
                exact this
              clear p1 p2 sd st a0 b4 z4 hth
              generalize ((wc.setCell ⟨qb, 4, none⟩ (S e.text)).drew).setCells qb 13 ([.int .u8 e.ok, .int .u64 e.oa, .int .u64 e.ob, S e.cond] : List Value) = V at st4 ⊢
              go_wp2_with fail
              have sv := st4.drew
              refine wp_region_noPanic ?_
              refine wp_region_held_drew (S := fun W => W.rangeAt w.heap.size 13 ([.int .u8 e.ok, .int .u64 e.oa, .int .u64 e.ob, S e.cond] : List Value) ∧ W.cell? ⟨w.heap.size, 4, none⟩ = some (S e.text)) (by kernel_rfl) (hra _ sv.e) (fun hHeld => ?_)
              refine wpAnyH_take (i := 0) (oi := _) (v := _) rfl (by kernel_rfl) (by kernel_rfl) (by kernel_rfl) (fun _ _ _ h => h) (Or.inl ⟨by rfl, fun _ _ => rfl⟩) hHeld ?_
              try simp only [Act.put]
              try simp only [List.getElem_toArray]
              try simp only [List.getElem_cons_succ]
              try simp only [List.getElem_cons_zero]
              try simp only [List.setIfInBounds_toArray]
              refine wpAnyH_take (i := 1) (oi := _) (v := ?_) rfl (by kernel_rfl) (by kernel_rfl) (by kernel_rfl) (fun _ _ _ h => h) (Or.inl ⟨by rfl, ?_⟩) hHeld ?_
              rotate_left 1
              · intro W hS
                try dsimp only at hS
                go_simp <;> with_reducible rfl
              try simp only [Act.put]
              try simp only [List.getElem_toArray]
              try simp only [List.getElem_cons_succ]
              try simp only [List.getElem_cons_zero]
              try simp only [List.setIfInBounds_toArray]
              refine wpAnyH_take (i := 2) (oi := _) (v := ?_) rfl (by kernel_rfl) (by kernel_rfl) (by kernel_rfl) (fun _ _ _ h => h) (Or.inl ⟨by rfl, ?_⟩) hHeld ?_
              rotate_left 1
              · intro W hS
                try dsimp only at hS
                go_simp <;> with_reducible rfl
              try simp only [Act.put]
              try simp only [List.getElem_toArray]
              try simp only [List.getElem_cons_succ]
              try simp only [List.getElem_cons_zero]
              try simp only [List.setIfInBounds_toArray]
              refine wpAnyH_take (i := 4) (oi := _) (v := ?_) rfl (by kernel_rfl) (by kernel_rfl) (by kernel_rfl) (fun _ _ _ h => h) (Or.inl ⟨by rfl, ?_⟩) hHeld ?_
              rotate_left 1
              · intro W hS
                try dsimp only at hS
                go_simp <;> with_reducible rfl
              try simp only [Act.put]
              try simp only [List.getElem_toArray]
              try simp only [List.getElem_cons_succ]
              try simp only [List.getElem_cons_zero]
              try simp only [List.setIfInBounds_toArray]
              refine wpAnyH_take (i := 5) (oi := _) (v := _) rfl (by kernel_rfl) (by kernel_rfl) (by kernel_rfl) (fun _ _ _ h => h) (yieldsIf_load_mid (by rfl) 28 _ rfl w.heap.size 13 rfl _ _ (fun _ h => h.1) Tryz.underlying28 rfl info28') hHeld ?_
              try simp only [Act.put]
              try simp only [List.setIfInBounds_toArray]
              refine wpAnyH_ready (rs := [3]) (by kernel_rfl) (by simp) ?_
              refine AllReadyH.cons (o := _) rfl (fun K hK => ?_) AllReadyH.nil
              have c0 := hex_strL e.text (by have := hs.2.1; omega) (V.drew)
              go_simp
              go_at_call 47
              with_reducible refine c0.mono ?_
              rintro r x0 ⟨rfl, hx0⟩
              have s0 := sv.step hx0
              clear c0 hx0
              go_wp2_with fail
              refine hK.out _ _ (hra _ s0.e) (fun hHeld => ?_)
              clear hK K
              try simp only [Act.put]
              try simp only [List.setIfInBounds_toArray]
              refine wpAnyH_ready (rs := [6]) (by kernel_rfl) (by simp) ?_
              refine AllReadyH.cons (o := _) rfl (fun K hK => ?_) AllReadyH.nil
              have c1 := outcomeWord e.ok e.oa e.ob e.cond (x0) hf.ok hf.oa hf.ob (by have := hs.2.2.1; omega) s0.pow (Nat.le_trans (outW_len e.ok e.oa e.ob e.cond hf.ok hf.oa hf.ob (by have := hs.2.2.1; omega)) (by omega))
              go_simp
              go_at_call 64
              with_reducible refine c1.mono ?_
              rintro r x1 ⟨rfl, hx1⟩
              have s1 := s0.step hx1
              clear c1 hx1
              go_wp2_with fail
              refine hK.out _ _ (hra _ s1.e) (fun hHeld => ?_)
              clear hK K
              try simp only [Act.put]
              try simp only [List.setIfInBounds_toArray]
              refine wpAnyH_ready (rs := [7]) (by kernel_rfl) (by simp) ?_
              refine AllReadyH.cons (o := _) rfl (fun K hK => ?_) AllReadyH.nil
              have sb := s1.step ((Below.refl _ _).alloc (Nat.le_refl _) (.cells #[S (hexW e.text), S (outW e.ok e.oa e.ob e.cond)] 9))
              go_simp
              refine hK.out _ _ (hra _ sb.e) (fun hHeld => ?_)
              clear hK K
              try simp only [Act.put]
              try simp only [List.setIfInBounds_toArray]
              refine wpAnyH_ready (rs := [8]) (by kernel_rfl) (by simp) ?_
              refine AllReadyH.cons (o := _) rfl (fun K hK => ?_) AllReadyH.nil
              have hsb := sb.below.size
              have hsr := lt_of sb.r
              simp only [World.size_alloc] at hsb hsr
              refine step_append_lies _ (by rfl) _ _ 58 (by rfl) (w.heap.size + 2) 9 i0 (.string { data := #[] }) 1 16 Tryz.underlying58 hi hz0 hz1 hz2 rfl (by decide) _ _ _ (by rfl) sb.l ⟨x1.heap.size, 0, none⟩ 2 2 [S (hexW e.text), S (outW e.ok e.oa e.ob e.cond)] (by rfl) rfl ?c1 ?c2 (by omega) ?c3 ?c4 ?c5 (x1.heap.size + 1) (by simp) ?_
              case c1 =>
                intro j u hj
                match j, hj with
                | 0, hj => simp at hj; subst hj; simp [Addr.add]
                | 1, hj => simp at hj; subst hj; simp [Addr.add]
              case c2 => intro u hu; simp at hu; rcases hu with rfl | rfl <;> rfl
              case c3 => simp only [maxLen]; omega
              case c4 => omega
              case c5 => simp only [World.size_alloc]; omega
              intro g2 cap2 w3 hown hgrow hat hlt
              have st3 := sb.grow (news := [hexW e.text, outW e.ok e.oa e.ob e.cond]) h3w (by simpa using hown) rfl hgrow hat (by simp)
              refine hK.out _ _ (hra _ st3.e) (fun hHeld => ?_)
              clear hK K
              try simp only [Act.put]
              try simp only [List.getElem_toArray]
              try simp only [List.getElem_cons_succ]
              try simp only [List.getElem_cons_zero]
              try simp only [List.setIfInBounds_toArray]
              refine wpAnyH_take (i := 9) (oi := _) (v := ?_) rfl (by kernel_rfl) (by kernel_rfl) (by kernel_rfl) (fun _ _ _ h => h) (Or.inl ⟨by rfl, ?_⟩) hHeld ?_
              rotate_left 1
              · intro W hS
                try dsimp only at hS
                go_simp <;> with_reducible rfl
              try simp only [Act.put]
              try simp only [List.getElem_toArray]
              try simp only [List.getElem_cons_succ]
              try simp only [List.getElem_cons_zero]
              try simp only [List.setIfInBounds_toArray]
              refine wpAnyH_done (by kernel_rfl) ?_ _
              refine NoPanic.normal ?_
              go_wp2_with fail
              go_meet
              rw [hw4]
              exact ⟨by rw [i10], _, _, by simp, st3⟩
            have i10 : ¬ (e.k : Int) = 10 := by omega
            have hq4 : (onlyD e).cs (onlyB e (.slice ba e.m.body.length bc)) = (q3 e).cs nilB := by
              unfold onlyD onlyB; rw [if_neg hn, if_neg k6, if_neg k7, if_neg k10, if_neg k7]
            have hw4 : wordsD e = wd3 e := by unfold wordsD; rw [if_neg hn, if_neg k6, if_neg k7, if_neg k10]
            go_wp2_with fail
            go_meet
            rw [hq4, hw4]
            exact ⟨rfl, g, cap, rfl, st⟩
        case rest =>
          clear a0 st
          obtain ⟨rfl, g, cap, rfl, st⟩ := hcut
          obtain ⟨bq, nq, cq0, hbq⟩ : ∃ a n c, onlyB e (.slice ba e.m.body.length bc) = .slice a n c := by
            unfold onlyB
            by_cases h7 : e.k = 7
            · rw [if_pos h7]; exact ⟨_, _, _, rfl⟩
            · rw [if_neg h7]; exact ⟨_, _, _, rfl⟩
          have sd := st.drew
          have hws := words_short e hf hs
          have hwl := (words_len e hf hs).1
          clear st hi hz0 hz1 hz2
          go_wp2_with fail
          have hqs : ∀ W, St w (e.cs (.slice ba e.m.body.length bc)) (.cells zEv 30) qb ((onlyD e).cs (onlyB e (.slice ba e.m.body.length bc))) g cap (wordsD e) W → W.rangeAt qb 0 ([.int .u8 (onlyD e).k, .int .i64 (onlyD e).who, .int .i64 (onlyD e).n, S (onlyD e).name, S (onlyD e).text, .bool (onlyD e).flag, .int .u8 (onlyD e).snd, .int .u8 (onlyD e).rcv, .int .u8 (onlyD e).m.p, .int .u32 (onlyD e).m.t, .int .u32 (onlyD e).m.c, S (onlyD e).m.id, .slice bq nq cq0, .int .u8 (onlyD e).ok, .int .u64 (onlyD e).oa, .int .u64 (onlyD e).ob, S (onlyD e).cond] : List Value) := fun W s j v hj => by
            rw [Nat.zero_add, s.qj j, hbq, ← hj]
            simp
          refine wp_region_noPanic ?_
          refine wp_region_held_drew (S := fun W => W.rangeAt qb 0 ([.int .u8 (onlyD e).k, .int .i64 (onlyD e).who, .int .i64 (onlyD e).n, S (onlyD e).name, S (onlyD e).text, .bool (onlyD e).flag, .int .u8 (onlyD e).snd, .int .u8 (onlyD e).rcv, .int .u8 (onlyD e).m.p, .int .u32 (onlyD e).m.t, .int .u32 (onlyD e).m.c, S (onlyD e).m.id, .slice bq nq cq0, .int .u8 (onlyD e).ok, .int .u64 (onlyD e).oa, .int .u64 (onlyD e).ob, S (onlyD e).cond] : List Value)) (by kernel_rfl) (hqs _ sd) (fun hHeld => ?_)
          refine wpAnyH_take (i := 0) (oi := _) (v := _) rfl (by kernel_rfl) (by kernel_rfl) (by kernel_rfl) (fun _ _ _ h => h) (Or.inl ⟨by rfl, fun _ _ => rfl⟩) hHeld ?_
          try simp only [Act.put]
          try simp only [List.setIfInBounds_toArray]
          refine wpAnyH_take (i := 2) (oi := _) (v := _) rfl (by kernel_rfl) (by kernel_rfl) (by kernel_rfl) (fun _ _ _ h => h) (yieldsIf_load_mid (by rfl) 30 _ rfl qb 0 rfl _ _ (fun _ h => h) Tryz.underlying30 rfl info30') hHeld ?_
          try simp only [Act.put]
          try simp only [List.setIfInBounds_toArray]
          refine wpAnyH_ready (rs := [1]) (by kernel_rfl) (by simp) ?_
          refine AllReadyH.cons (o := _) rfl (fun K hK => ?_) AllReadyH.nil
          go_simp
          go_at_call 39
          refine (join_any _ (wordsD e) [32] _ sd.strs (by omega) hws).mono ?_
          rintro r w1 ⟨rfl, hb1⟩
          have s5 := sd.step hb1
          go_wp2_with fail
          refine hK.out _ _ (hqs _ s5) (fun hHeld => ?_)
          clear hK K
          try simp only [Act.put]
          try simp only [List.setIfInBounds_toArray]
          refine wpAnyH_take (i := 3) (oi := _) (v := _) rfl (by kernel_rfl) (by kernel_rfl) (by kernel_rfl) (fun _ _ _ h => h) (Or.inl ⟨by rfl, fun _ _ => rfl⟩) hHeld ?_
          try simp only [Act.put]
          try simp only [List.setIfInBounds_toArray]
          refine wpAnyH_ready (rs := [4]) (by kernel_rfl) (by simp) ?_
          refine AllReadyH.cons (o := _) rfl (fun K hK => ?_) AllReadyH.nil
          rw [if_pos (by rfl)]
          refine wp_store_mid 30 _ _ rfl (w.heap.size + 1) 0 (List.toArray ([.int .u8 (onlyD e).k, .int .i64 (onlyD e).who, .int .i64 (onlyD e).n, S (onlyD e).name, S (onlyD e).text, .bool (onlyD e).flag, .int .u8 (onlyD e).snd, .int .u8 (onlyD e).rcv, .int .u8 (onlyD e).m.p, .int .u32 (onlyD e).m.t, .int .u32 (onlyD e).m.c, S (onlyD e).m.id, .slice bq nq cq0, .int .u8 (onlyD e).ok, .int .u64 (onlyD e).oa, .int .u64 (onlyD e).ob, S (onlyD e).cond] : List Value)) rfl rfl (fun j hj => ⟨by rw [Nat.zero_add, cell_of s5.r, Array.getElem?_eq_getElem (by exact hj)]; rfl, frozen_of s5.r⟩) info30' (all_of_list rfl) ?_
          have hfin : (w1.setCells (w.heap.size + 1) 0 ([.int .u8 (onlyD e).k, .int .i64 (onlyD e).who, .int .i64 (onlyD e).n, S (onlyD e).name, S (onlyD e).text, .bool (onlyD e).flag, .int .u8 (onlyD e).snd, .int .u8 (onlyD e).rcv, .int .u8 (onlyD e).m.p, .int .u32 (onlyD e).m.t, .int .u32 (onlyD e).m.c, S (onlyD e).m.id, .slice bq nq cq0, .int .u8 (onlyD e).ok, .int .u64 (onlyD e).oa, .int .u64 (onlyD e).ob, S (onlyD e).cond] : List Value)).heap[w.heap.size + 1]? = some (.cells (List.toArray ([.int .u8 (onlyD e).k, .int .i64 (onlyD e).who, .int .i64 (onlyD e).n, S (onlyD e).name, S (onlyD e).text, .bool (onlyD e).flag, .int .u8 (onlyD e).snd, .int .u8 (onlyD e).rcv, .int .u8 (onlyD e).m.p, .int .u32 (onlyD e).m.t, .int .u32 (onlyD e).m.c, S (onlyD e).m.id, .slice bq nq cq0, .int .u8 (onlyD e).ok, .int .u64 (onlyD e).oa, .int .u64 (onlyD e).ob, S (onlyD e).cond] : List Value)) 30) := by
            have := setCells_heap (w.heap.size + 1) 30 ([.int .u8 (onlyD e).k, .int .i64 (onlyD e).who, .int .i64 (onlyD e).n, S (onlyD e).name, S (onlyD e).text, .bool (onlyD e).flag, .int .u8 (onlyD e).snd, .int .u8 (onlyD e).rcv, .int .u8 (onlyD e).m.p, .int .u32 (onlyD e).m.t, .int .u32 (onlyD e).m.c, S (onlyD e).m.id, .slice bq nq cq0, .int .u8 (onlyD e).ok, .int .u64 (onlyD e).oa, .int .u64 (onlyD e).ob, S (onlyD e).cond] : List Value) 0 w1 zEv s5.r (by show 0 + 17 ≤ 17; omega)
            rw [this]
            rfl
          have hbut := setCells_but (w.heap.size + 1) ([.int .u8 (onlyD e).k, .int .i64 (onlyD e).who, .int .i64 (onlyD e).n, S (onlyD e).name, S (onlyD e).text, .bool (onlyD e).flag, .int .u8 (onlyD e).snd, .int .u8 (onlyD e).rcv, .int .u8 (onlyD e).m.p, .int .u32 (onlyD e).m.t, .int .u32 (onlyD e).m.c, S (onlyD e).m.id, .slice bq nq cq0, .int .u8 (onlyD e).ok, .int .u64 (onlyD e).oa, .int .u64 (onlyD e).ob, S (onlyD e).cond] : List Value) 0 w1
          refine hK.out _ _ (fun j v hj => ?_) (fun hHeld => ?_)
          · rw [Nat.zero_add]
            refine (cell?_of_block (hbut.block qb (lt_of s5.q) (by have := s5.qlo; omega))).trans ?_
            have := hqs _ s5 j v hj
            rwa [Nat.zero_add] at this
          clear hK K
          refine wpAnyH_done (by kernel_rfl) ?_ _
          refine NoPanic.normal ?_
          go_wp2_with fail
          refine bodyPost_ret (results_tmp_cell Tryz.results22 _ _ (w.heap.size + 1) 30 _ _ rfl hfin Tryz.underlying30 rfl info30') rfl ?_
          subst hQ
          refine ⟨?_, s5.below.trans (hbut.below (Nat.le_succ _) s5.below.size)⟩
          rw [hbq]
          rfl
end Go.Proofs.YtaojoifpekoecaaGreatDoor
