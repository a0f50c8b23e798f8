/-
  Told and Setup, opened. Conditions: as each theorem says.
-/
import Derived.Test.YtaojoifpekoecaaGreatDoorO1
namespace Go.Proofs.YtaojoifpekoecaaGreatDoor
open Go.RowKit Go.Deep Go.ChangeShapes
section
variable {H : Type} {enc : TypeId × Value → H} {w : World} {base : Nat} {spare : Nat → Bool} {held : Bool}
theorem open_agg {P : Program} {t n : Nat} {fs : Array Field} {v : Value} {d : DataW H} {ps : List MemPlace} (hs : P.underlying t = some (.struct fs)) (hc : P.cellsOf t = n) (h2 : 2 ≤ n) (h : DataW.Trod enc P w base spare held t v d ps) :
    ∃ (cs : List Value) (fuel : Nat), v = .agg cs.toArray ∧ cs.length = n ∧ DataW.trod enc P w base spare held fuel t cs = some (d, ps) := by
  obtain ⟨fuel, h⟩ := h
  obtain ⟨_, _, _, _, hlen, _, _⟩ := DataW.trod_struct hs h
  rw [hc] at hlen
  cases v with
  | agg cs => exact ⟨cs.toList, fuel, by simp, hlen, h⟩
  | _ => simp [Value.cells] at hlen; omega
theorem field {P : Program} {t : TypeId} {fs : Array Field} {cs : List Value} {fuel : Nat} {x : DataW H × List MemPlace} (hs : P.underlying t = some (.struct fs)) (h : DataW.trod enc P w base spare held fuel t cs = some x) (hl : Light P t x.1)
    (i : Nat) (f : Field) (hf : fs[i]? = some f) : ∃ n y, DataW.trod enc P w base spare held n f.type ((cs.drop f.offset).take (P.cellsOf f.type)) = some y ∧ Light P f.type y.1 := by
  obtain ⟨xs, n, _, rfl, hlen, hxl, hall⟩ := DataW.trod_struct hs h
  have h1 := hall i f hf
  have hif : i < xs.length := by
    rw [hxl]; exact (Array.getElem?_eq_some_iff.1 hf).1
  rw [List.getElem?_eq_getElem hif] at h1
  exact ⟨n, _, h1, hl.part hs hf (by rw [List.getElem?_map, List.getElem?_eq_getElem hif]; rfl)⟩
theorem ce25 : Tryz.prog.cellsOf 25 = 5 := by kernel_rfl
theorem ce28 : Tryz.prog.cellsOf 28 = 4 := by kernel_rfl
theorem ce50 : Tryz.prog.cellsOf 50 = 7 := by kernel_rfl
theorem ce84 : Tryz.prog.cellsOf 84 = 4 := by kernel_rfl
theorem ce45 : Tryz.prog.cellsOf 45 = 7 := by kernel_rfl
theorem ce48 : Tryz.prog.cellsOf 48 = 5 := by kernel_rfl
theorem ce5 : Tryz.prog.cellsOf 5 = 1 := by kernel_rfl
theorem ce22 : Tryz.prog.cellsOf 22 = 1 := by kernel_rfl
theorem ce26 : Tryz.prog.cellsOf 26 = 1 := by kernel_rfl
theorem ce3 : Tryz.prog.cellsOf 3 = 1 := by kernel_rfl
theorem ce4' : Tryz.prog.cellsOf 4 = 1 := by kernel_rfl
theorem ce9 : Tryz.prog.cellsOf 9 = 1 := by kernel_rfl
theorem ce23 : Tryz.prog.cellsOf 23 = 1 := by kernel_rfl
theorem ce35 : Tryz.prog.cellsOf 35 = 1 := by kernel_rfl
theorem ce42 : Tryz.prog.cellsOf 42 = 1 := by kernel_rfl
theorem ce43 : Tryz.prog.cellsOf 43 = 1 := by kernel_rfl
theorem ce46 : Tryz.prog.cellsOf 46 = 1 := by kernel_rfl
theorem b5 : 0 < Tryz.prog.bytesOf 5 := of_decide_eq_true (by kernel_rfl)
theorem open_msgE {fuel : Nat} {cs : List Value} {x : DataW H × List MemPlace} (h : DataW.trod enc Tryz.prog w base spare held fuel 25 cs = some x) (hl : Light Tryz.prog 25 x.1) (hcs : cs.length = 5) :
    ∃ m : MsgD, cs.all (·.oneCell') = true ∧ MsgE0 w cs m := by
  match cs, hcs with
  | [v0, v1, v2, v3, v4], _ =>
  obtain ⟨n0, y0, h0, _⟩ := field1 Tryz.underlying25 h hl 0 _ rfl rfl ce5 (by simp)
  obtain ⟨n1, y1, h1, _⟩ := field1 Tryz.underlying25 h hl 1 _ rfl rfl ce22 (by simp)
  obtain ⟨n2, y2, h2, _⟩ := field1 Tryz.underlying25 h hl 2 _ rfl rfl ce22 (by simp)
  obtain ⟨n3, y3, h3, l3⟩ := field1 Tryz.underlying25 h hl 3 _ rfl rfl ce9 (by simp)
  obtain ⟨n4, y4, h4, l4⟩ := field1 Tryz.underlying25 h hl 4 _ rfl rfl ce23 (by simp)
  obtain ⟨p, rfl, hp⟩ := open_nat Tryz.underlying5 rfl h0
  obtain ⟨t, rfl, ht⟩ := open_nat Tryz.underlying22 rfl h1
  obtain ⟨c, rfl, hc⟩ := open_nat Tryz.underlying22 rfl h2
  obtain ⟨id, rfl, hid⟩ := open_str Tryz.underlying9 h3 l3
  obtain ⟨body, hb, hbl⟩ := open_bytes Tryz.underlying23 Tryz.underlying5 ce5 b5 h4 l4
  have hp' : (p : Int) ≤ 255 := hp
  have ht' : (t : Int) ≤ 4294967295 := ht
  have hc' : (c : Int) ≤ 4294967295 := hc
  have hb2 := hb
  obtain ⟨ba, bc, hbv, _⟩ := hb2
  refine ⟨⟨p, t, c, id, body⟩, ?_, _, rfl, hb, by show p < 256; omega, by show t < _; omega, by show c < _; omega, hid, hbl⟩
  subst hbv
  rfl
theorem open_outc {fuel : Nat} {cs : List Value} {x : DataW H × List MemPlace} (h : DataW.trod enc Tryz.prog w base spare held fuel 28 cs = some x) (hl : Light Tryz.prog 28 x.1) (hcs : cs.length = 4) :
    ∃ (k a b : Nat) (cond : List UInt8), cs = [.int .u8 k, .int .u64 a, .int .u64 b, S cond] ∧ k < 256 ∧ a < 18446744073709551616 ∧ b < 18446744073709551616 ∧ Lim cond := by
  match cs, hcs with
  | [v0, v1, v2, v3], _ =>
  obtain ⟨n0, y0, h0, _⟩ := field1 Tryz.underlying28 h hl 0 _ rfl rfl ce5 (by simp)
  obtain ⟨n1, y1, h1, _⟩ := field1 Tryz.underlying28 h hl 1 _ rfl rfl ce26 (by simp)
  obtain ⟨n2, y2, h2, _⟩ := field1 Tryz.underlying28 h hl 2 _ rfl rfl ce26 (by simp)
  obtain ⟨n3, y3, h3, l3⟩ := field1 Tryz.underlying28 h hl 3 _ rfl rfl ce9 (by simp)
  obtain ⟨p, rfl, hp⟩ := open_nat Tryz.underlying5 rfl h0
  obtain ⟨t, rfl, ht⟩ := open_nat Tryz.underlying26 rfl h1
  obtain ⟨c, rfl, hc⟩ := open_nat Tryz.underlying26 rfl h2
  obtain ⟨cond, rfl, hcl⟩ := open_str Tryz.underlying9 h3 l3
  have hp' : (p : Int) ≤ 255 := hp
  have ht' : (t : Int) ≤ 18446744073709551615 := ht
  have hc' : (c : Int) ≤ 18446744073709551615 := hc
  exact ⟨p, t, c, cond, rfl, by omega, by omega, by omega, hcl⟩
theorem open_becE {fuel : Nat} {cs : List Value} {x : DataW H × List MemPlace} (h : DataW.trod enc Tryz.prog w base spare held fuel 50 cs = some x) (hl : Light Tryz.prog 50 x.1) (hcs : cs.length = 7) :
    ∃ m : BecD, cs.all (·.oneCell') = true ∧ BecE0 w cs m := by
  match cs, hcs with
  | [v0, v1, v2, v3, v4, v5, v6], _ =>
  obtain ⟨n0, y0, h0, _⟩ := field1 Tryz.underlying50 h hl 0 _ rfl rfl ce3 (by simp)
  obtain ⟨n1, y1, h1, l1⟩ := field1 Tryz.underlying50 h hl 1 _ rfl rfl ce9 (by simp)
  obtain ⟨n2, y2, h2, l2⟩ := field1 Tryz.underlying50 h hl 2 _ rfl rfl ce9 (by simp)
  obtain ⟨n3, y3, h3, l3⟩ := field Tryz.underlying50 h hl 3 _ rfl
  obtain ⟨who, rfl, hw⟩ := open_i64 Tryz.underlying3 h0
  obtain ⟨link, rfl, hlk⟩ := open_str Tryz.underlying9 h1 l1
  obtain ⟨tag, rfl, htg⟩ := open_str Tryz.underlying9 h2 l2
  have h3' : DataW.trod enc Tryz.prog w base spare held n3 28 ((List.drop 3 [Value.int .i64 who, S link, S tag, v3, v4, v5, v6]).take (Tryz.prog.cellsOf 28)) = some y3 := h3
  rw [ce28] at h3'
  obtain ⟨k, a, b, cond, hcs, hk, ha, hb, hcond⟩ := open_outc h3' l3 rfl
  cases hcs
  exact ⟨⟨who, link, tag, k, a, b, cond⟩, rfl, rfl, hw, hk, ha, hb, hlk, htg, hcond⟩
theorem open_queE {fuel : Nat} {cs : List Value} {x : DataW H × List MemPlace} (h : DataW.trod enc Tryz.prog w base spare held fuel 84 cs = some x) (hl : Light Tryz.prog 84 x.1) (hcs : cs.length = 4) :
    ∃ m : QueD, cs.all (·.oneCell') = true ∧ QueE0 w cs m := by
  match cs, hcs with
  | [v0, v1, v2, v3], _ =>
  obtain ⟨n0, y0, h0, l0⟩ := field1 Tryz.underlying84 h hl 0 _ rfl rfl ce9 (by simp)
  obtain ⟨n1, y1, h1, _⟩ := field1 Tryz.underlying84 h hl 1 _ rfl rfl ce3 (by simp)
  obtain ⟨n2, y2, h2, _⟩ := field1 Tryz.underlying84 h hl 2 _ rfl rfl ce3 (by simp)
  obtain ⟨n3, y3, h3, l3⟩ := field1 Tryz.underlying84 h hl 3 _ rfl rfl ce9 (by simp)
  obtain ⟨name, rfl, hn⟩ := open_str Tryz.underlying9 h0 l0
  obtain ⟨room, rfl, hr⟩ := open_i64 Tryz.underlying3 h1
  obtain ⟨limit, rfl, hli⟩ := open_i64 Tryz.underlying3 h2
  obtain ⟨dead, rfl, hd⟩ := open_str Tryz.underlying9 h3 l3
  exact ⟨⟨name, room, limit, dead⟩, rfl, rfl, hr, hli, hn, hd⟩
/-- Told, opened -/
theorem open_told {v : Value} {d : DataW H} {ps : List MemPlace} (h : DataW.Trod enc Tryz.prog w base spare held 45 v d ps) (hl : Light Tryz.prog 45 d) :
    ∃ (err a b : Int) (is : Bool) (text : List UInt8) (ms : List MsgD) (bs : List BecD) (mv bv : Value), v = .agg #[.int .i64 err, .bool is, S text, .int .i64 a, .int .i64 b, mv, bv] ∧ I64 err ∧ I64 a ∧ I64 b ∧ Lim text ∧ SliceV 5 MsgE0 w mv ms ∧ SliceV 7 BecE0 w bv bs := by
  obtain ⟨cs, fuel, rfl, hcs, h⟩ := open_agg Tryz.underlying45 ce45 (by omega) h
  match cs, hcs with
  | [v0, v1, v2, v3, v4, v5, v6], _ =>
  obtain ⟨n0, y0, h0, _⟩ := field1 Tryz.underlying45 h hl 0 _ rfl rfl ce35 (by simp)
  obtain ⟨n1, y1, h1, _⟩ := field1 Tryz.underlying45 h hl 1 _ rfl rfl ce4' (by simp)
  obtain ⟨n2, y2, h2, l2⟩ := field1 Tryz.underlying45 h hl 2 _ rfl rfl ce9 (by simp)
  obtain ⟨n3, y3, h3, _⟩ := field1 Tryz.underlying45 h hl 3 _ rfl rfl ce3 (by simp)
  obtain ⟨n4, y4, h4, _⟩ := field1 Tryz.underlying45 h hl 4 _ rfl rfl ce3 (by simp)
  obtain ⟨n5, y5, h5, l5⟩ := field1 Tryz.underlying45 h hl 5 _ rfl rfl ce42 (by simp)
  obtain ⟨n6, y6, h6, l6⟩ := field1 Tryz.underlying45 h hl 6 _ rfl rfl ce43 (by simp)
  obtain ⟨err, rfl, he⟩ := open_i64 Tryz.underlying35 h0
  obtain ⟨is, rfl⟩ := open_bool1 Tryz.underlying4 h1
  obtain ⟨text, rfl, ht⟩ := open_str Tryz.underlying9 h2 l2
  obtain ⟨a, rfl, ha⟩ := open_i64 Tryz.underlying3 h3
  obtain ⟨b, rfl, hb⟩ := open_i64 Tryz.underlying3 h4
  obtain ⟨ms, hms⟩ := open_rows (EV := MsgE0) Tryz.underlying42 ce25 (by omega) (fun _ _ _ => open_msgE) h5 l5
  obtain ⟨bs, hbs⟩ := open_rows (EV := BecE0) Tryz.underlying43 ce50 (by omega) (fun _ _ _ => open_becE) h6 l6
  exact ⟨err, a, b, is, text, ms, bs, _, _, rfl, he, ha, hb, ht, hms, hbs⟩
/-- Setup, opened -/
theorem open_setup {v : Value} {d : DataW H} {ps : List MemPlace} (h : DataW.Trod enc Tryz.prog w base spare held 48 v d ps) (hl : Light Tryz.prog 48 d) :
    ∃ (cl : Int) (mf wi id : Nat) (qs : List QueD) (qv : Value), v = .agg #[.int .i64 cl, .int .u32 mf, .int .u32 wi, .int .u32 id, qv] ∧ I64 cl ∧ mf < 4294967296 ∧ wi < 4294967296 ∧ id < 4294967296 ∧ SliceV 4 QueE0 w qv qs := by
  obtain ⟨cs, fuel, rfl, hcs, h⟩ := open_agg Tryz.underlying48 ce48 (by omega) h
  match cs, hcs with
  | [v0, v1, v2, v3, v4], _ =>
  obtain ⟨n0, y0, h0, _⟩ := field1 Tryz.underlying48 h hl 0 _ rfl rfl ce3 (by simp)
  obtain ⟨n1, y1, h1, _⟩ := field1 Tryz.underlying48 h hl 1 _ rfl rfl ce22 (by simp)
  obtain ⟨n2, y2, h2, _⟩ := field1 Tryz.underlying48 h hl 2 _ rfl rfl ce22 (by simp)
  obtain ⟨n3, y3, h3, _⟩ := field1 Tryz.underlying48 h hl 3 _ rfl rfl ce22 (by simp)
  obtain ⟨n4, y4, h4, l4⟩ := field1 Tryz.underlying48 h hl 4 _ rfl rfl ce46 (by simp)
  obtain ⟨cl, rfl, hc⟩ := open_i64 Tryz.underlying3 h0
  obtain ⟨mf, rfl, hm⟩ := open_nat Tryz.underlying22 rfl h1
  obtain ⟨wi, rfl, hw⟩ := open_nat Tryz.underlying22 rfl h2
  obtain ⟨id, rfl, hi⟩ := open_nat Tryz.underlying22 rfl h3
  obtain ⟨qs, hqs⟩ := open_rows (EV := QueE0) Tryz.underlying46 ce84 (by omega) (fun _ _ _ => open_queE) h4 l4
  have hm' : (mf : Int) ≤ 4294967295 := hm
  have hw' : (wi : Int) ≤ 4294967295 := hw
  have hi' : (id : Int) ≤ 4294967295 := hi
  exact ⟨cl, mf, wi, id, qs, _, rfl, hc, by omega, by omega, by omega, hqs⟩
end
end Go.Proofs.YtaojoifpekoecaaGreatDoor

