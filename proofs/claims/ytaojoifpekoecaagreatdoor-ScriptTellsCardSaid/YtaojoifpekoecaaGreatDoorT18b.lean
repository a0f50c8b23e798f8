/-
  Script and reference tell one same line. Conditions: as each theorem says.
-/
import Derived.Test.YtaojoifpekoecaaGreatDoorT18
namespace Go.Proofs.YtaojoifpekoecaaGreatDoor
open Go.RowKit Go.Shelf
theorem queE_all {w : World} {qv : Value} {qs : List QueD} (h : SliceV 4 QueE0 w qv qs) (hs : ∀ q ∈ qs, q.name.length + q.dead.length ≤ 300) : SliceV 4 QueE w qv qs :=
  h.imp fun cs q hq he => queE_of he (by have := hs q hq; omega) (by have := hs q hq; omega)
theorem que_each {w : World} {n : Nat} {v : Value} {α : Type} {E : World → List Value → α → Prop} {xs : List α} (h : SliceV n E w v xs) : ∀ x ∈ xs, ∃ cs, E w cs x := by
  intro x hx
  obtain ⟨a, c, _, h⟩ := h
  obtain ⟨b, o, _, _, hel⟩ := h (fun h0 => by subst h0; cases hx)
  obtain ⟨j, hj, rfl⟩ := List.getElem_of_mem hx
  obtain ⟨cs, _, _, _, h4⟩ := hel j _ (List.getElem?_eq_getElem hj)
  exact ⟨cs, h4⟩
theorem heads (cl : Int) (mf wi id : Nat) (qv : Value) (qs : List QueD) (w : World) (hc : I64 cl) (hmf : mf < 4294967296) (hwi : wi < 4294967296) (hid : id < 4294967296) (h0 : SliceV 4 QueE0 w qv qs) (hs : ∀ q ∈ qs, q.name.length + q.dead.length ≤ 300) :
    ∃ (p : List UInt8) (er : Int), (∀ W, Below w.heap.size w W → Pow W → Calls Tryz.prog 13 #[.agg #[.int .i64 cl, .int .u32 mf, .int .u32 wi, .int .u32 id, qv]] W fun e w' => e = .returned (.tuple #[S p, .int .i64 er]) ∧ Below W.heap.size W w') ∧
      (∀ W, Below w.heap.size w W → Pow W → Calls Tryz.prog 14 #[.agg #[.int .i64 cl, .int .u32 mf, .int .u32 wi, .int .u32 id, qv]] W fun e w' => e = .returned (.tuple #[S p, .int .i64 er]) ∧ Below W.heap.size W w') := by
  have hq := queE_all h0 hs
  by_cases h8 : qs.length ≤ 8
  · have hlen : ∀ q ∈ qs, q.w.length ≤ 100000 := fun q hq' => by
      obtain ⟨cs, h1, h2, h3, _, _⟩ := que_each h0 q hq'
      have := hs q hq'
      exact queW_len _ _ _ _ (by omega) (by omega) h2 h3
    have hh := headW_len cl mf wi id qs hc hmf hwi hid (by omega) hlen
    have hj : Fits (Lib.join (qs.map QueD.w) [44]) := by
      have := join_len (qs.map QueD.w) [44] 100000 8 (by simpa using h8) (by simpa using hlen)
      exact Nat.le_trans this (by decide)
    exact ⟨_, _, fun W hb hp => head_few cl mf wi id qv qs W hc hmf hwi hid (hq.below @QueE.st hb) h8 hp hj hh, fun W hb hp => rhead_few cl mf wi id qv qs W hc hmf hwi hid (hq.below @QueE.st hb) h8 hp hj hh⟩
  · exact ⟨_, _, fun W hb _ => head_many cl mf wi id qv qs W (hq.below @QueE.st hb) (by omega), fun W hb _ => rhead_many cl mf wi id qv qs W (hq.below @QueE.st hb) (by omega)⟩
theorem tells (err a b : Int) (is : Bool) (text : List UInt8) (ms : List MsgD) (bs : List BecD) (mv bv : Value) (w : World) (he : I64 err) (ha : I64 a) (hb : I64 b) (ht : text.length ≤ 8192) (hm : SliceV 5 MsgE0 w mv ms) (hbe : SliceV 7 BecE0 w bv bs) (hml : ms.length ≤ 100) (hbl : bs.length ≤ 100)
    (hms : ∀ m ∈ ms, m.id.length + m.body.length ≤ 8192) (hbs : ∀ m ∈ bs, m.link.length + m.tag.length + m.cond.length ≤ 8192) :
    ∃ p : List UInt8, (∀ W, Below w.heap.size w W → Pow W → Calls Tryz.prog 15 #[.agg #[.int .i64 err, .bool is, S text, .int .i64 a, .int .i64 b, mv, bv]] W fun e w' => e = .returned (S p) ∧ Below W.heap.size W w') ∧
      (∀ W, Below w.heap.size w W → Pow W → Calls Tryz.prog 16 #[.agg #[.int .i64 err, .bool is, S text, .int .i64 a, .int .i64 b, mv, bv]] W fun e w' => e = .returned (S p) ∧ Below W.heap.size W w') := by
  have hmE : SliceV 5 MsgE w mv ms := hm.imp fun cs m hm' h => msgE_of h (by have := hms m hm'; omega) (by have := hms m hm'; omega)
  have hbE : SliceV 7 BecE w bv bs := hbe.imp fun cs m hm' h => becE_of h (by have := hbs m hm'; omega) (by have := hbs m hm'; omega) (by have := hbs m hm'; omega)
  have hl1 : ∀ m ∈ ms, m.w.length ≤ 100000 := fun m hm' => by
    obtain ⟨cs, bv, h1, h2, h3, h4, h5, _⟩ := que_each hm m hm'
    have := hms m hm'
    exact msgW_len _ _ _ _ _ h3 h4 h5 (by omega) (by omega)
  have hl2 : ∀ m ∈ bs, m.w.length ≤ 1000000 := fun m hm' => by
    obtain ⟨cs, h1, h2, h3, h4, h5, _⟩ := que_each hbe m hm'
    have := hbs m hm'
    exact becW_len _ _ _ _ _ _ _ h2 (by omega) (by omega) h3 h4 h5 (by omega)
  have hh := tellW_len err a b is text ms bs he ha hb ht hml hbl hl1 hl2
  have hj1 : Fits (Lib.join (ms.map MsgD.w) [44]) := Nat.le_trans (join_len (ms.map MsgD.w) [44] 100000 100 (by simpa using hml) (by simpa using hl1)) (by decide)
  have hj2 : Fits (Lib.join (bs.map BecD.w) [44]) := Nat.le_trans (join_len (bs.map BecD.w) [44] 1000000 100 (by simpa using hbl) (by simpa using hl2)) (by decide)
  have hts : Short text := Nat.le_trans ht (by decide)
  exact ⟨_, fun W hB hp => tell err a b is text ms bs mv bv W he ha hb hts (hmE.below @MsgE.st hB) (hbE.below @BecE.st hB) (by omega) (by omega) hj1 hj2 hp hh, fun W hB hp => rtell err a b is text ms bs mv bv W he ha hb hts (hmE.below @MsgE.st hB) (hbE.below @BecE.st hB) (by omega) (by omega) hj1 hj2 hp hh⟩
end Go.Proofs.YtaojoifpekoecaaGreatDoor

