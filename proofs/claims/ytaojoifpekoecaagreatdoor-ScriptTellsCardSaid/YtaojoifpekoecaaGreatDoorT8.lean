/-
  script.Tell tells tellW. Conditions: as each theorem says.
-/
import Derived.Test.YtaojoifpekoecaaGreatDoorT7
namespace Go.Proofs.YtaojoifpekoecaaGreatDoor
open Go.RowKit Go.Shelf
structure MsgD where
  p : Nat
  t : Nat
  c : Nat
  id : List UInt8
  body : List UInt8
structure BecD where
  who : Int
  link : List UInt8
  tag : List UInt8
  k : Nat
  a : Nat
  b : Nat
  cond : List UInt8
structure QueD where
  name : List UInt8
  room : Int
  limit : Int
  dead : List UInt8
abbrev MsgD.w (m : MsgD) : List UInt8 := msgW m.p m.t m.c m.id m.body
abbrev BecD.w (m : BecD) : List UInt8 := becW m.who m.link m.tag m.k m.a m.b m.cond
abbrev QueD.w (m : QueD) : List UInt8 := queW m.name m.dead m.room m.limit
def I64 (n : Int) : Prop := -9223372036854775808 ≤ n ∧ n ≤ 9223372036854775807
def Short (l : List UInt8) : Prop := l.length ≤ 100000000
def Fits (l : List UInt8) : Prop := l.length ≤ 140737488355328
def MsgE (w : World) (cs : List Value) (m : MsgD) : Prop := ∃ bv, cs = [.int .u8 m.p, .int .u32 m.t, .int .u32 m.c, S m.id, bv] ∧ BytesV w bv m.body ∧ m.p < 256 ∧ m.t < 4294967296 ∧ m.c < 4294967296 ∧ Short m.id ∧ Short m.body ∧ Fits m.w
def BecE (_ : World) (cs : List Value) (m : BecD) : Prop := cs = [.int .i64 m.who, S m.link, S m.tag, .int .u8 m.k, .int .u64 m.a, .int .u64 m.b, S m.cond] ∧ I64 m.who ∧ Short m.link ∧ Short m.tag ∧ m.k < 256 ∧ m.a < 18446744073709551616 ∧ m.b < 18446744073709551616 ∧ Short m.cond ∧ Fits (outW m.k m.a m.b m.cond) ∧ Fits m.w
def QueE (_ : World) (cs : List Value) (m : QueD) : Prop := cs = [S m.name, .int .i64 m.room, .int .i64 m.limit, S m.dead] ∧ Short m.name ∧ Short m.dead ∧ I64 m.room ∧ I64 m.limit ∧ Fits m.w
theorem MsgE.st {w w' : World} {cs : List Value} {m : MsgD} (hb : Below w.heap.size w w') (h : MsgE w cs m) : MsgE w' cs m := by
  obtain ⟨bv, h1, h2, h3⟩ := h
  exact ⟨bv, h1, h2.below hb (Nat.le_refl _), h3⟩
theorem BecE.st {w w' : World} {cs : List Value} {m : BecD} (_ : Below w.heap.size w w') (h : BecE w cs m) : BecE w' cs m := h
theorem QueE.st {w w' : World} {cs : List Value} {m : QueD} (_ : Below w.heap.size w w') (h : QueE w cs m) : QueE w' cs m := h
theorem msg_call {w : World} {cs : List Value} {m : MsgD} (hp : Pow w) (h : MsgE w cs m) : Calls Tryz.prog 49 #[.agg cs.toArray] w fun e w' => e = .returned (S m.w) ∧ Below w.heap.size w w' := by
  obtain ⟨bv, rfl, hb, h1, h2, h3, h4, h5, h6⟩ := h
  exact msgWord m.p m.t m.c m.id m.body bv w h1 h2 h3 h4 h5 hp hb h6
theorem bec_call {w : World} {cs : List Value} {m : BecD} (hp : Pow w) (h : BecE w cs m) : Calls Tryz.prog 51 #[.agg cs.toArray] w fun e w' => e = .returned (S m.w) ∧ Below w.heap.size w w' := by
  obtain ⟨rfl, h1, h2, h3, h4, h5, h6, h7, h8, h9⟩ := h
  exact becameWord m.who m.link m.tag m.k m.a m.b m.cond w h1.1 h1.2 h2 h3 h4 h5 h6 h7 h8 hp h9
theorem que_call {w : World} {cs : List Value} {m : QueD} (hp : Pow w) (h : QueE w cs m) : Calls Tryz.prog 43 #[.agg cs.toArray] w fun e w' => e = .returned (S m.w) ∧ Below w.heap.size w w' := by
  obtain ⟨rfl, h1, h2, h3, h4, h5⟩ := h
  exact queueWord m.name m.dead m.room m.limit w h1 h2 h3.1 h3.2 h4.1 h4.2 hp h5
theorem SliceV.below {α : Type} {n : Nat} {EV : World → List Value → α → Prop} (hst : ∀ {w w' : World} {cs x}, Below w.heap.size w w' → EV w cs x → EV w' cs x) {w w' : World} {v : Value} {xs : List α} (h : SliceV n EV w v xs) (hb : Below w.heap.size w w') : SliceV n EV w' v xs := by
  obtain ⟨a, c, hv, h⟩ := h
  refine ⟨a, c, hv, fun h0 => ?_⟩
  obtain ⟨b, o, ha, hlt, hel⟩ := h h0
  refine ⟨b, o, ha, Nat.lt_of_lt_of_le hlt hb.size, fun j x hx => ?_⟩
  obtain ⟨cs, h1, h2, h3, h4⟩ := hel j x hx
  exact ⟨cs, h1, h2, rangeAt_below h3 hb hlt, hst hb h4⟩
set_option maxHeartbeats 1000000
def tellW (err a b : Int) (is : Bool) (text : List UInt8) (ms : List MsgD) (bs : List BecD) : List UInt8 := Lib.join [Lib.itoa err, ansW is, hexW text, Lib.itoa a, Lib.itoa b, listW (ms.map MsgD.w), listW (bs.map BecD.w)] [32]
theorem tell (err a b : Int) (is : Bool) (text : List UInt8) (ms : List MsgD) (bs : List BecD) (mv bv : Value) (w : World) (he : I64 err) (ha : I64 a) (hb : I64 b) (ht : Short text) (hm : SliceV 5 MsgE w mv ms) (hbe : SliceV 7 BecE w bv bs) (hml : ms.length ≤ 1000) (hbl : bs.length ≤ 1000) (hmf : Fits (Lib.join (ms.map MsgD.w) [44])) (hbf : Fits (Lib.join (bs.map BecD.w) [44])) (htab : Pow w) (hlen : (tellW err a b is text ms bs).length ≤ 140737488355328) :
    Calls Tryz.prog 15 #[.agg #[.int .i64 err, .bool is, S text, .int .i64 a, .int .i64 b, mv, bv]] w fun e w' => e = .returned (S (tellW err a b is text ms bs)) ∧ Below w.heap.size w w' := by
  have k0 := (Kp.init htab #[.int .i64 err, .bool is, S text, .int .i64 a, .int .i64 b, mv, bv] 45).drew
  go_enter Tryz.func15, Tryz.ntmps15
  go_wp2_with fail
  go_region_held3 (fun w' => w'.cell? ⟨w.heap.size, 0, none⟩ = some (.int .i64 err) ∧ w'.cell? ⟨w.heap.size, 1, none⟩ = some (.bool is) ∧ w'.cell? ⟨w.heap.size, 2, none⟩ = some (S text) ∧ w'.cell? ⟨w.heap.size, 3, none⟩ = some (.int .i64 a) ∧ w'.cell? ⟨w.heap.size, 4, none⟩ = some (.int .i64 b) ∧ w'.cell? ⟨w.heap.size, 5, none⟩ = some (mv) ∧ w'.cell? ⟨w.heap.size, 6, none⟩ = some (bv) ∧ Kp w #[.int .i64 err, .bool is, S text, .int .i64 a, .int .i64 b, mv, bv] w')
    (first
      | exact Kp.seven k0
      | exact Kp.seven (Kp.step (by assumption : _ ∧ _ ∧ _ ∧ _ ∧ _ ∧ _ ∧ _ ∧ Kp _ _ _).2.2.2.2.2.2.2 (by assumption))
      | exact Kp.seven (Kp.step (by assumption : _ ∧ _ ∧ _ ∧ _ ∧ _ ∧ _ ∧ _ ∧ Kp _ _ _).2.2.2.2.2.2.2 ((Below.refl _ _).alloc (Nat.le_refl _) _)))
    (first
      | (go_at_call 40; refine (num_int _ (And.left (by assumption : I64 _)) (And.right (by assumption : I64 _)) _ (by assumption : _ ∧ _ ∧ _ ∧ _ ∧ _ ∧ _ ∧ _ ∧ Kp _ _ _).2.2.2.2.2.2.2.pow).mono ?_; rintro e w' ⟨rfl, hb1⟩)
      | (go_at_call 46; refine (answer is _).mono ?_; rintro e w' ⟨rfl, hb1⟩)
      | (go_at_call 47; refine (hex_strL text ht _).mono ?_; rintro e w' ⟨rfl, hb1⟩)
      | (go_at_call 48; refine (list25 (EV := MsgE) (word := MsgD.w) @MsgE.st @msg_call mv ms hml _ (by assumption : _ ∧ _ ∧ _ ∧ _ ∧ _ ∧ _ ∧ _ ∧ Kp _ _ _).2.2.2.2.2.2.2.pow (hm.below @MsgE.st (by assumption : _ ∧ _ ∧ _ ∧ _ ∧ _ ∧ _ ∧ _ ∧ Kp _ _ _).2.2.2.2.2.2.2.below) hmf).mono ?_; rintro e w' ⟨rfl, hb1⟩)
      | (go_at_call 50; refine (list50 (EV := BecE) (word := BecD.w) @BecE.st @bec_call bv bs hbl _ (by assumption : _ ∧ _ ∧ _ ∧ _ ∧ _ ∧ _ ∧ _ ∧ Kp _ _ _).2.2.2.2.2.2.2.pow (hbe.below @BecE.st (by assumption : _ ∧ _ ∧ _ ∧ _ ∧ _ ∧ _ ∧ _ ∧ Kp _ _ _).2.2.2.2.2.2.2.below) hbf).mono ?_; rintro e w' ⟨rfl, hb1⟩)
      | (go_at_call 39; refine (join_any _ [Lib.itoa err, ansW is, hexW text, Lib.itoa a, Lib.itoa b, listW (ms.map MsgD.w), listW (bs.map BecD.w)] [32] _ (strs_new _ _ _) (by simp) hlen).mono ?_; rintro e w' ⟨rfl, hb1⟩))
  have hk := (by assumption : _ ∧ _ ∧ _ ∧ _ ∧ _ ∧ _ ∧ _ ∧ Kp _ _ _).2.2.2.2.2.2.2.below
  go_wp2
  go_ret
  exact ⟨rfl, hk⟩
end Go.Proofs.YtaojoifpekoecaaGreatDoor

