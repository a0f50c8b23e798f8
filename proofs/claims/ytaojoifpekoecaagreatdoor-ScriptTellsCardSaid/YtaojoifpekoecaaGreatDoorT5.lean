/-
  msgWord. Conditions: as each theorem says.
-/
import Derived.Test.YtaojoifpekoecaaGreatDoorT4
import Derived.Deep.RegionHeld3
namespace Go.Proofs.YtaojoifpekoecaaGreatDoor
open Go.RowKit Go.Shelf
theorem powG : Tryz.prog.globalNamed "internal/strconv.uint64pow10" = some 3 := by kernel_rfl
theorem Pow.below {w w' : World} {B : Nat} (h : Pow w) (hb : Below B w w') (hB : w.heap.size ≤ B) : Pow w' := by
  unfold Pow Lib.TabIs World.var? at *
  rw [powG] at h ⊢
  simp only [Option.bind_some] at h ⊢
  have h0 : 3 < w.heap.size := by
    cases hq : w.heap[3]? with
    | none => rw [hq] at h; cases h
    | some o => exact (Array.getElem?_eq_some_iff.1 hq).1
  rw [hb.block 3 (by omega)]
  exact h
theorem hex_strL (l : List UInt8) (hs : l.length ≤ 100000000) (w : World) :
    Calls Tryz.prog 47 #[S l] w fun e w' => e = .returned (S (hexW l)) ∧ Below w.heap.size w w' :=
  hex_str ⟨l.toArray⟩ (by show l.toArray.size ≤ _; simpa using hs) w
theorem strs_new (w : World) (xs : List (List UInt8)) (t : TypeId) : StrsV (w.alloc (.cells (xs.map S).toArray t)) (.slice (some ⟨w.heap.size, 0, none⟩) xs.length xs.length) xs :=
  ⟨_, _, rfl, Nat.le_refl _, fun _ => ⟨w.heap.size, 0, rfl, by simp, fun j x hx => by rw [World.cell?_alloc_new]; simp [hx]⟩⟩
/-- what a word's walk keeps: the parameter's cells, the table, what was there -/
def Kp (w : World) (c : Array Value) (w' : World) : Prop := w'.heap[w.heap.size]?.bind (fun o => match o with | .cells c _ _ => some c | _ => none) = some c ∧ Pow w' ∧ Below w.heap.size w w' ∧ w.heap.size + 1 ≤ w'.heap.size
theorem Kp.step {w w1 w2 : World} {c : Array Value} (h : Kp w c w1) (hb : Below w1.heap.size w1 w2) : Kp w c w2 := by
  obtain ⟨h1, h2, h3, h4⟩ := h
  refine ⟨?_, h2.below hb (Nat.le_refl _), h3.trans (hb.mono (by omega)), Nat.le_trans h4 hb.size⟩
  rw [hb.block _ (by omega)]; exact h1
theorem Kp.cell {w w1 : World} {c : Array Value} (h : Kp w c w1) (j : Nat) : w1.cell? ⟨w.heap.size, j, none⟩ = c[j]? := by
  have h1 := h.1
  unfold World.cell?
  cases hq : w1.heap[w.heap.size]? with
  | none => rw [hq] at h1; cases h1
  | some o =>
    rw [hq] at h1
    cases o with
    | cells c' t fr => simp only [Option.bind_some, Option.some.injEq] at h1; subst h1; rfl
    | _ => simp at h1
theorem Kp.init {w : World} (h : Pow w) (c : Array Value) (t : TypeId) : Kp w c (w.alloc (.cells c t)) :=
  ⟨by rw [heap_alloc_new]; rfl, h.below ((Below.refl _ _).alloc (Nat.le_refl _) _) (Nat.le_refl _), (Below.refl _ _).alloc (Nat.le_refl _) _, by simp⟩
theorem Kp.drew {w w1 : World} {c : Array Value} (h : Kp w c w1) : Kp w c w1.drew := h.step (Below.refl _ _).drew
theorem Kp.pow {w w1 : World} {c : Array Value} (h : Kp w c w1) : Pow w1 := h.2.1
theorem Kp.below {w w1 : World} {c : Array Value} (h : Kp w c w1) : Below w.heap.size w w1 := h.2.2.1
theorem Kp.five {w w1 : World} {a b c d e : Value} (h : Kp w #[a, b, c, d, e] w1) : w1.cell? ⟨w.heap.size, 0, none⟩ = some a ∧ w1.cell? ⟨w.heap.size, 1, none⟩ = some b ∧ w1.cell? ⟨w.heap.size, 2, none⟩ = some c ∧ w1.cell? ⟨w.heap.size, 3, none⟩ = some d ∧ w1.cell? ⟨w.heap.size, 4, none⟩ = some e ∧ Kp w #[a, b, c, d, e] w1 :=
  ⟨h.cell 0, h.cell 1, h.cell 2, h.cell 3, h.cell 4, h⟩
def msgW (p t c : Nat) (id body : List UInt8) : List UInt8 := Lib.join [Lib.decDigits p, Lib.decDigits t, Lib.decDigits c, hexW id, hexW body] [46]
set_option maxHeartbeats 4000000
theorem msgWord (p t c : Nat) (id body : List UInt8) (bv : Value) (w : World) (hp : p < 256) (ht : t < 4294967296) (hc : c < 4294967296) (hid : id.length ≤ 100000000) (hbody : body.length ≤ 100000000)
    (htab : Pow w) (hb : BytesV w bv body) (hlen : (msgW p t c id body).length ≤ 140737488355328) :
    Calls Tryz.prog 49 #[.agg #[.int .u8 p, .int .u32 t, .int .u32 c, S id, bv]] w fun e w' => e = .returned (S (msgW p t c id body)) ∧ Below w.heap.size w w' := by
  have k0 := (Kp.init htab #[.int .u8 p, .int .u32 t, .int .u32 c, S id, bv] 25).drew
  go_enter Tryz.func49, Tryz.ntmps49
  go_wp2_with fail
  go_region_held3 (fun w' => w'.cell? ⟨w.heap.size, 0, none⟩ = some (.int .u8 p) ∧ w'.cell? ⟨w.heap.size, 1, none⟩ = some (.int .u32 t) ∧ w'.cell? ⟨w.heap.size, 2, none⟩ = some (.int .u32 c) ∧ w'.cell? ⟨w.heap.size, 3, none⟩ = some (S id) ∧ w'.cell? ⟨w.heap.size, 4, none⟩ = some bv ∧ Kp w #[.int .u8 p, .int .u32 t, .int .u32 c, S id, bv] w')
    (first
      | exact Kp.five k0
      | exact Kp.five (Kp.step (by assumption : _ ∧ _ ∧ _ ∧ _ ∧ _ ∧ Kp _ _ _).2.2.2.2.2 (by assumption))
      | exact Kp.five (Kp.step (by assumption : _ ∧ _ ∧ _ ∧ _ ∧ _ ∧ Kp _ _ _).2.2.2.2.2 ((Below.refl _ _).alloc (Nat.le_refl _) _)))
    (first
      | (go_at_call 63; refine (num_u8 p hp _ (Kp.pow (by assumption : _ ∧ _ ∧ _ ∧ _ ∧ _ ∧ Kp _ _ _).2.2.2.2.2)).mono ?_; rintro e w' ⟨rfl, hb1⟩)
      | (go_at_call 41; refine (num_u32 _ (by assumption) _ (Kp.pow (by assumption : _ ∧ _ ∧ _ ∧ _ ∧ _ ∧ Kp _ _ _).2.2.2.2.2)).mono ?_; rintro e w' ⟨rfl, hb1⟩)
      | (go_at_call 47; refine (hex_strL id hid _).mono ?_; rintro e w' ⟨rfl, hb1⟩)
      | (go_at_call 79; refine (hex_bytes bv body _ (hb.below (Kp.below (by assumption : _ ∧ _ ∧ _ ∧ _ ∧ _ ∧ Kp _ _ _).2.2.2.2.2) (Nat.le_refl _)) hbody).mono ?_; rintro e w' ⟨rfl, hb1⟩)
      | (go_at_call 76; refine (points _ [Lib.decDigits p, Lib.decDigits t, Lib.decDigits c, hexW id, hexW body] _ (strs_new _ _ _) (by simp) hlen).mono ?_; rintro e w' ⟨rfl, hb1⟩))
  have hk := (by assumption : _ ∧ _ ∧ _ ∧ _ ∧ _ ∧ Kp _ _ _).2.2.2.2.2.below
  go_wp2
  go_ret
  exact ⟨rfl, hk⟩
end Go.Proofs.YtaojoifpekoecaaGreatDoor

