/-
  How long the words are at most (plain). Conditions: as each theorem says.
-/
import Derived.Test.YtaojoifpekoecaaGreatDoorT17
namespace Go.Proofs.YtaojoifpekoecaaGreatDoor
open Go.RowKit Go.Shelf
theorem joinTail_len (sep : List UInt8) (B : Nat) : ∀ (r : List (List UInt8)), (∀ x ∈ r, x.length ≤ B) → (Lib.joinTail sep r).length ≤ r.length * (B + sep.length)
  | [], _ => by simp [Lib.joinTail]
  | y :: r, h => by
    have e : Lib.joinTail sep (y :: r) = (sep ++ y) ++ Lib.joinTail sep r := rfl
    have h1 := h y (List.mem_cons_self ..)
    have h2 := joinTail_len sep B r (fun x hx => h x (List.mem_cons_of_mem _ hx))
    rw [e, List.length_append, List.length_append, List.length_cons, Nat.succ_mul]
    omega
theorem join_len (xs : List (List UInt8)) (sep : List UInt8) (B n : Nat) (hn : xs.length ≤ n) (h : ∀ x ∈ xs, x.length ≤ B) : (Lib.join xs sep).length ≤ n * (B + sep.length) := by
  refine Nat.le_trans ?_ (Nat.mul_le_mul_right _ hn)
  cases xs with
  | nil => simp [Lib.join_nil]
  | cons y r =>
    have h1 := h y (List.mem_cons_self ..)
    have h2 := joinTail_len sep B r (fun x hx => h x (List.mem_cons_of_mem _ hx))
    rw [Lib.join_cons, List.length_append, List.length_cons, Nat.succ_mul]
    omega
theorem hexL_len (l : List UInt8) : (hexL l).length = 2 * l.length := by
  induction l with
  | nil => rfl
  | cons a l ih => simp [hexL] at ih ⊢ <;> omega
theorem hexW_len (l : List UInt8) : (hexW l).length ≤ 2 * l.length + 1 := by
  unfold hexW
  split
  · simp
  · rw [hexL_len]; omega
theorem itoa_len (n : Int) (h : I64 n) : (Lib.itoa n).length ≤ 21 := by
  by_cases h0 : n < 0
  · rw [Lib.itoa, if_pos h0, List.length_cons]
    have := short_dec n.natAbs (by have := h.1; omega)
    omega
  · obtain ⟨u, rfl⟩ : ∃ u : Nat, n = u := ⟨n.toNat, by omega⟩
    rw [Lib.itoa_nonneg]
    have := short_dec u (by have := h.2; omega)
    omega
theorem ansW_len (b : Bool) : (ansW b).length ≤ 3 := by cases b <;> simp [ansW]
theorem listW_len (xs : List (List UInt8)) (B n : Nat) (hn : xs.length ≤ n) (h : ∀ x ∈ xs, x.length ≤ B) : (listW xs).length ≤ n * (B + 1) + 4 := by
  unfold listW
  split
  · simp
  · have := join_len xs [44] B n hn h
    simp only [List.length_cons, List.length_nil, Nat.zero_add] at this
    omega
theorem msgW_len (p t c : Nat) (id body : List UInt8) (hp : p < 256) (ht : t < 4294967296) (hc : c < 4294967296) (hi : id.length ≤ 8192) (hb : body.length ≤ 8192) : (msgW p t c id body).length ≤ 100000 := by
  have := join_len [Lib.decDigits p, Lib.decDigits t, Lib.decDigits c, hexW id, hexW body] [46] 16385 5 (by simp) (by
    have h1 := short_dec p (by omega); have h2 := short_dec t (by omega); have h3 := short_dec c (by omega); have h4 := hexW_len id; have h5 := hexW_len body
    intro x hx
    simp only [List.mem_cons, List.not_mem_nil, or_false] at hx
    rcases hx with rfl | rfl | rfl | rfl | rfl <;> omega)
  simp only [List.length_cons, List.length_nil] at this
  unfold msgW
  omega
theorem outW_len (k a b : Nat) (cond : List UInt8) (hk : k < 256) (ha : a < 18446744073709551616) (hb : b < 18446744073709551616) (hc : cond.length ≤ 8192) : (outW k a b cond).length ≤ 100000 := by
  have := join_len [Lib.decDigits k, Lib.decDigits a, Lib.decDigits b, hexW cond] [46] 16385 4 (by simp) (by
    have h1 := short_dec k (by omega); have h2 := short_dec a ha; have h3 := short_dec b hb; have h4 := hexW_len cond
    intro x hx
    simp only [List.mem_cons, List.not_mem_nil, or_false] at hx
    rcases hx with rfl | rfl | rfl | rfl <;> omega)
  simp only [List.length_cons, List.length_nil] at this
  unfold outW
  omega
theorem becW_len (who : Int) (link tag : List UInt8) (k a b : Nat) (cond : List UInt8) (hw : I64 who) (hl : link.length ≤ 8192) (ht : tag.length ≤ 8192) (hk : k < 256) (ha : a < 18446744073709551616) (hb : b < 18446744073709551616) (hc : cond.length ≤ 8192) : (becW who link tag k a b cond).length ≤ 1000000 := by
  have := join_len [Lib.itoa who, hexW link, hexW tag, outW k a b cond] [46] 100000 4 (by simp) (by
    have h1 := itoa_len who hw; have h2 := hexW_len link; have h3 := hexW_len tag; have h4 := outW_len k a b cond hk ha hb hc
    intro x hx
    simp only [List.mem_cons, List.not_mem_nil, or_false] at hx
    rcases hx with rfl | rfl | rfl | rfl <;> omega)
  simp only [List.length_cons, List.length_nil] at this
  unfold becW
  omega
theorem queW_len (name dead : List UInt8) (room limit : Int) (hn : name.length ≤ 8192) (hd : dead.length ≤ 8192) (hr : I64 room) (hl : I64 limit) : (queW name dead room limit).length ≤ 100000 := by
  have := join_len [hexW name, Lib.itoa room, Lib.itoa limit, hexW dead] [46] 16385 4 (by simp) (by
    have h1 := itoa_len room hr; have h2 := itoa_len limit hl; have h3 := hexW_len name; have h4 := hexW_len dead
    intro x hx
    simp only [List.mem_cons, List.not_mem_nil, or_false] at hx
    rcases hx with rfl | rfl | rfl | rfl <;> omega)
  simp only [List.length_cons, List.length_nil] at this
  unfold queW
  omega
def MsgE0 (w : World) (cs : List Value) (m : MsgD) : Prop := ∃ bv, cs = [.int .u8 m.p, .int .u32 m.t, .int .u32 m.c, S m.id, bv] ∧ BytesV w bv m.body ∧ m.p < 256 ∧ m.t < 4294967296 ∧ m.c < 4294967296 ∧ Lim m.id ∧ Lim m.body
def BecE0 (_ : World) (cs : List Value) (m : BecD) : Prop := cs = [.int .i64 m.who, S m.link, S m.tag, .int .u8 m.k, .int .u64 m.a, .int .u64 m.b, S m.cond] ∧ I64 m.who ∧ m.k < 256 ∧ m.a < 18446744073709551616 ∧ m.b < 18446744073709551616 ∧ Lim m.link ∧ Lim m.tag ∧ Lim m.cond
theorem MsgE0.st {w w' : World} {cs : List Value} {m : MsgD} (hb : Below w.heap.size w w') (h : MsgE0 w cs m) : MsgE0 w' cs m := by
  obtain ⟨bv, h1, h2, h3⟩ := h
  exact ⟨bv, h1, h2.below hb (Nat.le_refl _), h3⟩
theorem BecE0.st {w w' : World} {cs : List Value} {m : BecD} (_ : Below w.heap.size w w') (h : BecE0 w cs m) : BecE0 w' cs m := h
theorem QueE0.st {w w' : World} {cs : List Value} {m : QueD} (_ : Below w.heap.size w w') (h : QueE0 w cs m) : QueE0 w' cs m := h
theorem SliceV.imp {α : Type} {n : Nat} {E0 E1 : World → List Value → α → Prop} {w : World} {v : Value} {xs : List α} (h : SliceV n E0 w v xs) (hi : ∀ cs, ∀ x ∈ xs, E0 w cs x → E1 w cs x) : SliceV n E1 w v xs := by
  obtain ⟨a, c, hv, h⟩ := h
  refine ⟨a, c, hv, fun h0 => ?_⟩
  obtain ⟨b, o, ha, hlt, hel⟩ := h h0
  refine ⟨b, o, ha, hlt, fun j x hx => ?_⟩
  obtain ⟨cs, h1, h2, h3, h4⟩ := hel j x hx
  exact ⟨cs, h1, h2, h3, hi cs x (List.mem_of_getElem? hx) h4⟩
theorem msgE_of {w : World} {cs : List Value} {m : MsgD} (h : MsgE0 w cs m) (hi : m.id.length ≤ 8192) (hb : m.body.length ≤ 8192) : MsgE w cs m := by
  obtain ⟨bv, h1, h2, h3, h4, h5, _, _⟩ := h
  exact ⟨bv, h1, h2, h3, h4, h5, Nat.le_trans hi (by decide), Nat.le_trans hb (by decide), Nat.le_trans (msgW_len _ _ _ _ _ h3 h4 h5 hi hb) (by decide)⟩
theorem becE_of {w : World} {cs : List Value} {m : BecD} (h : BecE0 w cs m) (hl : m.link.length ≤ 8192) (ht : m.tag.length ≤ 8192) (hc : m.cond.length ≤ 8192) : BecE w cs m := by
  obtain ⟨h1, h2, h3, h4, h5, _, _, _⟩ := h
  exact ⟨h1, h2, Nat.le_trans hl (by decide), Nat.le_trans ht (by decide), h3, h4, h5, Nat.le_trans hc (by decide), Nat.le_trans (outW_len _ _ _ _ h3 h4 h5 hc) (by decide), Nat.le_trans (becW_len _ _ _ _ _ _ _ h2 hl ht h3 h4 h5 hc) (by decide)⟩
theorem queE_of {w : World} {cs : List Value} {m : QueD} (h : QueE0 w cs m) (hn : m.name.length ≤ 8192) (hd : m.dead.length ≤ 8192) : QueE w cs m := by
  obtain ⟨h1, h2, h3, _, _⟩ := h
  exact ⟨h1, Nat.le_trans hn (by decide), Nat.le_trans hd (by decide), h2, h3, Nat.le_trans (queW_len _ _ _ _ hn hd h2 h3) (by decide)⟩
theorem tellW_len (err a b : Int) (is : Bool) (text : List UInt8) (ms : List MsgD) (bs : List BecD) (he : I64 err) (ha : I64 a) (hb : I64 b) (ht : text.length ≤ 8192) (hml : ms.length ≤ 100) (hbl : bs.length ≤ 100) (hm : ∀ m ∈ ms, m.w.length ≤ 100000) (hbe : ∀ m ∈ bs, m.w.length ≤ 1000000) : (tellW err a b is text ms bs).length ≤ 140737488355328 := by
  have := join_len [Lib.itoa err, ansW is, hexW text, Lib.itoa a, Lib.itoa b, listW (ms.map MsgD.w), listW (bs.map BecD.w)] [32] 200000000 7 (by simp) (by
    have h1 := itoa_len err he; have h2 := ansW_len is; have h3 := hexW_len text; have h4 := itoa_len a ha; have h5 := itoa_len b hb
    have h6 := listW_len (ms.map MsgD.w) 100000 100 (by simpa using hml) (by simpa using hm)
    have h7 := listW_len (bs.map BecD.w) 1000000 100 (by simpa using hbl) (by simpa using hbe)
    intro x hx
    simp only [List.mem_cons, List.not_mem_nil, or_false] at hx
    rcases hx with rfl | rfl | rfl | rfl | rfl | rfl | rfl <;> omega)
  simp only [List.length_cons, List.length_nil] at this
  unfold tellW
  omega
theorem headW_len (cl : Int) (mf wi id : Nat) (qs : List QueD) (hc : I64 cl) (h1 : mf < 4294967296) (h2 : wi < 4294967296) (h3 : id < 4294967296) (hl : qs.length ≤ 100) (hq : ∀ q ∈ qs, q.w.length ≤ 100000) : (headW cl mf wi id qs).length ≤ 140737488355328 := by
  have := join_len [[110, 101, 116], Lib.itoa cl, Lib.decDigits mf, Lib.decDigits wi, Lib.decDigits id, listW (qs.map QueD.w)] [32] 200000000 6 (by simp) (by
    have h4 := itoa_len cl hc; have h5 := short_dec mf (by omega); have h6 := short_dec wi (by omega); have h7 := short_dec id (by omega)
    have h8 := listW_len (qs.map QueD.w) 100000 100 (by simpa using hl) (by simpa using hq)
    intro x hx
    simp only [List.mem_cons, List.not_mem_nil, or_false] at hx
    rcases hx with rfl | rfl | rfl | rfl | rfl | rfl
    · simp
    all_goals omega)
  simp only [List.length_cons, List.length_nil] at this
  unfold headW
  omega
end Go.Proofs.YtaojoifpekoecaaGreatDoor

