/-
  Regions whose order is drawn; the evaluator is sound; its answer as a call of the kit's; entries. No condition.
-/
import Derived.Test.YtaojoifpekoecaaGreatDoorEvC
import Derived.Orders
namespace Go.Ev

theorem eqL_eq {d : Nat} (h : ∀ a b, AV.eq d a b = true → a = b) : ∀ x y, AV.eqL d x y = true → x = y
  | [], [], _ => rfl
  | [], _ :: _, g => by simp [AV.eqL] at g
  | _ :: _, [], g => by simp [AV.eqL] at g
  | a :: x, b :: y, g => by
    simp only [AV.eqL, Bool.and_eq_true] at g
    rw [h a b g.1, eqL_eq h x y g.2]

theorem capEq_eq {a b : Cap} (h : capEq a b = true) : a = b := by
  cases a <;> cases b <;> simp [capEq] at h <;> rw [h]

/-- abstract values that are found equal are equal -/
theorem AVeq_eq : ∀ (d : Nat) (a b : AV), AV.eq d a b = true → a = b
  | 0, a, b, h => by simp [AV.eq] at h
  | d + 1, a, b, h => by
    have hL := eqL_eq (AVeq_eq d)
    cases a <;> cases b <;> first
      | (simp [AV.eq] at h; done)
      | rfl
      | (simp only [AV.eq, Bool.and_eq_true, Nat.beq_eq, beq_iff_eq, strEq_iff, decide_eq_true_eq] at h
         first
          | (obtain ⟨h1, h2⟩ := h; first | (rw [h1, h2]; done) | (rw [h1, AVeq_eq d _ _ h2]; done) | (obtain ⟨h1, h3⟩ := h1; first | (rw [h1, h2, h3]; done) | (rw [h1, hL _ _ h3, hL _ _ h2]; done) | (obtain ⟨h1, h4⟩ := h1; rw [h1, h3, h4, capEq_eq h2])))
          | rw [h]
          | rw [hL _ _ h])

theorem stEq_eq {a b : St} (h : stEq a b = true) : a = b := by
  cases a <;> cases b <;> simp [stEq] at h <;> rfl

theorem eqPairs_eq : ∀ x y, eqPairs x y = true → x = y
  | [], [], _ => rfl
  | [], _ :: _, g => by simp [eqPairs] at g
  | _ :: _, [], g => by simp [eqPairs] at g
  | (a, a') :: x, (b, b') :: y, g => by
    simp only [eqPairs, Bool.and_eq_true] at g
    rw [AVeq_eq _ _ _ g.1.1, AVeq_eq _ _ _ g.1.2, eqPairs_eq x y g.2]

theorem eqInt_eq {k : IntKind} {x : Int} {b : AV} (h : eqInt k x b = true) : AV.int k x = b := by
  cases b <;> try (cases h; done)
  rename_i j y
  have h' : (Bool.rec (motive := fun _ => Bool) false (ieq x y) (kEq k j) : Bool) = true := h
  cases hk : kEq k j with
  | false => rw [hk] at h'; cases h'
  | true =>
    rw [hk] at h'
    have h2 : ieq x y = true := h'
    rw [kEq_iff] at hk
    rw [ieq_eq] at h2
    rw [of_decide_eq_true hk, eq_of_beq h2]
theorem eqV_eq {a b : AV} (h : eqV a b = true) : a = b := by
  cases a with
  | unk => cases h
  | int k x => exact eqInt_eq h
  | _ => exact AVeq_eq eqD _ _ h
theorem eqVL_eq : ∀ {x y : List AV}, eqVL x y = true → x = y
  | [], [], _ => rfl
  | [], _ :: _, h => by cases h
  | _ :: _, [], h => by cases h
  | a :: x, b :: y, h => by
    have h' : (Bool.rec (motive := fun _ => Bool) false (eqVL x y) (eqV a b) : Bool) = true := h
    cases hk : eqV a b with
    | false => rw [hk] at h'; cases h'
    | true =>
      rw [hk] at h'
      rw [eqV_eq hk, eqVL_eq h']

theorem AOeq_eq {a b : AO} (h : AO.eq a b = true) : a = b := by
  cases a <;> cases b <;> simp only [AO.eq, Bool.and_eq_true, Nat.beq_eq] at h <;> try (cases h; done)
  · obtain ⟨⟨h1, h2⟩, h3⟩ := h
    rw [h1, stEq_eq h2, eqVL_eq h3]
  · rw [eqPairs_eq _ _ h]

variable [Prg]

/-- the value of an allocation names its block -/
theorem allocF_block {o : Op} {ρ : Operand → AV} {ob : AO} {mk : Nat → AV} (h : allocF o ρ = some (ob, mk)) (A : Nat) : blockOf (mk A) = some A := by
  unfold allocF at h
  repeat' split at h
  all_goals first
    | (cases h; rfl)
    | (cases h; done)
    | (simp only [Option.map_eq_some_iff] at h; obtain ⟨_, _, h⟩ := h; cases h; rfl)

/-- what a small operation does to the evaluator's world -/
theorem small_cases {S : EvS} {o : Oper} (hs : smallB o = true) {ρ : Operand → AV} {W W' : AW} {v : AV} (h : opF S o.op ρ W = some (v, W')) :
    (isAllocB o.op = true ∧ ∃ ob mk, allocF o.op ρ = some (ob, mk) ∧ v = mk W.n ∧ W' = W.new ob) ∨ (isAllocB o.op = false ∧ W' = W) := by
  have gen : (if isAllocB o.op then match allocF o.op ρ with
        | some (ob, mk) => some (mk W.n, W.new ob)
        | none => none
      else match valF o.op ρ W with
        | some v => some (v, W)
        | none => none) = some (v, W') → (isAllocB o.op = true ∧ ∃ ob mk, allocF o.op ρ = some (ob, mk) ∧ v = mk W.n ∧ W' = W.new ob) ∨ (isAllocB o.op = false ∧ W' = W) := by
    intro h
    split at h
    · rename_i ha
      split at h
      · rename_i ob mk hm
        cases h
        exact .inl ⟨ha, ob, mk, hm, rfl, rfl⟩
      · cases h
    · rename_i ha
      split at h
      · cases h
        exact .inr ⟨by simpa using ha, rfl⟩
      · cases h
  unfold smallB at hs
  cases ho : o.op with
  | store t a x => rw [ho] at hs; simp [isValB, isAllocB] at hs
  | insert t m k x => rw [ho] at hs; simp [isValB, isAllocB] at hs
  | mapUpdate t m k x => rw [ho] at hs; simp [isValB, isAllocB] at hs
  | call c =>
    rw [ho] at hs h
    obtain ⟨cc, ca, ct⟩ := c
    cases cc with
    | builtin b =>
      have hb : isBuiltinV b = true := by simpa [isValB, isAllocB] using hs
      rw [opF_def] at h; simp only [opO, hb, if_true] at h
      split at h
      · cases h
        exact .inr ⟨rfl, rfl⟩
      · cases h
    | _ => simp [isValB, isAllocB] at hs
  | convert src dst x =>
    rw [← ho]
    have h0 := h
    rw [ho] at hs h
    rw [opF_def] at h; simp only [opO] at h
    split at h
    · rename_i e0 e h1 h2
      simp [isValB, isAllocB, h1, h2] at hs
    · exact gen (by rw [ho]; exact h)
  | _ => rw [← ho]; exact gen (by rw [ho, opF_def] at h; rw [ho]; exact h)

end Go.Ev

namespace Go.Ev

/-- i stands before j in the region -/
def Bef (ops : Array Oper) (j i : Nat) : Prop := ((Region.before ops).getD j 0).testBit i = true

/-- the fold over an operation's edges -/
def befOf (acc : Array Nat) (o : Oper) : Nat := o.after.foldl (fun s e => if Region.binds .any e then s ||| 2 ^ e.on ||| acc.getD e.on 0 else s) 0

theorem before_eq (ops : Array Oper) : Region.before ops = ops.toList.foldl (fun acc o => acc.push (befOf acc o)) #[] := by
  unfold Region.before befOf
  rw [← Array.foldl_toList]

theorem befFold_size (l : List Oper) (acc : Array Nat) : (l.foldl (fun acc o => acc.push (befOf acc o)) acc).size = acc.size + l.length := by
  induction l generalizing acc with
  | nil => rfl
  | cons o l ih => rw [List.foldl_cons, ih]; simp; omega

theorem befFold_old (l : List Oper) (acc : Array Nat) (j : Nat) (hj : j < acc.size) : (l.foldl (fun acc o => acc.push (befOf acc o)) acc)[j]? = acc[j]? := by
  induction l generalizing acc with
  | nil => rfl
  | cons o l ih =>
    rw [List.foldl_cons, ih _ (by simp; omega), Array.getElem?_push, if_neg (by omega)]

theorem befFold_get (l : List Oper) (acc : Array Nat) (k : Nat) (o : Oper) (hk : l[k]? = some o) :
    ∃ acc' : Array Nat, acc'.size = acc.size + k ∧ (∀ j, j < acc'.size → acc'[j]? = (l.foldl (fun acc o => acc.push (befOf acc o)) acc)[j]?) ∧ (l.foldl (fun acc o => acc.push (befOf acc o)) acc)[acc.size + k]? = some (befOf acc' o) := by
  induction l generalizing acc k with
  | nil => simp at hk
  | cons p l ih =>
    cases k with
    | zero =>
      simp at hk
      subst hk
      refine ⟨acc, rfl, fun j hj => ?_, ?_⟩
      · rw [befFold_old _ _ _ hj]
      · rw [List.foldl_cons, befFold_old _ _ _ (by simp)]; simp
    | succ k =>
      obtain ⟨acc', h1, h2, h3⟩ := ih (acc.push (befOf acc p)) k (by simpa using hk)
      refine ⟨acc', ?_, ?_, ?_⟩
      · rw [h1]; simp; omega
      · intro j hj; rw [List.foldl_cons]; exact h2 j hj
      · rw [List.foldl_cons, ← h3]; congr 1; simp; omega

theorem fold_bit (acc : Array Nat) (i : Nat) : ∀ (l : List Edge) (s : Nat), (l.foldl (fun s e => if Region.binds .any e then s ||| 2 ^ e.on ||| acc.getD e.on 0 else s) s).testBit i = true →
    s.testBit i = true ∨ ∃ e ∈ l, Region.binds .any e = true ∧ (e.on = i ∨ (acc.getD e.on 0).testBit i = true)
  | [], s, h => .inl h
  | e :: l, s, h => by
    rw [List.foldl_cons] at h
    rcases fold_bit acc i l _ h with h | ⟨e', h1, h2⟩
    · split at h
      · rename_i hb
        simp only [Nat.testBit_or, Bool.or_eq_true] at h
        rcases h with (h | h) | h
        · exact .inl h
        · refine .inr ⟨e, by simp, hb, .inl ?_⟩
          rw [Nat.testBit_two_pow] at h
          simpa using h
        · exact .inr ⟨e, by simp, hb, .inr h⟩
      · exact .inl h
    · exact .inr ⟨e', by simp [h1], h2⟩

theorem befOf_bit {acc : Array Nat} {o : Oper} {i : Nat} (h : (befOf acc o).testBit i = true) : ∃ e ∈ o.after, Region.binds .any e = true ∧ (e.on = i ∨ (acc.getD e.on 0).testBit i = true) := by
  unfold befOf at h
  rw [← Array.foldl_toList] at h
  rcases fold_bit acc i _ _ h with h | ⟨e, h1, h2⟩
  · simp at h
  · exact ⟨e, by simpa using h1, h2⟩

theorem Bef.edge {ops : Array Oper} {j i : Nat} (h : Bef ops j i) : ∃ o, ops[j]? = some o ∧ ∃ e ∈ o.after, Region.binds .any e = true ∧ (e.on = i ∨ (e.on < j ∧ Bef ops e.on i)) := by
  unfold Bef at h
  rw [before_eq] at h
  cases hj : ops[j]? with
  | none =>
    have hs := befFold_size ops.toList #[]
    have : ops.size ≤ j := Array.getElem?_eq_none_iff.1 hj
    rw [Array.getD_eq_getD_getElem?, Array.getElem?_eq_none (by rw [hs]; simpa using this)] at h
    simp at h
  | some o =>
    obtain ⟨acc, h1, h2, h3⟩ := befFold_get ops.toList #[] j o (by simpa using hj)
    simp only [List.size_toArray, List.length_nil, Nat.zero_add] at h1 h3
    rw [Array.getD_eq_getD_getElem?, h3] at h
    obtain ⟨e, g1, g2, g3⟩ := befOf_bit h
    refine ⟨o, rfl, e, g1, g2, g3.imp id fun g => ?_⟩
    have hlt : e.on < j := by
      rcases Nat.lt_or_ge e.on j with h' | h'
      · exact h'
      · rw [Array.getD_eq_getD_getElem?, Array.getElem?_eq_none (by omega)] at g; simp at g
    refine ⟨hlt, ?_⟩
    unfold Bef
    rw [before_eq, Array.getD_eq_getD_getElem?, ← h2 _ (by omega), ← Array.getD_eq_getD_getElem?]
    exact g

/-- a set of operations that keeps the edges keeps `before` -/
def Closed (ops : Array Oper) (L : Nat → Prop) : Prop := ∀ i o, L i → ops[i]? = some o → ∀ e ∈ o.after, Region.binds .any e = true → L e.on

theorem Closed.bef {ops : Array Oper} {L : Nat → Prop} (h : Closed ops L) : ∀ (j : Nat) {i : Nat}, (∀ o, ops[j]? = some o → ∀ e ∈ o.after, Region.binds .any e = true → L e.on) → Bef ops j i → L i := by
  intro j
  induction j using Nat.strongRecOn with
  | _ j ih =>
    intro i hj hb
    obtain ⟨o, ho, e, h1, h2, h3⟩ := hb.edge
    have hL := hj o ho e h1 h2
    rcases h3 with h3 | ⟨h3, h4⟩
    · rw [← h3]; exact hL
    · exact ih e.on h3 (fun o' ho' => h e.on o' hL ho') h4

theorem Closed.bef' {ops : Array Oper} {L : Nat → Prop} (h : Closed ops L) {j i : Nat} (hj : L j) (hb : Bef ops j i) : L i := h.bef j (fun o ho => h j o hj ho) hb

/-! ### the quick plan -/
theorem bitX_eq (m i : Nat) : bitX m i = m.testBit i := by
  unfold bitX
  rw [beq_dec]
  show decide ((m >>> i) % 2 = 1) = m.testBit i
  rw [Nat.testBit_eq_decide_div_mod_eq, Nat.shiftRight_eq_div_pow]

theorem mem_enumX : ∀ (l : List Oper) (k i : Nat) (o : Oper), (i, o) ∈ enumX l k ↔ ∃ j, i = k + j ∧ l[j]? = some o
  | [], k, i, o => by simp [enumX]
  | p :: l, k, i, o => by
    show (i, o) ∈ (k, p) :: enumX l (k + 1) ↔ _
    rw [List.mem_cons, mem_enumX l (k + 1) i o]
    constructor
    · rintro (h | ⟨j, h1, h2⟩)
      · cases h; exact ⟨0, rfl, rfl⟩
      · exact ⟨j + 1, by omega, by simpa using h2⟩
    · rintro ⟨j, h1, h2⟩
      cases j with
      | zero => simp at h2; subst h2; exact .inl (by rw [h1]; rfl)
      | succ j => exact .inr ⟨j, by omega, by simpa using h2⟩

theorem mem_enum {ops : Array Oper} {i : Nat} {o : Oper} : (i, o) ∈ enumX ops.toList 0 ↔ ops[i]? = some o := by
  rw [mem_enumX]
  constructor
  · rintro ⟨j, h1, h2⟩
    rw [Nat.zero_add] at h1; subst h1
    simpa using h2
  · intro h
    exact ⟨i, by simp, by simpa using h⟩

theorem maskOf_eq (t : T Nat) (acc : Array Nat) (h : ∀ j, maskAt t j = acc.getD j 0) : ∀ (l : List Edge) (s : Nat), maskOf t l s = l.foldl (fun s e => if Region.binds .any e then s ||| 2 ^ e.on ||| acc.getD e.on 0 else s) s
  | [], s => rfl
  | e :: l, s => by
    show maskOf t l _ = _
    rw [maskOf_eq t acc h l, List.foldl_cons, h]
    cases Region.binds .any e <;> rfl

theorem befGo_eq : ∀ (l : List Oper) (i : Nat) (t : T Nat) (acc : Array Nat), acc.size = i → (∀ j, maskAt t j = acc.getD j 0) → ∀ j, maskAt (befGo l i t) j = (l.foldl (fun acc o => acc.push (befOf acc o)) acc).getD j 0
  | [], i, t, acc, hi, h, j => h j
  | o :: l, i, t, acc, hi, h, j => by
    show maskAt (befGo l (i + 1) (T.ins (some (maskOf t o.after.toList 0)) (i + 1) t i)) j = _
    rw [List.foldl_cons]
    refine befGo_eq l (i + 1) _ _ (by simp [hi]) (fun j => ?_) j
    have hm : maskOf t o.after.toList 0 = befOf acc o := by
      rw [maskOf_eq t acc h]
      unfold befOf
      rw [← Array.foldl_toList]
    unfold maskAt
    rw [T.get_ins _ _ _ _ _ (lt_pow i), hm, Array.getD_eq_getD_getElem?, Array.getElem?_push]
    by_cases hj : j = i
    · subst hj
      rw [if_pos rfl, if_pos hi.symm]
      rfl
    · rw [if_neg hj, if_neg (by omega), ← Array.getD_eq_getD_getElem?]
      exact h j

theorem befT_get (ops : Array Oper) (j : Nat) : maskAt (befT ops) j = (Region.before ops).getD j 0 := by
  rw [before_eq]
  exact befGo_eq _ 0 _ _ rfl (fun j => rfl) j

theorem bef_bit {ops : Array Oper} {j i : Nat} (h : bitX (maskAt (befT ops) j) i = true) : Bef ops j i := by
  rw [bitX_eq, befT_get] at h
  exact h

variable [Prg]

def Sml (ops : Array Oper) (i : Nat) : Prop := ((ops[i]?).map smallB).getD false = true
def BigAt (p : List Stage) (g : Nat) : Option Nat := (p[g]?).bind (·.big)

theorem mem_bigL {ops : Array Oper} {i : Nat} : i ∈ bigL ops ↔ i < ops.size ∧ ¬ Sml ops i := by
  unfold bigL
  simp only [List.mem_map, List.mem_filter]
  constructor
  · rintro ⟨⟨i', o⟩, ⟨h1, h2⟩, rfl⟩
    rw [mem_enum] at h1
    refine ⟨(Array.getElem?_eq_some_iff.1 h1).1, fun hs => ?_⟩
    unfold Sml at hs
    simp only [h1, Option.map_some, Option.getD_some] at hs
    rw [notB_eq] at h2
    simp [isSmall, hs] at h2
  · rintro ⟨h1, h2⟩
    have h3 : ops[i]? = some ops[i] := by simp [h1]
    refine ⟨(i, ops[i]), ⟨mem_enum.2 h3, ?_⟩, rfl⟩
    rw [notB_eq]
    unfold Sml at h2
    rw [h3] at h2
    simpa [isSmall] using h2

theorem mem_smallL {ops : Array Oper} {s : Small} : s ∈ smallL ops ↔ ∃ o, ops[s.i]? = some o ∧ smallB o = true ∧ s = smallOf (befT ops) (bigL ops) (s.i, o) := by
  unfold smallL
  simp only [List.mem_map, List.mem_filter]
  constructor
  · rintro ⟨⟨i, o⟩, ⟨h1, h2⟩, rfl⟩
    exact ⟨o, mem_enum.1 h1, h2, rfl⟩
  · rintro ⟨o, h1, h2, h3⟩
    exact ⟨(s.i, o), ⟨mem_enum.2 h1, h2⟩, h3.symm⟩

omit [Prg] in
theorem stagesOf_get (sm : List Small) : ∀ (l : List Nat) (k g : Nat), (stagesOf sm l k)[g]? = (l[g]?).map fun b => stageOf sm (k + g) (some b)
  | [], k, g => by simp [stagesOf]
  | b :: l, k, 0 => rfl
  | b :: l, k, g + 1 => by
    show (stageOf sm k (some b) :: stagesOf sm l (k + 1))[g + 1]? = _
    rw [List.getElem?_cons_succ, stagesOf_get sm l (k + 1) g, List.getElem?_cons_succ]
    rw [show k + 1 + g = k + (g + 1) by omega]

omit [Prg] in
theorem stagesOf_len (sm : List Small) : ∀ (l : List Nat) (k : Nat), (stagesOf sm l k).length = l.length
  | [], k => rfl
  | b :: l, k => by
    show (stageOf sm k (some b) :: stagesOf sm l (k + 1)).length = _
    simp [stagesOf_len sm l (k + 1)]

theorem plan_len (ops : Array Oper) : (plan ops).length = (bigL ops).length + 1 := by
  unfold plan; simp [stagesOf_len]
theorem plan_0 (ops : Array Oper) : (plan ops)[0]? = some (stageOf (smallL ops) 0 none) := rfl
theorem plan_s (ops : Array Oper) (g : Nat) : (plan ops)[g + 1]? = ((bigL ops)[g]?).map fun b => stageOf (smallL ops) (g + 1) (some b) := by
  unfold plan
  rw [List.getElem?_cons_succ, stagesOf_get, Nat.add_comm 1 g]
theorem plan_get {ops : Array Oper} {g : Nat} {st : Stage} (h : (plan ops)[g]? = some st) : ∃ b, st = stageOf (smallL ops) g b ∧ ((g = 0 ∧ b = none) ∨ ∃ g' k, g = g' + 1 ∧ b = some k ∧ (bigL ops)[g']? = some k) := by
  cases g with
  | zero => rw [plan_0] at h; cases h; exact ⟨none, rfl, .inl ⟨rfl, rfl⟩⟩
  | succ g =>
    rw [plan_s] at h
    cases hb : (bigL ops)[g]? with
    | none => rw [hb] at h; cases h
    | some k => rw [hb] at h; cases h; exact ⟨some k, rfl, .inr ⟨g, k, rfl, rfl, hb⟩⟩
theorem bigAt_s (ops : Array Oper) (g : Nat) : BigAt (plan ops) (g + 1) = (bigL ops)[g]? := by
  unfold BigAt
  rw [plan_s]
  cases (bigL ops)[g]? <;> rfl
theorem bigAt_0 (ops : Array Oper) : BigAt (plan ops) 0 = none := rfl

omit [Prg] in
theorem chainX_get {b : T Nat} : ∀ {l : List Nat} {k0 : Nat}, chainX b l k0 = true → ∀ {g j k : Nat}, (k0 :: l)[g]? = some j → l[g]? = some k → bitX (maskAt b k) j = true
  | [], k0, _, g, j, k, _, h2 => by simp at h2
  | k1 :: l, k0, h, g, j, k, h1, h2 => by
    have h' : (bitX (maskAt b k1) k0 && chainX b l k1) = true := h
    rw [Bool.and_eq_true] at h'
    cases g with
    | zero => simp at h1 h2; subst h1; subst h2; exact h'.1
    | succ g => exact chainX_get h'.2 (g := g) (by simpa using h1) (by simpa using h2)
omit [Prg] in
theorem chain0_get {b : T Nat} {l : List Nat} (h : chain0 b l = true) {g j k : Nat} (h1 : l[g]? = some j) (h2 : l[g + 1]? = some k) : bitX (maskAt b k) j = true := by
  cases l with
  | nil => simp at h1
  | cons k0 l => exact chainX_get h h1 (by simpa using h2)

omit [Prg] in
theorem writers_mem : ∀ {l : List (Nat × Oper)} {t wr : T Nat}, writers l t = some wr → (∀ d, (t.get d).isSome = true → (wr.get d).isSome = true) ∧ ∀ x ∈ l, ∃ d, x.2.dst = some d ∧ (wr.get d).isSome = true
  | [], t, wr, h => by cases h; exact ⟨fun _ h => h, by simp⟩
  | x :: l, t, wr, h => by
    have h' : (match x.2.dst with | some d => writers l (T.ins (some x.1) (d + 1) t d) | none => none) = some wr := h
    split at h'
    · rename_i d hd
      obtain ⟨h1, h2⟩ := writers_mem h'
      refine ⟨fun e he => h1 e ?_, fun y hy => ?_⟩
      · rw [T.get_ins _ _ _ _ _ (lt_pow d)]
        split
        · rfl
        · exact he
      · rcases List.mem_cons.1 hy with hy | hy
        · subst hy
          exact ⟨d, hd, h1 d (by rw [T.get_ins _ _ _ _ _ (lt_pow d), if_pos rfl]; rfl)⟩
        · exact h2 y hy
    · cases h'

/-! ### what planOk says -/
structure PlanR (ops : Array Oper) (p : List Stage) : Prop where
  mode : PP.follows .mixedOrders = true ∨ Region.departs ops = false
  back : ∀ i o, ops[i]? = some o → ∀ e ∈ o.after, Region.binds .any e = true → e.on < i
  first : ∃ st, p[0]? = some st ∧ st.big = none
  big : ∀ g, g + 1 < p.length → ∃ k, BigAt p (g + 1) = some k ∧ k < ops.size ∧ ¬ Sml ops k ∧ (g = 0 ∨ ∃ j, BigAt p g = some j ∧ Bef ops k j)
  bigs : ∀ i, i < ops.size → ¬ Sml ops i → ∃ g, g + 1 < p.length ∧ BigAt p (g + 1) = some i
  smalls : ∀ g st, p[g]? = some st → ∀ i ∈ st.smalls, i < ops.size ∧ Sml ops i ∧ (g = 0 ∨ ∃ j, BigAt p g = some j ∧ Bef ops i j)
  small : ∀ i, i < ops.size → Sml ops i → ∃ g st, p[g]? = some st ∧ i ∈ st.smalls ∧ ∀ g' st', g ≤ g' → p[g']? = some st' → i ∈ st'.chk ∨ ∃ k j, k ≤ g' ∧ BigAt p k = some j ∧ Bef ops j i
  own : ∀ i o, ops[i]? = some o → Sml ops i → ∃ d, o.dst = some d ∧ d ∉ slotsOf ops o ∧ ∀ j oj, ops[j]? = some oj → j ≠ i → oj.dst ≠ some d ∧ (d ∈ slotsOf ops oj → Bef ops j i)
  lo : ∀ (g g' : Nat) (st st' : Stage) (i : Nat), p[g]? = some st → p[g']? = some st' → i ∈ st.smalls → i ∈ st'.smalls → g = g'
  allocs : ∀ (g : Nat) (st : Stage) (i : Nat) (o : Oper), p[g]? = some st → ops[i]? = some o → isAllocB o.op = true → i ∈ st.chk → i ∈ st.allocs

omit [Prg] in
theorem mem_smalls {sm : List Small} {g i : Nat} {b : Option Nat} : i ∈ (stageOf sm g b).smalls ↔ ∃ s ∈ sm, s.lo = g ∧ s.i = i := by
  unfold stageOf
  simp only [List.mem_map, List.mem_filter, Nat.beq_eq]
  constructor
  · rintro ⟨s, ⟨h1, h2⟩, h3⟩; exact ⟨s, h1, h2, h3⟩
  · rintro ⟨s, h1, h2, h3⟩; exact ⟨s, ⟨h1, h2⟩, h3⟩

omit [Prg] in
theorem mem_chk {sm : List Small} {g i : Nat} {b : Option Nat} : i ∈ (stageOf sm g b).chk ↔ ∃ s ∈ sm, s.lo ≤ g ∧ g ≤ s.hi ∧ s.i = i := by
  unfold stageOf
  simp only [List.mem_map, List.mem_filter, Bool.and_eq_true, Nat.ble_eq]
  constructor
  · rintro ⟨s, ⟨h1, h2⟩, h3⟩; exact ⟨s, h1, h2.1, h2.2, h3⟩
  · rintro ⟨s, h1, h2, h3, h4⟩; exact ⟨s, ⟨h1, h2, h3⟩, h4⟩

theorem planOk_R {ops : Array Oper} (h : planOk ops = true) : PlanR ops (plan ops) := by
  unfold planOk at h
  simp only [Bool.and_eq_true] at h
  obtain ⟨⟨⟨⟨h0, h1⟩, h2⟩, h3⟩, h4⟩ := h
  split at h4
  rotate_left
  · cases h4
  rename_i wr hwr
  rw [List.all_eq_true] at h1 h3 h4
  have hsm : ∀ {i : Nat} {o : Oper}, ops[i]? = some o → (Sml ops i ↔ smallB o = true) := by
    intro i o ho; unfold Sml; rw [ho]; rfl
  -- of a small one
  have sml : ∀ {s : Small}, s ∈ smallL ops → s.i < ops.size ∧ Sml ops s.i := by
    intro s hs
    obtain ⟨o, a, b, _⟩ := mem_smallL.1 hs
    exact ⟨(Array.getElem?_eq_some_iff.1 a).1, (hsm a).2 b⟩
  refine ⟨?_, ?_, ⟨_, plan_0 ops, rfl⟩, ?_, ?_, ?_, ?_, ?_, ?_, ?_⟩
  · rcases Bool.or_eq_true_iff.1 h0 with h0 | h0
    · exact .inl h0
    · exact .inr (by simpa using h0)
  · intro i o ho e he hb
    have := h1 (i, o) (mem_enum.2 ho)
    unfold backX at this
    rw [List.all_eq_true] at this
    have := this e (by simpa using he)
    rw [notB_eq, hb] at this
    simpa [Nat.succ_le_iff] using this
  · intro g hg
    rw [plan_len] at hg
    have hgl : g < (bigL ops).length := by omega
    refine ⟨(bigL ops)[g], ?_, ?_⟩
    · rw [bigAt_s]; exact List.getElem?_eq_getElem hgl
    · obtain ⟨a, b⟩ := mem_bigL.1 (List.getElem_mem hgl)
      refine ⟨a, b, ?_⟩
      cases g with
      | zero => exact .inl rfl
      | succ g =>
        refine .inr ⟨(bigL ops)[g], ?_, ?_⟩
        · rw [bigAt_s]; exact List.getElem?_eq_getElem (by omega)
        · exact bef_bit (chain0_get h2 (List.getElem?_eq_getElem (by omega)) (List.getElem?_eq_getElem hgl))
  · intro i hi hs
    obtain ⟨g, hg, he⟩ := List.getElem_of_mem (mem_bigL.2 ⟨hi, hs⟩)
    exact ⟨g, by rw [plan_len]; omega, by rw [bigAt_s, List.getElem?_eq_getElem hg, he]⟩
  · intro g st hst i hi
    obtain ⟨b, rfl, _⟩ := plan_get hst
    obtain ⟨s, s1, s2, s3⟩ := mem_smalls.1 hi
    subst s3
    refine ⟨(sml s1).1, (sml s1).2, ?_⟩
    have := h3 s s1
    rw [Bool.and_eq_true] at this
    have hl := this.1
    unfold loOk at hl
    split at hl
    · rename_i hz; exact .inl (by omega)
    · rename_i g' hg'
      split at hl
      · rename_i k hk
        exact .inr ⟨k, by rw [← s2, hg', bigAt_s]; exact hk, bef_bit hl⟩
      · cases hl
  · intro i hi hs
    have ho : ops[i]? = some ops[i] := by simp [hi]
    have hin : smallOf (befT ops) (bigL ops) (i, ops[i]) ∈ smallL ops := mem_smallL.2 ⟨ops[i], ho, (hsm ho).1 hs, rfl⟩
    generalize hsd : smallOf (befT ops) (bigL ops) (i, ops[i]) = s at hin
    have hsi : s.i = i := by rw [← hsd]; rfl
    have hlo : s.lo ≤ (bigL ops).length := by rw [← hsd]; exact List.length_filter_le _ _
    obtain ⟨st, hst⟩ : ∃ st, (plan ops)[s.lo]? = some st := ⟨_, List.getElem?_eq_getElem (by rw [plan_len]; omega)⟩
    refine ⟨s.lo, st, hst, ?_, ?_⟩
    · obtain ⟨b, rfl, _⟩ := plan_get hst
      exact mem_smalls.2 ⟨s, hin, rfl, hsi⟩
    · intro g' st' hle hst'
      obtain ⟨b, rfl, _⟩ := plan_get hst'
      have hg' : g' < (plan ops).length := (List.getElem?_eq_some_iff.1 hst').1
      rw [plan_len] at hg'
      by_cases hh : g' ≤ s.hi
      · exact .inl (mem_chk.2 ⟨s, hin, hle, hh, hsi⟩)
      · have := h3 s hin
        rw [Bool.and_eq_true] at this
        have hl := this.2
        unfold hiOk at hl
        have hhl : s.hi < (bigL ops).length := by omega
        rw [List.getElem?_eq_getElem hhl] at hl
        simp only at hl
        exact .inr ⟨s.hi + 1, (bigL ops)[s.hi], by omega, by rw [bigAt_s]; exact List.getElem?_eq_getElem hhl, bef_bit (hsi ▸ hl)⟩
  · intro i o ho hs
    have hx : (i, o) ∈ enumX ops.toList 0 := mem_enum.2 ho
    obtain ⟨d, d1, d2⟩ := (writers_mem hwr).2 (i, o) (List.mem_filter.2 ⟨hx, (hsm ho).1 hs⟩)
    have own : ∀ j oj, ops[j]? = some oj → (∀ i', oj.dst = some d → wr.get d = some i' → i' = j) ∧ (d ∈ slotsOf ops oj → ∀ i', wr.get d = some i' → bitX (maskAt (befT ops) j) i' = true ∧ i' ≠ j) := by
      intro j oj hj
      have := h4 (j, oj) (mem_enum.2 hj)
      unfold ownX at this
      rw [Bool.and_eq_true, List.all_eq_true] at this
      refine ⟨fun i' e1 e2 => ?_, fun e1 i' e2 => ?_⟩
      · have := this.1
        simp only [e1, e2, Nat.beq_eq] at this
        exact this
      · have := this.2 d e1
        simp only [e2, Bool.and_eq_true, notB_eq] at this
        exact ⟨this.1, fun hq => by rw [hq] at this; simp at this⟩
    cases hw : wr.get d with
    | none => rw [hw] at d2; cases d2
    | some i' =>
      have hii : i' = i := (own i o ho).1 i' d1 hw
      subst hii
      refine ⟨d, d1, fun hm => ((own i' o ho).2 hm i' hw).2 rfl, fun j oj hj hne => ⟨fun hd => hne ((own j oj hj).1 i' hd hw).symm, fun hm => bef_bit ((own j oj hj).2 hm i' hw).1⟩⟩
  · intro g g' st st' i h1' h2' h3' h4'
    obtain ⟨b, rfl, _⟩ := plan_get h1'
    obtain ⟨b', rfl, _⟩ := plan_get h2'
    obtain ⟨s, s1, s2, s3⟩ := mem_smalls.1 h3'
    obtain ⟨s', r1, r2, r3⟩ := mem_smalls.1 h4'
    obtain ⟨o, a1, a2, a3⟩ := mem_smallL.1 s1
    obtain ⟨o', b1, b2, b3⟩ := mem_smallL.1 r1
    have hio : s.i = s'.i := s3.trans r3.symm
    rw [hio] at a1 a3
    rw [a1] at b1; cases b1
    exact s2.symm.trans ((congrArg Small.lo (a3.trans b3.symm)).trans r2)
  · intro g st i o h1' ho ha hi
    obtain ⟨b, rfl, _⟩ := plan_get h1'
    unfold stageOf at hi ⊢
    simp only [List.mem_map, List.mem_filter] at hi ⊢
    obtain ⟨s, ⟨s1, s2⟩, s3⟩ := hi
    refine ⟨s, ⟨⟨s1, s2⟩, ?_⟩, s3⟩
    obtain ⟨o', a1, a2, a3⟩ := mem_smallL.1 s1
    rw [s3, ho] at a1; cases a1
    rw [a3]; exact ha

end Go.Ev

namespace Go.Ev

/-! ### slots, one at a time -/
theorem setD_get (e : Env) (d : Tmp) (v : AV) (t : Nat) : (setD e (some d) v).s.get t = if t = d then (e.s.get t).map (fun _ => v) else e.s.get t := by
  show (T.upd v e.s d).get t = _
  rw [T.get_upd]
  by_cases h : t = d
  · subst h; rfl
  · rw [if_neg h, if_neg h]
theorem putS_get (s : Array Value) (d : Tmp) (v : Value) (t : Nat) : (putS s (some d) v)[t]? = if t = d then (s[t]?).map (fun _ => v) else s[t]? := by
  unfold putS
  rw [Array.getElem?_setIfInBounds]
  by_cases h : t = d
  · subst h
    rw [if_pos rfl, if_pos rfl]
    by_cases hl : t < s.size
    · simp [hl]
    · simp [hl]
  · rw [if_neg h, if_neg (Ne.symm h)]

theorem OR.mono {σ σ' : Sg} (m : Le σ σ') {a : Option AV} {b : Option Value} (h : OR (VR σ) a b) : OR (VR σ') a b := by
  cases h with
  | none => exact .none
  | some h => exact .some (h.mono m)
theorem OR.put {σ : Sg} {a : Option AV} {b : Option Value} (h : a.isSome = b.isSome) {v : AV} {v' : Value} (hv : VR σ v v') : OR (VR σ) (a.map fun _ => v) (b.map fun _ => v') := by
  cases a <;> cases b <;> simp at h
  · exact .none
  · exact .some hv

/-! ### a world in which the evaluator is ahead -/
theorem HR.ahead {σ : Sg} {W : AW} {w : World} (hr : HR σ W w) (ob : AO) : HR σ (W.new ob) w := by
  have key : ∀ A o e, (W.new ob).get A = some o → σ A = some e → W.get A = some o := by
    intro A o e h he
    have := hr.dom he
    rw [AW.get_new, if_neg (by omega)] at h
    exact h
  refine ⟨fun A o e h he => hr.obj A o e (key A o e h he) he, fun A B o p e f h1 h2 h3 h4 => hr.inj A B o p e f (key A o e h1 h3) (key B p f h2 h4) h3 h4, fun A hA => ?_⟩
  have hA' : W.n + 1 ≤ A := hA
  exact ⟨(hr.fresh A (by omega)).1, by rw [AW.get_new, if_neg (by omega)]; exact (hr.fresh A (by omega)).2⟩

theorem Ext.ahead {σ0 σ : Sg} {W0 W : AW} {w0 w : World} (h : Ext σ0 σ W0 W w0 w) (ob : AO) : Ext σ0 σ W0 (W.new ob) w0 w := by
  have hn := h.n
  refine ⟨h.mono, Nat.le_trans h.n (Nat.le_succ _), h.new, h.frame, fun A hA hw => ?_, h.size, h.os, h.tape, h.output⟩
  · obtain ⟨o, h1, h2⟩ := hw
    rw [AW.get_new, if_neg (by omega)] at h1
    exact h.wr A hA ⟨o, h1, h2⟩

/-- a block that the evaluator has laid is laid by the machine -/
theorem HR.adopt {σ : Sg} {W : AW} {w w' : World} (hr : HR σ W w) {A : Nat} {ob : AO} (hA : W.get A = some ob) (hσ : σ A = none) (cap : Nat) (hold : ∀ b, b < w.heap.size → w'.heap[b]? = w.heap[b]?)
    (ho : ObjR (σ.add A ⟨w.heap.size, 0, cap⟩) ob ⟨w.heap.size, 0, cap⟩ w') : HR (σ.add A ⟨w.heap.size, 0, cap⟩) W w' := by
  have hle := Le.add (σ := σ) (A := A) ⟨w.heap.size, 0, cap⟩ hσ
  have hlt := hr.live hA
  refine ⟨?_, ?_, ?_⟩
  · intro B p e hp he
    simp only [Sg.add] at he
    split at he
    · rename_i hB
      subst hB; cases he
      rw [hA] at hp; cases hp
      exact ho
    · have := hr.obj B p e hp he
      exact this.mono hle (hold _ this.lt)
  · intro B C p q e f hp hq he hf hb
    simp only [Sg.add] at he hf
    split at he <;> split at hf
    · rename_i x y; rw [x, y]
    · cases he
      have := (hr.obj C q f hq hf).lt
      simp at hb; omega
    · cases hf
      have := (hr.obj B p e hp he).lt
      simp at hb; omega
    · exact hr.inj B C p q e f hp hq he hf hb
  · intro B hB
    refine ⟨?_, (hr.fresh B hB).2⟩
    simp only [Sg.add]; rw [if_neg (by omega)]; exact (hr.fresh B hB).1

theorem Ext.adopt {σ0 σ : Sg} {W0 W : AW} {w0 w w' : World} (h : Ext σ0 σ W0 W w0 w) {A : Nat} (hσ : σ A = none) (hA : W0.n ≤ A) (cap : Nat) (hs : w'.heap.size = w.heap.size + 1) (hold : ∀ b, b < w.heap.size → w'.heap[b]? = w.heap[b]?)
    (h1 : w'.os = w.os) (h2 : w'.tape = w.tape) (h3 : w'.output = w.output) : Ext σ0 (σ.add A ⟨w.heap.size, 0, cap⟩) W0 W w0 w' := by
  have hsz := h.size
  refine ⟨h.mono.trans (Le.add _ hσ), h.n, fun B e h0 he => ?_, fun b hb hne => ?_, h.wr, by omega, h1.trans h.os, h2.trans h.tape, h3.trans h.output⟩
  · simp only [Sg.add] at he
    split at he
    · rename_i hB
      subst hB; cases he
      exact ⟨hA, .inl hsz⟩
    · exact h.new B e h0 he
  · rw [hold b (by omega)]; exact h.frame b hb hne

variable [Prg]

/-- the slots that an operation looks at, related -/
def Looks (σ : Sg) (ops : Array Oper) (o : Oper) (e : Env) (s : Array Value) : Prop := ∀ t ∈ slotsOf ops o, OR (VR σ) (e.s.get t) s[t]?

theorem Looks.operand {σ : Sg} (hG : Glob σ) {ops : Array Oper} {o : Oper} {e : Env} {s : Array Value} (h : Looks σ ops o e s) (x : Operand) (hx : x ∈ o.op.operands.toList) : VR σ (getO e x) (evalS s x) := by
  cases x with
  | tmp t =>
    have := h t (by unfold slotsOf; rw [List.mem_append]; exact .inl (List.mem_filterMap.2 ⟨_, hx, rfl⟩))
    simp only [getO, evalS, Array.getD_eq_getD_getElem?]
    generalize e.s.get t = a, s[t]? = b at this
    cases this with
    | none => exact .tup_LR .nil
    | some h => exact h
  | const v => exact cst_ok v
  | global g =>
    simp only [getO, evalS, glO]
    split
    · rename_i h
      have h : g < PP.globals.size := Nat.le_of_ble_eq_true h
      obtain ⟨c, hc⟩ := hG g h
      exact .ptr g 0 ⟨g, 0, c⟩ hc
    · exact .unk _
  | func f => exact .func f [] [] #[] #[] rfl rfl (by simp) (by simp)

omit [Prg] in
theorem Looks.wanted {σ : Sg} {ops : Array Oper} {o : Oper} {e : Env} {s : Array Value} (hs : Looks σ ops o e s) {b : Bool} (h : wantedA ops o e = some b) : Region.wanted o (yielded ops s) = b := by
  unfold wantedA at h
  unfold Region.wanted
  split at h
  · rename_i hg
    cases h
    simp [hg]
  · rename_i j want hg
    simp only [hg]
    unfold yielded
    split at h
    · rename_i hd
      cases h
      simp [hd]
    · rename_i d hd
      have hsd := hs d (by unfold slotsOf; rw [List.mem_append, hg]; exact .inr (by simp [hd]))
      simp only [hd, Option.bind_some]
      generalize hq : e.s.get d = a at h hsd
      generalize s[d]? = c at hsd ⊢
      cases hsd with
      | none => simp at h; subst h; simp
      | some hv =>
        rename_i x v
        cases hv <;> simp at h <;> try (subst h; simp)

variable [Facts]

/-- one operation of a region, at its turn, with the slots that it looks at related -/
theorem step1_okL {S : EvS} (hS : Sound S) (hRd : RoundOk S) {ops : Array Oper} {i : Nat} {o : Oper} (hO : ops[i]? = some o) {e e' : Env} {W W' : AW} (h : step1 S ops o e W = some (e', W')) (hg : Good W)
    {σ : Sg} {w : World} {s : Array Value} (hG : Glob σ) (hr : HR σ W w) (hs : Looks σ ops o e s) :
    ∃ σ' v v' w', (∀ b ds rest k cs, b.roundOf.isSome = e.rnd → KindOk b.kind cs → Steps PP (lone (FA b s ds (.inRegion ops (i :: rest) :: k)) cs w) (lone (FA b (putS s o.dst v') ds (.inRegion ops rest :: k)) cs w')) ∧
      VR σ' v v' ∧ e' = setD e o.dst v ∧ Post σ W w σ' W' w' := by
  unfold step1 at h
  split at h
  · rename_i hw
    have hw := hs.wanted hw
    split at h
    · cases h
    · rename_i hrec
      split at h
      · rename_i v W1 h1
        cases h
        obtain ⟨σ', v', w', k1, k2, k3⟩ := opF_ok hS hRd h1 hg hG hr (fun x hx => hs.operand hG x hx)
        refine ⟨σ', v, v', w', fun b ds rest k cs hb hk => ?_, k2, rfl, k3⟩
        have := k1 (FA b s ds (.inRegion ops (i :: rest) :: k)) cs ⟨rfl, ops, i, rest, k, rfl, hO, hw⟩ (FA_evalS _ _ _ _) hk (fun hround => by
          have hb2 : e.rnd = true := by rw [← hb]; exact hround
          rw [hb2] at hrec
          simpa using hrec)
        rw [FA_finish, hO] at this
        exact this
      · cases h
  · rename_i hw
    have hw := hs.wanted hw
    cases h
    refine ⟨σ, undefA, undef, w, fun b ds rest k cs hb hk => ?_, .tup_LR .nil, rfl, .refl hr⟩
    have := fa_unwanted (P := PP) (b := b) (s := s) (ds := ds) (k := k) (cs := cs) (w := w) (ops := ops) (i := i) (rest := rest) (by rw [hO]; simpa using hw)
    rw [hO] at this
    exact .one this
  · cases h

/-! ### the evaluator ahead of the machine by the operations of Q -/
structure Core (ops : Array Oper) (σ0 : Sg) (W0 : AW) (w0 : World) (e0 : Env) (Q : Nat → Prop) (e : Env) (W : AW) (σ : Sg) (s : Array Value) (w : World) : Prop where
  hr : HR σ W w
  ext : Ext σ0 σ W0 W w0 w
  orc : ∀ x ∈ W.orc, x ∈ W0.orc
  size : ∀ t : Nat, (e.s.get t).isSome = (s[t]?).isSome
  slot : ∀ t : Nat, (∃ i o, Q i ∧ ops[i]? = some o ∧ o.dst = some t) ∨ OR (VR σ) (e.s.get t) s[t]?
  blk : ∀ i o d v A, Q i → ops[i]? = some o → o.dst = some d → isAllocB o.op = true → e.s.get d = some v → blockOf v = some A → σ A = none ∧ W0.n ≤ A ∧ A < W.n
  d : e.d = e0.d
  rnd : e.rnd = e0.rnd

variable {ops : Array Oper} {p : List Stage} {σ0 : Sg} {W0 : AW} {w0 : World} {e0 : Env} {Q : Nat → Prop}

omit [Facts] [Prg] in
theorem setD_d (e : Env) (d : Option Tmp) (v : AV) : (setD e d v).d = e.d := by cases d <;> rfl
omit [Facts] [Prg] in
theorem setD_rnd (e : Env) (d : Option Tmp) (v : AV) : (setD e d v).rnd = e.rnd := by cases d <;> rfl

omit [Facts] in
/-- the evaluator takes a small step more -/
theorem Core.small (hp : PlanR ops p) (hQ : ∀ i, Q i → Sml ops i) {e : Env} {W : AW} {σ : Sg} {s : Array Value} {w : World} (h : Core ops σ0 W0 w0 e0 Q e W σ s w) {S : EvS} {i : Nat} {o : Oper} (hO : ops[i]? = some o) (hi : Sml ops i) {e' : Env} {W' : AW}
    (h1 : step1 S ops o e W = some (e', W')) : Core ops σ0 W0 w0 e0 (fun j => Q j ∨ j = i) e' W' σ s w := by
  obtain ⟨d, hd, _, hown⟩ := hp.own i o hO hi
  have hsm : smallB o = true := by simpa [Sml, hO] using hi
  have hcases : ∃ v, e' = setD e o.dst v ∧ (isAllocB o.op = true → ∀ A, blockOf v = some A → σ A = none ∧ W0.n ≤ A ∧ A < W'.n) ∧ (W' = W ∨ ∃ ob, W' = W.new ob) := by
    unfold step1 at h1
    split at h1
    · split at h1
      · cases h1
      · split at h1
        · rename_i v W1 h2
          cases h1
          refine ⟨v, rfl, ?_⟩
          rcases small_cases hsm h2 with ⟨_, ob, mk, g1, g2, g3⟩ | ⟨g1, g2⟩
          · refine ⟨fun _ A hA => ?_, .inr ⟨ob, g3⟩⟩
            rw [g2, allocF_block g1] at hA
            cases hA
            exact ⟨(h.hr.fresh W.n (Nat.le_refl _)).1, h.ext.n, by rw [g3]; exact Nat.lt_succ_self _⟩
          · exact ⟨fun ha => by (rw [g1] at ha; cases ha), .inl g2⟩
        · cases h1
    · cases h1
      exact ⟨undefA, rfl, fun _ A hA => (by cases hA), .inl rfl⟩
    · cases h1
  obtain ⟨v, hv1, hv2, hv3⟩ := hcases
  have hget : ∀ t, e'.s.get t = if t = d then (e.s.get t).map (fun _ => v) else e.s.get t := fun t => by rw [hv1, hd, setD_get]
  have hne : ∀ j oj dj, Q j → j ≠ i → ops[j]? = some oj → oj.dst = some dj → dj ≠ d := by
    intro j oj dj hj hji hoj hdj heq
    obtain ⟨d', h1', _, h3'⟩ := hp.own j oj hoj (hQ j hj)
    rw [hdj] at h1'; cases h1'
    exact (h3' i o hO (Ne.symm hji)).1 (by rw [hd, heq])
  have hblk : ∀ j oj dj vj A, (Q j ∨ j = i) → ops[j]? = some oj → oj.dst = some dj → isAllocB oj.op = true → e'.s.get dj = some vj → blockOf vj = some A → σ A = none ∧ W0.n ≤ A ∧ A < W'.n := by
    intro j oj dj vj A hj hoj hdj ha hgt hb
    rw [hget] at hgt
    by_cases hji : j = i
    · subst hji
      rw [hO] at hoj; cases hoj
      rw [hd] at hdj; cases hdj
      rw [if_pos rfl] at hgt
      cases hq : e.s.get d with
      | none => rw [hq] at hgt; cases hgt
      | some _ => rw [hq] at hgt; cases hgt; exact hv2 ha A hb
    · have hj : Q j := hj.resolve_right hji
      rw [if_neg (hne j oj dj hj hji hoj hdj)] at hgt
      obtain ⟨a, b, c⟩ := h.blk j oj dj vj A hj hoj hdj ha hgt hb
      refine ⟨a, b, ?_⟩
      rcases hv3 with rfl | ⟨ob, rfl⟩
      · exact c
      · exact Nat.lt_succ_of_lt c
  have hslot : ∀ t : Nat, (∃ j oj, (Q j ∨ j = i) ∧ ops[j]? = some oj ∧ oj.dst = some t) ∨ OR (VR σ) (e'.s.get t) s[t]? := by
    intro t
    by_cases ht : t = d
    · subst ht; exact .inl ⟨i, o, .inr rfl, hO, hd⟩
    · rw [hget, if_neg ht]
      exact (h.slot t).imp (fun ⟨j, oj, a, b⟩ => ⟨j, oj, .inl a, b⟩) id
  have hsize : ∀ t : Nat, (e'.s.get t).isSome = (s[t]?).isSome := by
    intro t
    rw [hget, ← h.size t]
    split
    · simp
    · rfl
  have hdd : e'.d = e0.d := by rw [hv1, setD_d]; exact h.d
  have hrr : e'.rnd = e0.rnd := by rw [hv1, setD_rnd]; exact h.rnd
  rcases hv3 with rfl | ⟨ob, rfl⟩
  · exact ⟨h.hr, h.ext, h.orc, hsize, hslot, hblk, hdd, hrr⟩
  · exact ⟨h.hr.ahead ob, h.ext.ahead ob, h.orc, hsize, hslot, hblk, hdd, hrr⟩

omit [Facts] in
theorem Core.smalls (hp : PlanR ops p) {S : EvS} : ∀ {l : List Nat} {Q : Nat → Prop} {e : Env} {W : AW} {σ : Sg} {s : Array Value} {w : World}, (∀ i, Q i → Sml ops i) → Core ops σ0 W0 w0 e0 Q e W σ s w → (∀ i ∈ l, Sml ops i) → ∀ {e' : Env} {W' : AW},
    idxOps S ops l e W = some (e', W') → Core ops σ0 W0 w0 e0 (fun j => Q j ∨ j ∈ l) e' W' σ s w
  | [], Q, e, W, σ, s, w, hQ, h, hl, e', W', h1 => by
    cases h1
    have : (fun j => Q j ∨ j ∈ ([] : List Nat)) = Q := by funext j; simp
    rw [this]; exact h
  | i :: l, Q, e, W, σ, s, w, hQ, h, hl, e', W', h1 => by
    simp only [idxOps] at h1
    split at h1
    · rename_i o hO
      split at h1
      · rename_i e1 W1 h2
        have h3 := Core.small hp hQ h hO (hl i (by simp)) h2
        have h4 := Core.smalls hp (fun j hj => by rcases hj with hj | hj; exact hQ j hj; rw [hj]; exact hl i (by simp)) h3 (fun j hj => hl j (by simp [hj])) h1
        have : (fun j => Q j ∨ j ∈ i :: l) = (fun j => (Q j ∨ j = i) ∨ j ∈ l) := by funext j; simp [or_assoc]
        rw [this]; exact h4
      · cases h1
    · cases h1

/-- the machine and the evaluator take a great step -/
theorem Core.big (hp : PlanR ops p) (hQ : ∀ i, Q i → Sml ops i) {e : Env} {W : AW} {σ : Sg} {s : Array Value} {w : World} (h : Core ops σ0 W0 w0 e0 Q e W σ s w) (hG : Glob σ0) (hg : Good W0) {S : EvS} (hS : Sound S) (hRd : RoundOk S) {i : Nat} {o : Oper} (hO : ops[i]? = some o) (hi : ¬ Sml ops i)
    (hl : Looks σ ops o e s) {e' : Env} {W' : AW} (h1 : step1 S ops o e W = some (e', W')) (hr0 : HR σ0 W0 w0) :
    ∃ σ' s' w', (∀ b ds rest k cs, b.roundOf.isSome = e0.rnd → KindOk b.kind cs → Steps PP (lone (FA b s ds (.inRegion ops (i :: rest) :: k)) cs w) (lone (FA b s' ds (.inRegion ops rest :: k)) cs w')) ∧
      Core ops σ0 W0 w0 e0 Q e' W' σ' s' w' := by
  obtain ⟨σ', v, v', w', k1, k2, k3, k4⟩ := step1_okL hS hRd hO h1 (fun x hx => hg x (h.orc x hx)) (hG.mono h.ext.mono) h.hr hl
  rw [h.rnd] at k1
  have hnd : ∀ j oj dj, Q j → ops[j]? = some oj → oj.dst = some dj → o.dst ≠ some dj := by
    intro j oj dj hj hoj hdj
    obtain ⟨d', h1', _, h3'⟩ := hp.own j oj hoj (hQ j hj)
    rw [hdj] at h1'; cases h1'
    exact (h3' i o hO (fun heq => hi (heq ▸ hQ j hj))).1
  refine ⟨σ', putS s o.dst v', w', k1, k4.hr, h.ext.trans hr0 k4.ext, fun x hx => h.orc x (k4.orc x hx), ?_, ?_, ?_, ?_, ?_⟩
  · intro t
    rw [k3]
    cases hd : o.dst with
    | none => exact h.size t
    | some d =>
      rw [setD_get, putS_get]
      split
      · simpa using h.size t
      · exact h.size t
  · intro t
    rw [k3]
    have ht := h.slot t
    cases hd : o.dst with
    | none => exact ht.imp id (fun g => g.mono k4.ext.mono)
    | some d =>
      rw [setD_get, putS_get]
      split
      · exact .inr (OR.put (h.size t) k2)
      · exact ht.imp id (fun g => g.mono k4.ext.mono)
  · intro j oj dj vj A hj hoj hdj ha hgt hb
    rw [k3] at hgt
    have hgt' : e.s.get dj = some vj := by
      cases hd : o.dst with
      | none => rw [hd] at hgt; exact hgt
      | some d =>
        rw [hd, setD_get, if_neg (fun heq => hnd j oj dj hj hoj hdj (by rw [hd, heq]))] at hgt
        exact hgt
    obtain ⟨a, b, c⟩ := h.blk j oj dj vj A hj hoj hdj ha hgt' hb
    refine ⟨?_, b, Nat.lt_of_lt_of_le c k4.ext.n⟩
    cases hq : σ' A with
    | none => rfl
    | some f =>
      have := (k4.ext.new A f a hq).1
      omega
  · rw [k3, setD_d]; exact h.d
  · rw [k3, setD_rnd]; exact h.rnd

omit [Facts] in
/-- the machine takes a small step that the evaluator has taken already -/
theorem Core.listed (hp : PlanR ops p) (hQ : ∀ i, Q i → Sml ops i) {e : Env} {W : AW} {σ : Sg} {s : Array Value} {w : World} (h : Core ops σ0 W0 w0 e0 Q e W σ s w) (hG : Glob σ0) {i : Nat} {o : Oper} (hO : ops[i]? = some o) (hi : Q i)
    (hl : Looks σ ops o e s) (hag : again ops i e W = true)
    (hdis : isAllocB o.op = true → ∀ j oj d dj v vj A B, Q j → j ≠ i → ops[j]? = some oj → isAllocB oj.op = true → o.dst = some d → oj.dst = some dj → e.s.get d = some v → e.s.get dj = some vj → blockOf v = some A → blockOf vj = some B → A ≠ B) :
    ∃ σ' s' w', (∀ b ds rest k cs, b.roundOf.isSome = e0.rnd → KindOk b.kind cs → Steps PP (lone (FA b s ds (.inRegion ops (i :: rest) :: k)) cs w) (lone (FA b s' ds (.inRegion ops rest :: k)) cs w')) ∧
      Core ops σ0 W0 w0 e0 (fun j => Q j ∧ j ≠ i) e W σ' s' w' := by
  obtain ⟨d, hd, _, hown⟩ := hp.own i o hO (hQ i hi)
  unfold again at hag
  simp only [hO, hd] at hag
  cases hv : e.s.get d with
  | none => rw [hv] at hag; cases hag
  | some v =>
    simp only [hv] at hag
    -- what is left, whatever the operation was
    have key : ∀ (σ' : Sg) (v' : Value) (w' : World), Le σ σ' → HR σ' W w' → Ext σ0 σ' W0 W w0 w' → VR σ' v v' →
        (∀ j oj dj vj B, Q j → j ≠ i → ops[j]? = some oj → isAllocB oj.op = true → oj.dst = some dj → e.s.get dj = some vj → blockOf vj = some B → σ B = none → σ' B = none) →
        Core ops σ0 W0 w0 e0 (fun j => Q j ∧ j ≠ i) e W σ' (putS s (some d) v') w' := by
      intro σ' v' w' m h1 h2 h3 h4
      refine ⟨h1, h2, h.orc, ?_, ?_, ?_, h.d, h.rnd⟩
      · intro t
        rw [putS_get]
        split
        · simpa using h.size t
        · exact h.size t
      · intro t
        rw [putS_get]
        by_cases ht : t = d
        · subst ht
          rw [if_pos rfl]
          have hs := h.size t
          rw [hv] at hs ⊢
          generalize s[t]? = c at hs
          cases c with
          | none => cases hs
          | some c => exact .inr (.some h3)
        · rw [if_neg ht]
          rcases h.slot t with ⟨j, oj, a, b, c⟩ | g
          · refine .inl ⟨j, oj, ⟨a, fun hji => ?_⟩, b, c⟩
            subst hji
            rw [hO] at b; cases b
            rw [hd] at c; cases c
            exact ht rfl
          · exact .inr (g.mono m)
      · intro j oj dj vj A hj hoj hdj ha hgt hb
        obtain ⟨a, b, c⟩ := h.blk j oj dj vj A hj.1 hoj hdj ha hgt hb
        exact ⟨h4 j oj dj vj A hj.1 hj.2 hoj ha hdj hgt hb a, b, c⟩
    have hnd : smallB o = true := by have := hQ i hi; simpa [Sml, hO] using this
    have hndf : ∀ c, o.op ≠ .defer c := fun c hc => by simp [smallB, hc, isValB, isAllocB] at hnd
    have hrec : isRecover o.op = false := by
      cases hop : o.op with
      | call c =>
        obtain ⟨cc, ca, ct⟩ := c
        cases cc with
        | builtin b => cases b <;> first | rfl | (simp [smallB, hop, isValB, isAllocB, isBuiltinV] at hnd)
        | _ => rfl
      | _ => rfl
    have go : ∀ {v' : Value} {w' : World}, Region.wanted o (yielded ops s) = true → (execOp (evalS s) o).run PP w = .ok (.value v') w' →
        ∀ b ds rest k cs, b.roundOf.isSome = e0.rnd → KindOk b.kind cs → Steps PP (lone (FA b s ds (.inRegion ops (i :: rest) :: k)) cs w) (lone (FA b (putS s (some d) v') ds (.inRegion ops rest :: k)) cs w') := by
      intro v' w' hw hx b ds rest k cs hb hk
      have := opOk_of hndf (.inl hx) (FA b s ds (.inRegion ops (i :: rest) :: k)) cs ⟨rfl, ops, i, rest, k, rfl, hO, hw⟩ (FA_evalS _ _ _ _) hk (fun _ => hrec)
      rw [FA_finish, hO] at this
      simpa [hd] using this
    have hG' := hG.mono h.ext.mono
    split at hag
    · rename_i hw
      have hw := hl.wanted hw
      split at hag
      · rename_i ha
        split at hag
        · rename_i ob mk hm
          have hblk : ∃ A, blockOf v = some A ∧ mk A = v ∧ W.get A = some ob := by
            split at hag <;> first | (cases hag; done) | skip
            all_goals
              rename_i A _
              simp only [Bool.and_eq_true] at hag
              obtain ⟨g1, g2⟩ := hag
              refine ⟨_, rfl, AVeq_eq _ _ _ g1, ?_⟩
              split at g2
              · rename_i ob' hob
                rw [AOeq_eq g2]; exact hob
              · cases g2
          obtain ⟨A, hA1, hA2, hA3⟩ := hblk
          obtain ⟨n1, n2, n3⟩ := h.blk i o d v A hi hO hd ha hv hA1
          obtain ⟨v', w', q1, q2⟩ := alloc_ok (w := w) (fun x hx => hl.operand hG' x hx) hm
          obtain ⟨cap, hc⟩ := q2.cap
          have hle := Le.add (σ := σ) (A := A) (⟨w.heap.size, 0, cap⟩ : En) n1
          obtain ⟨c1, c2⟩ := hc A _ hle (by simp [Sg.add])
          rw [hA2] at c2
          refine ⟨_, putS s (some d) v', w', go hw q1, key _ v' w' hle (h.hr.adopt hA3 n1 cap q2.old c1) (h.ext.adopt n1 n2 cap q2.size q2.old q2.os q2.tape q2.output) c2 ?_⟩
          intro j oj dj vj B hj hji hoj haj hdj hgt hb hB
          have := hdis ha j oj d dj v vj A B hj hji hoj haj hd hdj hv hgt hA1 hb
          simp only [Sg.add]; rw [if_neg (Ne.symm this)]; exact hB
        · cases hag
      · split at hag
        · rename_i u hu
          have := AVeq_eq _ _ _ hag
          subst this
          obtain ⟨v', q1, q2⟩ := valF_ok h.hr (fun x hx => hl.operand hG' x hx) hu
          exact ⟨σ, putS s (some d) v', w, go hw q1, key σ v' w (Le.refl σ) h.hr h.ext q2 (fun _ _ _ _ _ _ _ _ _ _ _ _ hB => hB)⟩
        · cases hag
    · rename_i hw
      have hw := hl.wanted hw
      split at hag
      · refine ⟨σ, putS s (some d) undef, w, fun b ds rest k cs hb hk => ?_, key σ undef w (Le.refl σ) h.hr h.ext (.tup_LR .nil) (fun _ _ _ _ _ _ _ _ _ _ _ _ hB => hB)⟩
        have := fa_unwanted (P := PP) (b := b) (s := s) (ds := ds) (k := k) (cs := cs) (w := w) (ops := ops) (i := i) (rest := rest) (by rw [hO]; simpa using hw)
        rw [hO] at this
        simp only [Option.bind_some, hd] at this
        exact .one this
      · cases hag
    · cases hag

end Go.Ev

namespace Go.Ev
variable [Prg]

/-- listed -/
def Li (listed : Array Bool) (i : Nat) : Prop := listed.getD i false = true

/-- small, done by the evaluator, not by the machine -/
def Pend (ops : Array Oper) (p : List Stage) (L : Nat → Prop) (G : Nat) (i : Nat) : Prop := Sml ops i ∧ i < ops.size ∧ ¬ L i ∧ ∃ g st, g < G ∧ p[g]? = some st ∧ i ∈ st.smalls

variable {ops : Array Oper} {p : List Stage} {σ0 : Sg} {W0 : AW} {w0 : World} {e0 : Env}

theorem Core.congr {Q Q' : Nat → Prop} {e : Env} {W : AW} {σ : Sg} {s : Array Value} {w : World} (h : Core ops σ0 W0 w0 e0 Q e W σ s w) (hq : ∀ i, Q i ↔ Q' i) : Core ops σ0 W0 w0 e0 Q' e W σ s w := by
  have : Q = Q' := funext fun i => propext (hq i)
  rw [← this]; exact h

omit [Prg] in
theorem apart_ne {f : Nat → Option Nat} : ∀ {l : List Nat}, apartL (l.filterMap f) = true → ∀ {i j A B}, i ∈ l → j ∈ l → i ≠ j → f i = some A → f j = some B → A ≠ B
  | [], _, i, j, A, B, hi, _, _, _, _ => by cases hi
  | x :: l, h, i, j, A, B, hi, hj, hne, hA, hB => by
    cases hx : f x with
    | none =>
      rw [List.filterMap_cons_none hx] at h
      have hi' : i ∈ l := by rcases List.mem_cons.1 hi with e | h'; (rw [e, hx] at hA; cases hA); exact h'
      have hj' : j ∈ l := by rcases List.mem_cons.1 hj with e | h'; (rw [e, hx] at hB; cases hB); exact h'
      exact apart_ne h hi' hj' hne hA hB
    | some C =>
      rw [List.filterMap_cons_some hx] at h
      simp only [apartL, Bool.and_eq_true, List.all_eq_true, List.mem_filterMap] at h
      rcases List.mem_cons.1 hi with e | hi' <;> rcases List.mem_cons.1 hj with e' | hj'
      · exact absurd (e.trans e'.symm) hne
      · subst e
        rw [hA] at hx; cases hx
        intro heq
        have := h.1 B ⟨j, hj', hB⟩
        rw [heq] at this; simp at this
      · subst e'
        rw [hB] at hx; cases hx
        intro heq
        have := h.1 A ⟨i, hi', hA⟩
        rw [heq] at this; simp at this
      · exact apart_ne h.2 hi' hj' hne hA hB

structure Inv (S : EvS) (ops : Array Oper) (p : List Stage) (σ0 : Sg) (W0 : AW) (w0 : World) (e0 eN : Env) (WN : AW) (listed : Array Bool) (G : Nat) (e : Env) (W : AW) (σ : Sg) (s : Array Value) (w : World) : Prop where
  closed : Closed ops (Li listed)
  size : listed.size = ops.size
  one : 1 ≤ G
  le : G ≤ p.length
  bigs : ∀ k j, BigAt p k = some j → (Li listed j ↔ k < G)
  run : stages S ops (p.drop G) e W = some (eN, WN)
  chk : ∀ st, p[G - 1]? = some st → (st.chk.all fun i => again ops i e W) = true ∧ apartL (allocBlocks ops e st.allocs) = true
  core : Core ops σ0 W0 w0 e0 (Pend ops p (Li listed) G) e W σ s w

/-- a stage's small ones -/
theorem stage_smalls (hp : PlanR ops p) {S : EvS} {eN : Env} {WN : AW} {L : Nat → Prop} {G : Nat} {st : Stage} (hst : p[G]? = some st) {e1 : Env} {W1 : AW} {σ : Sg} {s : Array Value} {w : World}
    (hc : Core ops σ0 W0 w0 e0 (Pend ops p L G) e1 W1 σ s w) (hnl : ∀ i ∈ st.smalls, ¬ L i)
    (h : (match idxOps S ops st.smalls e1 W1 with
      | some (e2, w2) => if st.chk.all (fun i => again ops i e2 w2) && apartL (allocBlocks ops e2 st.allocs) then stages S ops (p.drop (G + 1)) e2 w2 else none
      | none => none) = some (eN, WN)) :
    ∃ e W, stages S ops (p.drop (G + 1)) e W = some (eN, WN) ∧ ((st.chk.all fun i => again ops i e W) = true ∧ apartL (allocBlocks ops e st.allocs) = true) ∧ Core ops σ0 W0 w0 e0 (Pend ops p L (G + 1)) e W σ s w := by
  split at h
  · rename_i e2 W2 h2
    split at h
    · rename_i hk
      rw [Bool.and_eq_true] at hk
      have hsm : ∀ i ∈ st.smalls, Sml ops i := fun i hi => (hp.smalls G st hst i hi).2.1
      refine ⟨e2, W2, h, hk, (Core.smalls hp (fun i hi => hi.1) hc hsm h2).congr fun i => ?_⟩
      constructor
      · rintro (⟨a, b, c, g, st', d, f⟩ | hi)
        · exact ⟨a, b, c, g, st', by omega, f⟩
        · exact ⟨hsm i hi, (hp.smalls G st hst i hi).1, hnl i hi, G, st, by omega, hst, hi⟩
      · rintro ⟨a, b, c, g, st', d, f, f'⟩
        by_cases hg : g = G
        · subst hg
          rw [hst] at f; cases f
          exact .inr f'
        · exact .inl ⟨a, b, c, g, st', by omega, f, f'⟩
    · cases h
  · cases h

theorem stages_cons {S : EvS} {G : Nat} {st : Stage} (hst : p[G]? = some st) (e : Env) (W : AW) : stages S ops (p.drop G) e W = (match idxOps S ops st.big.toList e W with
    | some (e1, w1) => match idxOps S ops st.smalls e1 w1 with
      | some (e2, w2) => if st.chk.all (fun i => again ops i e2 w2) && apartL (allocBlocks ops e2 st.allocs) then stages S ops (p.drop (G + 1)) e2 w2 else none
      | none => none
    | none => none) := by
  obtain ⟨hl, hg⟩ := List.getElem?_eq_some_iff.1 hst
  rw [List.drop_eq_getElem_cons hl, hg]
  rfl

omit [Prg] in
theorem Li.lt {listed : Array Bool} {i : Nat} (h : Li listed i) : i < listed.size := by
  unfold Li at h
  rcases Nat.lt_or_ge i listed.size with h' | h'
  · exact h'
  · rw [Array.getD_eq_getD_getElem?, Array.getElem?_eq_none h'] at h; cases h

omit [Prg] in
theorem Li.set {listed : Array Bool} {i j : Nat} (hi : i < listed.size) : Li (listed.setIfInBounds i true) j ↔ Li listed j ∨ j = i := by
  unfold Li
  rw [Array.getD_eq_getD_getElem?, Array.getD_eq_getD_getElem?, Array.getElem?_setIfInBounds]
  by_cases h : i = j
  · subst h; simp [hi]
  · rw [if_neg h]; simp [Ne.symm h]

omit [Prg] in
theorem not_Li {listed : Array Bool} {i : Nat} (h : listed.getD i true = false) : i < listed.size ∧ ¬ Li listed i := by
  unfold Li
  rcases Nat.lt_or_ge i listed.size with h' | h'
  · simp [h'] at h ⊢; exact h
  · rw [Array.getD_eq_getD_getElem?, Array.getElem?_eq_none h'] at h; cases h

def cnt (listed : Array Bool) : Nat := listed.toList.countP (fun b => !b)

omit [Prg] in
theorem cnt_set {listed : Array Bool} {i : Nat} (h : listed.getD i true = false) : cnt (listed.setIfInBounds i true) + 1 ≤ cnt listed := by
  obtain ⟨hl, _⟩ := not_Li h
  have h' : listed[i] = false := by simpa [hl] using h
  unfold cnt
  rw [Array.toList_setIfInBounds, List.countP_set (by simpa using hl)]
  have : 0 < listed.toList.countP (fun b => !b) := List.countP_pos_iff.2 ⟨false, by rw [← h']; simp, rfl⟩
  rw [if_pos (by simp [h']), if_neg (by simp)]
  omega

omit [Prg] in
theorem cnt_zero {listed : Array Bool} (h : cnt listed = 0) {i : Nat} (hi : i < listed.size) : Li listed i := by
  unfold cnt at h
  rw [List.countP_eq_zero] at h
  have := h listed[i] (by simp)
  unfold Li
  simpa [hi] using this

/-- while one is not listed, one is ready -/
theorem ready_some (hp : PlanR ops p) {listed : Array Bool} (hs : listed.size = ops.size) : ∀ (i : Nat), i < ops.size → ¬ Li listed i → Region.ready .any ops listed ≠ [] := by
  intro i
  induction i using Nat.strongRecOn with
  | _ i ih =>
    intro hi hn
    by_cases h : ∀ e ∈ (ops[i]).after, Region.binds .any e = true → Li listed e.on
    · have : i ∈ Region.ready .any ops listed := by
        rw [mem_ready]
        refine ⟨?_, ops[i], by simp [hi], fun e he hb => h e he hb⟩
        unfold Li at hn
        rw [Array.getD_eq_getD_getElem?] at hn ⊢
        have hi' : i < listed.size := by omega
        rw [Array.getElem?_eq_getElem hi'] at hn ⊢
        simpa using hn
      exact List.ne_nil_of_mem this
    · have : ∃ e ∈ (ops[i]).after, Region.binds .any e = true ∧ ¬ Li listed e.on := by
        apply Classical.byContradiction
        intro hc
        exact h fun e he hb => Classical.byContradiction fun hq => hc ⟨e, he, hb, hq⟩
      obtain ⟨e, he, hb, hq⟩ := this
      have hlt := hp.back i ops[i] (by simp [hi]) e he hb
      exact ih e.on hlt (by omega) hq

variable [Facts]

omit [Facts] in
theorem Inv.done (hp : PlanR ops p) {S : EvS} {eN : Env} {WN : AW} {listed : Array Bool} {G : Nat} {e : Env} {W : AW} {σ : Sg} {s : Array Value} {w : World}
    (h : Inv S ops p σ0 W0 w0 e0 eN WN listed G e W σ s w) (ha : ∀ i, i < ops.size → Li listed i) : SlotsR σ eN.s s ∧ eN.d = e0.d ∧ eN.rnd = e0.rnd ∧ Post σ0 W0 w0 σ WN w := by
  have hG : G = p.length := by
    rcases Nat.lt_or_ge G p.length with hl | hl
    · obtain ⟨k, k1, k2, _⟩ := hp.big (G - 1) (by have := h.one; omega)
      rw [Nat.sub_add_cancel h.one] at k1
      have := (h.bigs G k k1).1 (ha k k2)
      omega
    · exact Nat.le_antisymm h.le hl
  have hrun := h.run
  rw [hG, List.drop_length] at hrun
  cases hrun
  refine ⟨fun t => ?_, h.core.d, h.core.rnd, h.core.ext, h.core.hr, h.core.orc⟩
  rcases h.core.slot t with ⟨i, o, hi, _⟩ | g
  · exact absurd (ha i hi.2.1) hi.2.2.1
  · exact g

omit [Facts] in
omit [Prg] in
theorem go_nil {md : Region.Mode} {listed : Array Bool} (h : Region.ready md ops listed = []) (t : Nat) : ∀ fuel, Region.linearise.go md ops fuel t listed [] = []
  | 0 => rfl
  | fuel + 1 => by
    simp only [Region.linearise.go]
    change (match (Region.ready md ops listed)[t % (Region.ready md ops listed).length]? with
      | some i => Region.linearise.go md ops fuel (t / (Region.ready md ops listed).length) (listed.setIfInBounds i true) [i]
      | none => [].reverse) = []
    rw [h]
    rfl

omit [Facts] in
omit [Prg] in
theorem go_cons {md : Region.Mode} {listed : Array Bool} (h : Region.ready md ops listed ≠ []) (t fuel : Nat) : ∃ i t', i ∈ Region.ready md ops listed ∧
    Region.linearise.go md ops (fuel + 1) t listed [] = i :: Region.linearise.go md ops fuel t' (listed.setIfInBounds i true) [] := by
  simp only [Region.linearise.go]
  change ∃ i t', i ∈ Region.ready md ops listed ∧ (match (Region.ready md ops listed)[t % (Region.ready md ops listed).length]? with
      | some i => Region.linearise.go md ops fuel (t / (Region.ready md ops listed).length) (listed.setIfInBounds i true) [i]
      | none => [].reverse) = _
  have hlt : t % (Region.ready md ops listed).length < (Region.ready md ops listed).length := Nat.mod_lt _ (List.length_pos_iff.2 h)
  rw [List.getElem?_eq_getElem hlt]
  refine ⟨_, t / (Region.ready md ops listed).length, List.getElem_mem hlt, ?_⟩
  simp only []
  rw [linearise_go_acc, List.reverse_singleton, List.singleton_append]

theorem draw_go (hp : PlanR ops p) {S : EvS} (hS : Sound S) (hRd : RoundOk S) (hG : Glob σ0) (hg : Good W0) (hr0 : HR σ0 W0 w0) {eN : Env} {WN : AW} : ∀ (fuel t : Nat) (listed : Array Bool) (G : Nat) (e : Env) (W : AW) (σ : Sg) (s : Array Value) (w : World),
    Inv S ops p σ0 W0 w0 e0 eN WN listed G e W σ s w → cnt listed ≤ fuel →
    ∃ σ' s' w', (∀ b ds k cs, b.roundOf.isSome = e0.rnd → KindOk b.kind cs → Steps PP (lone (FA b s ds (.inRegion ops (Region.linearise.go .any ops fuel t listed []) :: k)) cs w) (lone (FA b s' ds (.inRegion ops [] :: k)) cs w')) ∧
      SlotsR σ' eN.s s' ∧ eN.d = e0.d ∧ eN.rnd = e0.rnd ∧ Post σ0 W0 w0 σ' WN w' := by
  intro fuel
  induction fuel with
  | zero =>
    intro t listed G e W σ s w h hc
    obtain ⟨h1, h2, h3, h4⟩ := h.done hp (fun i hi => cnt_zero (Nat.le_zero.1 hc) (by rw [h.size]; exact hi))
    exact ⟨σ, s, w, fun b ds k cs _ _ => .refl _ _, h1, h2, h3, h4⟩
  | succ fuel ih =>
    intro t listed G e W σ s w h hc
    by_cases hrd : Region.ready .any ops listed = []
    · have ha : ∀ i, i < ops.size → Li listed i := fun i hi => Classical.byContradiction fun hn => ready_some hp h.size i hi hn hrd
      obtain ⟨h1, h2, h3, h4⟩ := h.done hp ha
      rw [go_nil hrd]
      exact ⟨σ, s, w, fun b ds k cs _ _ => .refl _ _, h1, h2, h3, h4⟩
    · obtain ⟨i, t', hi, hgo⟩ := go_cons hrd t fuel
      obtain ⟨hu, o, hO, hed⟩ := mem_ready.1 hi
      obtain ⟨hil, hun⟩ := not_Li hu
      have hio : i < ops.size := by rw [← h.size]; exact hil
      have hcn : cnt (listed.setIfInBounds i true) ≤ fuel := by have := cnt_set hu; omega
      have hbef : ∀ j, Bef ops i j → Li listed j := fun j hb => h.closed.bef i (fun o' ho' e he hb => by rw [hO] at ho'; cases ho'; exact hed e he hb) hb
      have hset : ∀ j, Li (listed.setIfInBounds i true) j ↔ Li listed j ∨ j = i := fun j => Li.set hil
      have hcl : Closed ops (Li (listed.setIfInBounds i true)) := by
        intro j oj hj hoj e he hb
        rw [hset] at hj ⊢
        rcases hj with hj | hj
        · exact .inl (h.closed j oj hj hoj e he hb)
        · subst hj
          rw [hO] at hoj; cases hoj
          exact .inl (hed e he hb)
      have hsz : (listed.setIfInBounds i true).size = ops.size := by rw [Array.size_setIfInBounds]; exact h.size
      have hlk : Looks σ ops o e s := by
        intro x hx
        rcases h.core.slot x with ⟨j, oj, hj, hoj, hdj⟩ | g
        · exfalso
          obtain ⟨d, q1, q2, q3⟩ := hp.own j oj hoj hj.1
          rw [hdj] at q1; cases q1
          by_cases hji : i = j
          · subst hji
            rw [hO] at hoj; cases hoj
            exact q2 hx
          · exact hj.2.2.1 (hbef j ((q3 i o hO hji).2 hx))
        · exact g
      rw [hgo]
      by_cases hsm : Sml ops i
      · -- a small one
        obtain ⟨g, st, g1, g2, g3⟩ := hp.small i hio hsm
        have hgG : g < G := by
          rcases (hp.smalls g st g1 i g2).2.2 with h0 | ⟨j, j1, j2⟩
          · have := h.one; omega
          · exact (h.bigs g j j1).1 (hbef j j2)
        have hpend : Pend ops p (Li listed) G i := ⟨hsm, hio, hun, g, st, hgG, g1, g2⟩
        have hGl : G - 1 < p.length := by have := h.one; have := h.le; omega
        have hst := List.getElem?_eq_getElem hGl
        have hchk : ∀ j, Pend ops p (Li listed) G j → j ∈ p[G - 1].chk := by
          rintro j ⟨a, b, c, gj, stj, d1, d2, d3⟩
          obtain ⟨g', st', g1', g2', g3'⟩ := hp.small j b a
          have hle : g' ≤ G - 1 := by
            have := hp.lo _ _ _ _ _ g1' d2 g2' d3
            omega
          rcases g3' (G - 1) _ hle hst with hq | ⟨k, j', k1, k2, k3⟩
          · exact hq
          · exfalso
            have := (h.bigs k j' k2).2 (by have := h.one; omega)
            exact c (h.closed.bef' this k3)
        obtain ⟨c1, c2⟩ := h.chk _ hst
        rw [List.all_eq_true] at c1
        obtain ⟨σ1, s1, w1, k1, k2⟩ := Core.listed hp (fun j hj => hj.1) h.core hG hO hpend hlk (c1 i (hchk i hpend)) (by
          intro ha j oj d dj v vj A B hj hji hoj haj hd hdj hv hvj hA hB
          have m1 := hp.allocs _ _ _ _ hst hO ha (hchk i hpend)
          have m2 := hp.allocs _ _ _ _ hst hoj haj (hchk j hj)
          exact apart_ne c2 m1 m2 (Ne.symm hji) (by simp [hO, hd, hv, hA]) (by simp [hoj, hdj, hvj, hB]))
        have k3 := k2.congr (Q' := Pend ops p (Li (listed.setIfInBounds i true)) G) (fun j => by
          constructor
          · rintro ⟨⟨a, b, c, d⟩, hji⟩
            exact ⟨a, b, fun hl => by rcases (hset j).1 hl with hl | hl; exact c hl; exact hji hl, d⟩
          · rintro ⟨a, b, c, d⟩
            exact ⟨⟨a, b, fun hl => c ((hset j).2 (.inl hl)), d⟩, fun hji => c ((hset j).2 (.inr hji))⟩)
        have hb' : ∀ k j, BigAt p k = some j → (Li (listed.setIfInBounds i true) j ↔ k < G) := by
          intro k j hk
          rw [hset, ← h.bigs k j hk]
          constructor
          · rintro (q | q)
            · exact q
            · exfalso
              subst q
              cases k with
              | zero =>
                obtain ⟨st0, z1, z2⟩ := hp.first
                unfold BigAt at hk; rw [z1] at hk; simp [z2] at hk
              | succ k =>
                have hkl : k + 1 < p.length := by
                  unfold BigAt at hk
                  rcases Nat.lt_or_ge (k + 1) p.length with q | q
                  · exact q
                  · rw [List.getElem?_eq_none q] at hk; simp at hk
                obtain ⟨k', z1, z2, z3, _⟩ := hp.big k hkl
                rw [hk] at z1; cases z1
                exact z3 hsm
          · exact .inl
        obtain ⟨σ2, s2, w2, m1, m2⟩ := ih t' _ G e W σ1 s1 w1 ⟨hcl, hsz, h.one, h.le, hb', h.run, h.chk, k3⟩ hcn
        exact ⟨σ2, s2, w2, fun b ds k cs hb hk => (k1 b ds _ k cs hb hk).trans (m1 b ds k cs hb hk), m2⟩
      · -- a great one
        obtain ⟨g, g1, g2⟩ := hp.bigs i hio hsm
        have hge : ¬ g + 1 < G := fun hq => hun ((h.bigs _ i g2).2 hq)
        have hgG : g + 1 = G := by
          obtain ⟨k, z1, z2, z3, z4⟩ := hp.big g g1
          rw [g2] at z1; cases z1
          rcases z4 with z4 | ⟨j, j1, j2⟩
          · have := h.one; omega
          · have := (h.bigs g j j1).1 (hbef j j2)
            omega
        have hGl : G < p.length := by omega
        have hst := List.getElem?_eq_getElem hGl
        have hrun := h.run
        rw [stages_cons hst] at hrun
        have hbg : p[G].big = some i := by
          unfold BigAt at g2
          rw [hgG, hst] at g2
          exact g2
        rw [hbg] at hrun
        simp only [Option.toList_some, idxOps, hO] at hrun
        cases h1 : step1 S ops o e W with
        | none => rw [h1] at hrun; cases hrun
        | some r =>
          obtain ⟨e1, W1⟩ := r
          rw [h1] at hrun
          simp only at hrun
          obtain ⟨σ1, s1, w1, k1, k2⟩ := Core.big hp (fun j hj => hj.1) h.core hG hg hS hRd hO hsm hlk h1 hr0
          have k3 := k2.congr (Q' := Pend ops p (Li (listed.setIfInBounds i true)) G) (fun j => by
            constructor
            · rintro ⟨a, b, c, d⟩
              exact ⟨a, b, fun hl => by rcases (hset j).1 hl with hl | hl; exact c hl; exact hsm (hl ▸ a), d⟩
            · rintro ⟨a, b, c, d⟩
              exact ⟨a, b, fun hl => c ((hset j).2 (.inl hl)), d⟩)
          obtain ⟨e2, W2, n1, n2, n3⟩ := stage_smalls hp hst k3 (fun j hj hl => by
            obtain ⟨q1, q2, q3⟩ := hp.smalls G _ hst j hj
            rcases (hset j).1 hl with hl | hl
            · rcases q3 with q3 | ⟨b, b1, b2⟩
              · have := h.one; omega
              · have hb := h.closed.bef' hl b2
                have := (h.bigs G b b1).1 hb
                omega
            · exact hsm (hl ▸ q2)) hrun
          have hb' : ∀ k j, BigAt p k = some j → (Li (listed.setIfInBounds i true) j ↔ k < G + 1) := by
            intro k j hk
            rw [hset]
            constructor
            · rintro (q | q)
              · have := (h.bigs k j hk).1 q; omega
              · subst q
                rcases Nat.lt_or_ge k (G + 1) with hq | hq
                · exact hq
                · exfalso
                  have hkl : k < p.length := by
                    unfold BigAt at hk
                    rcases Nat.lt_or_ge k p.length with q | q
                    · exact q
                    · rw [List.getElem?_eq_none q] at hk; simp at hk
                  obtain ⟨k', z1, z2, z3, z4⟩ := hp.big (k - 1) (by omega)
                  rw [Nat.sub_add_cancel (by omega), hk] at z1; cases z1
                  rcases z4 with z4 | ⟨j, j1, j2⟩
                  · have := h.one; omega
                  · have := (h.bigs (k - 1) j j1).1 (hbef j j2)
                    omega
            · intro hq
              by_cases hkG : k = G
              · subst hkG
                rw [← hgG] at hk
                rw [g2] at hk; cases hk
                exact .inr rfl
              · exact .inl ((h.bigs k j hk).2 (by omega))
          obtain ⟨σ2, s2, w2, m1, m2⟩ := ih t' _ (G + 1) e2 W2 σ1 s1 w1 ⟨hcl, hsz, by omega, by omega, hb', n1, fun st hq => by
            rw [Nat.add_sub_cancel, hst] at hq; cases hq; exact n2, n3⟩ hcn
          exact ⟨σ2, s2, w2, fun b ds k cs hb hk => (k1 b ds _ k cs hb hk).trans (m1 b ds k cs hb hk), m2⟩

end Go.Ev

namespace Go.Ev
variable [Prg] [Facts]

/-- a region whose order is drawn -/
theorem region_draw {S : EvS} (hS : Sound S) (hRd : RoundOk S) (id : Nat) (ops : Array Oper) : CodeOk (.region id ops true) (regionF S ops true) := by
  intro e W x e' W' h hg σ w s ds hG hr hs hd fn
  simp only [regionF, if_true] at h
  split at h
  · rename_i hok
    split at h
    · rename_i e1 W1 h1
      cases h
      have hp := planOk_R hok
      obtain ⟨st, hst, hb0⟩ := hp.first
      have hr' : HR σ W w.drew := hr.same (same_drew w)
      have c0 : Core ops σ W w.drew e (Pend ops (plan ops) (Li (Array.replicate ops.size false)) 0) e W σ s w.drew := by
        refine ⟨hr', .refl _ _ _, fun _ h => h, fun t => ?_, fun t => .inr (hs t), ?_, rfl, rfl⟩
        · have := hs t
          generalize e.s.get t = a, s[t]? = b at this
          cases this <;> rfl
        · rintro i o d v A ⟨_, _, _, g, _, hg, _⟩
          omega
      have hnl : ∀ i, ¬ Li (Array.replicate ops.size false) i := by
        intro i hi
        unfold Li at hi
        rw [Array.getD_eq_getD_getElem?, Array.getElem?_replicate] at hi
        split at hi <;> simp at hi
      have hrun := h1
      rw [← List.drop_zero (l := plan ops), stages_cons hst, hb0] at hrun
      simp only [Option.toList_none, idxOps] at hrun
      obtain ⟨e2, W2, n1, n2, n3⟩ := stage_smalls hp hst c0 (fun i _ => hnl i) hrun
      have hlen : 0 < (plan ops).length := (List.getElem?_eq_some_iff.1 hst).1
      have hbigs : ∀ k j, BigAt (plan ops) k = some j → (Li (Array.replicate ops.size false) j ↔ k < 1) := by
        intro k j hk
        constructor
        · intro h; exact absurd h (hnl j)
        · intro h
          have : k = 0 := by omega
          subst this
          unfold BigAt at hk; rw [hst] at hk; simp [hb0] at hk
      obtain ⟨σ', s', w', m1, m2, m3, m4, m5⟩ := draw_go hp hS hRd hG hg hr' ops.size (w.tape w.drawn (.order fn id)) (Array.replicate ops.size false) 1 e2 W2 σ s w.drew
        ⟨fun i o hi => absurd hi (hnl i), by simp, Nat.le_refl 1, hlen, hbigs, n1, fun st' hq => (by rw [Nat.sub_self, hst] at hq; cases hq; exact n2), n3⟩ (by unfold cnt; exact Nat.le_trans List.countP_le_length (by simp))
      · refine ⟨σ', s', ds, w', fun b k cs hb hk => ?_, m2, ?_, m4, ?_⟩
        · refine .head fa_region_draw (.trans ?_ (.one (fa_region_end (ops := ops))))
          have hsch : ∀ t, Region.schedule (PP.follows .mixedOrders) ops t = Region.linearise .any ops t := by
            intro t
            unfold Region.schedule
            rcases hp.mode with h | h <;> simp [h]
          rw [hsch]
          have := m1 b ds k cs hb.1 hk
          rw [hb.2]
          exact this
        · rw [m3]
          exact hd.mono m5.ext.mono
        · exact ⟨(Ext.same (same_drew w)).trans hr m5.ext, m5.hr, m5.orc⟩
    · cases h
  · cases h

theorem ev_sound : ∀ n, Sound (ev n) := ev_sound_of fun _ hS id ops => region_draw hS (roundF_ok hS) id ops

end Go.Ev

namespace Go.Ev
variable [Prg]

/-- a call that is run is a call of the kit's -/
theorem CallS.calls {f : FuncId} {args : Array Value} {w : World} {v : Value} {w' : World} (h : CallS f args w v w') : Calls PP f args w (fun e w1 => e = .returned v ∧ w1 = w') := by
  intro cs
  obtain ⟨fr, h1, h2⟩ := h .normal cs (.inl rfl)
  obtain ⟨fn, h3, h4⟩ := h2.val
  exact ⟨.returned v, w', fr, ⟨rfl, rfl⟩, h1, h2.fn, h2.mode, h2.defers, h2.kind, fn, by rw [h2.fn]; exact h3, h4⟩

variable [Facts]

/-- what the evaluator says of a call, said of the machine -/
theorem calls_of_ev {n : Nat} {f : FuncId} {args : List AV} {W W' : AW} {v : AV} (h : (ev n).call f args W = some (v, W')) (hg : Good W) {σ : Sg} {w : World} {args' : List Value} (hG : Glob σ) (hr : HR σ W w) (ha : LR σ args args') :
    Calls PP f args'.toArray w (fun e w' => ∃ v' σ', e = .returned v' ∧ VR σ' v v' ∧ Post σ W w σ' W' w') := by
  obtain ⟨σ', v', w', h1, h2, h3⟩ := (ev_sound n).call h hg hG hr ha
  exact h1.calls.mono fun e w1 ⟨a, b⟩ => ⟨v', σ', a, h2, b ▸ h3⟩

end Go.Ev

namespace Go.Ev
noncomputable section

/-- is A among the numbers of l? -/
def keyIn (A : Nat) (l : List (Nat × AO)) : Bool := l.any fun x => Nat.beq x.1 A

theorem lies_get {w : AW} : ∀ {l : List (Nat × AO)}, lies w l = true → ∀ A o, (A, o) ∈ l → w.get A = some o
  | [], _, A, o, h => by cases h
  | (B, p) :: l, h, A, o, hm => by
    simp only [lies, Bool.and_eq_true] at h
    rcases List.mem_cons.1 hm with e | e
    · cases e
      have h1 := h.1
      split at h1
      · rename_i o' ho
        rw [ho, AOeq_eq h1]
      · cases h1
    · exact lies_get h.2 A o e

theorem killAll_get : ∀ (l : List (Nat × AO)) (w : AW) (B : Nat), (killAll w l).get B = if keyIn B l then none else w.get B
  | [], w, B => rfl
  | (A, o) :: l, w, B => by
    simp only [killAll]
    rw [killAll_get l]
    unfold keyIn
    simp only [List.any_cons, beq_dec]
    rw [AW.get_kill]
    by_cases h : A = B
    · subst h; simp
    · rw [if_neg (Ne.symm h)]
      have : decide (A = B) = false := by simp [h]
      rw [this, Bool.false_or]

theorem layAll_get : ∀ (l : List (Nat × AO)) (w : AW) (B : Nat), (keyIn B l = false ∧ (layAll w l).get B = w.get B) ∨ (keyIn B l = true ∧ ∃ o, (B, o) ∈ l ∧ (layAll w l).get B = some o)
  | [], w, B => .inl ⟨rfl, rfl⟩
  | (A, o) :: l, w, B => by
    simp only [layAll]
    rcases layAll_get l (w.set A o) B with ⟨h1, h2⟩ | ⟨h1, p, h2, h3⟩
    · rw [AW.get_set] at h2
      by_cases h : A = B
      · subst h
        rw [if_pos rfl] at h2
        exact .inr ⟨by simp [keyIn, beq_dec], o, by simp, h2⟩
      · rw [if_neg (Ne.symm h)] at h2
        refine .inl ⟨?_, h2⟩
        unfold keyIn at h1 ⊢
        rw [List.any_cons, h1, beq_dec]; simp [h]
    · refine .inr ⟨?_, p, by simp [h2], h3⟩
      unfold keyIn at h1 ⊢
      rw [List.any_cons, h1]; simp

theorem keyIn_mem {A : Nat} {o : AO} {l : List (Nat × AO)} (h : (A, o) ∈ l) : keyIn A l = true := by
  unfold keyIn
  rw [List.any_eq_true]
  exact ⟨(A, o), h, by simp⟩

theorem layAll_n : ∀ (l : List (Nat × AO)) (w : AW), (layAll w l).n = w.n
  | [], w => rfl
  | (A, o) :: l, w => by simp only [layAll]; rw [layAll_n l]; rfl
theorem layAll_orc : ∀ (l : List (Nat × AO)) (w : AW), (layAll w l).orc = w.orc
  | [], w => rfl
  | (A, o) :: l, w => by simp only [layAll]; rw [layAll_orc l]; rfl

/-- the world in which an entry is run -/
def entW (x : Ent) (orc : List Ent) : AW := layAll { h := .e, n := x.nin, orc := orc } (x.rd ++ x.hin)

variable [Prg]

/-- an entry, run -/
def entRun (n : Nat) (x : Ent) (orc : List Ent) : Bool :=
  (x.rd.all fun p => p.2.ro) && (x.hout.all fun p => keyIn p.1 x.hin || Nat.ble x.nin p.1) && (x.hin.all fun p => notB (keyIn p.1 x.rd)) &&
  (match (ev n).call x.f x.args (entW x orc) with
   | some (v, W) => AV.eq eqD v x.res && Nat.beq W.n x.nout && lies W x.hout
   | none => false)

variable [Facts]

theorem entOk_of_run {n : Nat} {x : Ent} {orc : List Ent} (h : entRun n x orc = true) (ho : ∀ y ∈ orc, EntOk y) : EntOk x := by
  unfold entRun at h
  simp only [Bool.and_eq_true] at h
  obtain ⟨⟨⟨hro, hkeys⟩, hdis⟩, hrun⟩ := h
  split at hrun
  rotate_left
  · cases hrun
  rename_i v W2 hcall
  simp only [Bool.and_eq_true] at hrun
  obtain ⟨⟨hv, hn⟩, hlies⟩ := hrun
  have hv := AVeq_eq _ _ _ hv
  subst hv
  have hn : W2.n = x.nout := Nat.eq_of_beq_eq_true hn
  rw [List.all_eq_true] at hro hkeys hdis
  intro args W W' v rest hu σ w args' hG hr ha
  unfold useEnt at hu
  split at hu
  rotate_left
  · cases hu
  rename_i hc
  simp only [Bool.and_eq_true] at hc
  obtain ⟨⟨⟨c1, c2⟩, c3⟩, c4⟩ := hc
  have c1 : x.nin = W.n := Nat.eq_of_beq_eq_true c1
  have c2 : x.args = args := eqL_eq (AVeq_eq eqD) _ _ c2
  subst c2
  simp only [Option.some.injEq, Prod.mk.injEq] at hu
  obtain ⟨rfl, rfl⟩ := hu
  -- the world of the run
  have hWn : (entW x orc).n = W.n := by unfold entW; rw [layAll_n]; exact c1
  have hWg : ∀ A o, (entW x orc).get A = some o → W.get A = some o ∧ ((A, o) ∈ x.rd ∨ (A, o) ∈ x.hin) := by
    intro A o hA
    unfold entW at hA
    rcases layAll_get (x.rd ++ x.hin) { h := .e, n := x.nin, orc := orc } A with ⟨_, h2⟩ | ⟨_, p, h2, h3⟩
    · rw [h2] at hA; cases hA
    · rw [h3] at hA; cases hA
      rcases List.mem_append.1 h2 with h2 | h2
      · exact ⟨lies_get c3 _ _ h2, .inl h2⟩
      · exact ⟨lies_get c4 _ _ h2, .inr h2⟩
  have hWr : ∀ A, Wr (entW x orc) A → Wr W A ∧ keyIn A x.hin = true := by
    rintro A ⟨o, h1, h2⟩
    obtain ⟨h3, h4⟩ := hWg A o h1
    refine ⟨⟨o, h3, h2⟩, ?_⟩
    rcases h4 with h4 | h4
    · have := hro _ h4; rw [h2] at this; cases this
    · exact keyIn_mem h4
  have hr1 : HR σ (entW x orc) w := by
    refine ⟨fun A o e h1 h2 => hr.obj A o e (hWg A o h1).1 h2, fun A B o p e f h1 h2 => hr.inj A B o p e f (hWg A o h1).1 (hWg B p h2).1, fun A hA => ?_⟩
    rw [hWn] at hA
    refine ⟨(hr.fresh A hA).1, ?_⟩
    cases hq : (entW x orc).get A with
    | none => rfl
    | some o => have := (hWg A o hq).1; rw [(hr.fresh A hA).2] at this; cases this
  have hg1 : Good (entW x orc) := fun y hy => by
    unfold entW at hy; rw [layAll_orc] at hy; exact ho y hy
  obtain ⟨σ', v', w', k1, k2, k3⟩ := (ev_sound n).call hcall hg1 hG hr1 ha
  have kx := k3.ext
  -- the world behind
  have hget : ∀ A o, ({ layAll (killAll W x.hin) x.hout with n := x.nout, orc := rest } : AW).get A = some o →
      (W2.get A = some o ∧ (keyIn A x.hin = true ∨ W.n ≤ A)) ∨ (W.get A = some o ∧ keyIn A x.hin = false) := by
    intro A o hA
    have hA : (layAll (killAll W x.hin) x.hout).get A = some o := hA
    rcases layAll_get x.hout (killAll W x.hin) A with ⟨h1, h2⟩ | ⟨h1, p, h2, h3⟩
    · rw [h2, killAll_get] at hA
      split at hA
      · cases hA
      · rename_i hk
        exact .inr ⟨hA, by simpa using hk⟩
    · rw [h3] at hA; cases hA
      refine .inl ⟨lies_get hlies _ _ h2, ?_⟩
      have := hkeys _ h2
      simp only [Bool.or_eq_true] at this
      rcases this with h | h
      · exact .inl h
      · exact .inr (by rw [← c1]; exact Nat.le_of_ble_eq_true h)
  -- what stands by is not touched
  have apart : ∀ A o e, W.get A = some o → keyIn A x.hin = false → σ A = some e → ∀ B f, σ B = some f → Wr (entW x orc) B → f.blk ≠ e.blk := by
    intro A o e hA hk he B f hB hw heq
    obtain ⟨⟨p, hp, _⟩, hkB⟩ := hWr B hw
    have := hr.inj B A p o f e hp hA hB he heq
    subst this
    rw [hk] at hkB; cases hkB
  have same : ∀ A o e, W.get A = some o → keyIn A x.hin = false → σ A = some e → w'.heap[e.blk]? = w.heap[e.blk]? := fun A o e hA hk he =>
    kx.frame e.blk (hr.obj A o e hA he).lt fun B f hB hw => apart A o e hA hk he B f hB hw
  have old : ∀ A o e, W.get A = some o → σ' A = some e → σ A = some e := by
    intro A o e hA he
    cases hq : σ A with
    | some f => have := kx.mono A f hq; rw [he] at this; cases this; rfl
    | none =>
      have := (kx.new A e hq he).1
      rw [hWn] at this
      have := hr.live hA
      omega
  -- blocks of the run and blocks that stand by
  have cross : ∀ A B o p e f, W2.get A = some o → (keyIn A x.hin = true ∨ W.n ≤ A) → W.get B = some p → keyIn B x.hin = false → σ' A = some e → σ' B = some f → e.blk ≠ f.blk := by
    intro A B o p e f hA hk hB hkB he hf heq
    have hf0 := old B p f hB hf
    have hAB : A ≠ B := by
      intro h; subst h
      rcases hk with hk | hk
      · rw [hkB] at hk; cases hk
      · have := hr.live hB; omega
    cases hq : σ A with
    | some e0 =>
      have := kx.mono A e0 hq; rw [he] at this; cases this
      -- A stood in W
      rcases hk with hk | hk
      · unfold keyIn at hk
        rw [List.any_eq_true] at hk
        obtain ⟨⟨A', p'⟩, h1, h2⟩ := hk
        have h2 : A' = A := Nat.eq_of_beq_eq_true h2
        subst h2
        exact hAB (hr.inj A' B p' p e f (lies_get c4 _ _ h1) hB hq hf0 heq)
      · have := hr.dom hq; omega
    | none =>
      obtain ⟨_, h1 | ⟨C, g, h1, h2, h3⟩⟩ := kx.new A e hq he
      · have := (hr.obj B p f hB hf0).lt
        omega
      · exact apart B p f hB hkB hf0 C g h1 h2 (h3.trans heq)
  refine ⟨σ', v', w', k1, k2, ⟨kx.mono, ?_, ?_, ?_, ?_, kx.size, kx.os, kx.tape, kx.output⟩, ⟨?_, ?_, ?_⟩⟩
  · show W.n ≤ x.nout
    rw [← hn, ← hWn]; exact kx.n
  · intro A e h0 h1
    obtain ⟨h2, h3⟩ := kx.new A e h0 h1
    rw [hWn] at h2
    exact ⟨h2, h3.imp id fun ⟨B, f, a, b, c⟩ => ⟨B, f, a, (hWr B b).1, c⟩⟩
  · intro b hb hno
    exact kx.frame b hb fun A e h1 h2 => hno A e h1 (hWr A h2).1
  · rintro A hA ⟨o, h1, h2⟩
    rcases hget A o h1 with ⟨h3, _⟩ | ⟨h3, _⟩
    · exact (hWr A (kx.wr A (by rw [hWn]; exact hA) ⟨o, h3, h2⟩)).1
    · exact ⟨o, h3, h2⟩
  · intro A o e h1 h2
    rcases hget A o h1 with ⟨h3, _⟩ | ⟨h3, h4⟩
    · exact k3.hr.obj A o e h3 h2
    · have h5 := old A o e h3 h2
      exact (hr.obj A o e h3 h5).mono kx.mono (same A o e h3 h4 h5)
  · intro A B o p e f h1 h2 he hf heq
    rcases hget A o h1 with ⟨a1, a2⟩ | ⟨a1, a2⟩ <;> rcases hget B p h2 with ⟨b1, b2⟩ | ⟨b1, b2⟩
    · exact k3.hr.inj A B o p e f a1 b1 he hf heq
    · exact absurd heq (cross A B o p e f a1 a2 b1 b2 he hf)
    · exact absurd heq.symm (cross B A p o f e b1 b2 a1 a2 hf he)
    · exact hr.inj A B o p e f a1 b1 (old A o e a1 he) (old B p f b1 hf) heq
  · intro A hA
    have hA : W2.n ≤ A := by rw [hn]; exact hA
    refine ⟨(k3.hr.fresh A hA).1, ?_⟩
    cases hq : ({ layAll (killAll W x.hin) x.hout with n := x.nout, orc := rest } : AW).get A with
    | none => rfl
    | some o =>
      exfalso
      rcases hget A o hq with ⟨h3, _⟩ | ⟨h3, _⟩
      · rw [(k3.hr.fresh A hA).2] at h3; cases h3
      · have := hr.live h3
        have := kx.n
        rw [hWn] at this
        omega

end
end Go.Ev

