/-
  The evaluator's operations do what the model's operations do. No condition.
-/
import Derived.Test.YtaojoifpekoecaaGreatDoorEvA
namespace Go.Ev

/-! ### cells laid over others -/
def spl (c : Array Value) (o : Nat) : List Value → Array Value
  | [] => c
  | v :: vs => spl (c.setIfInBounds o v) (o + 1) vs

theorem spl_size : ∀ (vs : List Value) (c : Array Value) (o : Nat), (spl c o vs).size = c.size
  | [], _, _ => rfl
  | v :: vs, c, o => by rw [spl, spl_size vs]; simp

theorem spl_get : ∀ (vs : List Value) (c : Array Value) (o i : Nat), o + vs.length ≤ c.size → (spl c o vs)[i]? = if o ≤ i ∧ i < o + vs.length then vs[i - o]? else c[i]?
  | [], c, o, i, _ => by
    rw [spl, if_neg]; simp
  | v :: vs, c, o, i, h => by
    have h' : o + 1 + vs.length ≤ c.size := by simp at h; omega
    rw [spl, spl_get vs _ _ _ (by simpa using h')]
    simp only [List.length_cons]
    by_cases h1 : o + 1 ≤ i ∧ i < o + 1 + vs.length
    · rw [if_pos h1, if_pos (by omega)]
      rw [show i - o = (i - (o + 1)) + 1 from by omega, List.getElem?_cons_succ]
    · rw [if_neg h1]
      by_cases h2 : i = o
      · subst h2
        rw [if_pos (by omega), Array.getElem?_setIfInBounds_self_of_lt (by omega)]
        simp
      · rw [if_neg (by omega), Array.getElem?_setIfInBounds_ne (by omega)]

theorem zipIdx_foldl (off : Nat) : ∀ (l : List Value) (k : Nat) (c : Array Value),
    (l.zipIdx k).foldl (fun cs (x : Value × Nat) => cs.setIfInBounds (off + x.2) x.1) c = spl c (off + k) l
  | [], _, _ => rfl
  | v :: l, k, c => by
    rw [List.zipIdx_cons, List.foldl_cons, zipIdx_foldl off l (k + 1), spl]; rfl

theorem putCells_len : ∀ {cs : List AV} {o : Nat} {vs cs' : List AV}, putCells cs o vs = some cs' → cs'.length = cs.length ∧ (vs = [] ∨ o + vs.length ≤ cs.length) ∧
    ∀ i : Nat, cs'[i]? = if o ≤ i ∧ i < o + vs.length then vs[i - o]? else cs[i]?
  | cs, o, [], cs', h => by
    have : cs' = cs := by
      cases cs <;> cases o <;> simp only [putCells, Option.some.injEq] at h <;> exact h.symm
    subst this
    refine ⟨rfl, .inl rfl, fun i => ?_⟩
    rw [if_neg]; simp
  | [], o, v :: vs, cs', h => by cases o <;> simp [putCells] at h
  | c :: cs, 0, v :: vs, cs', h => by
    simp only [putCells] at h
    cases hp : putCells cs 0 vs with
    | none => simp [hp] at h
    | some r =>
      simp [hp] at h; subst h
      obtain ⟨h1, h2, h3⟩ := putCells_len hp
      refine ⟨by simp [h1], .inr ?_, fun i => ?_⟩
      · rcases h2 with rfl | h2
        · simp
        · simp at h2 ⊢; omega
      · cases i with
        | zero => simp
        | succ i =>
          rw [List.getElem?_cons_succ, h3 i]
          by_cases hi : i < vs.length
          · rw [if_pos (by omega), if_pos (by simp; omega)]; simp
          · rw [if_neg (by omega), if_neg (by simp; omega)]; simp
  | c :: cs, o + 1, v :: vs, cs', h => by
    simp only [putCells] at h
    cases hp : putCells cs o (v :: vs) with
    | none => simp [hp] at h
    | some r =>
      simp [hp] at h; subst h
      obtain ⟨h1, h2, h3⟩ := putCells_len hp
      refine ⟨by simp [h1], .inr ?_, fun i => ?_⟩
      · rcases h2 with h2 | h2
        · cases h2
        · simp at h2 ⊢; omega
      · cases i with
        | zero => rw [if_neg (by omega)]; simp
        | succ i =>
          rw [List.getElem?_cons_succ, h3 i]
          simp only [List.length_cons]
          by_cases hi : o ≤ i ∧ i < o + (vs.length + 1)
          · rw [if_pos hi, if_pos (by omega)]
            rw [show i + 1 - (o + 1) = i - o from by omega]
          · rw [if_neg hi, if_neg (by omega)]; simp

/-- as lists: the cells of a value -/
theorem putCells_LR {σ : Sg} {cs vs cs' : List AV} {c : Array Value} {l : List Value} {o : Nat} (h : putCells cs o vs = some cs') (hc : LR σ cs c.toList) (hv : LR σ vs l) (hb : o + vs.length ≤ cs.length) :
    LR σ cs' (spl c o l).toList := by
  obtain ⟨h1, h2, h3⟩ := putCells_len h
  have hl := hv.length
  have hcl := hc.length
  have hb' : o + l.length ≤ c.size := by simp at hcl; omega
  refine LR.of_get (by rw [h1]; simp [spl_size] at hcl ⊢; exact hcl) fun i x v hx hvv => ?_
  rw [h3 i] at hx
  have hg := spl_get l c o i hb'
  rw [Array.getElem?_toList, hg] at hvv
  rw [hl] at hx
  split at hx
  · rename_i hi
    rw [if_pos hi] at hvv
    obtain ⟨u, hu, r⟩ := hv.get _ x hx
    rw [hvv] at hu; cases hu; exact r
  · rename_i hi
    rw [if_neg hi] at hvv
    obtain ⟨u, hu, r⟩ := hc.get _ x hx
    rw [Array.getElem?_toList, hvv] at hu; cases hu; exact r

/-- in a block -/
theorem putCells_CR {σ : Sg} {cs vs cs' : List AV} {c : Array Value} {l : List Value} {o sh : Nat} (h : putCells cs o vs = some cs') (hc : CellsR σ cs c sh) (hv : LR σ vs l) (hb : vs = [] ∨ sh + o + l.length ≤ c.size) :
    CellsR σ cs' (spl c (sh + o) l) sh := by
  obtain ⟨h1, h2, h3⟩ := putCells_len h
  have hl := hv.length
  intro i x hx
  rw [h3 i] at hx
  rcases hb with rfl | hb
  · cases hv
    simp at hx
    rw [spl]
    exact hc i x hx
  · rw [spl_get l c (sh + o) (sh + i) hb]
    rw [hl] at hx
    split at hx
    · rename_i hi
      obtain ⟨u, hu, r⟩ := hv.get _ x hx
      exact ⟨u, by rw [if_pos (by omega), show sh + i - (sh + o) = i - o from by omega]; exact hu, r⟩
    · rename_i hi
      obtain ⟨u, hu, r⟩ := hc i x hx
      exact ⟨u, by rw [if_neg (by omega)]; exact hu, r⟩

/-! ### filling -/
inductive PtR (σ : Sg) : List (Nat × AV) → List (Nat × Value) → Prop where
  | nil : PtR σ [] []
  | cons {i : Nat} {x : AV} {v : Value} {xs : List (Nat × AV)} {vs : List (Nat × Value)} (h : VR σ x v) (t : PtR σ xs vs) : PtR σ ((i, x) :: xs) ((i, v) :: vs)

theorem fillA_ok {σ : Sg} {place : Nat → Option (Nat × Nat)} {place' : Nat → Option (Nat × Nat)} (hp : ∀ i p, place i = some p → place' i = some p) {ps : List (Nat × AV)} {ps' : List (Nat × Value)} (hps : PtR σ ps ps') :
    ∀ {cs cs' : List AV} {c : Array Value}, fillA place cs ps = some cs' → LR σ cs c.toList → ∃ c' : Array Value, Instr.fill place' c ps' = some c' ∧ LR σ cs' c'.toList := by
  induction hps with
  | nil => intro cs cs' c h hc; simp [fillA] at h; subst h; exact ⟨c, rfl, hc⟩
  | cons hv _ ih =>
    rename_i i x v xs vs _
    intro cs cs' c h hc
    simp only [fillA] at h
    cases hpl : place i with
    | none => simp [hpl] at h
    | some p =>
      obtain ⟨off, size⟩ := p
      simp only [hpl] at h
      split at h
      · cases h
      · rename_i hn1
        split at h
        case isFalse => cases h
        rename_i hn
        rw [Bool.and_eq_true] at hn
        obtain ⟨hn2, hn3⟩ := hn
        have hx : x ≠ .unk := by rintro rfl; exact hn1 rfl
        have hsz := beq_eq hn2
        have hle := Nat.le_of_ble_eq_true hn3
        cases hpc : putCells cs off x.cells with
        | none => simp [hpc] at h
        | some cs1 =>
          simp only [hpc] at h
          have hcells := hv.cells hx
          have hl := hcells.length
          have hcl := hc.length
          simp at hl hcl
          have hLR := putCells_LR hpc hc hcells (by omega)
          obtain ⟨c', h1, h2⟩ := ih h hLR
          refine ⟨c', ?_, h2⟩
          rw [Instr.fill, hp i _ hpl]
          simp only
          have hne : ¬ ((v.cells.size != size) = true ∨ off + v.cells.size > c.size) := by
            simp; omega
          rw [if_neg (by simpa using hne)]
          rw [← h1]
          congr 1
          rw [← Array.foldl_toList, Array.toList_zipIdx]
          exact zipIdx_foldl off v.cells.toList 0 c
end Go.Ev

namespace Go.Ev

theorem nat_byte {n : Int} (h : 0 ≤ n ∧ n < 256) : (UInt8.ofNat n.toNat).toNat = n.toNat := by
  rw [UInt8.toNat_ofNat']; omega

theorem PR.find {σ : Sg} {d : TypeDesc} {k : AV} {k' : Value} (hd : ∀ a a' b, VR σ a a' → sameKey k a = some b → Instr.sameNow d k' a' = some b) :
    ∀ {es : List (AV × AV)} {ms : List MapEntry}, PR σ es ms → ∀ (i : Nat) r, findA k es i = some r →
      (r = none ∧ Instr.findNow d k' ms i = some none) ∨ (∃ j v v', r = some (j, v) ∧ Instr.findNow d k' ms i = some (some (j, v')) ∧ VR σ v v' ∧ i ≤ j ∧ (∃ e m, es[j - i]? = some e ∧ ms[j - i]? = some m ∧ e.2 = v ∧ sameKey k e.1 = some true)) := by
  intro es ms h
  induction h with
  | nil => intro i r h; simp [findA] at h; subst h; exact .inl ⟨rfl, rfl⟩
  | cons hk' hv _ ih =>
    intro i r h
    simp only [findA] at h
    split at h
    · rename_i hs
      cases h
      refine .inr ⟨i, _, _, rfl, ?_, hv, Nat.le_refl _, ?_⟩
      · simp only [Instr.findNow, hd _ _ _ hk' hs]
      · simp [hs]
    · rename_i hs
      rcases ih (i + 1) r h with ⟨h1, h2⟩ | ⟨j, v, v', h1, h2, h3, h4, e, m, h5, h6, h7, h8⟩
      · exact .inl ⟨h1, by simp only [Instr.findNow, hd _ _ _ hk' hs]; exact h2⟩
      · refine .inr ⟨j, v, v', h1, by simp only [Instr.findNow, hd _ _ _ hk' hs]; exact h2, h3, by omega, e, m, ?_, ?_, h7, h8⟩
        · rw [show j - i = (j - (i + 1)) + 1 from by omega, List.getElem?_cons_succ]; exact h5
        · rw [show j - i = (j - (i + 1)) + 1 from by omega, List.getElem?_cons_succ]; exact h6
    · cases h

theorem beq_int (a b : Int) : (a == b) = (a == b) := rfl

/-- the key's kind is its type's: then the model's own search goes as ours -/
theorem sameNow_of {σ : Sg} {d : TypeDesc} {k : AV} {k' : Value} (hk : VR σ k k') (hf : (∃ j, d = .int j) ∧ (∃ j n, k = .int j n) ∨ d = .string ∧ (∃ l, k = .str l) ∨ d = .bool ∧ ∃ b, k = .bool b) :
    ∀ a a' b, VR σ a a' → sameKey k a = some b → Instr.sameNow d k' a' = some b := by
  intro a a' b ha h
  rcases hf with ⟨⟨j, rfl⟩, n, m, rfl⟩ | ⟨rfl, l, rfl⟩ | ⟨rfl, c, rfl⟩
  · cases hk
    cases a <;> simp only [sameKey] at h <;> try cases h
    cases ha
    simp only [Instr.sameNow]
    exact h
  · cases hk with
    | str _ s hs =>
      cases a <;> simp only [sameKey] at h <;> try cases h
      cases ha with
      | str _ r hr =>
        subst hs; subst hr
        simp only [Instr.sameNow, bytes_eq']
  · cases hk
    cases a <;> simp only [sameKey] at h <;> try cases h
    cases ha
    simp only [Instr.sameNow]

theorem map_at {σ : Sg} {W : AW} {w : World} (hr : HR σ W w) {A : Nat} {es : List (AV × AV)} (h : W.get A = some (.map es)) {e : En} (he : σ A = some e) :
    ∃ ms clock, w.heap[e.blk]? = some (.map ms clock) ∧ PR σ es ms.toList := hr.obj A _ e h he

variable [Prg]

theorem keyFits_cases {t : TypeId} {k : AV} (h : keyFits t k = true) : ∃ d, U t = some d ∧ ((∃ j, d = .int j) ∧ (∃ j n, k = .int j n) ∨ d = .string ∧ (∃ l, k = .str l) ∨ d = .bool ∧ ∃ b, k = .bool b) := by
  unfold keyFits at h
  split at h
  · rename_i j _ _ hu; exact ⟨_, hu, .inl ⟨⟨j, rfl⟩, _, _, rfl⟩⟩
  · rename_i hu; exact ⟨_, hu, .inr (.inl ⟨rfl, _, rfl⟩)⟩
  · rename_i hu; exact ⟨_, hu, .inr (.inr ⟨rfl, _, rfl⟩)⟩
  · cases h

theorem checkKey_ok {σ : Sg} {t : TypeId} {k : AV} {k' : Value} (h : keyFits t k = true) (hk : VR σ k k') (e : Bool) (n : Nat) (w : World) : (Instr.checkKey e (n + 1) t k').run PP w = .ok () w := by
  obtain ⟨d, hu, hd⟩ := keyFits_cases h
  rcases hd with ⟨⟨j, rfl⟩, _, _, rfl⟩ | ⟨rfl, _, rfl⟩ | ⟨rfl, _, rfl⟩ <;> cases hk <;> simp [Instr.checkKey, run_U hu]

theorem checkKey_ok' {σ : Sg} {t : TypeId} {k : AV} {k' : Value} (h : keyFits t k = true) (hk : VR σ k k') (e : Bool) (w : World) : (Instr.checkKey e 10000 t k').run PP w = .ok () w :=
  checkKey_ok h hk e 9999 w

theorem findKey_ok {σ : Sg} {t : TypeId} {k : AV} {k' : Value} (h : keyFits t k = true) (hk : VR σ k k') {es : List (AV × AV)} {ms : List MapEntry} (hp : PR σ es ms) {r : Option (Nat × AV)} (hf : findA k es 0 = some r) (w : World) :
    (r = none ∧ (Instr.findKey t k' ms).run PP w = .ok none w) ∨
    (∃ j v v', r = some (j, v) ∧ (Instr.findKey t k' ms).run PP w = .ok (some (j, v')) w ∧ VR σ v v' ∧ ∃ e m, es[j]? = some e ∧ ms[j]? = some m ∧ sameKey k e.1 = some true) := by
  obtain ⟨d, hu, hd⟩ := keyFits_cases h
  rcases hp.find (sameNow_of hk hd) 0 r hf with ⟨h1, h2⟩ | ⟨j, v, v', h1, h2, h3, h4, e, m, h5, h6, _, h8⟩
  · exact .inl ⟨h1, by simp [Instr.findKey, run_U hu, h2]⟩
  · exact .inr ⟨j, v, v', h1, by simp [Instr.findKey, run_U hu, h2], h3, e, m, h5, h6, h8⟩

theorem run_getObj {w : World} {b : Nat} {o : Obj} (h : w.heap[b]? = some o) (hc : ∀ c t f, o ≠ .cells c t f) : (getObj b).run PP w = .ok o w := by
  cases o <;> first | exact absurd rfl (hc _ _ _) | simp [getObj, Sem.run, h]

theorem lookupV_ok {σ : Sg} {W : AW} {w : World} (hr : HR σ W w) {t : TypeId} {x k v : AV} {x' k' : Value} {ok : Bool} (h : lookupV t W x k ok = some v) (hx : VR σ x x') (hk : VR σ k k') :
    ∃ v', (Instr.lookup t x' k' ok).run PP w = .ok v' w ∧ VR σ v v' := by
  unfold lookupV at h
  split at h
  · rename_i key elem hu
    split at h
    · cases h
    · rename_i hf
      have hf : keyFits key k = true := by simpa using hf
      split at h
      · -- a nil map
        cases hx
        cases hz : zeroA elem with
        | none => simp [hz] at h
        | some z =>
          simp [hz] at h; subst h
          obtain ⟨z', hz1, hz2⟩ := zeroA_ok (σ := σ) hz w
          have hfk := findKey_ok hf hk (PR.nil (σ := σ)) (r := none) rfl w
          rcases hfk with ⟨_, h2⟩ | ⟨_, _, _, hh, _⟩
          · refine ⟨if ok then .tuple #[z', .bool false] else z', ?_, ?_⟩
            · simp [Instr.lookup, run_U hu, checkKey_ok' hf hk, h2, hz1]
            · cases ok
              · exact hz2
              · exact VR.tup_LR (.cons hz2 (.cons (.bool _) .nil))
          · cases hh
      · rename_i A
        cases hx with
        | map _ e he =>
          split at h
          · rename_i es hg
            obtain ⟨ms, clock, hb, hp⟩ := map_at hr hg he
            have hgo := run_getObj hb (by intro c t f q; cases q)
            split at h
            · rename_i j v' hfa
              cases h
              rcases findKey_ok hf hk hp hfa w with ⟨hh, _⟩ | ⟨j, v, v', hh, h2, h3, _⟩
              · cases hh
              · cases hh
                refine ⟨if ok then .tuple #[v', .bool true] else v', ?_, ?_⟩
                · simp [Instr.lookup, run_U hu, hgo, checkKey_ok' hf hk, h2]
                · cases ok
                  · exact h3
                  · exact VR.tup_LR (.cons h3 (.cons (.bool _) .nil))
            · rename_i hfa
              cases hz : zeroA elem with
              | none => simp [hz] at h
              | some z =>
                simp [hz] at h; subst h
                obtain ⟨z', hz1, hz2⟩ := zeroA_ok (σ := σ) hz w
                rcases findKey_ok hf hk hp hfa w with ⟨_, h2⟩ | ⟨_, _, _, hh, _⟩
                · refine ⟨if ok then .tuple #[z', .bool false] else z', ?_, ?_⟩
                  · simp [Instr.lookup, run_U hu, hgo, checkKey_ok' hf hk, h2, hz1]
                  · cases ok
                    · exact hz2
                    · exact VR.tup_LR (.cons hz2 (.cons (.bool _) .nil))
                · cases hh
            · cases h
          · cases h
      · cases h
  · cases h

theorem typeAssertV_ok {σ : Sg} {x v : AV} {x' : Value} {xt a : TypeId} {ok : Bool} (h : typeAssertV x a ok = some v) (hx : VR σ x x') (w : World) :
    ∃ v', (Instr.typeAssert x' xt a ok).run PP w = .ok v' w ∧ VR σ v v' := by
  unfold typeAssertV at h
  split at h
  · cases h
  · rename_i d hni hu
    have hne : ∀ ms, d ≠ .interface ms := fun ms e => hni _ e
    split at h
    · rename_i t u
      cases hx with
      | iface _ _ u' hu' =>
        by_cases hta : Nat.beq t a = true
        · rw [if_pos hta] at h
          have := beq_eq hta
          subst this
          cases h
          refine ⟨if ok then .tuple #[u', .bool true] else u', ?_, ?_⟩
          · cases d <;> first | exact absurd rfl (hne _) | (simp [Instr.typeAssert, run_U hu])
          · cases ok
            · exact hu'
            · exact VR.tup_LR (.cons hu' (.cons (.bool _) .nil))
        · rw [if_neg hta] at h
          have hta' : ¬ t = a := fun e => hta (by rw [e]; simp)
          split at h
          · rename_i hok
            cases hz : zeroA a with
            | none => simp [hz] at h
            | some z =>
              simp [hz] at h; subst h
              obtain ⟨z', hz1, hz2⟩ := zeroA_ok (σ := σ) hz w
              refine ⟨.tuple #[z', .bool false], ?_, VR.tup_LR (.cons hz2 (.cons (.bool _) .nil))⟩
              cases d <;> first | exact absurd rfl (hne _) | (simp [Instr.typeAssert, run_U hu, hta', hok, hz1])
          · cases h
    · cases hx
      split at h
      · rename_i hok
        cases hz : zeroA a with
        | none => simp [hz] at h
        | some z =>
          simp [hz] at h; subst h
          obtain ⟨z', hz1, hz2⟩ := zeroA_ok (σ := σ) hz w
          refine ⟨.tuple #[z', .bool false], ?_, VR.tup_LR (.cons hz2 (.cons (.bool _) .nil))⟩
          cases d <;> first | exact absurd rfl (hne _) | (simp [Instr.typeAssert, run_U hu, hok, hz1])
      · cases h
    · cases h
  · cases h

theorem extractV_ok {σ : Sg} {x v : AV} {x' : Value} {i : Nat} (h : extractV x i = some v) (hx : VR σ x x') (w : World) : ∃ v', (Instr.extract x' i).run PP w = .ok v' w ∧ VR σ v v' := by
  unfold extractV at h
  split at h
  · obtain ⟨vs, rfl, hl⟩ := hx.tup_inv
    obtain ⟨v', h1, h2⟩ := hl.get i v h
    have : vs[i]? = some v' := by simpa using h1
    exact ⟨v', by simp [Instr.extract, this], h2⟩
  · cases h

theorem unA_ok {σ : Sg} {op : UnOp} {x v : AV} {x' : Value} (h : unA op x = some v) (hx : VR σ x x') (w : World) : ∃ v', (Op.unary op x').run PP w = .ok v' w ∧ VR σ v v' := by
  unfold unA at h
  split at h
  · cases hx; cases h; exact ⟨_, rfl, .bool _⟩
  · cases hx; cases h; exact ⟨_, rfl, .int _ _⟩
  · cases hx; cases h; exact ⟨_, rfl, .int _ _⟩
  · cases h

/-! ### bytes -/
theorem bytes_of {σ : Sg} : ∀ {cs : List AV} {l : List Value} {bs : List Nat}, LR σ cs l → bytesOfCells cs = some bs → ∀ (s : ByteArray) (w : World),
    ∃ s' : ByteArray, (forIn (m := Sem) l s fun c s => do
      match c with
      | .int .u8 n => pure (ForInStep.yield (s.push (UInt8.ofNat n.toNat)))
      | _ => do
        stuck "bytesToString: byte expected"
        pure (ForInStep.yield s)).run PP w = .ok s' w ∧ s'.data.toList.map (·.toNat) = s.data.toList.map (·.toNat) ++ bs := by
  intro cs l bs h
  induction h generalizing bs with
  | nil => intro hb s w; simp [bytesOfCells] at hb; subst hb; exact ⟨s, by simp, by simp⟩
  | cons hv ht ih =>
    rename_i x v xs vs
    intro hb s w
    unfold bytesOfCells at hb
    split at hb
    · rename_i he; cases he
    · rename_i n r he
      cases he
      cases hr : bytesOfCells xs with
      | none => simp [hr] at hb
      | some bs' =>
        simp only [hr] at hb
        split at hb
        · rename_i hn
          cases hb
          cases hv
          obtain ⟨s', h1, h2⟩ := ih hr (s.push (UInt8.ofNat n.toNat)) w
          refine ⟨s', ?_, ?_⟩
          · simp only [List.forIn_cons, Sem.run_bind, Sem.run_pure, Result.andThen_ok]
            exact h1
          · rw [h2]
            simp [ByteArray.push, nat_byte hn]
        · cases hb
    · cases hb

end Go.Ev

namespace Go.Ev
variable [Prg]

theorem readCells_ok {σ : Sg} {W : AW} {w : World} (hr : HR σ W w) {A o n : Nat} {l : List AV} (h : readCells W A o n = some l) {e : En} (he : σ A = some e) :
    ∃ l' : List Value, (loadCells ⟨e.blk, e.sh + o, none⟩ n).run PP w = .ok l'.toArray w ∧ LR σ l l' ∧ l'.length = n := by
  unfold readCells at h
  split at h
  · rename_i vs t st hg
    obtain ⟨c, fr, hb, _, hc, _⟩ := cells_at hr hg he
    simp only at h
    split at h
    · rename_i hl
      cases h
      exact run_cells hc hb o n (beq_eq hl)
    · cases h
  · cases h

/-- the cells of a slice -/
theorem sliceCells_ok {σ : Sg} {W : AW} {w : World} (hr : HR σ W w) {A o len z : Nat} {cap : Cap} {x' : Value} {l : List AV} (h : readCells W A o (len * z) = some l) (hx : VR σ (.slice A o len cap) x') :
    ∃ (a : Addr) (c : Nat) (l' : List Value), x' = .slice (some a) len c ∧ (loadCells a (len * z)).run PP w = .ok l'.toArray w ∧ LR σ l l' ∧ l'.length = len * z := by
  cases hx with
  | slk _ _ _ c e he =>
    obtain ⟨l', h1, h2, h3⟩ := readCells_ok hr h he
    exact ⟨_, _, l', rfl, h1, h2, h3⟩
  | slf _ _ _ z' off c e he hl ho hc =>
    rcases ho with rfl | ⟨h0, _⟩
    · obtain ⟨l', h1, h2, h3⟩ := readCells_ok hr h he
      exact ⟨_, _, l', rfl, h1, h2, h3⟩
    · subst h0
      obtain ⟨l', h1, h2, h3⟩ := readCells_ok hr h he
      refine ⟨_, _, l', rfl, ?_, h2, h3⟩
      simp only [Nat.zero_mul] at h1 h3 ⊢
      have : l' = [] := by simpa using h3
      subst this
      simp [loadCells, loadCellsFrom]

theorem convV_ok {σ : Sg} {W : AW} {w : World} (hr : HR σ W w) {src dst : TypeId} {x v : AV} {x' : Value} (h : convV src dst W x = some v) (hx : VR σ x x') :
    ∃ v', (convert src dst x').run PP w = .ok v' w ∧ VR σ v v' := by
  unfold convV at h
  split at h
  · rename_i hs hd; cases hx; cases h
    exact ⟨.int _ _, by rw [wrapF_eq]; simp [convert, run_U hs, run_U hd, Conv.intToInt], .int _ _⟩
  · rename_i hs hd; cases hx; cases h
    exact ⟨_, by simp [convert, run_U hs, run_U hd, Conv.intToFloat], .float _ _⟩
  · rename_i hs hd
    cases hx with
    | str l s hs' => cases h; exact ⟨.string s, by simp [convert, run_U hs, run_U hd], .str _ _ hs'⟩
  · rename_i e hs hd
    cases hx
    split at h
    · rename_i hu
      cases h
      exact ⟨.string .empty, by simp [convert, run_U hs, run_U hd, run_U hu, Conv.bytesToString], .str _ _ rfl⟩
    · cases h
  · rename_i e A o len cap hs hd
    split at h
    · rename_i hu
      split at h
      · rename_i l hrc
        cases hb : bytesOfCells l with
        | none => simp [hb] at h
        | some bs =>
          simp [hb] at h; subst h
          obtain ⟨a, c, l', rfl, h1, h2, _⟩ := sliceCells_ok (z := 1) hr (by simpa using hrc) hx
          obtain ⟨s', h3, h4⟩ := bytes_of h2 hb ByteArray.empty w
          refine ⟨.string s', ?_, .str _ _ (by rw [h4]; rfl)⟩
          simp only [Nat.mul_one] at h1
          simp only [convert, run_U hs, run_U hd, run_U hu, Conv.bytesToString, Sem.run_bind, Result.andThen_ok, h1]
          rw [← Array.forIn_toList]
          exact (congrArg (fun r => Result.andThen r fun a w' => Sem.run PP (pure (Value.string a)) w') h3).trans rfl
      · cases h
    · cases h
  · rename_i t A o hs hd
    cases hx with
    | ptr _ _ e he =>
      split at h
      · rename_i k vs u st hz hg
        split at h
        · rename_i hlt
          cases h
          obtain ⟨c, fr, hb, hsz, hc, _⟩ := cells_at hr hg he
          have hlt : o < vs.length := by
            have := Nat.blt_eq ▸ hlt; omega
          obtain ⟨v0, hv0, _⟩ := hc o _ (List.getElem?_eq_getElem hlt)
          have hcs : e.sh + o < c.size := (Array.getElem?_eq_some_iff.1 hv0).1
          have hsh : w.shape? e.blk = some (u, c.size) := by simp [World.shape?, hb]
          have : ¬ c.size ≤ e.sh + o := by omega
          refine ⟨_, ?_, .ptr A o e he⟩
          simp [convert, run_U hs, run_U hd, Conv.unsafePointer, Conv.seenAt, viewAt, hsh, cellsIn, run_SZ hz, this]
        · cases h
      · cases h
  · rename_i u A o hs hd
    cases hx with
    | ptr _ _ e he =>
      split at h
      · rename_i k vs t hz hg
        split at h
        · rename_i z hzz
          split at h
          · rename_i hcond
            cases h
            obtain ⟨c, fr, hb, hsz, hc, hst⟩ := cells_at hr hg he
            obtain ⟨hsh0, rfl⟩ := hst
            simp only [Bool.and_eq_true, beq_iff_eq] at hcond
            obtain ⟨⟨ho, htu⟩, hzl⟩ := hcond
            have htu := beq_eq htu
            have hzl := beq_eq hzl
            subst ho; subst htu
            rw [hz] at hzz; cases hzz
            have hsh : w.shape? e.blk = some (t, c.size) := by simp [World.shape?, hb]
            have hle : vs.length ≤ c.size := by
              have hk : 0 < vs.length := by omega
              obtain ⟨v0, hv0, _⟩ := hc (vs.length - 1) _ (List.getElem?_eq_getElem (by omega))
              have := (Array.getElem?_eq_some_iff.1 hv0).1
              omega
            have hcz : PP.cellsOf t = k + 1 := by
              unfold Program.cellsOf; unfold SZ at hz; rw [INFO_eq] at hz; rw [hz]; rfl
            have hva : (variablesAt ⟨e.blk, e.sh + 0, none⟩ t 1).run PP w = .ok true w := by
              have hdep : ∃ D, PP.depth = D + 1 := ⟨_, rfl⟩
              obtain ⟨D, hD⟩ := hdep
              have hdiv : 1 ≤ c.size / (k + 1) := by
                rw [Nat.le_div_iff_mul_le (by omega)]; omega
              have hsl : sameLayout PP (D + 1) t t = true := by simp [sameLayout]
              simp only [variablesAt, Sem.run_bind, run_program, Result.andThen_ok, run_shape, hsh, Sem.run_pure, hsh0]
              simp only [hD, liesAt, rowAt, hcz, hsl]
              simp [hdiv]
            refine ⟨_, ?_, .ptr A 0 e he⟩
            simp only [Nat.add_zero] at hva ⊢
            simp [convert, run_U hs, run_U hd, Conv.unsafePointer, Conv.seenAt, viewAt, hsh, run_SZ hz, hva]
          · cases h
        · cases h
      · cases h
  · cases h

theorem nilCheckV_ok {σ : Sg} {x v : AV} {o : Oper} {ρ : Operand → Value} {y : Operand} (h : nilCheckV x = some v) (hx : VR σ x (ρ y)) (ho : o.op = .nilCheck y) (w : World) :
    ∃ v', (execOp ρ o).run PP w = .ok (.value v') w ∧ VR σ v v' := by
  unfold nilCheckV at h
  refine ⟨ρ y, ?_, ?_⟩
  · simp only [execOp, ho]
    generalize ρ y = x0 at hx
    split at h <;> first | (cases h; done) | (cases hx <;> simp)
  · split at h <;> first | (cases h; done) | (cases h; exact hx)

end Go.Ev

namespace Go.Ev

theorem arr1 {α : Type} {a : Array α} {x : α} (h : a.toList = [x]) : a = #[x] := Array.toList_inj.1 (by simpa using h)
theorem arr2 {α : Type} {a : Array α} {x y : α} (h : a.toList = [x, y]) : a = #[x, y] := Array.toList_inj.1 (by simpa using h)

theorem LR.one {σ : Sg} {x : AV} {l : List Value} (h : LR σ [x] l) : ∃ v, l = [v] ∧ VR σ x v := by
  cases h with | cons h t => cases t; exact ⟨_, rfl, h⟩
theorem LR.two {σ : Sg} {x y : AV} {l : List Value} (h : LR σ [x, y] l) : ∃ v u, l = [v, u] ∧ VR σ x v ∧ VR σ y u := by
  cases h with | cons h t => cases t with | cons h' t => cases t; exact ⟨_, _, rfl, h, h'⟩

theorem PtR.of {σ : Sg} (ps : List (Nat × Operand)) (ρa : Operand → AV) (ρ : Operand → Value) (h : ∀ p ∈ ps, VR σ (ρa p.2) (ρ p.2)) : PtR σ (ps.map fun p => (p.1, ρa p.2)) (ps.map fun p => (p.1, ρ p.2)) := by
  induction ps with
  | nil => exact .nil
  | cons p ps ih => exact .cons (h p (by simp)) (ih fun q hq => h q (by simp [hq]))

variable [Prg]

theorem lenV_ok {σ : Sg} {W : AW} {w : World} (hr : HR σ W w) {ts : Array TypeId} {ty : TypeId} {x v : AV} {x' : Value} (h : lenV ts[0]? W x = some v) (hx : VR σ x x') :
    ∃ v', (Builtin.len_ ts ty #[x']).run PP w = .ok v' w ∧ VR σ v v' := by
  unfold lenV at h
  cases ht : ts[0]? with
  | none => simp [ht] at h
  | some t =>
    simp only [ht, Option.bind_some] at h
    split at h
    · rename_i l hu
      cases h
      cases hx with
      | str _ s hs =>
        subst hs
        refine ⟨goInt s.size, by simp [Builtin.len_, ht, run_U hu], ?_⟩
        rw [List.length_map, Array.length_toList]; exact .int _ _
    · rename_i n e hu; cases h; exact ⟨_, by simp [Builtin.len_, ht, run_U hu]; rfl, .int _ _⟩
    · rename_i e A o n c hu; cases h; cases hx <;> exact ⟨_, by simp [Builtin.len_, ht, run_U hu]; rfl, .int _ _⟩
    · rename_i e hu; cases h; cases hx; exact ⟨_, by simp [Builtin.len_, ht, run_U hu]; rfl, .int _ _⟩
    · rename_i a b hu; cases h; cases hx; exact ⟨_, by simp [Builtin.len_, ht, run_U hu]; rfl, .int _ _⟩
    · rename_i a b A hu
      split at h
      · rename_i es hg
        cases h
        cases hx with
        | map _ e he =>
          obtain ⟨ms, clock, hb, hp⟩ := map_at hr hg he
          have hl : es.length = ms.size := by
            have : ∀ {es : List (AV × AV)} {l : List MapEntry}, PR σ es l → es.length = l.length := fun h => by induction h <;> simp_all
            simpa using this hp
          refine ⟨goInt ms.size, by simp [Builtin.len_, ht, run_U hu, run_getObj hb (by intro c t f q; cases q)], ?_⟩
          rw [hl]; exact .int _ _
      · cases h
    · cases h

theorem fold_ok {σ : Sg} (f : AV → AV → Option AV) (g : Value → Value → Sem Value) (w : World)
    (hfg : ∀ x y z x' y', f x y = some z → VR σ x x' → VR σ y y' → ∃ z', (g x' y').run PP w = .ok z' w ∧ VR σ z z') :
    ∀ {l : List AV} {l' : List Value}, LR σ l l' → ∀ {x v : AV} {x' : Value}, foldA f x l = some v → VR σ x x' → ∃ v', (l'.foldlM g x').run PP w = .ok v' w ∧ VR σ v v' := by
  intro l l' h
  induction h with
  | nil => intro x v x' h hx; simp [foldA] at h; subst h; exact ⟨x', by simp, hx⟩
  | cons hv _ ih =>
    intro x v x' h hx
    simp only [foldA] at h
    split at h
    · rename_i z hz
      obtain ⟨z', h1, h2⟩ := hfg _ _ _ _ _ hz hx hv
      obtain ⟨v', h3, h4⟩ := ih h h2
      exact ⟨v', by simp [h1, h3], h4⟩
    · cases h

theorem min2A_ok {σ : Sg} (w : World) : ∀ x y z x' y', min2A x y = some z → VR σ x x' → VR σ y y' → ∃ z', (Builtin.min2 x' y').run PP w = .ok z' w ∧ VR σ z z' := by
  intro x y z x' y' h hx hy
  unfold min2A at h
  split at h
  · cases h; cases hx; cases hy; exact ⟨_, rfl, .int _ _⟩
  · cases h
theorem max2A_ok {σ : Sg} (w : World) : ∀ x y z x' y', max2A x y = some z → VR σ x x' → VR σ y y' → ∃ z', (Builtin.max2 x' y').run PP w = .ok z' w ∧ VR σ z z' := by
  intro x y z x' y' h hx hy
  unfold max2A at h
  split at h
  · cases h; cases hx; cases hy; exact ⟨_, rfl, .int _ _⟩
  · cases h

omit [Prg] in
theorem complex_run {ts : Array TypeId} {ty : TypeId} {k : FloatKind} {a b : Nat} : Builtin.complex_ ts ty #[.float k a, .float k b] = pure (.complex k a b) := by
  show (if k = k then _ else _) = _
  rw [if_pos rfl]

theorem slice_data {ts : Array TypeId} {ty : TypeId} {cs : Array Bool} {a : Addr} {n c : Nat} (hc : c ≠ 0) {w : World} : (builtin .unsafeSliceData ts ty cs #[.slice (some a) n c]).run PP w = .ok (.value (.pointer (some a))) w := by
  have : Builtin.unsafeSliceData_ ts ty #[.slice (some a) n c] = pure (.pointer (some a)) := by
    show (if c ≠ 0 then _ else _) = _
    rw [if_pos hc]
  show Sem.run PP (Builtin.unsafeSliceData_ ts ty #[.slice (some a) n c] >>= fun v => pure (Next.value v)) w = _
  rw [this]; rfl

theorem builtinV_ok {σ : Sg} {W : AW} {w : World} (hr : HR σ W w) {b : Builtin} {ts : Array TypeId} {ty : TypeId} {cs : Array Bool} {args : List AV} {args' : Array Value} {v : AV}
    (h : builtinV b ts W args = some v) (ha : LR σ args args'.toList) : ∃ v', (builtin b ts ty cs args').run PP w = .ok (.value v') w ∧ VR σ v v' := by
  unfold builtinV at h
  split at h
  · obtain ⟨x', h1, hx⟩ := ha.one
    obtain rfl := arr1 h1
    obtain ⟨v', h2, h3⟩ := lenV_ok (ty := ty) hr h hx
    exact ⟨v', by simp [builtin, h2], h3⟩
  · obtain ⟨x', h1, hx⟩ := ha.one
    obtain rfl := arr1 h1
    split at h
    · rename_i e hu
      cases h; cases hx
      cases ht : ts[0]? with
      | none => simp [ht] at hu
      | some t =>
        simp only [ht, Option.bind_some] at hu
        exact ⟨goInt 0, by simp [builtin, Builtin.cap_, ht, run_U hu], .int _ _⟩
    · cases h
  · obtain ⟨x', h1, hx⟩ := ha.one
    obtain rfl := arr1 h1
    split at h
    · rename_i e hu
      cases h; cases hx
      cases ht : ts[0]? with
      | none => simp [ht] at hu
      | some t =>
        simp only [ht, Option.bind_some] at hu
        exact ⟨.int .i64 _, by simp [builtin, Builtin.cap_, ht, run_U hu, goInt], .int _ _⟩
    · cases h
  · generalize hl : args'.toList = l at ha
    cases ha with
    | cons hx ht =>
      obtain ⟨v', h1, h2⟩ := fold_ok min2A Builtin.min2 w (min2A_ok w) ht h hx
      exact ⟨v', by simp [builtin, Builtin.min_, hl, h1], h2⟩
  · generalize hl : args'.toList = l at ha
    cases ha with
    | cons hx ht =>
      obtain ⟨v', h1, h2⟩ := fold_ok max2A Builtin.max2 w (max2A_ok w) ht h hx
      exact ⟨v', by simp [builtin, Builtin.max_, hl, h1], h2⟩
  · obtain ⟨x', y', h1, hx, hy⟩ := ha.two
    obtain rfl := arr2 h1
    split at h
    · rename_i hk; subst hk; cases h; cases hx; cases hy
      exact ⟨_, by show Sem.run PP (Builtin.complex_ ts ty _ >>= fun v => pure (Next.value v)) w = _; rw [complex_run]; rfl, .cplx _ _ _⟩
    · cases h
  · obtain ⟨x', h1, hx⟩ := ha.one
    obtain rfl := arr1 h1
    cases h; cases hx
    exact ⟨_, rfl, .float _ _⟩
  · obtain ⟨x', h1, hx⟩ := ha.one
    obtain rfl := arr1 h1
    cases h; cases hx
    exact ⟨_, rfl, .float _ _⟩
  · obtain ⟨x', h1, hx⟩ := ha.one
    obtain rfl := arr1 h1
    cases h; cases hx
    exact ⟨_, rfl, .nilptr⟩
  · obtain ⟨x', h1, hx⟩ := ha.one
    obtain rfl := arr1 h1
    cases h
    cases hx with
    | slk _ _ _ c e he => exact ⟨_, slice_data (by omega), .ptr _ _ e he⟩
  · obtain ⟨x', h1, hx⟩ := ha.one
    obtain rfl := arr1 h1
    cases h
    cases hx with
    | slf _ _ _ z off c e he hl ho hc =>
      rcases ho with rfl | ⟨h0, _⟩
      · exact ⟨_, slice_data (by omega), .ptr _ _ e he⟩
      · omega
  · cases h

theorem mapM_places {fs : List Field} (h : allSZ fs = true) (w : World) : ∃ l : List (Nat × Nat), (fs.mapM (m := Sem) fun f => do pure (f.offset, ← sizeOf f.type)).run PP w = .ok l w ∧ l.length = fs.length ∧
    ∀ (i : Nat) f, fs[i]? = some f → ∃ z, SZ f.type = some z ∧ l[i]? = some (f.offset, z) := by
  induction fs with
  | nil => exact ⟨[], by simp, rfl, fun i f h => by simp at h⟩
  | cons f fs ih =>
    simp only [allSZ, Bool.and_eq_true] at h
    obtain ⟨z, hz⟩ := Option.isSome_iff_exists.1 h.1
    obtain ⟨l, h1, h2, h3⟩ := ih h.2
    refine ⟨(f.offset, z) :: l, by simp only [List.mapM_cons, Sem.run_bind, Sem.run_pure, run_SZ hz, h1, Result.andThen_ok], by simp [h2], fun i g hg => ?_⟩
    cases i with
    | zero => simp at hg; subst hg; exact ⟨z, hz, rfl⟩
    | succ i => simpa using h3 i g (by simpa using hg)

theorem buildV_ok {σ : Sg} {t : TypeId} {ps : List (Nat × AV)} {ps' : Array (Nat × Value)} {v : AV} (h : buildV t ps = some v) (hp : PtR σ ps ps'.toList) (w : World) :
    ∃ v', (Instr.build t ps').run PP w = .ok v' w ∧ VR σ v v' := by
  unfold buildV at h
  split at h
  · rename_i zs hz
    obtain ⟨z', hz1, hz2⟩ := zeroA_ok (σ := σ) hz w
    obtain ⟨zc, rfl, hl⟩ := hz2.agg_inv
    split at h
    · rename_i fs hu
      split at h
      · rename_i hall
        cases hf : fillA (fieldPlaceA fs) zs ps with
        | none => simp [hf] at h
        | some cs =>
          simp [hf] at h; subst h
          obtain ⟨pl, h1, h2, h3⟩ := mapM_places hall w
          have hpl : ∀ i p, fieldPlaceA fs i = some p → (pl.toArray)[i]? = some p := by
            intro i p hi
            unfold fieldPlaceA at hi
            cases hfi : fs[i]? with
            | none => simp [hfi] at hi
            | some f =>
              simp only [hfi] at hi
              obtain ⟨z, hz, hpi⟩ := h3 i f (by simpa using hfi)
              simp [hz] at hi
              simp [hpi, hi]
          obtain ⟨c', h4, h5⟩ := fillA_ok hpl hp hf hl
          refine ⟨.agg c', ?_, VR.agg_LR h5⟩
          have hm : (fs.mapM (m := Sem) fun f => do pure (f.offset, ← sizeOf f.type)).run PP w = .ok pl.toArray w := by
            rw [Array.mapM_eq_mapM_toList, Sem.run_map, h1]; rfl
          simp only [Instr.build, Sem.run_bind, hz1, Result.andThen_ok, run_U hu, hm, Value.cells]
          rw [h4]; rfl
      · cases h
    · rename_i n elem hu
      cases hz : SZ elem with
      | none => simp [hz] at h
      | some z =>
        simp only [hz] at h
        cases hf : fillA (fun i => some (i * z, z)) zs ps with
        | none => simp [hf] at h
        | some cs =>
          simp [hf] at h; subst h
          obtain ⟨c', h4, h5⟩ := fillA_ok (place' := fun i => some (i * z, z)) (fun _ _ h => h) hp hf hl
          refine ⟨.agg c', ?_, VR.agg_LR h5⟩
          simp only [Instr.build, Sem.run_bind, hz1, Result.andThen_ok, run_U hu, run_SZ hz, Value.cells]
          rw [h4]; rfl
    · cases h
  · cases h

end Go.Ev

namespace Go.Ev
theorem LR.args {σ : Sg} {ρa : Operand → AV} {ρ : Operand → Value} (a : Array Operand) (h : ∀ x ∈ a.toList, VR σ (ρa x) (ρ x)) : LR σ (a.toList.map ρa) (a.map ρ).toList := by
  rw [Array.toList_map]; exact LR.map_of _ _ _ h

theorem ORx.of {σ : Sg} {ρa : Operand → AV} {ρ : Operand → Value} (x : Option Operand) (h : ∀ y, x = Option.some y → VR σ (ρa y) (ρ y)) : ORx σ (x.map ρa) (x.map ρ) := by
  cases x with
  | none => exact .none
  | some y => exact .some (h y rfl)

variable [Prg]

theorem run_v {s : Sem Value} {v : Value} {w w' : World} (h : s.run PP w = .ok v w') : (do pure (Next.value (← s)) : Sem Next).run PP w = .ok (.value v) w' := by
  rw [Sem.run_bind, h]; rfl

theorem valF_ok {σ : Sg} {W : AW} {w : World} (hr : HR σ W w) {o : Oper} {ρa : Operand → AV} {ρ : Operand → Value} (hρ : ∀ x ∈ o.op.operands.toList, VR σ (ρa x) (ρ x)) {v : AV}
    (h : valF o.op ρa W = some v) : ∃ v', (execOp ρ o).run PP w = .ok (.value v') w ∧ VR σ v v' := by
  obtain ⟨dst, op, ty, pos, after, guard⟩ := o
  simp only at hρ h
  cases op <;> simp only [valF] at h <;> try cases h
  case move x => exact ⟨ρ x, rfl, hρ x (by simp [Op.operands])⟩
  case assign x => exact ⟨ρ x, rfl, hρ x (by simp [Op.operands])⟩
  case pick c a b =>
    have hc := hρ c (by simp [Op.operands])
    have ha := hρ a (by simp [Op.operands])
    have hb := hρ b (by simp [Op.operands])
    split at h
    · rename_i hce; rw [hce] at hc; cases h
      refine ⟨ρ a, ?_, ha⟩
      cases hcv : ρ c <;> rw [hcv] at hc <;> cases hc
      simp [execOp, hcv, asBool]
    · rename_i hce; rw [hce] at hc; cases h
      refine ⟨ρ b, ?_, hb⟩
      cases hcv : ρ c <;> rw [hcv] at hc <;> cases hc
      simp [execOp, hcv, asBool]
    · cases h
  case load t a =>
    obtain ⟨v', h1, h2⟩ := loadV_ok hr h (hρ a (by simp [Op.operands]))
    exact ⟨v', run_v h1, h2⟩
  case nilCheck x => exact nilCheckV_ok h (hρ x (by simp [Op.operands])) rfl w
  case binOp op t x y yt =>
    obtain ⟨v', h1, h2⟩ := binA_ok hr h (hρ x (by simp [Op.operands])) (hρ y (by simp [Op.operands]))
    exact ⟨v', run_v h1, h2⟩
  case unOp op t x =>
    obtain ⟨v', h1, h2⟩ := unA_ok h (hρ x (by simp [Op.operands])) w
    exact ⟨v', run_v h1, h2⟩
  case convert src dst' x =>
    obtain ⟨v', h1, h2⟩ := convV_ok hr h (hρ x (by simp [Op.operands]))
    exact ⟨v', run_v h1, h2⟩
  case makeInterface t x =>
    have hx := hρ x (by simp [Op.operands])
    split at h
    · cases h
    · rename_i d hni hu
      cases h
      refine ⟨.iface t (ρ x), ?_, .iface _ _ _ hx⟩
      refine run_v ?_
      cases d <;> first | exact absurd rfl (hni _) | simp [Instr.makeInterface, run_U hu]
    · cases h
  case makeFunc fn first captured =>
    unfold makeFuncV at h
    split at h
    · cases h
      refine ⟨_, rfl, VR.func_LR (LR.args first fun x hx => hρ x ?_) (LR.args captured fun x hx => hρ x ?_)⟩
      · simp only [Op.operands, Array.toList_append]; exact List.mem_append_left _ hx
      · simp only [Op.operands, Array.toList_append]; exact List.mem_append_right _ hx
    · cases h
  case build t parts =>
    have hp : PtR σ (parts.toList.map fun p => (p.1, ρa p.2)) (parts.map fun (i, x) => (i, ρ x)).toList := by
      rw [Array.toList_map]
      exact PtR.of _ _ _ fun p hp => hρ p.2 (by simp only [Op.operands]; simp; exact ⟨p.1, by simpa using hp⟩)
    obtain ⟨v', h1, h2⟩ := buildV_ok h hp w
    exact ⟨v', run_v h1, h2⟩
  case slice t x lo hi mx =>
    have hm : ∀ y, (y = x ∨ lo = some y ∨ hi = some y ∨ mx = some y) → VR σ (ρa y) (ρ y) := fun y hy => hρ y (by
      simp only [Op.operands]
      rcases hy with rfl | rfl | rfl | rfl <;> simp)
    obtain ⟨v', h1, h2⟩ := sliceV_ok h (hm x (.inl rfl)) (ORx.of lo fun y hy => hm y (.inr (.inl hy))) (ORx.of hi fun y hy => hm y (.inr (.inr (.inl hy)))) (ORx.of mx fun y hy => hm y (.inr (.inr (.inr hy)))) w
    exact ⟨v', run_v h1, h2⟩
  case fieldAddr s x f =>
    have hx := hρ x (by simp [Op.operands])
    split at h
    · rename_i A o hxe
      rw [hxe] at hx
      cases hz : fieldOff s f with
      | none => simp [hz] at h
      | some z =>
        simp [hz] at h; subst h
        generalize hq : ρ x = q at hx
        cases hx with
        | ptr _ _ e he =>
          obtain ⟨v', h1, h2⟩ := fieldAddr_ok (σ := σ) (o := o) hz he w
          exact ⟨v', by refine run_v (s := Instr.fieldAt s (ρ x) f) ?_; rw [hq]; exact h1, h2⟩
    · cases h
  case field t x f =>
    obtain ⟨v', h1, h2⟩ := fieldV_ok h (hρ x (by simp [Op.operands])) w
    exact ⟨v', run_v h1, h2⟩
  case indexAddr t x i =>
    obtain ⟨v', h1, h2⟩ := indexAddrV_ok h (hρ x (by simp [Op.operands])) (hρ i (by simp [Op.operands])) w
    exact ⟨v', run_v h1, h2⟩
  case index t x i =>
    obtain ⟨v', h1, h2⟩ := indexV_ok h (hρ x (by simp [Op.operands])) (hρ i (by simp [Op.operands])) w
    exact ⟨v', run_v h1, h2⟩
  case lookup t x i ok =>
    obtain ⟨v', h1, h2⟩ := lookupV_ok hr h (hρ x (by simp [Op.operands])) (hρ i (by simp [Op.operands]))
    exact ⟨v', run_v h1, h2⟩
  case typeAssert x xt a ok =>
    obtain ⟨v', h1, h2⟩ := typeAssertV_ok (xt := xt) h (hρ x (by simp [Op.operands])) w
    exact ⟨v', run_v h1, h2⟩
  case extract x i =>
    obtain ⟨v', h1, h2⟩ := extractV_ok h (hρ x (by simp [Op.operands])) w
    exact ⟨v', run_v h1, h2⟩
  case call c =>
    obtain ⟨callee, args, argTypes⟩ := c
    cases callee <;> simp only at h <;> try cases h
    rename_i b
    have ha : LR σ (args.toList.map ρa) (args.map ρ).toList := LR.args args fun x hx => hρ x (by
      simp only [Op.operands, Call.operands, Array.toList_append]; exact List.mem_append_right _ hx)
    obtain ⟨v', h1, h2⟩ := builtinV_ok (ty := ty) (cs := args.map fun | .const _ => true | _ => false) hr h ha
    refine ⟨v', ?_, h2⟩
    simp only [execOp, resolve, pure_bind, invoke]
    exact h1

end Go.Ev

namespace Go.Ev

theorem wrap_small {n : Int} (h0 : 0 ≤ n) (h1 : n < 1000000) : IntKind.i64.wrap n = n := by
  show (if (true && decide (n % (2 ^ 64 : Int) ≥ (2 ^ 63 : Int))) = true then n % (2 ^ 64 : Int) - (2 ^ 64 : Int) else n % (2 ^ 64 : Int)) = n
  have h2 : n % (2 ^ 64 : Int) = n := Int.emod_eq_of_lt h0 (by omega)
  rw [h2, if_neg]
  simp; omega

theorem repl_length (n : Nat) (zs : List AV) : (repl n zs).length = n * zs.length := by
  induction n with
  | zero => simp [repl]
  | succ n ih => simp [repl, ih, Nat.succ_mul]; omega

theorem repl_get (zs : List AV) : ∀ (n i : Nat), i < n * zs.length → (repl n zs)[i]? = zs[i % zs.length]?
  | 0, i, h => by simp at h
  | n + 1, i, h => by
    rw [repl]
    by_cases hi : i < zs.length
    · rw [List.getElem?_append_left hi, Nat.mod_eq_of_lt hi]
    · rw [List.getElem?_append_right (by omega), repl_get zs n _ (by rw [Nat.succ_mul] at h; omega)]
      rw [Nat.mod_eq_sub_mod (by omega : i ≥ zs.length)]

theorem repl_LR {σ : Sg} {zs : List AV} {zc : Array Value} (h : LR σ zs zc.toList) (n : Nat) : LR σ (repl n zs) ((Array.range (n * zs.length)).map fun i => zc[i % zc.size]!).toList := by
  have hl : zs.length = zc.size := by simpa using h.length
  refine LR.of_get (by rw [repl_length]; simp) fun i x v hx hv => ?_
  have hi : i < n * zs.length := by rw [← repl_length]; exact (List.getElem?_eq_some_iff.1 hx).1
  rw [repl_get zs n i hi] at hx
  obtain ⟨u, hu, r⟩ := h.get _ x hx
  have hv' : v = zc[i % zc.size]! := by
    have : ((Array.range (n * zs.length)).map fun i => zc[i % zc.size]!)[i]? = some (zc[i % zc.size]!) := by
      rw [Array.getElem?_map, Array.getElem?_range, if_pos hi]; rfl
    rw [Array.getElem?_toList, this] at hv; cases hv; rfl
  rw [hl] at hu
  have hu' : zc[i % zc.size]? = some u := by simpa using hu
  rw [hv', getElem!_def, hu']; exact r

/-- what lies in a block laid now -/
theorem CellsR.of_LR {σ : Sg} {vs : List AV} {c : Array Value} (h : LR σ vs c.toList) : CellsR σ vs c 0 := fun i x hx => by
  obtain ⟨v, h1, h2⟩ := h.get i x hx
  exact ⟨v, by simpa using h1, h2⟩

/-- what a new object is owed -/
structure NewOk (σ : Sg) (ob : AO) (mk : Nat → AV) (w w' : World) (v' : Value) : Prop where
  cap : ∃ cap, ∀ A σ', Le σ σ' → σ' A = some ⟨w.heap.size, 0, cap⟩ → ObjR σ' ob ⟨w.heap.size, 0, cap⟩ w' ∧ VR σ' (mk A) v'
  size : w'.heap.size = w.heap.size + 1
  old : ∀ b, b < w.heap.size → w'.heap[b]? = w.heap[b]?
  os : w'.os = w.os
  tape : w'.tape = w.tape
  output : w'.output = w.output

/-- a row of cells -/
theorem NewOk.row {σ : Sg} {vs : List AV} {c : Array Value} (h : LR σ vs c.toList) (t : TypeId) (mk : Nat → AV) (w : World) (v' : Value)
    (hv : ∀ A σ', Le σ σ' → σ' A = some ⟨w.heap.size, 0, c.size⟩ → VR σ' (mk A) v') : NewOk σ (.cells vs t .clean) mk w { w with heap := w.heap.push (.cells c t) } v' := by
  refine ⟨⟨c.size, fun A σ' hle hA => ⟨⟨c, (0, 0), ?_, ?_, CellsR.of_LR (h.mono hle), rfl, rfl⟩, hv A σ' hle hA⟩⟩, by simp, ?_, rfl, rfl, rfl⟩
  · simp
  · simp
  · intro b hb; simp only [Array.getElem?_push]; rw [if_neg (by omega)]

def strCells (s : ByteArray) (cap : Nat) : Array Value := s.data.map (fun (b : UInt8) => Value.int .u8 b.toNat) ++ Array.replicate (cap - s.size) (.int .u8 0)

/-- the world behind a string's bytes in a new block -/
def strWorld (e : TypeId) (s : ByteArray) (cap : Nat) (w : World) : World :=
  ({ w with heap := w.heap.push (.cells (strCells s cap) e), drawn := w.drawn + 1 }).freeze ⟨w.heap.size, cap, none⟩ 1

theorem byteCells {σ : Sg} (s : ByteArray) : LR σ (cellsOfBytes (s.data.toList.map (·.toNat))) (s.data.map (fun (b : UInt8) => Value.int .u8 b.toNat)).toList := by
  rw [Array.toList_map, cellsOfBytes, List.map_map]
  exact LR.map_of _ _ _ fun b _ => .int _ _

theorem str_new {σ : Sg} (e : TypeId) (s : ByteArray) {cap : Nat} (hcap : s.size ≤ cap) (w : World) :
    NewOk σ (.cells (cellsOfBytes (s.data.toList.map (·.toNat))) e .strish) (fun A => .slice A 0 (s.data.toList.map (·.toNat)).length (.free 1)) w (strWorld e s cap w) (.slice (some ⟨w.heap.size, 0, none⟩) s.size cap) := by
  have hsz : s.data.size = s.size := rfl
  have hc : (strCells s cap).size = cap := by simp [strCells]; omega
  have hheap : (strWorld e s cap w).heap = (w.heap.push (.cells (strCells s cap) e)).modify w.heap.size (fun
      | .cells c elem (lo, hi) => .cells c elem (if lo == hi then (cap, cap + 1) else (min lo cap, max hi (cap + 1)))
      | o => o) := by
    rfl
  have hlen : (s.data.toList.map (·.toNat)).length = s.size := by simp [hsz]
  refine ⟨⟨cap, fun A σ' hle hA => ⟨⟨strCells s cap, (cap, cap + 1), ?_, ?_, ?_, ?_⟩, ?_⟩⟩, ?_, ?_, ?_, ?_, ?_⟩
  · rw [hheap, Array.getElem?_modify]; simp
  · rw [hc]; simp
  · intro i x hx
    obtain ⟨v, h1, h2⟩ := (byteCells (σ := σ') s).get i x hx
    have hi : i < s.size := by
      have := (List.getElem?_eq_some_iff.1 h1).1
      simp at this; omega
    refine ⟨v, ?_, h2⟩
    simp only [Nat.zero_add, strCells]
    rw [Array.getElem?_append_left (by simp; omega)]
    simpa using h1
  · refine ⟨by simp, fun i hi hx => ?_⟩
    rw [hc] at hi; simp at hx; omega
  · rw [hlen]; exact .slf A 0 s.size 1 0 cap _ hA hcap (.inl rfl) (by simp)
  · rw [hheap]; simp
  · intro b hb
    rw [hheap, Array.getElem?_modify, if_neg (by omega), Array.getElem?_push, if_neg (by omega)]
  · simp [strWorld, World.freeze]
  · simp [strWorld, World.freeze]
  · simp [strWorld, World.freeze]

theorem isUnk_of {x : AV} (h : ¬ x.isUnk = true) : x ≠ .unk := by rintro rfl; exact h rfl

variable [Prg]

theorem run_newRow (t : TypeId) (c : Array Value) (w : World) : (newRow t c).run PP w = .ok ⟨w.heap.size, 0, none⟩ { w with heap := w.heap.push (.cells c t) } := by
  simp [newRow]

theorem run_stringToBytes (e : TypeId) (s : ByteArray) (w : World) : ∃ cap, s.size ≤ cap ∧ (Conv.stringToBytes e s).run PP w = .ok (.slice (some ⟨w.heap.size, 0, none⟩) s.size cap) (strWorld e s cap w) := by
  refine ⟨Question.cut (.appendCap s.size 0 e) (w.tape w.drawn (.appendCap s.size 0 e)), Nat.le_add_right _ _, ?_⟩
  generalize hcap : Question.cut (.appendCap s.size 0 e) (w.tape w.drawn (.appendCap s.size 0 e)) = cap
  have hle : s.size ≤ cap := by rw [← hcap]; exact Nat.le_add_right _ _
  have hc : (strCells s cap).size = cap := by
    have : s.data.size = s.size := rfl
    simp [strCells]; omega
  have hch : (choose (.appendCap s.size 0 e)).run PP w = .ok cap { w with drawn := w.drawn + 1 } := by
    rw [run_choose, hcap]; rfl
  simp only [Conv.stringToBytes, Sem.run_bind, hch, Result.andThen_ok, run_newRow, markStringish, run_shape]
  have hsh : ({ w with drawn := w.drawn + 1, heap := w.heap.push (.cells (strCells s cap) e) } : World).shape? w.heap.size = some (e, cap) := by
    simp [World.shape?, hc]
  rw [show s.data.map (fun (b : UInt8) => Value.int .u8 b.toNat) ++ Array.replicate (cap - s.size) (Value.int .u8 0) = strCells s cap from rfl, hsh]
  rfl

theorem small_bytes {t : TypeId} (h : smallBytes t = true) : ∃ i, PP.info? t = some i ∧ i.bytes ≤ 1000000 := by
  unfold smallBytes at h
  rw [INFO_eq] at h
  split at h
  · rename_i i hi; exact ⟨i, hi, Nat.le_of_ble_eq_true h⟩
  · cases h

theorem alloc_ok {σ : Sg} {w : World} {o : Oper} {ρa : Operand → AV} {ρ : Operand → Value} (hρ : ∀ x ∈ o.op.operands.toList, VR σ (ρa x) (ρ x)) {ob : AO} {mk : Nat → AV}
    (h : allocF o.op ρa = some (ob, mk)) : ∃ v' w', (execOp ρ o).run PP w = .ok (.value v') w' ∧ NewOk σ ob mk w w' v' := by
  obtain ⟨dst, op, ty, pos, after, guard⟩ := o
  simp only at hρ h
  cases op <;> simp only [allocF] at h <;> try cases h
  case alloc elem =>
    cases hz : zeroA elem with
    | none => simp [hz] at h
    | some z =>
      simp only [hz] at h
      split at h
      · cases h
      · rename_i hu
        cases h
        obtain ⟨z', h1, h2⟩ := zeroA_ok (σ := σ) hz w
        have hc := h2.cells (isUnk_of hu)
        refine ⟨.pointer (some ⟨w.heap.size, 0, none⟩), _, run_v ?_, NewOk.row hc elem _ w _ fun A σ' _ hA => ?_⟩
        · simp [Instr.alloc, h1, newVar, run_newRow]
        · have := VR.ptr (σ := σ') A 0 _ hA
          exact this
  case box elem x =>
    split at h
    · cases h
    · rename_i hu
      cases h
      have hc := (hρ x (by simp [Op.operands])).cells (isUnk_of hu)
      refine ⟨.pointer (some ⟨w.heap.size, 0, none⟩), _, run_v ?_, NewOk.row hc elem _ w _ fun A σ' _ hA => ?_⟩
      · simp [Instr.box, newVar, run_newRow]
      · have := VR.ptr (σ := σ') A 0 _ hA
        exact this
  case buildSlice t len parts =>
    split at h
    · rename_i elem hu
      split at h
      · rename_i z zero hz hzero
        split at h
        · cases h
        · rename_i hunk
          split at h
          · rename_i hcond
            rw [Bool.and_eq_true] at hcond
            have hle := Nat.le_of_ble_eq_true hcond.1
            have hzl := beq_eq hcond.2
            cases hf : fillA (fun i => some (i * z, z)) (repl len zero.cells) (parts.toList.map fun p => (p.1, ρa p.2)) with
            | none => simp [hf] at h
            | some cs =>
              simp [hf] at h
              obtain ⟨rfl, rfl⟩ := h
              obtain ⟨z', h1, h2⟩ := zeroA_ok (σ := σ) hzero w
              have hc := h2.cells (isUnk_of hunk)
              have hcl : zero.cells.length = z'.cells.size := by simpa using hc.length
              have hp : PtR σ (parts.toList.map fun p => (p.1, ρa p.2)) (parts.map fun (i, x) => (i, ρ x)).toList := by
                rw [Array.toList_map]
                exact PtR.of _ _ _ fun p hp => hρ p.2 (by simp only [Op.operands]; simp; exact ⟨p.1, by simpa using hp⟩)
              -- the cells that are filled
              have key : ∃ c : Array Value, c = (if len * z = 0 then #[] else z'.cells) ∧
                  LR σ (repl len zero.cells) ((Array.range (len * z)).map fun i => c[i % c.size]!).toList := by
                by_cases h0 : len * z = 0
                · refine ⟨#[], by simp [h0], ?_⟩
                  have : repl len zero.cells = [] := List.eq_nil_of_length_eq_zero (by rw [repl_length, hzl]; exact h0)
                  rw [this, h0]; simp; exact .nil
                · refine ⟨z'.cells, by simp [h0], ?_⟩
                  have := repl_LR hc len
                  rw [hzl] at this; exact this
              obtain ⟨c, k1, k2⟩ := key
              obtain ⟨c', k3, k4⟩ := fillA_ok (place' := fun i => some (i * z, z)) (fun _ _ h => h) hp hf k2
              have hlim : ¬ len * z > 2 ^ 24 := by omega
              have hcs : c'.size = len * z := by
                have e1 := k4.length
                have : ∀ {ps : List (Nat × AV)} {cs cs' : List AV}, fillA (fun i => some (i * z, z)) cs ps = some cs' → cs'.length = cs.length := by
                  intro ps
                  induction ps with
                  | nil => intro cs cs' h; simp [fillA] at h; rw [h]
                  | cons p ps ih =>
                    intro cs cs' h
                    obtain ⟨i, x⟩ := p
                    simp only [fillA] at h
                    split at h
                    · cases h
                    · split at h
                      · split at h
                        · rename_i cs1 hp1; rw [ih h]; exact (putCells_len hp1).1
                        · cases h
                      · cases h
                have e2 := this hf
                rw [repl_length, hzl] at e2
                simp at e1; omega
              refine ⟨.slice (some ⟨w.heap.size, 0, none⟩) len len, _, run_v ?_, NewOk.row k4 elem _ w _ fun A σ' _ hA => ?_⟩
              · simp only [Instr.buildSlice, Sem.run_bind, run_U hu, run_SZ hz, Result.andThen_ok, if_neg hlim]
                by_cases h0 : len * z = 0
                · rw [if_pos h0] at k1
                  subst k1
                  simp only [if_pos h0, Sem.run_bind, Sem.run_pure, Result.andThen_ok]
                  rw [k3]
                  simp [run_newRow]
                · rw [if_neg h0] at k1
                  subst k1
                  simp only [if_neg h0, Sem.run_bind, Sem.run_pure, Result.andThen_ok, h1]
                  rw [k3]
                  simp [run_newRow]
              · exact VR.slk (σ := σ') A 0 len len _ hA
          · cases h
      · cases h
    · cases h
  case makeMap t r =>
    cases r with
    | some r => cases h
    | none =>
      cases h
      refine ⟨.map (some w.heap.size), { w with heap := w.heap.push (.map #[] 0) }, by refine run_v ?_; simp [Instr.makeMap], ⟨⟨0, fun A σ' _ hA => ⟨⟨#[], 0, by simp, .nil⟩, .map A _ hA⟩⟩, by simp, ?_, rfl, rfl, rfl⟩⟩
      intro b hb; simp only [Array.getElem?_push]; rw [if_neg (by omega)]
  case makeSlice t l c =>
    split at h
    · rename_i elem _ l0 _ c0 hu hl hc
      have hl' := hρ l (by simp [Op.operands])
      have hc' := hρ c (by simp [Op.operands])
      rw [hl] at hl'; rw [hc] at hc'
      split at h
      · rename_i z zero hz hzero
        split at h
        · cases h
        · rename_i hunk
          split at h
          · rename_i hcond
            split at h
            · rename_i hzl
              cases h
              have hzl := beq_eq hzl
              obtain ⟨i, hi, hib⟩ := small_bytes hcond.2.2.2
              obtain ⟨z', h1, h2⟩ := zeroA_ok (σ := σ) hzero w
              have hcells := h2.cells (isUnk_of hunk)
              cases hlv : ρ l <;> rw [hlv] at hl' <;> cases hl'
              cases hcv : ρ c <;> rw [hcv] at hc' <;> cases hc'
              have w1 : IntKind.i64.wrap l0 = l0 := wrap_small (by omega) (by omega)
              have w2 : IntKind.i64.wrap c0 = c0 := wrap_small (by omega) (by omega)
              have hbc : (i.bytes : Int) * c0 ≤ 1000000 * 1000000 := by
                refine Int.mul_le_mul (by omega) (by omega) (by omega) (by omega)
              have key : ∃ d : Array Value, d = (if c0.toNat * z = 0 then #[] else z'.cells) ∧
                  LR σ (repl c0.toNat zero.cells) ((Array.range (c0.toNat * z)).map fun i => d[i % d.size]!).toList := by
                by_cases h0 : c0.toNat * z = 0
                · refine ⟨#[], by simp [h0], ?_⟩
                  have : repl c0.toNat zero.cells = [] := List.eq_nil_of_length_eq_zero (by rw [repl_length, hzl]; exact h0)
                  rw [this, h0]; simp; exact .nil
                · refine ⟨z'.cells, by simp [h0], ?_⟩
                  have := repl_LR hcells c0.toNat
                  rw [hzl] at this; exact this
              obtain ⟨d, k1, k2⟩ := key
              refine ⟨.slice (some ⟨w.heap.size, 0, none⟩) l0.toNat c0.toNat, _, run_v ?_, NewOk.row k2 elem _ w _ fun A σ' _ hA => ?_⟩
              · have t1 : ((decide (c0 < 0) || decide ((i.bytes : Int) * c0 > 2 ^ 48)) || decide (l0 < 0) || decide (l0 > c0)) = false := by
                  have e1 : decide (c0 < 0) = false := by simp; omega
                  have e2 : decide ((i.bytes : Int) * c0 > 2 ^ 48) = false := by simp; omega
                  have e3 : decide (l0 < 0) = false := by simp; omega
                  have e4 : decide (l0 > c0) = false := by simp; omega
                  rw [e1, e2, e3, e4]; rfl
                simp only [Instr.makeSlice, Sem.run_bind, run_U hu, Result.andThen_ok, asInt, asIntOf, hlv, hcv, Sem.run_pure, typeInfo, run_program, hi, w1, w2, t1, Bool.false_eq_true, if_false, run_askRoom, run_SZ hz]
                by_cases h0 : c0.toNat * z = 0
                · rw [if_pos h0] at k1
                  subst k1
                  simp only [if_pos h0, Sem.run_bind, Sem.run_pure, Result.andThen_ok]
                  simp [run_newRow]
                · rw [if_neg h0] at k1
                  subst k1
                  simp only [if_neg h0, Sem.run_bind, Sem.run_pure, Result.andThen_ok, h1]
                  simp [run_newRow]
              · exact VR.slk (σ := σ') A 0 _ _ _ hA
            · cases h
          · cases h
      · cases h
    · cases h
  case convert src dst' x =>
    split at h
    · rename_i e l hs hd hx
      have hx' := hρ x (by simp [Op.operands])
      rw [hx] at hx'
      split at h
      · rename_i hu
        cases h
        cases hxv : ρ x <;> rw [hxv] at hx' <;> cases hx'
        rename_i s hs'
        subst hs'
        obtain ⟨cap, hcap, hrun⟩ := run_stringToBytes e s w
        refine ⟨_, _, run_v (s := convert src dst' (ρ x)) ?_, str_new e s hcap w⟩
        rw [hxv]
        simp only [convert, run_U hs, run_U hd, run_U hu, Sem.run_bind, Result.andThen_ok]
        exact hrun
      · cases h
    · cases h

end Go.Ev

namespace Go.Ev

/-- a block has turned, and nothing else -/
structure Turned (w w' : World) (b : Nat) (ob : Obj) : Prop where
  at_ : w'.heap[b]? = some ob
  off : ∀ k, k ≠ b → w'.heap[k]? = w.heap[k]?
  size : w'.heap.size = w.heap.size
  os : w'.os = w.os
  tape : w'.tape = w.tape
  output : w'.output = w.output

theorem Turned.of_set {w : World} {b : Nat} {ob : Obj} (h : b < w.heap.size) : Turned w { w with heap := w.heap.setIfInBounds b ob } b ob :=
  ⟨by simp [Array.getElem?_setIfInBounds_self_of_lt h], fun k hk => by simp [Array.getElem?_setIfInBounds_ne (Ne.symm hk)], by simp, rfl, rfl, rfl⟩

theorem turned_setCell {w : World} {b o : Nat} {c : Array Value} {t : TypeId} {fr : Nat × Nat} (h : w.heap[b]? = some (.cells c t fr)) (v : Value) :
    Turned w (w.setCell ⟨b, o, none⟩ v) b (.cells (c.setIfInBounds o v) t fr) := by
  refine ⟨?_, fun k hk => ?_, by simp [World.setCell], rfl, rfl, rfl⟩
  · simp only [World.setCell, Array.getElem?_modify, if_true, h]; rfl
  · simp only [World.setCell, Array.getElem?_modify]; rw [if_neg (Ne.symm hk)]

theorem Turned.trans {w w1 w2 : World} {b : Nat} {o1 o2 : Obj} (h : Turned w w1 b o1) (g : Turned w1 w2 b o2) : Turned w w2 b o2 :=
  ⟨g.at_, fun k hk => (g.off k hk).trans (h.off k hk), g.size.trans h.size, g.os.trans h.os, g.tape.trans h.tape, g.output.trans h.output⟩

theorem turned_ok {σ : Sg} {W : AW} {w w' : World} (hr : HR σ W w) {A : Nat} {o o' : AO} {e : En} {ob : Obj} (hA : W.get A = some o) (he : σ A = some e) (hro : o.ro = false)
    (ht : Turned w w' e.blk ob) (ho : ObjR σ o' e w') : Ext σ σ W (W.set A o') w w' ∧ HR σ (W.set A o') w' :=
  set_ok hr hA he hro ht.size (fun b hb => ht.off b hb) ho ht.os ht.tape ht.output

theorem wr_ro {vs : List AV} {t : TypeId} {st : St} (h : st.wr = true) : (AO.cells vs t st).ro = false := by
  cases st <;> first | rfl | simp [St.wr] at h

/-- no cell of a block that may be written is frozen -/
theorem wr_free {st : St} {e : En} {fr : Nat × Nat} {n : Nat} (h : st.wr = true) (hs : StR st e fr n) : ∀ i, i < n → ¬ (fr.1 ≤ i ∧ i < fr.2) := by
  cases st with
  | clean => obtain ⟨_, rfl⟩ := hs; intro i _; simp
  | strish => exact hs.2
  | frozen => simp [St.wr] at h
  | ro => simp [St.wr] at h

theorem wr_le {st : St} {e : En} {fr : Nat × Nat} {n : Nat} (h : st.wr = true) (hs : StR st e fr n) : fr.1 ≤ fr.2 := by
  cases st with
  | clean => obtain ⟨_, rfl⟩ := hs; simp
  | strish => exact hs.1
  | frozen => simp [St.wr] at h
  | ro => simp [St.wr] at h

theorem StR.size {st : St} {e e' : En} {fr : Nat × Nat} {n : Nat} (h : StR st e fr n) (hs : e'.sh = e.sh) : StR st e' fr n := by
  cases st with
  | clean => exact ⟨hs.trans h.1, h.2⟩
  | _ => exact h

theorem LR.ones {σ : Sg} {xs : List AV} {vs : List Value} (h : LR σ xs vs) (h1 : xs.all AV.one = true) : ∀ v ∈ vs, v.oneCell' = true := by
  induction h with
  | nil => intro v hv; simp at hv
  | cons hv _ ih =>
    simp at h1
    intro v hvv
    rcases List.mem_cons.1 hvv with rfl | hvv
    · exact hv.one h1.1
    · exact ih (by simpa using h1.2) v hvv

theorem PR.upd {σ : Sg} {k v : AV} {k' v' : Value} (hk : VR σ k k') (hv : VR σ v v') : ∀ {es : List (AV × AV)} {ms : List MapEntry}, PR σ es ms → ∀ (i : Nat), PR σ (updEntry es i k v) (ms.modify i fun e => { e with key := k', val := v' }) := by
  intro es ms h
  induction h with
  | nil => intro i; cases i <;> exact .nil
  | cons hk0 hv0 t ih =>
    intro i
    cases i with
    | zero => exact .cons hk hv t
    | succ i => exact .cons hk0 hv0 (ih i)

theorem PR.append {σ : Sg} {es : List (AV × AV)} {ms : List MapEntry} (h : PR σ es ms) {k v : AV} {m : MapEntry} (hk : VR σ k m.key) (hv : VR σ v m.val) : PR σ (es ++ [(k, v)]) (ms ++ [m]) := by
  induction h with
  | nil => exact .cons hk hv .nil
  | cons a b _ ih => exact .cons a b ih

theorem PR.erase {σ : Sg} {es : List (AV × AV)} {ms : List MapEntry} (h : PR σ es ms) : ∀ (i : Nat), PR σ (es.eraseIdx i) (ms.eraseIdx i) := by
  induction h with
  | nil => intro i; exact .nil
  | cons a b t ih =>
    intro i
    cases i with
    | zero => exact t
    | succ i => exact .cons a b (ih i)

theorem PR.get {σ : Sg} {es : List (AV × AV)} {ms : List MapEntry} (h : PR σ es ms) : ∀ (i : Nat) e m, es[i]? = some e → ms[i]? = some m → VR σ e.1 m.key ∧ VR σ e.2 m.val := by
  induction h with
  | nil => intro i e m h; simp at h
  | cons a b _ ih =>
    intro i e m h1 h2
    cases i with
    | zero => simp at h1 h2; subst h1; subst h2; exact ⟨a, b⟩
    | succ i => exact ih i e m (by simpa using h1) (by simpa using h2)

variable [Prg]

theorem run_storeCells_spl {b o : Nat} {t : TypeId} {fr : Nat × Nat} : ∀ (vs : List Value) (i : Nat) (w : World) (c : Array Value), w.heap[b]? = some (.cells c t fr) → (∀ k, k < c.size → ¬ (fr.1 ≤ k ∧ k < fr.2)) →
    o + i + vs.length ≤ c.size → (∀ v ∈ vs, v.oneCell' = true) → b < w.heap.size →
    ∃ w', (storeCells ⟨b, o, none⟩ vs i).run PP w = .ok () w' ∧ Turned w w' b (.cells (spl c (o + i) vs) t fr)
  | [], i, w, c, h, _, _, _, hb => ⟨w, by simp [storeCells], ⟨h, fun _ _ => rfl, rfl, rfl, rfl, rfl⟩⟩
  | v :: vs, i, w, c, h, hf, hl, h1, hb => by
    have hlt : o + i < c.size := by simp at hl; omega
    have hcell : w.cell? ⟨b, o + i, none⟩ = some c[o + i] := by rw [cell_of h, Array.getElem?_eq_getElem hlt]
    have hfr : w.frozen? ⟨b, o + i, none⟩ = false := by
      simp only [World.frozen?, h]
      have := hf (o + i) hlt
      simp only [Bool.and_eq_false_iff, decide_eq_false_iff_not]
      omega
    have ht := turned_setCell (o := o + i) h v
    obtain ⟨w', h2, h3⟩ := run_storeCells_spl (o := o) vs (i + 1) (w.setCell ⟨b, o + i, none⟩ v) (c.setIfInBounds (o + i) v) ht.at_ (by simpa using hf) (by rw [Array.size_setIfInBounds]; simp only [List.length_cons] at hl; omega) (fun u hu => h1 u (by simp [hu])) (by rw [ht.size]; exact hb)
    refine ⟨w', ?_, ht.trans h3⟩
    simp only [storeCells, Sem.run_bind, add_none, run_store PP w _ v .plain (h1 v (by simp)), hcell, hfr, Bool.false_eq_true, if_false, Result.andThen_ok]
    exact h2

/-- cells are laid into a block -/
theorem lay_ok {σ : Sg} {W : AW} {w : World} (hr : HR σ W w) {A o : Nat} {vs vs' new : List AV} {t : TypeId} {st : St} (hg : W.get A = some (.cells vs t st)) (hwr : st.wr = true) {e : En} (he : σ A = some e)
    (hp : putCells vs o new = some vs') {l : List Value} (hl : LR σ new l) (h1 : new.all AV.one = true) :
    ∃ w', (storeCells ⟨e.blk, e.sh + o, none⟩ l).run PP w = .ok () w' ∧ Ext σ σ W (W.set A (.cells vs' t st)) w w' ∧ HR σ (W.set A (.cells vs' t st)) w' := by
  obtain ⟨c, fr, hb, hs, hc, hst⟩ := cells_at hr hg he
  have hlt := (Array.getElem?_eq_some_iff.1 hb).1
  obtain ⟨p1, p2, p3⟩ := putCells_len hp
  have hvl : vs.length ≤ e.cap ∨ vs = [] := by
    by_cases hv : vs = []
    · exact .inr hv
    · left
      have hpos : 0 < vs.length := List.length_pos_iff.2 hv
      obtain ⟨v0, hv0, _⟩ := hc (vs.length - 1) _ (List.getElem?_eq_getElem (by omega))
      have := (Array.getElem?_eq_some_iff.1 hv0).1
      omega
  have hll := hl.length
  by_cases hn : new = []
  · subst hn
    cases hl
    have hvs : vs' = vs := List.ext_getElem? fun i => by rw [p3 i, if_neg (by simp)]
    subst hvs
    refine ⟨w, by simp [storeCells], turned_ok hr hg he (wr_ro hwr) ⟨hb, fun _ _ => rfl, rfl, rfl, rfl, rfl⟩ ⟨c, fr, hb, hs, hc, hst⟩⟩
  · have hbd : e.sh + o + l.length ≤ c.size := by
      rcases p2 with h | h
      · exact absurd h hn
      · rcases hvl with h' | h'
        · omega
        · rw [h'] at h
          simp only [List.length_nil] at h
          exact absurd (List.eq_nil_of_length_eq_zero (by omega)) hn
    obtain ⟨w', r1, r2⟩ := run_storeCells_spl (o := e.sh + o) l 0 w c hb (wr_free hwr hst) (by simpa using hbd) (hl.ones h1) hlt
    refine ⟨w', r1, turned_ok hr hg he (wr_ro hwr) r2 ?_⟩
    refine ⟨_, fr, r2.at_, by rw [spl_size]; exact hs, ?_, by rw [spl_size]; exact hst⟩
    exact putCells_CR hp hc hl (.inr (by simpa using hbd))

theorem storeF_ok {σ : Sg} {W W' : AW} {w : World} (hr : HR σ W w) {t : TypeId} {a x : AV} {a' x' : Value} (h : storeF t W a x = some W') (ha : VR σ a a') (hx : VR σ x x') :
    ∃ w', (Instr.storeAt t a' x').run PP w = .ok () w' ∧ Ext σ σ W W' w w' ∧ HR σ W' w' := by
  unfold storeF at h
  split at h
  · rename_i A o
    split at h
    · rename_i vs e st z hg hz
      split at h
      · rename_i hc
        simp only [Bool.and_eq_true] at hc
        obtain ⟨⟨hw, h1⟩, hl⟩ := hc
        have hl := beq_eq hl
        split at h
        · rename_i vs' hp
          cases h
          cases ha with
          | ptr _ _ en he =>
            have hu : x ≠ .unk := by rintro rfl; simp [AV.cells, AV.one] at h1
            have hcells := hx.cells hu
            obtain ⟨w', r1, r2⟩ := lay_ok hr hg hw he hp hcells h1
            refine ⟨w', ?_, r2⟩
            have hsz : x'.cells.size = z := by have := hcells.length; simp at this; omega
            simp [Instr.storeAt, Instr.sureAddr, storeVar, run_SZ hz, hsz, r1]
        · cases h
      · cases h
    · cases h
  · cases h

theorem run_setObj {w : World} {b : Nat} {o o' : Obj} (h : w.heap[b]? = some o) (hc : ∀ c t f, o ≠ .cells c t f) : (setObj b o').run PP w = .ok () { w with heap := w.heap.setIfInBounds b o' } := by
  cases o <;> first | exact absurd rfl (hc _ _ _) | simp [setObj, Sem.run, h]

/-- the key that stays is the new one -/
theorem stays {σ : Sg} {k k0 : AV} {k' k0' : Value} (h : sameKey k k0 = some true) (hk : VR σ k k') (hk0 : VR σ k0 k0') (w : World) : (Instr.keyThatStays k0' k').run PP w = .ok k' w := by
  have hs : ∀ n, Instr.sameBits n k0' k' = true := by
    intro n
    unfold sameKey at h
    split at h
    · split at h
      · rename_i hj
        cases hk; cases hk0
        simp at h; subst h; subst hj
        cases n <;> simp [Instr.sameBits]
      · cases h
    · cases hk with
      | str _ s hs => cases hk0 with
        | str _ r hr =>
          subst hs; subst hr
          have hss : (s == r) = true := by rw [bytes_eq'] at h; exact Option.some.inj h
          have hrs : (r == s) = true := by rw [← bytes_eq', strEq_iff] at hss ⊢; simpa [eq_comm] using hss
          cases n <;> simp [Instr.sameBits, hrs]
    · cases hk; cases hk0
      simp at h; subst h
      cases n <;> simp [Instr.sameBits]
    · cases h
  simp [Instr.keyThatStays, hs 10000]

theorem mapUpdF_ok {σ : Sg} {W W' : AW} {w : World} (hr : HR σ W w) {t : TypeId} {m k x : AV} {m' k' x' : Value} (h : mapUpdF t W m k x = some W') (hm : VR σ m m') (hk : VR σ k k') (hx : VR σ x x') :
    ∃ w', (Instr.mapUpdate t m' k' x').run PP w = .ok () w' ∧ Ext σ σ W W' w w' ∧ HR σ W' w' := by
  unfold mapUpdF at h
  split at h
  · rename_i key elem hu
    split at h
    · cases h
    · rename_i hf
      have hf : keyFits key k = true := by simpa using hf
      split at h
      · rename_i A
        cases hm with
        | map _ e he =>
          split at h
          · rename_i es hg
            obtain ⟨ms, clock, hb, hp⟩ := map_at hr hg he
            have hlt := (Array.getElem?_eq_some_iff.1 hb).1
            have hgo := run_getObj hb (by intro c t f q; cases q)
            have hso : ∀ o', (setObj e.blk o').run PP w = .ok () _ := fun o' => run_setObj (o' := o') hb (by intro c t f q; cases q)
            split at h
            · rename_i j v0 hfa
              cases h
              rcases findKey_ok hf hk hp hfa w with ⟨hh, _⟩ | ⟨j, v, v', hh, h2, h3, en, mn, h5, h6, h7⟩
              · cases hh
              · cases hh
                have h6' : ms[j]? = some mn := by simpa using h6
                have hst := stays (w := w) h7 hk (hp.get j _ _ h5 h6).1
                refine ⟨{ w with heap := w.heap.setIfInBounds e.blk (.map (ms.modify j fun e => { e with key := k', val := x' }) clock) }, ?_, turned_ok hr hg he rfl (Turned.of_set hlt) ?_⟩
                · simp [Instr.mapUpdate, run_U hu, hgo, checkKey_ok' hf hk, h2, h6', hst, hso]
                · refine ⟨_, clock, (Turned.of_set hlt).at_, ?_⟩
                  rw [Array.toList_modify]
                  exact PR.upd hk hx hp j
            · rename_i hfa
              cases h
              rcases findKey_ok hf hk hp hfa w with ⟨_, h2⟩ | ⟨_, _, _, hh, _⟩
              · refine ⟨{ w with heap := w.heap.setIfInBounds e.blk (.map (ms.push { key := k', val := x', born := clock }) (clock + 1)) }, ?_, turned_ok hr hg he rfl (Turned.of_set hlt) ?_⟩
                · simp [Instr.mapUpdate, run_U hu, hgo, checkKey_ok' hf hk, h2, hso]
                · refine ⟨_, clock + 1, (Turned.of_set hlt).at_, ?_⟩
                  rw [Array.toList_push]
                  exact hp.append hk hx
              · cases hh
            · cases h
          · cases h
      · cases h
  · cases h

end Go.Ev

namespace Go.Ev
theorem zeroCells_LR {σ : Sg} {zs : List AV} {zc : Array Value} (h : LR σ zs zc.toList) (n : Nat) : LR σ (repl n zs) (Builtin.zeroCells zc n).toList := by
  have := repl_LR h n
  have hl : zs.length = zc.size := by simpa using h.length
  rw [hl] at this
  exact this

/-- the address of a slice's first cell, where it has one -/
theorem slice_addr {σ : Sg} {A o len : Nat} {cap : Cap} {x' : Value} (hx : VR σ (.slice A o (len + 1) cap) x') : ∃ e c, σ A = some e ∧ x' = .slice (some ⟨e.blk, e.sh + o, none⟩) (len + 1) c := by
  cases hx with
  | slk _ _ _ c e he => exact ⟨e, c, he, rfl⟩
  | slf _ _ _ z off c e he hl ho hc =>
    rcases ho with rfl | ⟨h0, _⟩
    · exact ⟨e, c, he, rfl⟩
    · omega

variable [Prg]

theorem deleteF_ok {σ : Sg} {W W' : AW} {w : World} (hr : HR σ W w) {ts : Array TypeId} {ty : TypeId} {m k : AV} {m' k' : Value} (h : deleteF ts[0]? W m k = some W') (hm : VR σ m m') (hk : VR σ k k') :
    ∃ w', (Builtin.delete_ ts ty #[m', k']).run PP w = .ok (.tuple #[]) w' ∧ Ext σ σ W W' w w' ∧ HR σ W' w' := by
  unfold deleteF at h
  cases ht : ts[0]? with
  | none => simp [ht] at h
  | some t =>
    simp only [ht, Option.bind_some] at h
    split at h
    · rename_i key elem hu
      split at h
      · cases h
      · rename_i hf
        have hf : keyFits key k = true := by simpa using hf
        split at h
        · rename_i A
          cases hm with
          | map _ e he =>
            split at h
            · rename_i es hg
              obtain ⟨ms, clock, hb, hp⟩ := map_at hr hg he
              have hlt := (Array.getElem?_eq_some_iff.1 hb).1
              have hgo := run_getObj hb (by intro c t f q; cases q)
              have hso : ∀ o', (setObj e.blk o').run PP w = .ok () _ := fun o' => run_setObj (o' := o') hb (by intro c t f q; cases q)
              split at h
              · rename_i j v0 hfa
                cases h
                rcases findKey_ok hf hk hp hfa w with ⟨hh, _⟩ | ⟨j, v, v', hh, h2, h3, en, mn, h5, h6, h7⟩
                · cases hh
                · cases hh
                  refine ⟨{ w with heap := w.heap.setIfInBounds e.blk (.map (ms.eraseIdxIfInBounds j) clock) }, ?_, turned_ok hr hg he rfl (Turned.of_set hlt) ?_⟩
                  · simp [Builtin.delete_, ht, run_U hu, hgo, checkKey_ok' hf hk, h2, hso]
                  · refine ⟨_, clock, (Turned.of_set hlt).at_, ?_⟩
                    have hjl : j < ms.size := by have := (List.getElem?_eq_some_iff.1 h6).1; simpa using this
                    rw [Array.eraseIdxIfInBounds, dif_pos hjl, Array.toList_eraseIdx]
                    exact hp.erase j
              · rename_i hfa
                cases h
                rcases findKey_ok hf hk hp hfa w with ⟨_, h2⟩ | ⟨_, _, _, hh, _⟩
                · have hsame : ({ w with heap := w.heap.setIfInBounds e.blk (.map ms clock) } : World).heap = w.heap := by
                    apply Array.ext_getElem?
                    intro i
                    by_cases hi : i = e.blk
                    · subst hi; simp [Array.getElem?_setIfInBounds_self_of_lt hlt, hb]
                    · simp [Array.getElem?_setIfInBounds_ne (Ne.symm hi)]
                  have hs : Same w { w with heap := w.heap.setIfInBounds e.blk (.map ms clock) } := ⟨hsame, rfl, rfl, rfl⟩
                  refine ⟨{ w with heap := w.heap.setIfInBounds e.blk (.map ms clock) }, ?_, Ext.same hs, hr.same hs⟩
                  simp [Builtin.delete_, ht, run_U hu, hgo, checkKey_ok' hf hk, h2, hso]
                · cases hh
              · cases h
            · cases h
        · cases h
    · cases h

theorem clearF_ok {σ : Sg} {W W' : AW} {w : World} (hr : HR σ W w) {ts : Array TypeId} {ty : TypeId} {x : AV} {x' : Value} (h : clearF ts[0]? W x = some W') (hx : VR σ x x') :
    ∃ w', (Builtin.clear_ ts ty #[x']).run PP w = .ok (.tuple #[]) w' ∧ Ext σ σ W W' w w' ∧ HR σ W' w' := by
  unfold clearF at h
  cases ht : ts[0]? with
  | none => simp [ht] at h
  | some t =>
    simp only [ht, Option.bind_some] at h
    split at h
    · rename_i e hu
      cases h; cases hx
      exact ⟨w, by simp [Builtin.clear_, ht, run_U hu], Ext.refl _ _ _, hr⟩
    · rename_i e A o c hu
      cases h
      cases hx <;> exact ⟨w, by simp [Builtin.clear_, ht, run_U hu], Ext.refl _ _ _, hr⟩
    · rename_i elem A o n c hu
      split at h
      · rename_i vs e st zero z hg hzero hz
        split at h
        · cases h
        · rename_i hunk
          split at h
          · rename_i hcond
            simp only [Bool.and_eq_true] at hcond
            obtain ⟨⟨hw, h1⟩, hl⟩ := hcond
            split at h
            · rename_i vs' hp
              cases h
              obtain ⟨z', hz1, hz2⟩ := zeroA_ok (σ := σ) hzero w
              have hcells := hz2.cells (isUnk_of hunk)
              obtain ⟨en, cc, he, rfl⟩ := slice_addr hx
              have hones : (repl (n + 1) zero.cells).all AV.one = true := by
                have : ∀ k, (repl k zero.cells).all AV.one = true := fun k => by
                  induction k with
                  | zero => rfl
                  | succ k ih => rw [repl, List.all_append, h1, ih]; rfl
                exact this _
              obtain ⟨w', r1, r2⟩ := lay_ok hr hg hw he hp (zeroCells_LR hcells (n + 1)) hones
              refine ⟨w', ?_, r2⟩
              simp [Builtin.clear_, ht, run_U hu, hz1, r1]
            · cases h
          · cases h
      · cases h
    · cases h

theorem markF_ok {σ : Sg} {W W' : AW} {w : World} (hr : HR σ W w) {src dst e : TypeId} (hs : U src = some (.slice e)) (hd : U dst = some (.slice e)) (hsd : (src == dst) = true) {x v : AV} {x' : Value}
    (h : markF e W x = some (v, W')) (hx : VR σ x x') :
    ∃ v' w', (convert src dst x').run PP w = .ok v' w' ∧ VR σ v v' ∧ Ext σ σ W W' w w' ∧ HR σ W' w' := by
  unfold markF at h
  split at h
  · rename_i A o len c hu
    split at h
    · rename_i vs t st hg
      split at h
      · rename_i hw
        cases h
        have key : ∀ (a : Addr) (en : En), σ A = some en → a.block = en.blk → ∃ w', (markStringish a).run PP w = .ok () w' ∧ Ext σ σ W (W.set A (.cells vs t .strish)) w w' ∧ HR σ (W.set A (.cells vs t .strish)) w' := by
          intro a en he ha
          obtain ⟨cc, fr, hb, hsz, hc, hst⟩ := cells_at hr hg he
          have hlt := (Array.getElem?_eq_some_iff.1 hb).1
          have hsh : w.shape? a.block = some (t, cc.size) := by simp [World.shape?, ha, hb]
          refine ⟨w.freeze ⟨a.block, cc.size, none⟩ 1, ?_, ?_⟩
          · simp only [markStringish, Sem.run_bind, run_shape, hsh, Result.andThen_ok, run_freeze]
          · refine turned_ok hr hg he (wr_ro hw) (ob := .cells cc t (if (fr.1 == fr.2) = true then (cc.size, cc.size + 1) else (min fr.1 cc.size, max fr.2 (cc.size + 1)))) ⟨?_, ?_, ?_, rfl, rfl, rfl⟩ ?_
            · show ((w.heap.modify a.block _)[en.blk]?) = _
              rw [ha, Array.getElem?_modify, if_pos rfl, hb]; rfl
            · intro k hk
              show ((w.heap.modify a.block _)[k]?) = _
              rw [Array.getElem?_modify, if_neg (by rw [ha]; exact Ne.symm hk)]
            · show (w.heap.modify a.block _).size = _
              simp
            · refine ⟨cc, (if (fr.1 == fr.2) = true then (cc.size, cc.size + 1) else (min fr.1 cc.size, max fr.2 (cc.size + 1))), ?_, hsz, hc, ?_⟩
              · show ((w.heap.modify a.block _)[en.blk]?) = _
                rw [ha, Array.getElem?_modify, if_pos rfl, hb]; rfl
              · have hle := wr_le hw hst
                by_cases hq : fr.1 = fr.2
                · rw [if_pos (by simpa using hq)]
                  exact ⟨by simp, fun i hi hx => by simp at hx; omega⟩
                · rw [if_neg (by simpa using hq)]
                  have hlo : cc.size ≤ fr.1 := by
                    rcases Nat.lt_or_ge fr.1 cc.size with h | h
                    · exact absurd ⟨Nat.le_refl _, by omega⟩ (wr_free hw hst fr.1 h)
                    · exact h
                  refine ⟨by simp only; omega, fun i hi hx => ?_⟩
                  simp only at hx; omega
        cases hx with
        | slk _ _ _ c en he =>
          obtain ⟨w', k1, k2⟩ := key ⟨en.blk, en.sh + o, none⟩ en he rfl
          exact ⟨_, w', by simp [convert, run_U hs, run_U hd, run_U hu, hsd, k1], .slk _ _ _ _ en he, k2⟩
        | slf _ _ _ z off c en he hl ho hc =>
          obtain ⟨w', k1, k2⟩ := key ⟨en.blk, off, none⟩ en he rfl
          exact ⟨_, w', by simp [convert, run_U hs, run_U hd, run_U hu, hsd, k1], .slf _ _ _ _ _ _ en he hl ho hc, k2⟩
      · cases h
    · cases h
  · cases h

end Go.Ev

namespace Go.Ev

theorem set_same {σ : Sg} {W : AW} {w : World} (hr : HR σ W w) {A : Nat} {o : AO} {e : En} (hA : W.get A = some o) (he : σ A = some e) (hro : o.ro = false) : Ext σ σ W (W.set A o) w w ∧ HR σ (W.set A o) w :=
  set_ok hr hA he hro rfl (fun _ _ => rfl) (hr.obj _ _ _ hA he) rfl rfl rfl

theorem growBy_le (n : Nat) : ∀ (k c : Nat), Builtin.growBy n k c ≤ 2 ^ k * (c + 400)
  | 0, c => by simp [Builtin.growBy]
  | k + 1, c => by
    rw [Builtin.growBy]
    split
    · have : 1 ≤ 2 ^ (k + 1) := Nat.one_le_two_pow
      have h2 : 1 * (c + 400) ≤ 2 ^ (k + 1) * (c + 400) := Nat.mul_le_mul_right _ this
      omega
    · refine Nat.le_trans (growBy_le n k _) ?_
      rw [Nat.pow_succ, Nat.mul_assoc]
      refine Nat.mul_le_mul_left _ ?_
      omega

theorem nextcap_le {need old : Nat} (h : old < need) (hn : need ≤ 1000000) : Builtin.nextslicecap need old ≤ 17000000 := by
  have hg := growBy_le need 4 old
  have h16 : (2 : Nat) ^ 4 = 16 := rfl
  rw [h16] at hg
  unfold Builtin.nextslicecap
  clear h16
  by_cases h1 : need > 2 * old
  · rw [if_pos h1]; omega
  · rw [if_neg h1]
    by_cases h2 : old < 256
    · rw [if_pos h2]; omega
    · rw [if_neg h2]; exact Nat.le_trans hg (by omega)

variable [Prg]

/-- what is appended, run -/
theorem srcCells_ok {σ : Sg} {W : AW} {w : World} (hr : HR σ W w) {z n : Nat} {x : AV} {x' : Value} {new : List AV} (h : srcCells W z x = some (new, n)) (hx : VR σ x x') :
    (∀ w, (Builtin.lenOf x').run PP w = .ok n w) ∧ new.length = n * z ∧ ∀ m, m ≤ n → ∀ w', (∀ e A, σ A = some e → w'.heap[e.blk]? = w.heap[e.blk]?) →
      ∃ l : List Value, (Builtin.firstCells z m x').run PP w' = .ok l.toArray w' ∧ LR σ (new.take (m * z)) l := by
  unfold srcCells at h
  split at h
  · cases h; cases hx
    exact ⟨fun w => rfl, by simp, fun m hm w' _ => ⟨[], rfl, by simp; exact .nil⟩⟩
  · rename_i l
    split at h
    · rename_i hz
      have hz := beq_eq hz
      subst hz
      cases h
      cases hx with
      | str _ s hs =>
        subst hs
        have hsz : s.data.size = s.size := rfl
        refine ⟨fun w => by simp [Builtin.lenOf, hsz], by simp [cellsOfBytes], fun m hm w' _ => ?_⟩
        refine ⟨((s.extract 0 m).data.map fun (b : UInt8) => Value.int .u8 b.toNat).toList, by simp only [Builtin.firstCells, Sem.run_pure, Array.toArray_toList], ?_⟩
        have := byteCells (σ := σ) (s.extract 0 m)
        rw [ext_str] at this
        simp only [List.drop_zero] at this
        simpa [cellsOfBytes, List.map_take] using this
    · cases h
  · rename_i A o len c
    split at h
    · rename_i cs hrc
      simp only [Option.some.injEq, Prod.mk.injEq] at h
      obtain ⟨h1, h2⟩ := h
      subst h1; subst h2
      have hlen : cs.length = len * z := by
        unfold readCells at hrc
        split at hrc
        · simp only at hrc
          split at hrc
          · rename_i hl; cases hrc; exact beq_eq hl
          · cases hrc
        · cases hrc
      refine ⟨fun w => by cases hx <;> simp [Builtin.lenOf], hlen, fun m hm w' hw' => ?_⟩
      -- a part of the cells
      have hrc' : readCells W A o (m * z) = some (cs.take (m * z)) := by
        unfold readCells at hrc ⊢
        split at hrc
        · rename_i vs t st hg
          simp only at hrc ⊢
          split at hrc
          · rename_i hl
            cases hrc
            have hl := beq_eq hl
            have hmz : m * z ≤ len * z := Nat.mul_le_mul_right _ hm
            rw [List.take_take, Nat.min_eq_left hmz]
            rw [if_pos]
            rw [Nat.beq_eq]
            simp only [List.length_take, List.length_drop] at hl ⊢
            omega
          · cases hrc
        · cases hrc
      by_cases hmz : m = 0
      · subst hmz
        refine ⟨[], ?_, by simp; exact .nil⟩
        cases hx <;> simp [Builtin.firstCells, loadCells, loadCellsFrom]
      · obtain ⟨len', rfl⟩ : ∃ k, len = k + 1 := ⟨len - 1, by omega⟩
        obtain ⟨e, c', he, rfl⟩ := slice_addr hx
        have hr' : ∃ l' : List Value, (loadCells ⟨e.blk, e.sh + o, none⟩ (m * z)).run PP w' = .ok l'.toArray w' ∧ LR σ (cs.take (m * z)) l' ∧ l'.length = m * z := by
          unfold readCells at hrc'
          split at hrc'
          · rename_i vs t st hg
            obtain ⟨c, fr, hb, _, hc, _⟩ := cells_at hr hg he
            simp only at hrc'
            split at hrc'
            · rename_i hl
              have := run_cells (w := w') hc ((hw' e A he).trans hb) o (m * z) (beq_eq hl)
              rw [Option.some.inj hrc'] at this
              exact this
            · cases hrc'
          · cases hrc'
        obtain ⟨l', h1, h2, _⟩ := hr'
        exact ⟨l', by simp [Builtin.firstCells, h1], h2⟩
    · cases h
  · cases h

theorem copyF_ok {σ : Sg} {W W' : AW} {w : World} (hr : HR σ W w) {ts : Array TypeId} {ty : TypeId} {d x v : AV} {d' x' : Value} (h : copyF ts W d x = some (v, W')) (hd : VR σ d d') (hx : VR σ x x') :
    ∃ v' w', (Builtin.copy_ ts ty #[d', x']).run PP w = .ok v' w' ∧ VR σ v v' ∧ Ext σ σ W W' w w' ∧ HR σ W' w' := by
  unfold copyF at h
  cases ht : ts[0]? with
  | none => simp [ht] at h
  | some t =>
    simp only [ht, Option.bind_some] at h
    split at h
    · rename_i elem hu
      cases hz : SZ elem with
      | none => simp [hz] at h
      | some z =>
        simp only [hz] at h
        split at h
        · cases h; cases hd; cases hx
          exact ⟨goInt 0, w, by simp [Builtin.copy_, ht, run_U hu, Builtin.lenOf, run_SZ hz, Builtin.firstCells], .int _ _, Ext.refl _ _ _, hr⟩
        · cases h; cases hx
          refine ⟨goInt 0, w, ?_, .int _ _, Ext.refl _ _ _, hr⟩
          cases hd <;> simp [Builtin.copy_, ht, run_U hu, Builtin.lenOf, run_SZ hz, Builtin.firstCells, storeCells]
        · rename_i A o len c _
          split at h
          · rename_i cs n hsrc
            split at h
            · rename_i vs e st hg
              split at h
              · rename_i hcond
                rw [Bool.and_eq_true] at hcond
                split at h
                · rename_i vs' hp
                  cases h
                  obtain ⟨s1, s2, s3⟩ := srcCells_ok hr hsrc hx
                  obtain ⟨l, s4, s5⟩ := s3 (min n len) (Nat.min_le_left _ _) w (fun _ _ _ => rfl)
                  cases len with
                  | zero =>
                    rw [Nat.min_zero] at s4 s5 hp
                    rw [Nat.zero_mul, List.take_zero] at s5 hp
                    cases s5
                    have hvs : vs' = vs := List.ext_getElem? fun i => by rw [(putCells_len hp).2.2 i, if_neg (by simp)]
                    subst hvs
                    cases hd with
                    | slk _ _ _ _ en he =>
                      refine ⟨goInt 0, w, ?_, by rw [Nat.min_zero]; exact .int _ _, set_same hr hg he (wr_ro hcond.1)⟩
                      simp [Builtin.copy_, ht, run_U hu, s1, run_SZ hz, s4, storeCells]
                    | slf _ _ _ zz off c en he hl ho hc =>
                      refine ⟨goInt 0, w, ?_, by rw [Nat.min_zero]; exact .int _ _, set_same hr hg he (wr_ro hcond.1)⟩
                      simp [Builtin.copy_, ht, run_U hu, s1, run_SZ hz, s4, storeCells]
                  | succ len =>
                    obtain ⟨en, cc, he, rfl⟩ := slice_addr hd
                    obtain ⟨w', r1, r2⟩ := lay_ok hr hg hcond.1 he hp s5 hcond.2
                    refine ⟨goInt (min n (len + 1) : Nat), w', ?_, .int _ _, r2⟩
                    have s4' : (Builtin.firstCells z (Nat.min n (len + 1)) x').run PP w = .ok l.toArray w := s4
                    simp [Builtin.copy_, ht, run_U hu, s1, run_SZ hz, s4', r1]
                · cases h
              · cases h
            · cases h
          · cases h
        · cases h
    · cases h

theorem loadBytes_ok {σ : Sg} {w : World} (b : Nat) : ∀ {cs : List AV} {l : List Value} {bs : List Nat}, LR σ cs l → bytesOfCells cs = some bs → ∀ (o : Nat), (∀ j v, l[j]? = some v → w.cell? ⟨b, o + j, none⟩ = some v) → ∀ acc : ByteArray,
    ∃ s, (loadBytes ⟨b, o, none⟩ acc l.length).run PP w = .ok s w ∧ s.data.toList.map (·.toNat) = acc.data.toList.map (·.toNat) ++ bs := by
  intro cs l bs h
  induction h generalizing bs with
  | nil => intro hb o _ acc; simp [bytesOfCells] at hb; subst hb; exact ⟨acc, by simp [loadBytes], by simp⟩
  | cons hv _ ih =>
    rename_i x v xs vs _
    intro hb o hc acc
    unfold bytesOfCells at hb
    split at hb
    · rename_i he; cases he
    · rename_i n r he
      cases he
      cases hr : bytesOfCells xs with
      | none => simp [hr] at hb
      | some bs' =>
        simp only [hr] at hb
        split at hb
        · rename_i hn
          cases hb
          cases hv
          obtain ⟨s, h1, h2⟩ := ih hr (o + 1) (fun j v hj => by rw [Nat.add_assoc, Nat.add_comm 1 j]; exact hc (j + 1) v (by simpa using hj)) (acc.push n.toNat.toUInt8)
          refine ⟨s, ?_, ?_⟩
          · have h0 := hc 0 _ rfl
            simp only [Nat.add_zero] at h0
            simp only [List.length_cons, loadBytes, Sem.run_bind, run_load, h0, Result.andThen_ok, add_none]
            exact h1
          · rw [h2]
            have : (n.toNat.toUInt8).toNat = n.toNat := nat_byte hn
            simp [ByteArray.push, this]
        · cases hb
    · cases hb

theorem unsafeStringF_ok {σ : Sg} {W W' : AW} {w : World} (hr : HR σ W w) {ts : Array TypeId} {ty : TypeId} {p n v : AV} {p' n' : Value} (h : unsafeStringF ts W p n = some (v, W')) (hp : VR σ p p') (hn : VR σ n n') :
    ∃ v' w', (Builtin.unsafeString_ ts ty #[p', n']).run PP w = .ok v' w' ∧ VR σ v v' ∧ Ext σ σ W W' w w' ∧ HR σ W' w' := by
  unfold unsafeStringF at h
  cases ht : ts[0]? with
  | none => simp [ht] at h
  | some t =>
    simp only [ht, Option.bind_some] at h
    split at h
    · rename_i e A o k m hu
      split at h
      · rename_i vs t' st hue hse hg
        split at h
        · rename_i hc
          obtain ⟨h0, h1, hte, hw⟩ := hc
          have hte := beq_eq hte
          subst hte
          split at h
          · rename_i cs hrc
            split at h
            · rename_i l hb2
              cases h
              cases hn
              cases hp with
              | ptr _ _ en he =>
                obtain ⟨c, fr, hb, hsz, hc, hst⟩ := cells_at hr hg he
                have hlt := (Array.getElem?_eq_some_iff.1 hb).1
                have hsh : w.shape? en.blk = some (t', c.size) := by simp [World.shape?, hb]
                -- the cells are there
                have hread : ∃ l' : List Value, (∀ j v, l'[j]? = some v → w.cell? ⟨en.blk, en.sh + o + j, none⟩ = some v) ∧ LR σ cs l' ∧ l'.length = m.toNat := by
                  unfold readCells at hrc
                  simp only [hg] at hrc
                  split at hrc
                  · rename_i hl
                    have hl := beq_eq hl
                    have hcs := Option.some.inj hrc
                    obtain ⟨l', q1, q2, q3⟩ := run_cells_list hc o m.toNat hl
                    exact ⟨l', fun j v hv => by rw [cell_of hb]; exact q3 j v hv, by rw [← hcs]; exact q1, q2⟩
                  · cases hrc
                obtain ⟨l', q1, q2, q3⟩ := hread
                have hbound : en.sh + o + m.toNat ≤ c.size := by
                  have hpos : 0 < m.toNat := by omega
                  have hj : l'[m.toNat - 1]? = some l'[m.toNat - 1] := List.getElem?_eq_getElem (by omega)
                  have := q1 _ _ hj
                  rw [cell_of hb] at this
                  have := (Array.getElem?_eq_some_iff.1 this).1
                  omega
                have hcz : PP.cellsOf t' = 1 := by unfold Program.cellsOf; unfold SZ at hse; rw [INFO_eq] at hse; rw [hse]; rfl
                have hva : (variablesAt ⟨en.blk, en.sh + o, none⟩ t' m.toNat).run PP w = .ok true w := by
                  have hdep : ∃ D, PP.depth = D + 1 := ⟨_, rfl⟩
                  obtain ⟨D, hD⟩ := hdep
                  have hsl : sameLayout PP (D + 1) t' t' = true := by simp [sameLayout]
                  simp only [variablesAt, Sem.run_bind, run_program, Result.andThen_ok, run_shape, hsh, Sem.run_pure]
                  simp only [hD, liesAt, rowAt, hcz, hsl]
                  simp [hbound, Nat.mod_one]
                obtain ⟨s, b1, b2⟩ := loadBytes_ok (w := w) (en.blk) q2 hb2 (en.sh + o) (by simpa using q1) ByteArray.empty
                rw [q3] at b1
                have hn0 : ¬ m < 0 := by omega
                have hn2 : ¬ m = 0 := by omega
                have hel : (elemOf t).run PP w = .ok t' w := by simp [elemOf, run_U hu]
                refine ⟨.string s, w.freeze ⟨en.blk, en.sh + o, none⟩ m.toNat, ?_, .str _ _ (by rw [b2]; rfl), ?_⟩
                · show (asInt (.int k m) >>= _).run PP w = _
                  simp [asInt, asIntOf, ht, hn0, hn2, hel, hva, b1]
                  omega
                · have hz : m.toNat ≠ 0 := by omega
                  have hfz : (w.freeze ⟨en.blk, en.sh + o, none⟩ m.toNat) = { w with heap := w.heap.modify en.blk fun
                      | .cells c elem (lo, hi) => .cells c elem (if lo == hi then (en.sh + o, en.sh + o + m.toNat) else (min lo (en.sh + o), max hi (en.sh + o + m.toNat)))
                      | o => o } := by unfold World.freeze; rw [if_neg hz]; rfl
                  refine turned_ok hr hg he (wr_ro hw) (ob := .cells c t' (if (fr.1 == fr.2) = true then (en.sh + o, en.sh + o + m.toNat) else (min fr.1 (en.sh + o), max fr.2 (en.sh + o + m.toNat)))) ⟨?_, ?_, ?_, ?_, ?_, ?_⟩ ⟨c, (if (fr.1 == fr.2) = true then (en.sh + o, en.sh + o + m.toNat) else (min fr.1 (en.sh + o), max fr.2 (en.sh + o + m.toNat))), ?_, hsz, hc, trivial⟩
                  · rw [hfz]; simp only [Array.getElem?_modify, if_true, hb]; rfl
                  · intro q hq; rw [hfz]; simp only [Array.getElem?_modify]; rw [if_neg (Ne.symm hq)]
                  · rw [hfz]; simp
                  · rw [hfz]
                  · rw [hfz]
                  · rw [hfz]
                  · rw [hfz]; simp only [Array.getElem?_modify, if_true, hb]; rfl
            · cases h
          · cases h
        · cases h
      · cases h
    · cases h

end Go.Ev

namespace Go.Ev

/-- what is appended is so many zero values -/
def zerosOf : TypeDesc → Bool
  | .int _ => true
  | _ => false

theorem arr_push_get {α : Type} (a : Array α) (x : α) : (a.push x)[a.size]? = some x := by simp

theorem same_drew (w : World) : Same w w.drew := ⟨rfl, rfl, rfl, rfl⟩

theorem zeroCells_len (zc : Array Value) (n : Nat) : (Builtin.zeroCells zc n).toList.length = n * zc.size := by simp [Builtin.zeroCells]

/-- a new row with free capacity -/
theorem grown_ok {σ : Sg} {W : AW} {w : World} (hr : HR σ W w) {cells : List AV} {old l zs : List Value} {elem : TypeId} {z need cap : Nat} (hl : LR σ cells (old ++ l)) (hlen : cells.length = need * z) (hcap : need ≤ cap)
    (hzs : zs.length = (cap - need) * z) (st : St) (hst : st = .clean ∨ st = .strish) :
    ∃ σ', VR σ' (.slice W.n 0 need (.free z)) (.slice (some ⟨w.heap.size, 0, none⟩) need cap) ∧ Ext σ σ' W (W.new (.cells cells elem st)) w (w.drew.alloc (.cells (old.toArray ++ (l.toArray ++ zs.toArray)) elem)) ∧
      HR σ' (W.new (.cells cells elem st)) (w.drew.alloc (.cells (old.toArray ++ (l.toArray ++ zs.toArray)) elem)) := by
  have hll := hl.length
  have hmul : need * z + (cap - need) * z = cap * z := by rw [← Nat.add_mul]; congr 1; omega
  have hle := Le.add (σ := σ) (A := W.n) ⟨w.heap.size, 0, cap * z⟩ (hr.fresh W.n (Nat.le_refl _)).1
  have hget : (w.drew.alloc (.cells (old.toArray ++ (l.toArray ++ zs.toArray)) elem)).heap[w.heap.size]? = some (.cells (old.toArray ++ (l.toArray ++ zs.toArray)) elem) := arr_push_get _ _
  have hsz : (old.toArray ++ (l.toArray ++ zs.toArray)).size = cap * z := by
    simp only [List.length_append] at hll
    simp only [Array.size_append, List.size_toArray]
    omega
  obtain ⟨q1, q2⟩ := new_ok (w' := w.drew.alloc (.cells (old.toArray ++ (l.toArray ++ zs.toArray)) elem)) hr (.cells cells elem st) (cap * z) (Array.size_push _)
    (fun b hb => by
      show (w.heap.push _)[b]? = _
      rw [Array.getElem?_push, if_neg (by omega)])
    ⟨_, _, hget, by rw [hsz]; simp, fun i x hx => by
      obtain ⟨v, hv, hvr⟩ := hl.get i x hx
      refine ⟨v, ?_, hvr.mono hle⟩
      have hi := (List.getElem?_eq_some_iff.1 hv).1
      simp only [Nat.zero_add]
      rw [← Array.append_assoc, Array.getElem?_append_left (by simpa using hi)]
      simpa using hv, by
        rcases hst with rfl | rfl
        · exact ⟨rfl, rfl⟩
        · exact ⟨Nat.le_refl _, fun i _ h => by simp at h⟩⟩ rfl rfl rfl
  refine ⟨_, ?_, q1, q2⟩
  exact .slf _ _ _ _ _ _ ⟨w.heap.size, 0, cap * z⟩ (by simp [Sg.add]) hcap (.inl rfl) (by simp)

variable [Prg]

/-- what is appended: how it is said, and how many elements it is -/
def SrcN (xd : TypeDesc) (x' : Value) (n : Nat) : Prop :=
  (zerosOf xd = false ∧ ∀ w, (Builtin.lenOf x').run PP w = .ok n w) ∨ (zerosOf xd = true ∧ ∃ k m, x' = .int k m ∧ 0 ≤ m ∧ m < 1000000 ∧ n = m.toNat)

/-- the cells of what is appended, at a world -/
def SrcC (xd : TypeDesc) (x' : Value) (z n : Nat) (zc : Array Value) (l : List Value) (w : World) : Prop :=
  if zerosOf xd = true then l = (Builtin.zeroCells zc n).toList else (Builtin.firstCells z n x').run PP w = .ok l.toArray w

theorem append_in {xd : TypeDesc} {x' : Value} {n z : Nat} {zv : Value} {ts : Array TypeId} {ty t0 t1 elem : TypeId} (h0 : ts[0]? = some t0) (hu : U t0 = some (.slice elem)) (h1 : ts[1]? = some t1) (hu1 : U t1 = some xd)
    (hz : SZ elem = some z) (hsm : smallBytes elem = true) (hzv : ∀ w, (zeroValue elem).run PP w = .ok zv w) (hzl : zv.cells.size = z) {base : Option Addr} {sLen sCap : Nat} (hle : sLen + n ≤ sCap)
    (hn : SrcN xd x' n) {l : List Value} {w : World} (hc : SrcC xd x' z n zv.cells l w) :
    (Builtin.append_ ts ty #[.slice base sLen sCap, x']).run PP w =
      ((match base with | some a => storeCells (a.add (sLen * z)) l | none => pure ()).run PP w).andThen fun _ w => .ok (.slice base (sLen + n) sCap) w := by
  obtain ⟨i, hi, hib⟩ := small_bytes hsm
  have hti : ∀ w, (typeInfo elem).run PP w = .ok i w := fun w => by simp [typeInfo, hi]
  have hzo : ∀ d, (match d with | TypeDesc.int _ => true | _ => false) = zerosOf d := fun d => by cases d <;> rfl
  rcases hn with ⟨hp, hn⟩ | ⟨hp, k, m, rfl, m0, m1, rfl⟩
  · simp only [SrcC, hp, Bool.false_eq_true, if_false] at hc
    have hne : ∀ k, xd = .int k → False := fun k hk => by subst hk; cases hp
    simp [Builtin.append_, h0, h1, run_U hu, run_U hu1, run_SZ hz, hn, hle, hc]
    cases base <;> simp
  · simp only [SrcC, hp, if_true] at hc
    have hw := wrap_small m0 m1
    have hnn : ¬ m < 0 := by omega
    have hbig : ¬ (281474976710656 < m * (i.bytes : Int)) := by
      have : m * (i.bytes : Int) ≤ 1000000 * 1000000 := Int.mul_le_mul (by omega) (by omega) (by omega) (by omega)
      omega
    obtain ⟨k', rfl⟩ : ∃ k, xd = .int k := by cases xd <;> first | exact ⟨_, rfl⟩ | cases hp
    simp [Builtin.append_, h0, h1, run_U hu, run_U hu1, run_SZ hz, hle, asInt, asIntOf, hw, hnn, hbig, hti]
    by_cases hz0 : m.toNat * z = 0
    · have hl : l = [] := by
        rw [hc]; simp only [Builtin.zeroCells, hzl, hz0]; simp
      subst hl
      rw [if_pos hz0]
      cases base <;> simp
    · rw [if_neg hz0, hzv, hc]
      cases base <;> simp

/-- the capacity that is drawn -/
def drawnCap (need sCap : Nat) (elem : TypeId) (w : World) : Nat := Question.cut (.appendCap need sCap elem) (w.tape w.drawn (.appendCap need sCap elem))

theorem append_grow {xd : TypeDesc} {x' : Value} {n z : Nat} {zv : Value} {ts : Array TypeId} {ty t0 t1 elem : TypeId} (h0 : ts[0]? = some t0) (hu : U t0 = some (.slice elem)) (h1 : ts[1]? = some t1) (hu1 : U t1 = some xd)
    (hz : SZ elem = some z) (hsm : smallBytes elem = true) (hzv : ∀ w, (zeroValue elem).run PP w = .ok zv w) (hzl : zv.cells.size = z) {base : Option Addr} {sLen sCap : Nat} (hle : ¬ sLen + n ≤ sCap) (hsmall : sLen + n ≤ 1000000)
    (hn : SrcN xd x' n) {l old : List Value} {w : World} (hc : SrcC xd x' z n zv.cells l w.drew)
    (ho : (Builtin.firstCells z sLen (.slice base sLen sCap)).run PP w.drew = .ok old.toArray w.drew) :
    (Builtin.append_ ts ty #[.slice base sLen sCap, x']).run PP w =
      .ok (.slice (some ⟨w.heap.size, 0, none⟩) (sLen + n) (drawnCap (sLen + n) sCap elem w))
        (w.drew.alloc (.cells (old.toArray ++ (l.toArray ++ Builtin.zeroCells zv.cells (drawnCap (sLen + n) sCap elem w - (sLen + n)))) elem)) := by
  obtain ⟨i, hi, hib⟩ := small_bytes hsm
  have hti : ∀ w, (typeInfo elem).run PP w = .ok i w := fun w => by simp [typeInfo, hi]
  have hcap : ¬ (281474976710656 < Builtin.nextslicecap (sLen + n) sCap * i.bytes) := by
    have h3 := nextcap_le (Nat.not_le.1 hle) hsmall
    have : Builtin.nextslicecap (sLen + n) sCap * i.bytes ≤ 17000000 * 1000000 := Nat.mul_le_mul h3 hib
    omega
  have hmax : ¬ (9223372036854775807 < ((sLen : Int) + (n : Int))) := by omega
  have hch : (choose (.appendCap (sLen + n) sCap elem)).run PP w = .ok (drawnCap (sLen + n) sCap elem w) w.drew := by
    rw [run_choose]; rfl
  rcases hn with ⟨hp, hn⟩ | ⟨hp, k, m, rfl, m0, m1, rfl⟩
  · simp only [SrcC, hp, Bool.false_eq_true, if_false] at hc
    have hne : ∀ k, xd = .int k → False := fun k hk => by subst hk; cases hp
    simp [Builtin.append_, h0, h1, run_U hu, run_U hu1, run_SZ hz, hn, hle, hc, hti, hmax, hcap, hch, ho, hzv, run_newRow, -run_choose]
  · simp only [SrcC, hp, if_true] at hc
    have hw := wrap_small m0 m1
    have hnn : ¬ m < 0 := by omega
    have hbig : ¬ (281474976710656 < m * (i.bytes : Int)) := by
      have : m * (i.bytes : Int) ≤ 1000000 * 1000000 := Int.mul_le_mul (by omega) (by omega) (by omega) (by omega)
      omega
    have hmax' : ¬ (9223372036854775807 < ((sLen : Int) + max m 0)) := by omega
    obtain ⟨k', rfl⟩ : ∃ k, xd = .int k := by cases xd <;> first | exact ⟨_, rfl⟩ | cases hp
    by_cases hz0 : m.toNat * z = 0
    · have hl : l = [] := by
        rw [hc]; simp only [Builtin.zeroCells, hzl, hz0]; simp
      subst hl
      simp [Builtin.append_, h0, h1, run_U hu, run_U hu1, run_SZ hz, hle, asInt, asIntOf, hw, hnn, hbig, hti, hmax', hcap, hch, ho, hzv, run_newRow, -run_choose]
      intro hh; exact absurd hz0 hh
    · simp [Builtin.append_, h0, h1, run_U hu, run_U hu1, run_SZ hz, hle, asInt, asIntOf, hw, hnn, hbig, hti, hmax', hcap, hch, ho, hzv, run_newRow, -run_choose]
      rw [if_neg hz0, hc]


theorem zeroA_all {σ : Sg} {t : TypeId} {z : AV} (h : zeroA t = some z) : ∃ v, (∀ w, (zeroValue t).run PP w = .ok v w) ∧ VR σ z v := by
  unfold zeroA at h
  rw [INFO_eq] at h
  cases hi : PP.info? t with
  | none => simp [hi] at h
  | some i =>
    rw [hi] at h
    cases hz : i.zero with
    | none => simp [hz] at h
    | some v =>
      simp [hz] at h; subst h
      exact ⟨v, fun w => by simp [zeroValue, typeInfo, hi, hz], cst_ok v⟩

theorem srcA_ok {σ : Sg} {W : AW} {w : World} (hr : HR σ W w) {z n : Nat} {zero x : AV} {xd : TypeDesc} {x' : Value} {new : List AV} {zc : Array Value} (h : srcA W z zero xd x = some (new, n)) (hx : VR σ x x')
    (hzl : zc.size = z) (hzc : LR σ zero.cells zc.toList) : SrcN xd x' n ∧ new.length = n * z ∧ ∀ w', (∀ e A, σ A = some e → w'.heap[e.blk]? = w.heap[e.blk]?) → ∃ l, SrcC xd x' z n zc l w' ∧ LR σ new l := by
  have hzz : zero.cells.length = z := by rw [← hzl]; simpa using hzc.length
  have plain : ∀ (hp : zerosOf xd = false), srcCells W z x = some (new, n) → SrcN xd x' n ∧ new.length = n * z ∧ ∀ w', (∀ e A, σ A = some e → w'.heap[e.blk]? = w.heap[e.blk]?) → ∃ l, SrcC xd x' z n zc l w' ∧ LR σ new l := by
    intro hp h
    obtain ⟨s1, s2, s3⟩ := srcCells_ok hr h hx
    refine ⟨.inl ⟨hp, s1⟩, s2, fun w' hw' => ?_⟩
    obtain ⟨l, h1, h2⟩ := s3 n (Nat.le_refl _) w' hw'
    rw [← s2, List.take_length] at h2
    exact ⟨l, by simp only [SrcC, hp, Bool.false_eq_true, if_false]; exact h1, h2⟩
  unfold srcA at h
  split at h
  · split at h
    · split at h
      · rename_i k m hm
        cases h
        cases hx
        refine ⟨.inr ⟨rfl, _, _, rfl, hm.1, hm.2, rfl⟩, by rw [repl_length, hzz], fun w' _ => ⟨(Builtin.zeroCells zc m.toNat).toList, by simp [SrcC, zerosOf], zeroCells_LR hzc _⟩⟩
      · cases h
    · cases h
  · rename_i hne
    exact plain (by cases xd <;> first | rfl | exact absurd rfl (hne _)) h

/-- an append behind a row's free capacity, in place: the old name of the block dies -/
theorem inplace_ok {σ : Sg} {W : AW} {w : World} (hr : HR σ W w) {A o len z n c : Nat} {vs old new : List AV} {t : TypeId} {st : St} {e : En} (hg : W.get A = some (.cells vs t st)) (hwr : st.wr = true) (he : σ A = some e)
    (hcz : o + c * z ≤ e.cap) (hold : readCells W A o (len * z) = some old) {l : List Value} (hl : LR σ new l) (h1 : new.all AV.one = true) (hnl : new.length = n * z) (hfit : len + n ≤ c) :
    ∃ w' σ', (storeCells ⟨e.blk, e.sh + o + len * z, none⟩ l).run PP w = .ok () w' ∧ VR σ' (.slice W.n 0 (len + n) (.free z)) (.slice (some ⟨e.blk, e.sh + o, none⟩) (len + n) c) ∧
      Ext σ σ' W ((W.kill A).new (.cells (old ++ new) t .strish)) w w' ∧ HR σ' ((W.kill A).new (.cells (old ++ new) t .strish)) w' := by
  obtain ⟨c0, fr, hb, hsz, hcr, hst⟩ := cells_at hr hg he
  have hlt := (Array.getElem?_eq_some_iff.1 hb).1
  have hll := hl.length
  have hfz : len * z + n * z ≤ c * z := by rw [← Nat.add_mul]; exact Nat.mul_le_mul_right _ hfit
  have hq : ∃ l' : List Value, LR σ old l' ∧ l'.length = len * z ∧ ∀ j v, l'[j]? = some v → c0[e.sh + o + j]? = some v := by
    unfold readCells at hold
    simp only [hg] at hold
    split at hold
    · rename_i hq
      have hcs := Option.some.inj hold
      obtain ⟨l', q1, q2, q3⟩ := run_cells_list hcr o (len * z) (beq_eq hq)
      exact ⟨l', by rw [← hcs]; exact q1, q2, q3⟩
    · cases hold
  obtain ⟨l', q1, q2, q3⟩ := hq
  obtain ⟨w', r1, r2⟩ := run_storeCells_spl (o := e.sh + o + len * z) l 0 w c0 hb (wr_free hwr hst) (by omega) (hl.ones h1) hlt
  have hle := Le.add (σ := σ) (A := W.n) (⟨e.blk, e.sh + o, e.cap - o⟩ : En) (hr.fresh W.n (Nat.le_refl _)).1
  obtain ⟨t1, t2⟩ := take_ok (f := ⟨e.blk, e.sh + o, e.cap - o⟩) (o' := .cells (old ++ new) t .strish) (w' := w') hr hg he (wr_ro hwr) rfl r2.size (fun b hb => r2.off b hb)
    ⟨_, fr, r2.at_, by rw [spl_size, hsz]; simp only; omega, fun i x hx => by
      have hol : old.length = len * z := by rw [q1.length, q2]
      have hbd : e.sh + o + len * z + 0 + l.length ≤ c0.size := by omega
      by_cases hi : i < len * z
      · rw [List.getElem?_append_left (by omega)] at hx
        obtain ⟨v, hv, hvr⟩ := q1.get i x hx
        refine ⟨v, ?_, hvr.mono hle⟩
        rw [spl_get _ _ _ _ hbd, if_neg (by simp only; omega)]
        exact q3 i v hv
      · rw [List.getElem?_append_right (by omega), hol] at hx
        obtain ⟨v, hv, hvr⟩ := hl.get _ x hx
        refine ⟨v, ?_, hvr.mono hle⟩
        have hi2 := (List.getElem?_eq_some_iff.1 hv).1
        rw [spl_get _ _ _ _ hbd, if_pos (by simp only; omega)]
        rw [show e.sh + o + i - (e.sh + o + len * z + 0) = i - len * z by omega]
        exact hv, by
      refine ⟨wr_le hwr hst, fun i hi => ?_⟩
      rw [spl_size] at hi
      exact wr_free hwr hst i hi⟩ r2.os r2.tape r2.output
  refine ⟨w', _, r1, ?_, t1, t2⟩
  exact .slf _ _ _ _ _ _ ⟨e.blk, e.sh + o, e.cap - o⟩ (by simp [Sg.add]) hfit (.inl rfl) (by simp only; omega)

theorem appendF_ok {σ : Sg} {W W' : AW} {w : World} (hr : HR σ W w) {ts : Array TypeId} {ty : TypeId} {s x v : AV} {s' x' : Value} (h : appendF ts W s x = some (v, W')) (hs : VR σ s s') (hx : VR σ x x') :
    ∃ σ' v' w', (Builtin.append_ ts ty #[s', x']).run PP w = .ok v' w' ∧ VR σ' v v' ∧ Ext σ σ' W W' w w' ∧ HR σ' W' w' := by
  unfold appendF at h
  cases ht0 : ts[0]? with
  | none => simp [ht0] at h
  | some t0 =>
  cases ht1 : ts[1]? with
  | none => simp [ht1] at h
  | some t1 =>
  simp only [ht0, ht1, Option.bind_some] at h
  split at h
  · rename_i elem xd hu hu1
    split at h
    · rename_i z zero hz hzero
      split at h
      · rename_i hc
        simp only [Bool.and_eq_true, Bool.not_eq_true'] at hc
        obtain ⟨⟨⟨hsm, hpos⟩, hunk⟩, hzl⟩ := hc
        have hpos : 0 < z := Nat.le_of_ble_eq_true hpos
        have hzl := beq_eq hzl
        obtain ⟨zv, hzv, hzr⟩ := zeroA_all (σ := σ) hzero
        have hzc : LR σ zero.cells zv.cells.toList := hzr.cells (isUnk_of (by simpa using hunk))
        have hzs : zv.cells.size = z := by have := hzc.length; simp at this; omega
        split at h
        · cases h
        · rename_i new n hsrc
          obtain ⟨a1, a2, a3⟩ := srcA_ok hr hsrc hx hzs hzc
          split at h
          · -- nil
            cases hs
            split at h
            · rename_i hn0
              cases h
              have hn0 := beq_eq hn0
              subst hn0
              obtain ⟨l, b1, b2⟩ := a3 w (fun _ _ _ => rfl)
              refine ⟨σ, .slice none 0 0, w, ?_, .nilsl, Ext.refl _ _ _, hr⟩
              rw [append_in ht0 hu ht1 hu1 hz hsm hzv hzs (Nat.le_refl _) a1 b1]; simp
            · rename_i hn0
              split at h
              · rename_i hn1
                cases h
                have hn1 := Nat.le_of_ble_eq_true hn1
                obtain ⟨l, b1, b2⟩ := a3 w.drew (fun _ _ _ => rfl)
                have hne : ¬ 0 + n ≤ 0 := fun hh => hn0 (by have : n = 0 := by omega
                                                            subst this; rfl)
                have hg := append_grow (ty := ty) (base := none) ht0 hu ht1 hu1 hz hsm hzv hzs hne (by omega) a1 (old := []) b1 (by simp [Builtin.firstCells])
                obtain ⟨σ', c1, c2, c3⟩ := grown_ok (elem := elem) (z := z) (need := 0 + n) (cap := drawnCap (0 + n) 0 elem w) (old := []) (zs := (Builtin.zeroCells zv.cells (drawnCap (0 + n) 0 elem w - (0 + n))).toList) hr (by simpa using b2) (by rw [a2, Nat.zero_add]) (Nat.le_add_right _ _) (by rw [zeroCells_len, hzs]) .clean (.inl rfl)
                rw [Array.toArray_toList] at c2 c3
                rw [Nat.zero_add] at c1
                exact ⟨σ', _, _, hg, by rw [Nat.zero_add]; exact c1, c2, c3⟩
              · cases h
          · -- a known capacity
            rename_i A o len c
            split at h
            · rename_i hfit
              have hfit := Nat.le_of_ble_eq_true hfit
              cases hs with
              | slk _ _ _ _ e he =>
                obtain ⟨l, b1, b2⟩ := a3 w (fun _ _ _ => rfl)
                split at h
                · rename_i hn0
                  cases h
                  have hn0 := beq_eq hn0
                  subst hn0
                  have hl : l = [] := List.eq_nil_of_length_eq_zero (by rw [← b2.length, a2]; simp)
                  subst hl
                  refine ⟨σ, _, w, ?_, .slk _ _ _ _ e he, Ext.refl _ _ _, hr⟩
                  rw [append_in ht0 hu ht1 hu1 hz hsm hzv hzs hfit a1 b1]; simp [storeCells]
                · split at h
                  · rename_i vs t st hg
                    split at h
                    · rename_i hwr
                      rw [Bool.and_eq_true] at hwr
                      split at h
                      · rename_i vs' hp
                        cases h
                        obtain ⟨w', r1, r2, r3⟩ := lay_ok hr hg hwr.1 he hp b2 hwr.2
                        refine ⟨σ, _, w', ?_, .slk _ _ _ _ e he, r2, r3⟩
                        rw [append_in ht0 hu ht1 hu1 hz hsm hzv hzs hfit a1 b1]
                        simp only [add_none, Nat.add_assoc]
                        rw [r1]; rfl
                      · cases h
                    · cases h
                  · cases h
            · rename_i hfit
              have hfit : ¬ len + n ≤ c := fun hh => hfit (Nat.ble_eq_true_of_le hh)
              split at h
              · rename_i old hold
                split at h
                · rename_i hn1
                  cases h
                  have hn1 := Nat.le_of_ble_eq_true hn1
                  obtain ⟨l, b1, b2⟩ := a3 w.drew (fun _ _ _ => rfl)
                  obtain ⟨a, c', l', rfl, d1, d2, d3⟩ := sliceCells_ok (hr.same (same_drew w)) hold hs
                  have hcc : c' = c := by cases hs; rfl
                  subst hcc
                  have hg := append_grow (ty := ty) (base := some a) ht0 hu ht1 hu1 hz hsm hzv hzs hfit hn1 a1 b1 (by simpa [Builtin.firstCells] using d1)
                  obtain ⟨σ', c1, c2, c3⟩ := grown_ok (elem := elem) (z := z) (need := len + n) (cap := drawnCap (len + n) c' elem w) (zs := (Builtin.zeroCells zv.cells (drawnCap (len + n) c' elem w - (len + n))).toList) hr (d2.append b2)
                    (by rw [List.length_append, a2, d2.length, d3, Nat.add_mul]) (Nat.le_add_right _ _) (by rw [zeroCells_len, hzs]) .clean (.inl rfl)
                  rw [Array.toArray_toList] at c2 c3
                  exact ⟨σ', _, _, hg, c1, c2, c3⟩
                · cases h
              · cases h
          · -- a free capacity
            rename_i A o len z'
            split at h
            · rename_i hc
              rw [Bool.and_eq_true] at hc
              have hzz := beq_eq hc.1
              subst hzz
              have hn1 := Nat.le_of_ble_eq_true hc.2
              split at h
              · rename_i hn0
                cases h
                have hn0 := beq_eq hn0
                subst hn0
                obtain ⟨l, b1, b2⟩ := a3 w (fun _ _ _ => rfl)
                have hl : l = [] := List.eq_nil_of_length_eq_zero (by rw [← b2.length, a2]; simp)
                subst hl
                cases hs with
                | slf _ _ _ _ off c e he hlc ho hcz =>
                  refine ⟨σ, _, w, ?_, .slf _ _ _ _ off c e he hlc ho hcz, Ext.refl _ _ _, hr⟩
                  rw [append_in ht0 hu ht1 hu1 hz hsm hzv hzs (by omega) a1 b1]; simp [storeCells]
              · rename_i hn0
                have hn0 : 0 < n := Nat.pos_of_ne_zero fun hh => hn0 (by subst hh; rfl)
                split at h
                · rename_i vs t st old hg hold
                  split at h
                  · rename_i hwr
                    simp only [Bool.and_eq_true] at hwr
                    obtain ⟨⟨hwr, hone⟩, hte⟩ := hwr
                    have hte := beq_eq hte
                    subst hte
                    cases h
                    cases hs with
                    | slf _ _ _ _ off c e he hlc ho hcz =>
                      by_cases hfit : len + n ≤ c
                      · have hoff : off = e.sh + o := by
                          rcases ho with h | h
                          · exact h
                          · omega
                        subst hoff
                        obtain ⟨l, b1, b2⟩ := a3 w (fun _ _ _ => rfl)
                        obtain ⟨w', σ', r1, r2, r3, r4⟩ := inplace_ok (n := n) (c := c) hr hg hwr he hcz hold b2 hone a2 hfit
                        refine ⟨σ', _, w', ?_, r2, r3, r4⟩
                        rw [append_in ht0 hu ht1 hu1 hz hsm hzv hzs hfit a1 b1]
                        simp only [add_none]
                        rw [r1]; rfl
                      · obtain ⟨l, b1, b2⟩ := a3 w.drew (fun _ _ _ => rfl)
                        obtain ⟨a, c', l', hsl, d1, d2, d3⟩ := sliceCells_ok (hr.same (same_drew w)) hold (.slf A o len z off c e he hlc ho hcz)
                        cases hsl
                        have hgr := append_grow (ty := ty) (base := some ⟨e.blk, off, none⟩) ht0 hu ht1 hu1 hz hsm hzv hzs hfit hn1 a1 b1 (by simpa [Builtin.firstCells] using d1)
                        obtain ⟨k1, k2⟩ := kill_ok (w' := w) hr hg he (wr_ro hwr) rfl (fun _ _ => rfl) rfl rfl rfl
                        obtain ⟨σ', c1, c2, c3⟩ := grown_ok (elem := t) (z := z) (need := len + n) (cap := drawnCap (len + n) c t w) (zs := (Builtin.zeroCells zv.cells (drawnCap (len + n) c t w - (len + n))).toList) k2 (d2.append b2)
                          (by rw [List.length_append, a2, d2.length, d3, Nat.add_mul]) (Nat.le_add_right _ _) (by rw [zeroCells_len, hzs]) .strish (.inr rfl)
                        rw [Array.toArray_toList] at c2 c3
                        exact ⟨σ', _, _, hgr, c1, k1.trans hr c2, c3⟩
                  · cases h
                · cases h
            · cases h
          · cases h
      · cases h
    · cases h
  · cases h

end Go.Ev

