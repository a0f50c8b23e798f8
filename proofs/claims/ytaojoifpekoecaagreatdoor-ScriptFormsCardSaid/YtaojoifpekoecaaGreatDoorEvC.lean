/-
  The evaluator is sound for every tape, given regions whose order is drawn. No condition.
-/
import Derived.Test.YtaojoifpekoecaaGreatDoorEvB
import Derived.Lib.Bytealg
import Derived.Laws.Externs
import Derived.Room.MakeNoZero
namespace Go.Ev

theorem find_congr {α : Type} {p q : α → Bool} : ∀ {l : List α}, (∀ x ∈ l, p x = q x) → l.find? p = l.find? q
  | [], _ => rfl
  | x :: l, h => by
    rw [List.find?_cons, List.find?_cons, h x (by simp), find_congr fun y hy => h y (by simp [hy])]

theorem byte_eq {b : UInt8} {c : Int} (h0 : 0 ≤ c) (h1 : c < 256) : (b == c.toNat.toUInt8) = (b.toNat == c.toNat) := by
  have hn : c.toNat.toUInt8.toNat = c.toNat := by
    simp only [Nat.toUInt8, UInt8.toNat_ofNat']
    omega
  rw [Bool.eq_iff_iff, beq_iff_eq, beq_iff_eq, ← UInt8.toNat_inj, hn]

theorem firstIdx_eq {s : ByteArray} {l : List Nat} (hs : s.data.toList.map (·.toNat) = l) {c : Int} (h0 : 0 ≤ c) (h1 : c < 256) :
    firstIdx s c.toNat.toUInt8 = match (List.range l.length).find? fun i => (l[i]?) == some c.toNat with
      | some i => (i : Int)
      | none => -1 := by
  have hl : l.length = s.size := by rw [← hs, List.length_map]; rfl
  have hf : (List.range s.size).find? (fun i => s[i]! == c.toNat.toUInt8) = (List.range l.length).find? fun i => (l[i]?) == some c.toNat := by
    rw [hl]
    refine find_congr fun i hi => ?_
    have hi := List.mem_range.1 hi
    have hd : i < s.data.toList.length := hi
    have h2 : l[i]? = some (s[i].toNat) := by
      rw [← hs, List.getElem?_map, List.getElem?_eq_getElem hd]; rfl
    rw [getElem!_pos s i hi, h2, byte_eq h0 h1]
    rfl
  unfold firstIdx
  rw [hf]
  generalize (List.range l.length).find? _ = X
  cases X <;> rfl

theorem count_eq {c : Int} (h0 : 0 ≤ c) (h1 : c < 256) : ∀ (bs : List UInt8) (n : Int), (bs.map (·.toNat)).foldl (fun (n : Int) x => if x == c.toNat then n + 1 else n) n = n + (Lib.countByte bs c.toNat.toUInt8 : Nat)
  | [], n => by simp [Lib.countByte]
  | b :: bs, n => by
    rw [List.map_cons, List.foldl_cons, count_eq h0 h1 bs]
    unfold Lib.countByte
    rw [List.count_cons, byte_eq h0 h1]
    split <;> simp_all <;> omega

/-- what the program's functions without a body are -/
class Facts [Prg] : Prop where
  ext1 : ∀ (f : Nat) fn, PP.funcs[f]? = some fn → fn.body = none → fn.name = "internal/abi.NoEscape" → Extern.findNext fn = none ∧ Extern.find fn = some Extern.AbiNoEscape.same
  ext2 : ∀ (f : Nat) fn, PP.funcs[f]? = some fn → fn.body = none → fn.name = "internal/bytealg.IndexByteString" → Extern.findNext fn = none ∧ Extern.find fn = some Extern.BytealgIndexByte.indexByte
  ext3 : ∀ (f : Nat) fn, PP.funcs[f]? = some fn → fn.body = none → fn.name = "internal/bytealg.CountString" → Extern.findNext fn = none ∧ Extern.find fn = some Extern.BytealgCount.count
  ext4 : ∀ (f : Nat) fn, PP.funcs[f]? = some fn → fn.body = none → fn.name = "internal/bytealg.MakeNoZero" →
    Extern.findNext fn = none ∧ Extern.find fn = some (Extern.BytealgMakeNoZero.makeNoZero fn.params fn.resultTypes) ∧ fn.resultTypes.size = 1

variable [Prg] [Facts]

omit [Facts] in
theorem makeNoZero_ok {σ : Sg} {W : AW} {w : World} (hr : HR σ W w) {n : Int} (h0 : 0 ≤ n) (h1 : n < 1000000) {ps : Array TypeId} {t e : TypeId} (hu : U t = some (.slice e)) :
    ∃ σ' v' w', (Extern.BytealgMakeNoZero.makeNoZero ps #[t] #[.int .i64 n]).run PP w = .ok v' w' ∧ VR σ' (.slice W.n 0 n.toNat (.free 1)) v' ∧ Ext σ σ' W (W.new (.cells [] e .clean)) w w' ∧ HR σ' (W.new (.cells [] e .clean)) w' := by
  obtain ⟨m, rfl⟩ := Int.eq_ofNat_of_zero_le h0
  obtain ⟨cs, h2, h3, _⟩ := Lib.run_makeNoZero_cap (P := PP) w ps t e (by rw [← U_eq]; exact hu) m (by omega)
  refine ⟨_, _, _, h2, .slf _ _ _ _ _ _ ⟨w.heap.size, 0, cs.size⟩ ?_ h3 (.inl rfl) (by simp), new_ok hr _ cs.size (Array.size_push _) ?_ ?_ rfl rfl rfl⟩
  · simp [Sg.add]
  · intro b hb
    show (w.heap.push _)[b]? = _
    rw [Array.getElem?_push, if_neg (by omega)]
  · exact ⟨_, (0, 0), arr_push_get _ _, by simp, fun i x hx => by simp at hx, ⟨rfl, rfl⟩⟩

theorem externA_ok {σ : Sg} {W W' : AW} {w : World} (hr : HR σ W w) {f : FuncId} {fn : Func} (hf : PP.funcs[f]? = some fn) (hb : fn.body = none) {args : List AV} {v : AV} (h : externA fn args W = some (v, W'))
    {args' : List Value} (ha : LR σ args args') :
    ∃ σ' v' w', (callFunc f args'.toArray).run PP w = .ok (.value v') w' ∧ VR σ' v v' ∧ Ext σ σ' W W' w w' ∧ HR σ' W' w' := by
  unfold externA at h
  have hbn : fn.body.isNone = true := by rw [hb]; rfl
  split at h
  · rename_i hn
    have hn := eq_of_beq hn
    obtain ⟨q1, q2⟩ := Facts.ext1 f fn hf hb hn
    split at h
    · cases h
      obtain ⟨x', rfl, hx⟩ := ha.one
      refine ⟨σ, x', w, ?_, hx, Ext.refl _ _ _, hr⟩
      rw [run_callFunc_extern hf (by rw [hn]; decide) hbn q1 q2]
      rfl
    · cases h
  · split at h
    · rename_i hn
      have hn := eq_of_beq hn
      obtain ⟨q1, q2⟩ := Facts.ext2 f fn hf hb hn
      split at h
      · split at h
        · rename_i hc
          obtain ⟨x', y', rfl, hx, hy⟩ := ha.two
          cases hx with
          | str _ s hs =>
          cases hy
          have hi := firstIdx_eq hs hc.1 hc.2
          have key : ∀ c : Int, (callFunc f #[.string s, .int .u8 c]).run PP w = .ok (.value (.int .i64 (firstIdx s c.toNat.toUInt8))) w := fun c => by
            rw [run_callFunc_extern hf (by rw [hn]; decide) hbn q1 q2, run_indexByte_string]; rfl
          split at h
          · rename_i i hfi
            cases h
            rw [hfi] at hi
            simp only at hi
            exact ⟨σ, _, w, key _, by rw [hi]; exact .int _ _, Ext.refl _ _ _, hr⟩
          · rename_i hfi
            cases h
            rw [hfi] at hi
            simp only at hi
            exact ⟨σ, _, w, key _, by rw [hi]; exact .int _ _, Ext.refl _ _ _, hr⟩
        · cases h
      · cases h
    · split at h
      · rename_i hn
        have hn := eq_of_beq hn
        obtain ⟨q1, q2⟩ := Facts.ext3 f fn hf hb hn
        split at h
        · split at h
          · rename_i hc
            cases h
            obtain ⟨x', y', rfl, hx, hy⟩ := ha.two
            cases hx with
            | str _ s hs =>
            cases hy
            refine ⟨σ, _, w, by rw [run_callFunc_extern hf (by rw [hn]; decide) hbn q1 q2, Lib.run_countString]; rfl, ?_, Ext.refl _ _ _, hr⟩
            rw [← hs, show ((0 : Nat) : Int) = 0 from rfl, count_eq hc.1 hc.2, Int.zero_add]
            exact .int _ _
          · cases h
        · cases h
      · split at h
        · rename_i hn
          have hn := eq_of_beq hn
          obtain ⟨q1, q2, q3⟩ := Facts.ext4 f fn hf hb hn
          split at h
          · split at h
            · rename_i e hu
              split at h
              · rename_i hc
                cases h
                obtain ⟨x', rfl, hx⟩ := ha.one
                cases hx
                cases ht : fn.resultTypes[0]? with
                | none => simp [ht] at hu
                | some t =>
                  simp only [ht, Option.bind_some] at hu
                  have hrt : fn.resultTypes = #[t] := by
                    obtain ⟨l⟩ : ∃ l, fn.resultTypes = l := ⟨_, rfl⟩
                    match l, hl : fn.resultTypes with
                    | _, ⟨[x]⟩ => rw [hl] at ht; simp at ht; rw [ht]
                    | _, ⟨[]⟩ => rw [hl] at q3; simp at q3
                    | _, ⟨_ :: _ :: _⟩ => rw [hl] at q3; simp at q3
                  obtain ⟨σ', v', w', m1, m2, m3, m4⟩ := makeNoZero_ok (ps := fn.params) hr hc.1 hc.2 hu
                  exact ⟨σ', v', w', by rw [run_callFunc_extern hf (by rw [hn]; decide) hbn q1 q2, hrt, m1]; rfl, m2, m3, m4⟩
              · cases h
            · cases h
          · cases h
        · cases h

end Go.Ev

namespace Go.Ev

/-- a frame upon its base -/
def FA (b : Frame) (s : Array Value) (ds : List Deferred) (todo : List Item) : Frame := { b with tmps := s, todo := todo, defers := ds, mode := .run }

/-- there is no panic to be recovered from -/
def KindOk (k : CallKind) (cs : List Frame) : Prop := k = .normal ∨ (k = .deferred ∧ ∃ c cs', cs = c :: cs' ∧ c.mode = .returning)

theorem tryRecover_none {fr : Frame} {cs : List Frame} (h : KindOk fr.kind cs) : tryRecover fr cs = none := by
  rcases h with h | ⟨h, c, cs', rfl, hm⟩
  · simp [tryRecover, h]
  · simp [tryRecover, h, hm]

/-- where a jump goes -/
def Res : Code → List Item → Option (List Item)
  | .exit id, k => exitTo id k
  | .goto l, k => gotoIn l k
  | _, _ => none

theorem Res_code {c y : Code} {k : List Item} : Res c (.code y :: k) = Res c k := by cases c <;> rfl
theorem Res_inLoop {c y : Code} {k : List Item} : Res c (.inLoop y :: k) = Res c k := by cases c <;> rfl

/-- a jump -/
def IsJ : Code → Prop
  | .exit _ | .goto _ | .ret => True
  | _ => False

theorem Steps.rest {P : Program} {m m1 t : Machine} (h : step P m = .next m1) (g : Steps P m t) (hne : t ≠ m) : Steps P m1 t := by
  obtain ⟨n, hn⟩ := g
  cases n with
  | zero => simp only [runN] at hn; cases hn; exact absurd rfl hne
  | succ n => simp only [runN, h] at hn; exact ⟨n, hn⟩

theorem FA_todo {b b' : Frame} {s s' : Array Value} {ds ds' : List Deferred} {k k' : List Item} {cs cs' : List Frame} {w w' : World} (h : lone (FA b s ds k) cs w = lone (FA b' s' ds' k') cs' w') : k = k' := by
  have h1 : (lone (FA b s ds k) cs w).gs[0]? = (lone (FA b' s' ds' k') cs' w').gs[0]? := by rw [h]
  simp [lone, FA] at h1
  exact h1.1.2.2.1

theorem FA_eval (b : Frame) (s : Array Value) (ds : List Deferred) (todo : List Item) (x : Operand) : (FA b s ds todo).eval x = (match x with
  | .tmp t => s.getD t undef
  | .const v => v
  | .global g => .pointer (some ⟨g, 0, none⟩)
  | .func f => .func (.func f) #[] #[]) := by cases x <;> rfl

def evalS (s : Array Value) : Operand → Value
  | .tmp t => s.getD t undef
  | .const v => v
  | .global g => .pointer (some ⟨g, 0, none⟩)
  | .func f => .func (.func f) #[] #[]

theorem FA_evalS (b : Frame) (s : Array Value) (ds : List Deferred) (todo : List Item) : (FA b s ds todo).eval = evalS s := by
  funext x; cases x <;> rfl

section
variable {P : Program} {b : Frame} {s : Array Value} {ds : List Deferred} {k : List Item} {cs : List Frame} {w : World}

theorem fa_skip : step P (lone (FA b s ds (.code .skip :: k)) cs w) = .next (lone (FA b s ds k) cs w) := step_lone_go (by simp [stepG, stepG.exec, FA])
theorem fa_label {l : Nat} : step P (lone (FA b s ds (.code (.label l) :: k)) cs w) = .next (lone (FA b s ds k) cs w) := step_lone_go (by simp [stepG, stepG.exec, FA])
theorem fa_inBlock {id : Nat} : step P (lone (FA b s ds (.inBlock id :: k)) cs w) = .next (lone (FA b s ds k) cs w) := step_lone_go (by simp [stepG, stepG.exec, FA])
theorem fa_inScope {c : Code} : step P (lone (FA b s ds (.inScope c :: k)) cs w) = .next (lone (FA b s ds k) cs w) := step_lone_go (by simp [stepG, stepG.exec, FA])
theorem fa_seq {x y : Code} : step P (lone (FA b s ds (.code (.seq x y) :: k)) cs w) = .next (lone (FA b s ds (.code x :: .code y :: k)) cs w) := step_lone_go (by simp [stepG, stepG.exec, FA])
theorem fa_cond {c : Operand} {x y : Code} {t : Bool} (h : evalS s c = .bool t) :
    step P (lone (FA b s ds (.code (.cond c x y) :: k)) cs w) = .next (lone (FA b s ds (.code (if t then x else y) :: k)) cs w) :=
  step_lone_go (by
    have h2 := congrFun (FA_evalS b s ds (.code (.cond c x y) :: k)) c
    rw [h] at h2
    simp only [FA] at h2
    simp [stepG, stepG.exec, FA, h2])
theorem fa_block {id : Nat} {c : Code} : step P (lone (FA b s ds (.code (.block id c) :: k)) cs w) = .next (lone (FA b s ds (.code c :: .inBlock id :: k)) cs w) := step_lone_go (by simp [stepG, stepG.exec, FA])
theorem fa_loop {c : Code} : step P (lone (FA b s ds (.code (.loop c) :: k)) cs w) = .next (lone (FA b s ds (.code c :: .inLoop c :: k)) cs w) := step_lone_go (by simp [stepG, stepG.exec, FA])
theorem fa_inLoop {c : Code} : step P (lone (FA b s ds (.inLoop c :: k)) cs w) = .next (lone (FA b s ds (.code c :: .inLoop c :: k)) cs w) := step_lone_go (by simp [stepG, stepG.exec, FA])
theorem fa_scope {c : Code} : step P (lone (FA b s ds (.code (.scope c) :: k)) cs w) = .next (lone (FA b s ds (.code c :: .inScope c :: k)) cs w) := step_lone_go (by simp [stepG, stepG.exec, FA])
theorem fa_jump {c : Code} {k' : List Item} (h : Res c k = some k') : step P (lone (FA b s ds (.code c :: k)) cs w) = .next (lone (FA b s ds k') cs w) := by
  cases c <;> simp only [Res] at h <;> try cases h
  · exact step_lone_go (by simp [stepG, stepG.exec, FA, h])
  · exact step_lone_go (by simp [stepG, stepG.exec, FA, h])
theorem fa_region {id : Nat} {ops : Array Oper} : step P (lone (FA b s ds (.code (.region id ops false) :: k)) cs w) = .next (lone (FA b s ds (.inRegion ops (List.range ops.size) :: k)) cs w) :=
  step_lone_go (by simp [stepG, stepG.exec, FA])
theorem fa_region_draw {id : Nat} {ops : Array Oper} : step P (lone (FA b s ds (.code (.region id ops true) :: k)) cs w) =
    .next (lone (FA b s ds (.inRegion ops (Region.schedule (P.follows .mixedOrders) ops (w.tape w.drawn (.order b.fn id))) :: k)) cs w.drew) :=
  step_lone_go (by simp [stepG, stepG.exec, FA, choose, Sem.run, Question.forced, Question.cut])
theorem fa_region_end {ops : Array Oper} : step P (lone (FA b s ds (.inRegion ops [] :: k)) cs w) = .next (lone (FA b s ds k) cs w) := step_lone_go (by simp [stepG, stepG.exec, FA])
theorem fa_end (h : b.roundOf = none) : step P (lone (FA b s ds []) cs w) = .next (lone { FA b s ds [] with mode := .returning } cs w) := step_lone_go (by simp [stepG, stepG.exec, FA, h])
theorem fa_ret (h : b.roundOf = none) : step P (lone (FA b s ds (.code .ret :: k)) cs w) = .next (lone { FA b s ds (.code .ret :: k) with mode := .returning } cs w) := step_lone_go (by simp [stepG, stepG.exec, FA, h])

/-- the slots with one of them set -/
def putS (s : Array Value) (d : Option Tmp) (v : Value) : Array Value := match d with
  | some d => s.setIfInBounds d v
  | none => s

theorem FA_finish {ops : Array Oper} {i : Nat} {rest : List Nat} {v : Value} : (FA b s ds (.inRegion ops (i :: rest) :: k)).finish v = FA b (putS s ((ops[i]?).bind (·.dst)) v) ds (.inRegion ops rest :: k) := by
  cases h : (ops[i]?).bind (·.dst) <;> simp [Frame.finish, FA, putS, h]

theorem fa_unwanted {ops : Array Oper} {i : Nat} {rest : List Nat} (h : ((ops[i]?).map (Region.wanted · (yielded ops s))).getD false = false) :
    step P (lone (FA b s ds (.inRegion ops (i :: rest) :: k)) cs w) = .next (lone (FA b (putS s ((ops[i]?).bind (·.dst)) undef) ds (.inRegion ops rest :: k)) cs w) := by
  rw [← FA_finish]
  exact step_lone_go (by simp [stepG, stepG.exec, FA, h])

end

variable [Prg]

/-- a frame that stands before an operation -/
structure Before (fr : Frame) (O : Oper) : Prop where
  mode : fr.mode = .run
  at_ : ∃ ops i rest k, fr.todo = .inRegion ops (i :: rest) :: k ∧ ops[i]? = some O ∧ Region.wanted O (yielded ops fr.tmps) = true

/-- an operation, run: it gives v, and the world w' -/
def OpOk (O : Oper) (ρ : Operand → Value) (w : World) (v : Value) (w' : World) : Prop :=
  ∀ (fr : Frame) (cs : List Frame), Before fr O → fr.eval = ρ → KindOk fr.kind cs → (fr.roundOf.isSome = true → isRecover O.op = false) → Steps PP (lone fr cs w) (lone (fr.finish v) cs w')

theorem before_step {fr : Frame} {O : Oper} {ρ : Operand → Value} (hb : Before fr O) (he : fr.eval = ρ) (hd : ∀ c, O.op ≠ .defer c) (cs : List Frame) (w : World) :
    (∃ ops i rest k, fr.todo = .inRegion ops (i :: rest) :: k) ∧ stepG PP true { frame := fr, callers := cs, status := .running, dying := none } w = stepG.apply PP true fr cs none (execOp ρ O) w := by
  obtain ⟨hm, ops, i, rest, k, ht, hO, hw⟩ := hb
  have hnd : ∀ l c, fr.roundOf = some l → O.op = .defer c → False := fun l c _ h2 => hd c h2
  exact ⟨⟨_, _, _, _, ht⟩, by simp [stepG, stepG.exec, hm, ht, hO, hw, stepG.oper, Frame.oper?, he]⟩

theorem opOk_of {O : Oper} {ρ : Operand → Value} {w w' : World} {v : Value} (hd : ∀ c, O.op ≠ .defer c)
    (h : (execOp ρ O).run PP w = .ok (.value v) w' ∨ ((execOp ρ O).run PP w = .ok .skip w' ∧ v = undef)) : OpOk O ρ w v w' := by
  intro fr cs hb he hk hr
  obtain ⟨⟨ops, i, rest, k, ht⟩, hs⟩ := before_step hb he hd cs w
  refine .one (step_lone_go ?_)
  rw [hs]
  rcases h with h1 | ⟨h1, h2⟩
  · simp [stepG.apply, h1]
  · subst h2
    simp [stepG.apply, h1]

theorem opOk_recover {O : Oper} {ρ : Operand → Value} {w : World} (hd : ∀ c, O.op ≠ .defer c) (hre : isRecover O.op = true) (h : (execOp ρ O).run PP w = .ok .recover w) : OpOk O ρ w .nilIface w := by
  intro fr cs hb he hk hr
  obtain ⟨⟨ops, i, rest, k, ht⟩, hs⟩ := before_step hb he hd cs w
  refine .one (step_lone_go ?_)
  rw [hs]
  have hrn : fr.roundOf = none := by
    cases hq : fr.roundOf with
    | none => rfl
    | some l => have := hr (by rw [hq]; rfl); rw [hre] at this; cases this
  simp [stepG.apply, h, hrn, tryRecover_none hk]

/-- a frame that has its value in hand and goes back -/
structure Leaves (fr : Frame) (f : FuncId) (kind : CallKind) (v : Value) (w : World) : Prop where
  fn : fr.fn = f
  kind : fr.kind = kind
  mode : fr.mode = .returning
  defers : fr.defers = []
  val : ∃ fn, PP.funcs[f]? = some fn ∧ (results fn fr.tmps).run PP w = .ok v w

/-- a call, run -/
def CallS (f : FuncId) (args : Array Value) (w : World) (v : Value) (w' : World) : Prop :=
  ∀ kind cs, KindOk kind cs → ∃ fr, Steps PP (lone (Frame.enter PP f args kind) cs w) (lone fr cs w') ∧ Leaves fr f kind v w'

theorem leave_normal {fr c : Frame} {cs : List Frame} {f : FuncId} {v : Value} {w : World} (h : Leaves fr f .normal v w) : step PP (lone fr (c :: cs) w) = .next (lone (c.finish v) cs w) := by
  obtain ⟨hf, hk, hm, hd, fn, hfn, hv⟩ := h
  subst hf
  exact step_lone_go (by simp [stepG, unwind, doReturn, hm, hd, hk, hfn, hv])

theorem leave_deferred {fr c : Frame} {cs : List Frame} {f : FuncId} {v : Value} {w : World} (h : Leaves fr f .deferred v w) (hc : c.mode = .returning) : step PP (lone fr (c :: cs) w) = .next (lone c cs w) := by
  obtain ⟨hf, hk, hm, hd, fn, hfn, hv⟩ := h
  subst hf
  exact step_lone_go (by simp [stepG, unwind, doReturn, hm, hd, hk, hfn, hv, hc])

theorem opOk_enter {O : Oper} {ρ : Operand → Value} {w w1 w' : World} {v : Value} {f : FuncId} {args : Array Value} (hd : ∀ c, O.op ≠ .defer c) (h : (execOp ρ O).run PP w = .ok (.enter f args) w1)
    (hc : CallS f args w1 v w') : OpOk O ρ w v w' := by
  intro fr cs hb he hk hr
  obtain ⟨⟨ops, i, rest, k, ht⟩, hs⟩ := before_step hb he hd cs w
  obtain ⟨fr', h1, h2⟩ := hc .normal (fr :: cs) (.inl rfl)
  refine .head (step_lone_go (fr' := Frame.enter PP f args .normal) (cs' := fr :: cs) (w' := w1) ?_) (h1.trans (.one (leave_normal h2)))
  rw [hs]
  simp [stepG.apply, h, ht]

/-- a round of a range over a function, run -/
def RoundS (l : Nat) (f : FuncId) (tmps : Array Value) (assign body : Code) (w : World) (v : Value) (w' : World) : Prop :=
  ∀ c cs, Steps PP (lone (Frame.round l f tmps assign body .normal) (c :: cs) w) (lone (c.finish v) cs w')

theorem opOk_round {O : Oper} {ρ : Operand → Value} {w w1 w' : World} {v : Value} {l : Nat} {f : FuncId} {tmps : Array Value} {assign body : Code} (hd : ∀ c, O.op ≠ .defer c)
    (h : (execOp ρ O).run PP w = .ok (.round l f tmps assign body) w1) (hc : RoundS l f tmps assign body w1 v w') : OpOk O ρ w v w' := by
  intro fr cs hb he hk hr
  obtain ⟨⟨ops, i, rest, k, ht⟩, hs⟩ := before_step hb he hd cs w
  refine .head (step_lone_go (fr' := Frame.round l f tmps assign body .normal) (cs' := fr :: cs) (w' := w1) ?_) (hc fr cs)
  rw [hs]
  simp [stepG.apply, h]

/-! ### code -/
def Arr (m : Machine) (b : Frame) (s : Array Value) (ds : List Deferred) (k : List Item) (cs : List Frame) (w : World) : Ex → Prop
  | .norm => Steps PP m (lone (FA b s ds k) cs w)
  | .jump c => IsJ c ∧ ∃ k0, Steps PP m (lone (FA b s ds (.code c :: k0)) cs w) ∧ Res c k0 = Res c k

theorem Arr.of_steps {m m1 : Machine} {b : Frame} {s : Array Value} {ds : List Deferred} {k : List Item} {cs : List Frame} {w : World} {x : Ex} (h : Steps PP m m1) (g : Arr m1 b s ds k cs w x) : Arr m b s ds k cs w x := by
  cases x with
  | norm => exact h.trans g
  | jump c => obtain ⟨hj, k0, g1, g2⟩ := g; exact ⟨hj, k0, h.trans g1, g2⟩

/-- whose frame it is: in a round or not, and of which function -/
def Base (b : Frame) (X : Bool × FuncId) : Prop := b.roundOf.isSome = X.1 ∧ b.fn = X.2

def CodeS (c : Code) (rnd : Bool × FuncId) (s : Array Value) (ds : List Deferred) (w : World) (x : Ex) (s' : Array Value) (ds' : List Deferred) (w' : World) : Prop :=
  ∀ b k cs, Base b rnd → KindOk b.kind cs → Arr (lone (FA b s ds (.code c :: k)) cs w) b s' ds' k cs w' x

def ScopeS (cur body : Code) (rnd : Bool × FuncId) (s : Array Value) (ds : List Deferred) (w : World) (x : Ex) (s' : Array Value) (ds' : List Deferred) (w' : World) : Prop :=
  ∀ b k cs, Base b rnd → KindOk b.kind cs → Arr (lone (FA b s ds (.code cur :: .inScope body :: k)) cs w) b s' ds' k cs w' x

section
variable {rnd : Bool × FuncId} {s s1 s2 : Array Value} {ds ds1 ds2 : List Deferred} {w w1 w2 : World} {x : Ex}

theorem cs_skip : CodeS .skip rnd s ds w .norm s ds w := fun _ _ _ _ _ => .one fa_skip
theorem cs_label {l : Nat} : CodeS (.label l) rnd s ds w .norm s ds w := fun _ _ _ _ _ => .one fa_label
theorem cs_jump {c : Code} (hj : IsJ c) : CodeS c rnd s ds w (.jump c) s ds w := fun _ k _ _ _ => ⟨hj, k, .refl _ _, rfl⟩


theorem cs_seq {a b : Code} (h : CodeS a rnd s ds w .norm s1 ds1 w1) (g : CodeS b rnd s1 ds1 w1 x s2 ds2 w2) : CodeS (.seq a b) rnd s ds w x s2 ds2 w2 :=
  fun fb k cs h1 h2 => .of_steps (.head fa_seq (h fb (.code b :: k) cs h1 h2)) (g fb k cs h1 h2)
theorem cs_seq_jump {a b c : Code} (h : CodeS a rnd s ds w (.jump c) s1 ds1 w1) : CodeS (.seq a b) rnd s ds w (.jump c) s1 ds1 w1 := fun fb k cs h1 h2 => by
  obtain ⟨hJ, k0, g1, g2⟩ := h fb (.code b :: k) cs h1 h2
  exact ⟨hJ, k0, .head fa_seq g1, g2.trans Res_code⟩

theorem cs_cond {c : Operand} {a b : Code} {t : Bool} (hc : evalS s c = .bool t) (h : CodeS (if t then a else b) rnd s ds w x s1 ds1 w1) : CodeS (.cond c a b) rnd s ds w x s1 ds1 w1 :=
  fun fb k cs h1 h2 => .of_steps (.one (fa_cond hc)) (h fb k cs h1 h2)

theorem cs_block {id : Nat} {c : Code} (h : CodeS c rnd s ds w .norm s1 ds1 w1) : CodeS (.block id c) rnd s ds w .norm s1 ds1 w1 := fun fb k cs h1 h2 =>
  .head fa_block (Steps.trans (h fb (.inBlock id :: k) cs h1 h2) (.one fa_inBlock))
theorem cs_block_exit {id : Nat} {c : Code} (h : CodeS c rnd s ds w (.jump (.exit id)) s1 ds1 w1) : CodeS (.block id c) rnd s ds w .norm s1 ds1 w1 := fun fb k cs h1 h2 => by
  obtain ⟨hJ, k0, g1, g2⟩ := h fb (.inBlock id :: k) cs h1 h2
  have : Res (.exit id) k0 = some k := by rw [g2]; simp [Res, exitTo]
  exact .head fa_block (g1.trans (.one (fa_jump this)))
theorem cs_block_jump {id : Nat} {c j : Code} (hj : ∀ id', j = .exit id' → (id == id') = false) (h : CodeS c rnd s ds w (.jump j) s1 ds1 w1) : CodeS (.block id c) rnd s ds w (.jump j) s1 ds1 w1 := fun fb k cs h1 h2 => by
  obtain ⟨hJ, k0, g1, g2⟩ := h fb (.inBlock id :: k) cs h1 h2
  refine ⟨hJ, k0, .head fa_block g1, g2.trans ?_⟩
  cases j <;> simp only [Res]
  · rename_i id'
    simp [exitTo, hj id' rfl]
  · simp [gotoIn]

theorem cs_loop {c : Code} (h : CodeS c rnd s ds w .norm s1 ds1 w1) (g : CodeS (.loop c) rnd s1 ds1 w1 x s2 ds2 w2) : CodeS (.loop c) rnd s ds w x s2 ds2 w2 := fun fb k cs h1 h2 => by
  have g1 := g fb k cs h1 h2
  have key : ∀ {b' s' ds' k' w'}, k' ≠ .code (.loop c) :: k → Steps PP (lone (FA fb s1 ds1 (.code (.loop c) :: k)) cs w1) (lone (FA b' s' ds' k') cs w') →
      Steps PP (lone (FA fb s ds (.code (.loop c) :: k)) cs w) (lone (FA b' s' ds' k') cs w') := fun hne hm =>
    .head fa_loop (Steps.trans (h fb (.inLoop c :: k) cs h1 h2) (.head fa_inLoop (Steps.rest fa_loop hm fun he => hne (FA_todo he))))
  cases x with
  | norm => exact key (fun he => by have := congrArg List.length he; simp at this) g1
  | jump j =>
    obtain ⟨hJ, k0, g2, g3⟩ := g1
    exact ⟨hJ, k0, key (fun he => by cases he; exact hJ) g2, g3⟩
theorem cs_loop_jump {c j : Code} (h : CodeS c rnd s ds w (.jump j) s1 ds1 w1) : CodeS (.loop c) rnd s ds w (.jump j) s1 ds1 w1 := fun fb k cs h1 h2 => by
  obtain ⟨hJ, k0, g1, g2⟩ := h fb (.inLoop c :: k) cs h1 h2
  exact ⟨hJ, k0, .head fa_loop g1, g2.trans Res_inLoop⟩

theorem cs_scope {c : Code} (h : ScopeS c c rnd s ds w x s1 ds1 w1) : CodeS (.scope c) rnd s ds w x s1 ds1 w1 := fun fb k cs h1 h2 =>
  .of_steps (.one fa_scope) (h fb k cs h1 h2)
theorem ss_norm {a c : Code} (h : CodeS a rnd s ds w .norm s1 ds1 w1) : ScopeS a c rnd s ds w .norm s1 ds1 w1 := fun fb k cs h1 h2 =>
  Steps.trans (h fb (.inScope c :: k) cs h1 h2) (.one fa_inScope)
theorem ss_goto {a c rest : Code} {l : Nat} (hl : findLabel c l = some rest) (h : CodeS a rnd s ds w (.jump (.goto l)) s1 ds1 w1) (g : ScopeS rest c rnd s1 ds1 w1 x s2 ds2 w2) : ScopeS a c rnd s ds w x s2 ds2 w2 := fun fb k cs h1 h2 => by
  obtain ⟨hJ, k0, g1, g2⟩ := h fb (.inScope c :: k) cs h1 h2
  have : Res (.goto l) k0 = some (.code rest :: .inScope c :: k) := by rw [g2]; simp [Res, gotoIn, hl]
  exact .of_steps (g1.trans (.one (fa_jump this))) (g fb k cs h1 h2)
theorem ss_jump {a c j : Code} (hj : ∀ l, j = .goto l → findLabel c l = none) (h : CodeS a rnd s ds w (.jump j) s1 ds1 w1) : ScopeS a c rnd s ds w (.jump j) s1 ds1 w1 := fun fb k cs h1 h2 => by
  obtain ⟨hJ, k0, g1, g2⟩ := h fb (.inScope c :: k) cs h1 h2
  refine ⟨hJ, k0, g1, g2.trans ?_⟩
  cases j <;> simp only [Res]
  · simp [exitTo]
  · rename_i l
    simp [gotoIn, hj l rfl]
end

end Go.Ev

namespace Go.Ev

/-- what is deferred -/
inductive DefsR (σ : Sg) : List AD → List Deferred → Prop where
  | nil : DefsR σ [] []
  | call {f : FuncId} {as : List AV} {args capt : Array Value} {l : List AD} {ds : List Deferred} (ha : LR σ as (args.toList ++ capt.toList)) (t : DefsR σ l ds) :
      DefsR σ (.call f as :: l) ({ target := .fn (.func f) capt, args } :: ds)
  | coll {D : Nat} {e : En} {l : List AD} {ds : List Deferred} (he : σ D = some e) (t : DefsR σ l ds) : DefsR σ (.coll D :: l) ({ target := .collected e.blk, args := #[] } :: ds)

theorem DefsR.mono {σ σ' : Sg} (m : Le σ σ') {l : List AD} {ds : List Deferred} (h : DefsR σ l ds) : DefsR σ' l ds := by
  induction h with
  | nil => exact .nil
  | call ha _ ih => exact .call (ha.mono m) ih
  | coll he _ ih => exact .coll (m _ _ he) ih

/-- how memory stands behind -/
structure Post (σ : Sg) (W : AW) (w : World) (σ' : Sg) (W' : AW) (w' : World) : Prop where
  ext : Ext σ σ' W W' w w'
  hr : HR σ' W' w'
  orc : ∀ x ∈ W'.orc, x ∈ W.orc

theorem Post.refl {σ : Sg} {W : AW} {w : World} (hr : HR σ W w) : Post σ W w σ W w := ⟨Ext.refl _ _ _, hr, fun _ h => h⟩
theorem Post.trans {σ σ1 σ2 : Sg} {W W1 W2 : AW} {w w1 w2 : World} (hr : HR σ W w) (h : Post σ W w σ1 W1 w1) (g : Post σ1 W1 w1 σ2 W2 w2) : Post σ W w σ2 W2 w2 :=
  ⟨h.ext.trans hr g.ext, g.hr, fun x hx => h.orc x (g.orc x hx)⟩

variable [Prg]

/-- the package-level variables stand at their places -/
def Glob (σ : Sg) : Prop := ∀ g, g < PP.globals.size → ∃ c, σ g = some ⟨g, 0, c⟩
theorem Glob.mono {σ σ' : Sg} (m : Le σ σ') (h : Glob σ) : Glob σ' := fun g hg => let ⟨c, hc⟩ := h g hg; ⟨c, m _ _ hc⟩

/-- a proved call holds -/
def EntOk (x : Ent) : Prop := ∀ args (W W' : AW) v rest, useEnt x args W rest = some (v, W') → ∀ σ w args', Glob σ → HR σ W w → LR σ args args' →
  ∃ σ' v' w', CallS x.f args'.toArray w v' w' ∧ VR σ' v v' ∧ Ext σ σ' W W' w w' ∧ HR σ' W' w'

def Good (W : AW) : Prop := ∀ x ∈ W.orc, EntOk x

theorem Post.good {σ σ' : Sg} {W W' : AW} {w w' : World} (h : Post σ W w σ' W' w') (g : Good W) : Good W' := fun x hx => g x (h.orc x hx)

structure Sound (S : EvS) : Prop where
  call : ∀ {f args W v W'}, S.call f args W = some (v, W') → Good W → ∀ {σ w args'}, Glob σ → HR σ W w → LR σ args args' → ∃ σ' v' w', CallS f args'.toArray w v' w' ∧ VR σ' v v' ∧ Post σ W w σ' W' w'
  code : ∀ {c e W x e' W'}, S.code c e W = some (x, e', W') → Good W → ∀ {σ w s ds}, Glob σ → HR σ W w → SlotsR σ e.s s → DefsR σ e.d ds → ∀ fn : FuncId,
    ∃ σ' s' ds' w', CodeS c (e.rnd, fn) s ds w x s' ds' w' ∧ SlotsR σ' e'.s s' ∧ DefsR σ' e'.d ds' ∧ e'.rnd = e.rnd ∧ Post σ W w σ' W' w'
  scope : ∀ {a c e W x e' W'}, S.scope a c e W = some (x, e', W') → Good W → ∀ {σ w s ds}, Glob σ → HR σ W w → SlotsR σ e.s s → DefsR σ e.d ds → ∀ fn : FuncId,
    ∃ σ' s' ds' w', ScopeS a c (e.rnd, fn) s ds w x s' ds' w' ∧ SlotsR σ' e'.s s' ∧ DefsR σ' e'.d ds' ∧ e'.rnd = e.rnd ∧ Post σ W w σ' W' w'

/-- a function is called, wherever -/
def CallN (f : FuncId) (args : Array Value) (w : World) (v : Value) (w' : World) : Prop :=
  (callFunc f args).run PP w = .ok (.value v) w' ∨ ((callFunc f args).run PP w = .ok (.enter f args) w ∧ CallS f args w v w')

theorem externA_orc {fn : Func} {args : List AV} {W W' : AW} {v : AV} (h : externA fn args W = some (v, W')) : W'.orc = W.orc := by
  unfold externA at h
  repeat' split at h
  all_goals first | (cases h; rfl) | cases h

variable [Facts]

theorem callFn_ok {S : EvS} (hS : Sound S) {f : FuncId} {args : List AV} {W W' : AW} {v : AV} (h : callFn S f args W = some (v, W')) (hg : Good W) {σ : Sg} {w : World} {args' : List Value} (hG : Glob σ) (hr : HR σ W w) (ha : LR σ args args') :
    ∃ σ' v' w', CallN f args'.toArray w v' w' ∧ VR σ' v v' ∧ Post σ W w σ' W' w' := by
  unfold callFn at h
  rw [funT_eq] at h
  split at h
  · cases h
  · rename_i fn hf
    split at h
    · rename_i hb
      obtain ⟨σ', v', w', h1, h2, h3, h4⟩ := externA_ok hr hf hb h ha
      exact ⟨σ', v', w', .inl h1, h2, h3, h4, fun x hx => by rw [externA_orc h] at hx; exact hx⟩
    · rename_i body hb
      split at h
      · cases h
      · rename_i hn
        obtain ⟨σ', v', w', h1, h2, h3⟩ := hS.call h hg hG hr ha
        refine ⟨σ', v', w', .inr ⟨?_, h1⟩, h2, h3⟩
        have hn : fn.name ≠ "runtime.NumGoroutine" := by simpa using hn
        simp [callFunc, hf, hn, hb]

end Go.Ev

namespace Go.Ev
theorem SlotsR.put {σ : Sg} {e : Env} {s : Array Value} (hs : SlotsR σ e.s s) (d : Option Tmp) {v : AV} {v' : Value} (hv : VR σ v v') : SlotsR σ (setD e d v).s (putS s d v') := by
  cases d with
  | none => exact hs
  | some d =>
    intro t
    have ht := hs t
    show OR (VR σ) ((T.upd v e.s d).get t) (s.setIfInBounds d v')[t]?
    rw [T.get_upd]
    by_cases h : t = d
    · subst h
      rw [if_pos rfl, Array.getElem?_setIfInBounds]
      generalize e.s.get t = a at ht
      by_cases hl : t < s.size
      · rw [Array.getElem?_eq_getElem hl] at ht
        cases ht
        simp [hl]; exact .some hv
      · rw [Array.getElem?_eq_none (by omega)] at ht
        cases ht
        simp [hl]; exact .none
    · rw [if_neg h, Array.getElem?_setIfInBounds, if_neg (Ne.symm h)]
      exact ht

variable [Prg]

theorem getO_ok {σ : Sg} (hG : Glob σ) {e : Env} {s : Array Value} (hs : SlotsR σ e.s s) (x : Operand) : VR σ (getO e x) (evalS s x) := by
  cases x with
  | tmp t =>
    have := hs t
    simp only [getO, evalS, Array.getD_eq_getD_getElem?]
    generalize e.s.get t = a, s[t]? = b at this
    cases this with
    | none => exact .tup_LR .nil
    | some h => exact h
  | const v => exact cst_ok v
  | global g =>
    simp only [getO, evalS, glO]
    split
    · rename_i h
      have h : g < PP.globals.size := Nat.le_of_ble_eq_true h
      obtain ⟨c, hc⟩ := hG g h
      exact .ptr g 0 ⟨g, 0, c⟩ hc
    · exact .unk _
  | func f => exact .func_LR .nil .nil


/-- what code does, said of an evaluator's answer -/
def CodeOk (c : Code) (F : Env → AW → Option (Ex × Env × AW)) : Prop := ∀ {e W x e' W'}, F e W = some (x, e', W') → Good W → ∀ {σ w s ds}, Glob σ → HR σ W w → SlotsR σ e.s s → DefsR σ e.d ds → ∀ fn : FuncId,
    ∃ σ' s' ds' w', CodeS c (e.rnd, fn) s ds w x s' ds' w' ∧ SlotsR σ' e'.s s' ∧ DefsR σ' e'.d ds' ∧ e'.rnd = e.rnd ∧ Post σ W w σ' W' w'

theorem codeF_ok {S : EvS} (hS : Sound S) (hR : ∀ id ops draw, CodeOk (.region id ops draw) (regionF S ops draw)) (hF : ∀ f ps a b, CodeOk (.rangeFunc f ps a b) (rangeF S f ps a b)) (c : Code) : CodeOk c (codeF S c) := by
  intro e W x e' W' h hg σ w s ds hG hr hs hd fn
  cases c with
  | skip => cases h; exact ⟨σ, s, ds, w, cs_skip, hs, hd, rfl, .refl hr⟩
  | label l => cases h; exact ⟨σ, s, ds, w, cs_label, hs, hd, rfl, .refl hr⟩
  | exit id => cases h; exact ⟨σ, s, ds, w, cs_jump trivial, hs, hd, rfl, .refl hr⟩
  | goto l => cases h; exact ⟨σ, s, ds, w, cs_jump trivial, hs, hd, rfl, .refl hr⟩
  | ret => cases h; exact ⟨σ, s, ds, w, cs_jump trivial, hs, hd, rfl, .refl hr⟩
  | refuse w => cases h
  | region id ops draw => exact hR id ops draw h hg hG hr hs hd fn
  | rangeFunc f ps a b => exact hF f ps a b h hg hG hr hs hd fn
  | seq a b =>
    simp only [codeF] at h
    split at h
    · rename_i e1 W1 h1
      obtain ⟨σ1, s1, ds1, w1, c1, k1, d1, r1, p1⟩ := hS.code h1 hg hG hr hs hd fn
      obtain ⟨σ2, s2, ds2, w2, c2, k2, d2, r2, p2⟩ := hS.code h (p1.good hg) (hG.mono p1.ext.mono) p1.hr k1 d1 fn
      rw [r1] at c2 r2
      exact ⟨σ2, s2, ds2, w2, cs_seq c1 c2, k2, d2, r2, p1.trans hr p2⟩
    · rename_i hne
      obtain ⟨σ1, s1, ds1, w1, c1, k1, d1, r1, p1⟩ := hS.code h hg hG hr hs hd fn
      cases x with
      | norm => exact absurd h (hne _ _)
      | jump j => exact ⟨σ1, s1, ds1, w1, cs_seq_jump c1, k1, d1, r1, p1⟩
  | cond c a b =>
    simp only [codeF] at h
    have hc := getO_ok hG hs c
    split at h
    · rename_i hb
      rw [hb] at hc
      obtain ⟨σ1, s1, ds1, w1, c1, p⟩ := hS.code h hg hG hr hs hd fn
      generalize hv : evalS s c = v at hc
      cases hc
      exact ⟨σ1, s1, ds1, w1, cs_cond hv c1, p⟩
    · rename_i hb
      rw [hb] at hc
      obtain ⟨σ1, s1, ds1, w1, c1, p⟩ := hS.code h hg hG hr hs hd fn
      generalize hv : evalS s c = v at hc
      cases hc
      exact ⟨σ1, s1, ds1, w1, cs_cond hv c1, p⟩
    · cases h
  | block id c =>
    simp only [codeF] at h
    split at h
    · rename_i id' e1 W1 h1
      obtain ⟨σ1, s1, ds1, w1, c1, p⟩ := hS.code h1 hg hG hr hs hd fn
      split at h
      · rename_i hid
        cases h
        have := beq_eq hid
        subst this
        exact ⟨σ1, s1, ds1, w1, cs_block_exit c1, p⟩
      · rename_i hid
        cases h
        refine ⟨σ1, s1, ds1, w1, cs_block_jump (fun id2 h2 => ?_) c1, p⟩
        cases h2
        have : id ≠ id' := fun hh => hid (by subst hh; exact Nat.beq_refl id)
        simpa using this
    · rename_i hne
      obtain ⟨σ1, s1, ds1, w1, c1, p⟩ := hS.code h hg hG hr hs hd fn
      cases x with
      | norm => exact ⟨σ1, s1, ds1, w1, cs_block c1, p⟩
      | jump j => exact ⟨σ1, s1, ds1, w1, cs_block_jump (fun id2 h2 => by subst h2; exact absurd h (hne _ _ _)) c1, p⟩
  | loop c =>
    simp only [codeF] at h
    split at h
    · rename_i e1 W1 h1
      obtain ⟨σ1, s1, ds1, w1, c1, k1, d1, r1, p1⟩ := hS.code h1 hg hG hr hs hd fn
      obtain ⟨σ2, s2, ds2, w2, c2, k2, d2, r2, p2⟩ := hS.code h (p1.good hg) (hG.mono p1.ext.mono) p1.hr k1 d1 fn
      rw [r1] at c2 r2
      exact ⟨σ2, s2, ds2, w2, cs_loop c1 c2, k2, d2, r2, p1.trans hr p2⟩
    · rename_i hne
      obtain ⟨σ1, s1, ds1, w1, c1, p⟩ := hS.code h hg hG hr hs hd fn
      cases x with
      | norm => exact absurd h (hne _ _)
      | jump j => exact ⟨σ1, s1, ds1, w1, cs_loop_jump c1, p⟩
  | scope c =>
    obtain ⟨σ1, s1, ds1, w1, c1, p⟩ := hS.scope h hg hG hr hs hd fn
    exact ⟨σ1, s1, ds1, w1, cs_scope c1, p⟩

theorem scopeF_ok {S : EvS} (hS : Sound S) (a c : Code) {e : Env} {W : AW} {x : Ex} {e' : Env} {W' : AW} (h : scopeF S a c e W = some (x, e', W')) (hg : Good W) {σ : Sg} {w : World} {s : Array Value} {ds : List Deferred}
    (hG : Glob σ) (hr : HR σ W w) (hs : SlotsR σ e.s s) (hd : DefsR σ e.d ds) (fn : FuncId) :
    ∃ σ' s' ds' w', ScopeS a c (e.rnd, fn) s ds w x s' ds' w' ∧ SlotsR σ' e'.s s' ∧ DefsR σ' e'.d ds' ∧ e'.rnd = e.rnd ∧ Post σ W w σ' W' w' := by
  unfold scopeF at h
  split at h
  · rename_i l e1 W1 h1
    obtain ⟨σ1, s1, ds1, w1, c1, k1, d1, r1, p1⟩ := hS.code h1 hg hG hr hs hd fn
    split at h
    · rename_i rest hl
      obtain ⟨σ2, s2, ds2, w2, c2, k2, d2, r2, p2⟩ := hS.scope h (p1.good hg) (hG.mono p1.ext.mono) p1.hr k1 d1 fn
      rw [r1] at c2 r2
      exact ⟨σ2, s2, ds2, w2, ss_goto hl c1 c2, k2, d2, r2, p1.trans hr p2⟩
    · rename_i hl
      cases h
      exact ⟨σ1, s1, ds1, w1, ss_jump (fun l2 h2 => by cases h2; exact hl) c1, k1, d1, r1, p1⟩
  · rename_i hne
    obtain ⟨σ1, s1, ds1, w1, c1, p⟩ := hS.code h hg hG hr hs hd fn
    cases x with
    | norm => exact ⟨σ1, s1, ds1, w1, ss_norm c1, p⟩
    | jump j => exact ⟨σ1, s1, ds1, w1, ss_jump (fun l2 h2 => by subst h2; exact absurd h (hne _ _ _)) c1, p⟩

end Go.Ev

namespace Go.Ev

theorem setMany_get : ∀ (l : List AV) (s : T AV) (i j : Nat), (setMany s l i).get j = if i ≤ j ∧ j < i + l.length then (s.get j).map (fun _ => l.getD (j - i) undefA) else s.get j
  | [], s, i, j => by simp [setMany]; omega
  | a :: l, s, i, j => by
    rw [setMany, setMany_get l, T.get_upd]
    by_cases h : j = i
    · subst h
      rw [if_neg (by omega), if_pos rfl, if_pos ⟨Nat.le_refl _, by simp⟩]
      simp
    · rw [if_neg h]
      by_cases h2 : i + 1 ≤ j ∧ j < i + 1 + l.length
      · rw [if_pos h2, if_pos ⟨by omega, by simp; omega⟩]
        have : j - i = (j - (i + 1)) + 1 := by omega
        rw [this]; rfl
      · rw [if_neg h2, if_neg (by simp; omega)]

theorem enter_slots {σ : Sg} {nt : Nat} {args : List AV} {args' : List Value} (ha : LR σ args args') : SlotsR σ (enterEnv nt args).s (args'.toArray ++ Array.replicate (nt - args'.toArray.size) undef) := by
  intro t
  have hl := ha.length
  simp only [enterEnv]
  rw [setMany_get, T.get_blank _ _ _ _ (Nat.lt_of_lt_of_le Nat.lt_two_pow_self (Nat.pow_le_pow_right (by omega) (Nat.le_succ _)))]
  by_cases h : t < args.length
  · rw [if_pos ⟨by omega, by omega⟩, if_pos (by omega)]
    obtain ⟨v, hv, hr⟩ := ha.get t args[t] (List.getElem?_eq_getElem h)
    have : (args'.toArray ++ Array.replicate (nt - args'.toArray.size) undef)[t]? = some v := by
      rw [Array.getElem?_append_left (by simpa using by omega)]; simpa using hv
    rw [this]
    simp [h]
    exact .some hr
  · rw [if_neg (by omega)]
    by_cases h2 : t < nt
    · rw [if_pos (by omega)]
      have : (args'.toArray ++ Array.replicate (nt - args'.toArray.size) undef)[t]? = some undef := by
        rw [Array.getElem?_append_right (by simpa using by omega), Array.getElem?_replicate, if_pos (by simp; omega)]
      rw [this]
      exact .some (.tup_LR .nil)
    · rw [if_neg (by omega), Array.getElem?_eq_none (by simp; omega)]
      exact .none

variable [Prg]

/-- one result, read -/
def resOf (s : Array Value) (r : ResultVar) : Sem Value :=
  match r with
  | .tmp t => pure (s.getD t undef)
  | .cell a t => do loadVar t (← asAddr (s.getD a undef))

theorem resultA_ok {σ : Sg} {e : Env} {W : AW} {w : World} {s : Array Value} (hr : HR σ W w) (hs : SlotsR σ e.s s) {r : ResultVar} {v : AV} (h : resultA e W r = some v) :
    ∃ v', (resOf s r).run PP w = .ok v' w ∧ VR σ v v' := by
  have slot : ∀ t : Nat, VR σ ((e.s.get t).getD undefA) (s.getD t undef) := fun t => by
    have := hs t
    simp only [Array.getD_eq_getD_getElem?]
    generalize e.s.get t = a, s[t]? = b at this
    cases this with
    | none => exact .tup_LR .nil
    | some h => exact h
  cases r with
  | tmp t => cases h; exact ⟨_, rfl, slot t⟩
  | cell a t =>
    simp only [resultA] at h
    have ha := slot a
    generalize hx : (e.s.get a).getD undefA = x at ha h
    simp only [resOf]
    generalize hy : s.getD a undef = y at ha
    cases ha with
    | ptr A o en he =>
      obtain ⟨v', h1, h2⟩ := run_loadVar hr h he
      exact ⟨v', by simp [asAddr, h1], h2⟩
    | _ => simp [loadV] at h

theorem resultsA_ok {σ : Sg} {e : Env} {W : AW} {w : World} {s : Array Value} (hr : HR σ W w) (hs : SlotsR σ e.s s) : ∀ {l : List ResultVar} {vs : List AV}, resultsA e W l = some vs →
    ∃ vs', (l.mapM (resOf s)).run PP w = .ok vs' w ∧ LR σ vs vs'
  | [], vs, h => by cases h; exact ⟨[], by simp, .nil⟩
  | r :: l, vs, h => by
    simp only [resultsA] at h
    split at h
    · rename_i v vs1 h1 h2
      cases h
      obtain ⟨v', g1, g2⟩ := resultA_ok hr hs h1
      obtain ⟨vs', g3, g4⟩ := resultsA_ok hr hs h2
      exact ⟨v' :: vs', by simp [List.mapM_cons, g1, g3], .cons g2 g4⟩
    · cases h

omit [Prg] in
theorem results_eq (fn : Func) (s : Array Value) : results fn s = (do
    let vs ← fn.results.mapM (resOf s)
    pure (if h : vs.size = 1 then vs[0] else .tuple vs)) := rfl

theorem results_ok {σ : Sg} {e : Env} {W : AW} {w : World} {s : Array Value} (hr : HR σ W w) (hs : SlotsR σ e.s s) {fn : Func} {vs : List AV} (h : resultsA e W fn.results.toList = some vs) :
    ∃ v', (results fn s).run PP w = .ok v' w ∧ VR σ (tupOf vs) v' := by
  obtain ⟨vs', h1, h2⟩ := resultsA_ok hr hs h
  refine ⟨if h : vs'.toArray.size = 1 then vs'.toArray[0] else .tuple vs'.toArray, ?_, ?_⟩
  · rw [results_eq]
    simp [Array.mapM_eq_mapM_toList, h1]
  · cases h2 with
    | nil => exact .tup_LR .nil
    | cons hv t => cases t with
      | nil => exact hv
      | cons hv2 t =>
        rw [dif_neg (by simp)]
        exact .tup_LR (.cons hv (.cons hv2 t))

/-- a frame that goes back, with what it has put off -/
def FR (b : Frame) (s : Array Value) (ds : List Deferred) (todo : List Item) : Frame := { b with tmps := s, todo := todo, defers := ds, mode := .returning }

theorem deferred_call {b : Frame} {s : Array Value} {ds : List Deferred} {todo : List Item} {cs : List Frame} {w w' : World} {f : FuncId} {args capt : Array Value} {v : Value} (h : CallN f (args ++ capt) w v w') :
    Steps PP (lone (FR b s ({ target := .fn (.func f) capt, args } :: ds) todo) cs w) (lone (FR b s ds todo) cs w') := by
  rcases h with h | ⟨h, hc⟩
  · refine .one (step_lone_go ?_)
    simp [stepG, FR, unwind, callDeferred, invoke, h]
  · obtain ⟨fr, h1, h2⟩ := hc .deferred (FR b s ds todo :: cs) (.inr ⟨rfl, _, _, rfl, rfl⟩)
    refine .head (step_lone_go (fr' := Frame.enter PP f (args ++ capt) .deferred) (cs' := FR b s ds todo :: cs) (w' := w) ?_) (h1.trans (.one (leave_deferred h2 rfl)))
    simp [stepG, FR, unwind, callDeferred, invoke, h]

theorem deferred_coll {b : Frame} {s : Array Value} {ds : List Deferred} {todo : List Item} {cs : List Frame} {w : World} {blk : Nat} (h : w.heap[blk]? = some (.deferred (some []))) :
    step PP (lone (FR b s ({ target := .collected blk, args := #[] } :: ds) todo) cs w) = .next (lone (FR b s ds todo) cs { w with heap := w.heap.setIfInBounds blk (.deferred none) }) := by
  refine step_lone_go ?_
  simp [stepG, FR, unwind, Instr.takeDeferred, run_getObj h (by intro c t f q; cases q), run_setObj h (by intro c t f q; cases q)]


omit [Prg] in
theorem killDef_ok {σ : Sg} {W : AW} {w : World} (hr : HR σ W w) {D : Nat} (hD : W.get D = some .defd) {e : En} (he : σ D = some e) :
    w.heap[e.blk]? = some (.deferred (some [])) ∧ Post σ W w σ (W.kill D) { w with heap := w.heap.setIfInBounds e.blk (.deferred none) } := by
  have hb := hr.obj _ _ _ hD he
  obtain ⟨k1, k2⟩ := kill_ok (w' := { w with heap := w.heap.setIfInBounds e.blk (.deferred none) }) hr hD he rfl (by simp) (fun b hb => by
    show (w.heap.setIfInBounds e.blk _)[b]? = _
    rw [Array.getElem?_setIfInBounds, if_neg (Ne.symm hb)]) rfl rfl rfl
  exact ⟨hb, k1, k2, fun _ h => h⟩

variable [Facts]

theorem runDefers_ok {S : EvS} (hS : Sound S) : ∀ {l : List AD} {W W' : AW}, runDefers S l W = some W' → Good W → ∀ {σ w ds}, Glob σ → HR σ W w → DefsR σ l ds →
    ∃ σ' w', (∀ b s todo cs, Steps PP (lone (FR b s ds todo) cs w) (lone (FR b s [] todo) cs w')) ∧ Post σ W w σ' W' w'
  | [], W, W', h, hg, σ, w, ds, hG, hr, hd => by
    cases h; cases hd
    exact ⟨σ, w, fun _ _ _ _ => .refl _ _, .refl hr⟩
  | .call f args :: l, W, W', h, hg, σ, w, ds, hG, hr, hd => by
    cases hd with
    | call ha t =>
      simp only [runDefers] at h
      split at h
      · rename_i v W1 h1
        obtain ⟨σ1, v1, w1, c1, _, p1⟩ := callFn_ok hS h1 hg hG hr ha
        obtain ⟨σ2, w2, c2, p2⟩ := runDefers_ok hS h (p1.good hg) (hG.mono p1.ext.mono) p1.hr (t.mono p1.ext.mono)
        refine ⟨σ2, w2, fun b s todo cs => Steps.trans (deferred_call (v := v1) ?_) (c2 b s todo cs), p1.trans hr p2⟩
        rwa [show (List.toArray (_ ++ _)) = _ from by rw [← List.append_toArray, Array.toArray_toList, Array.toArray_toList]] at c1
      · cases h
  | .coll D :: l, W, W', h, hg, σ, w, ds, hG, hr, hd => by
    cases hd with
    | coll he t =>
      simp only [runDefers] at h
      split at h
      · rename_i hD
        obtain ⟨hb, p1⟩ := killDef_ok hr hD he
        obtain ⟨σ2, w2, c2, p2⟩ := runDefers_ok hS h (p1.good hg) hG p1.hr t
        exact ⟨σ2, w2, fun b s todo cs => .head (deferred_coll hb) (c2 b s todo cs), p1.trans hr p2⟩
      · cases h

theorem bodyF_ok {S : EvS} (hS : Sound S) {f : FuncId} {fn : Func} {body : Code} (hf : PP.funcs[f]? = some fn) (hb : fn.body = some body) {args : List AV} {W W' : AW} {v : AV} (h : bodyF S fn body args W = some (v, W')) (hg : Good W)
    {σ : Sg} {w : World} {args' : List Value} (hG : Glob σ) (hr : HR σ W w) (ha : LR σ args args') : ∃ σ' v' w', CallS f args'.toArray w v' w' ∧ VR σ' v v' ∧ Post σ W w σ' W' w' := by
  unfold bodyF at h
  split at h
  · rename_i x e W1 h1
    obtain ⟨σ1, s1, ds1, w1, c1, k1, d1, r1, p1⟩ := hS.code h1 hg hG hr (enter_slots (nt := fn.ntmps) ha) .nil f
    have main : (x = .norm ∨ x = .jump .ret) → (match runDefers S e.d W1 with
      | some w2 => match resultsA e w2 fn.results.toList with
        | some vs => some (tupOf vs, w2)
        | none => none
      | none => none) = some (v, W') → ∃ σ' v' w', CallS f args'.toArray w v' w' ∧ VR σ' v v' ∧ Post σ W w σ' W' w' := by
      intro hx h
      split at h
      · rename_i W2 h2
        split at h
        · rename_i vs h3
          cases h
          obtain ⟨σ2, w2, c2, p2⟩ := runDefers_ok hS h2 (p1.good hg) (hG.mono p1.ext.mono) p1.hr d1
          obtain ⟨v', q1, q2⟩ := results_ok p2.hr (fun t => by
            have := k1 t
            generalize e.s.get t = a, s1[t]? = b at this
            cases this with
            | none => exact .none
            | some h => exact .some (h.mono p2.ext.mono)) h3
          refine ⟨σ2, v', w2, fun kind cs hk => ?_, q2, p1.trans hr p2⟩
          have hen : Frame.enter PP f args'.toArray kind = FA (Frame.enter PP f args'.toArray kind) (args'.toArray ++ Array.replicate (fn.ntmps - args'.toArray.size) undef) [] [.code body] := by
            simp [Frame.enter, FA, hf, hb]
          have hc := c1 (Frame.enter PP f args'.toArray kind) [] cs ⟨rfl, rfl⟩ hk
          rw [← hen] at hc
          have key : ∃ todo, Steps PP (lone (Frame.enter PP f args'.toArray kind) cs w) (lone (FR (Frame.enter PP f args'.toArray kind) s1 ds1 todo) cs w1) := by
            rcases hx with rfl | rfl
            · exact ⟨[], Steps.trans hc (.one (fa_end rfl))⟩
            · obtain ⟨_, k0, g1, _⟩ := hc
              exact ⟨.code .ret :: k0, g1.trans (.one (fa_ret rfl))⟩
          obtain ⟨todo, key⟩ := key
          exact ⟨_, key.trans (c2 _ _ _ _), rfl, rfl, rfl, rfl, fn, hf, q1⟩
        · cases h
      · cases h
    split at h
    · exact main (.inl rfl) h
    · exact main (.inr rfl) h
    · cases h
  · cases h

theorem callF_ok {S : EvS} (hS : Sound S) {f : FuncId} {args : List AV} {W W' : AW} {v : AV} (h : callF S f args W = some (v, W')) (hg : Good W) {σ : Sg} {w : World} {args' : List Value} (hG : Glob σ) (hr : HR σ W w) (ha : LR σ args args') :
    ∃ σ' v' w', CallS f args'.toArray w v' w' ∧ VR σ' v v' ∧ Post σ W w σ' W' w' := by
  unfold callF at h
  rw [funT_eq] at h
  split at h
  · rename_i fn hf
    split at h
    · rename_i body hb
      split at h
      · rename_i x rest ho
        split at h
        · rename_i hx
          rw [Bool.and_eq_true] at hx
          have hx := beq_eq hx.1
          subst hx
          obtain ⟨σ', v', w', h1, h2, h3, h4⟩ := hg x (by rw [ho]; simp) args W W' v rest h σ w args' hG hr ha
          refine ⟨σ', v', w', h1, h2, h3, h4, fun y hy => ?_⟩
          unfold useEnt at h
          split at h
          · cases h
            rw [ho]; exact List.mem_cons_of_mem _ hy
          · cases h
        · exact bodyF_ok hS hf hb h hg hG hr ha
      · exact bodyF_ok hS hf hb h hg hG hr ha
    · cases h
  · cases h

end Go.Ev

namespace Go.Ev

/-- a new object, laid -/
theorem NewOk.post {σ : Sg} {W : AW} {w w' : World} {ob : AO} {mk : Nat → AV} {v' : Value} (h : NewOk σ ob mk w w' v') (hr : HR σ W w) : ∃ σ', VR σ' (mk W.n) v' ∧ Post σ W w σ' (W.new ob) w' := by
  obtain ⟨cap, hc⟩ := h.cap
  have hle := Le.add (σ := σ) (A := W.n) (⟨w.heap.size, 0, cap⟩ : En) (hr.fresh W.n (Nat.le_refl _)).1
  obtain ⟨h1, h2⟩ := hc W.n _ hle (by simp [Sg.add])
  obtain ⟨q1, q2⟩ := new_ok hr ob cap h.size h.old h1 h.os h.tape h.output
  exact ⟨_, h2, q1, q2, fun _ h => h⟩

variable [Prg]

theorem storeF_orc {t : TypeId} {W W' : AW} {a x : AV} (h : storeF t W a x = some W') : W'.orc = W.orc := by
  unfold storeF at h
  repeat' split at h
  all_goals first | (cases h; rfl) | cases h
theorem mapUpdF_orc {t : TypeId} {W W' : AW} {m k x : AV} (h : mapUpdF t W m k x = some W') : W'.orc = W.orc := by
  unfold mapUpdF at h
  repeat' split at h
  all_goals first | (cases h; rfl) | cases h
theorem appendF_orc {ts : Array TypeId} {W W' : AW} {s x v : AV} (h : appendF ts W s x = some (v, W')) : W'.orc = W.orc := by
  unfold appendF at h
  repeat' split at h
  all_goals first | (cases h; rfl) | cases h
theorem copyF_orc {ts : Array TypeId} {W W' : AW} {s x v : AV} (h : copyF ts W s x = some (v, W')) : W'.orc = W.orc := by
  unfold copyF at h
  simp only at h
  repeat' split at h
  all_goals first | (cases h; rfl) | cases h
theorem deleteF_orc {t : Option TypeId} {W W' : AW} {m k : AV} (h : deleteF t W m k = some W') : W'.orc = W.orc := by
  unfold deleteF at h
  repeat' split at h
  all_goals first | (cases h; rfl) | cases h
theorem clearF_orc {t : Option TypeId} {W W' : AW} {x : AV} (h : clearF t W x = some W') : W'.orc = W.orc := by
  unfold clearF at h
  repeat' split at h
  all_goals first | (cases h; rfl) | cases h
theorem unsafeStringF_orc {ts : Array TypeId} {W W' : AW} {p n v : AV} (h : unsafeStringF ts W p n = some (v, W')) : W'.orc = W.orc := by
  unfold unsafeStringF at h
  repeat' split at h
  all_goals first | (cases h; rfl) | cases h
theorem markF_orc {e : TypeId} {W W' : AW} {x v : AV} (h : markF e W x = some (v, W')) : W'.orc = W.orc := by
  unfold markF at h
  repeat' split at h
  all_goals first | (cases h; rfl) | cases h


theorem methodA_ok {σ : Sg} {t : TypeId} {v : AV} {v' : Value} {name : String} {f : FuncId} (h : methodA t v name = some f) (hv : VR σ v v') (d : Nat) (w : World) : (method (d + 1) t v' name).run PP w = .ok (f, v') w := by
  unfold methodA at h
  rw [INFO_eq] at h
  split at h
  · split at h
    · rename_i i e hi hu
      split at h
      · rename_i m hm
        split at h
        · rename_i hp hf
          cases h
          simp [method, typeInfo, hi, hm, hp, follow, hf, receiverAt, run_U hu, Place.get]
        · cases h
      · cases h
    · cases h
  · cases h

omit [Prg] in
theorem retV_eq (v : Option AV) (w : AW) : retV v w = match v with | some v => some (v, w) | none => none := by cases v <;> rfl
omit [Prg] in
theorem retW_eq (w : Option AW) : retW w = match w with | some w => some (undefA, w) | none => none := by cases w <;> rfl
omit [Prg] in
theorem retA_eq (p : Option (AO × (Nat → AV))) (w : AW) : retA p w = match p with | some (ob, mk) => some (mk w.n, w.new ob) | none => none := by
  rcases p with _ | ⟨a, b⟩ <;> rfl
/-- the quick way is the plain one -/
theorem opF_def (S : EvS) (o : Op) (ρ : Operand → AV) (w : AW) : opF S o ρ w = opO S o ρ w := by
  cases o with
  | convert src dst x =>
    show (match U src, U dst with
      | some (.slice _), some (.slice e) => if Nat.beq src dst then markF e w (ρ x) else none
      | some .string, some (.slice _) => retA (allocF (.convert src dst x) ρ) w
      | _, _ => retV (convV src dst w (ρ x)) w) = _
    have ha : isAllocB (.convert src dst x) = (match U src, U dst with | some .string, some (.slice _) => true | _, _ => false) := rfl
    have hv : valF (.convert src dst x) ρ w = convV src dst w (ρ x) := rfl
    simp only [opO]
    rw [ha, hv, retA_eq, retV_eq]
    generalize allocF (.convert src dst x) ρ = A
    generalize convV src dst w (ρ x) = C
    generalize U src = a
    generalize U dst = b
    rcases a with _ | d
    · rfl
    · rcases b with _ | e
      · cases d <;> rfl
      · cases d <;> cases e <;> rfl
  | call c =>
    obtain ⟨k, a, t⟩ := c
    cases k with
    | builtin b =>
      show (if isBuiltinV b then retV (builtinV b t w (a.toList.map ρ)) w else bigBuiltin b t (a.toList.map ρ) w) = _
      rw [retV_eq]; rfl
    | _ => rfl
  | pick c a b =>
    show (match ρ c with | .bool true => some (ρ a, w) | .bool false => some (ρ b, w) | _ => none) = (match (match ρ c with | .bool true => some (ρ a) | .bool false => some (ρ b) | _ => none) with | some v => some (v, w) | none => none)
    generalize ρ c = v
    cases v <;> try rfl
    rename_i b
    cases b <;> rfl
  | makeInterface t x =>
    show (match U t with | some (.interface _) => none | some _ => some (AV.iface t (ρ x), w) | none => none) = (match (match U t with | some (.interface _) => none | some _ => some (AV.iface t (ρ x)) | none => none) with | some v => some (v, w) | none => none)
    generalize U t = u
    rcases u with _ | d
    · rfl
    · cases d <;> rfl
  | fieldAddr s x f =>
    show (match ρ x with | .ptr A o => retV ((fieldOff s f).map fun z => .ptr A (o + z)) w | _ => none) = (match (match ρ x with | .ptr A o => (fieldOff s f).map fun z => AV.ptr A (o + z) | _ => none) with | some v => some (v, w) | none => none)
    generalize ρ x = v
    cases v <;> first | rfl | (simp only [retV_eq])
  | _ => first
    | rfl
    | (show retV _ w = _; rw [retV_eq]; rfl)
    | (show retW _ = _; rw [retW_eq]; rfl)
    | (show retA _ w = _; rw [retA_eq]; rfl)


variable [Facts]

/-- what an operation does, said of an evaluator's answer -/
def OpR (σ : Sg) (W : AW) (w : World) (O : Oper) (ρ : Operand → Value) (v : AV) (W' : AW) : Prop := ∃ σ' v' w', OpOk O ρ w v' w' ∧ VR σ' v v' ∧ Post σ W w σ' W' w'

omit [Facts] in
theorem opOk_callN {O : Oper} {ρ : Operand → Value} {w w' : World} {v : Value} {f : FuncId} {args : Array Value} (hd : ∀ c, O.op ≠ .defer c) (h : (execOp ρ O).run PP w = (callFunc f args).run PP w)
    (hc : CallN f args w v w') : OpOk O ρ w v w' := by
  rcases hc with hc | ⟨hc, hcs⟩
  · exact opOk_of hd (.inl (by rw [h, hc]))
  · exact opOk_enter hd (by rw [h, hc]) hcs

omit [Facts] in
theorem val_op {σ : Sg} {W : AW} {w : World} (hr : HR σ W w) {O : Oper} {ρa : Operand → AV} {ρ : Operand → Value} (hρ : ∀ x ∈ O.op.operands.toList, VR σ (ρa x) (ρ x)) {v : AV} (h : valF O.op ρa W = some v) : OpR σ W w O ρ v W := by
  have hd : ∀ c, O.op ≠ .defer c := fun c hc => by rw [hc] at h; simp [valF] at h
  obtain ⟨v', h1, h2⟩ := valF_ok hr hρ h
  exact ⟨σ, v', w, opOk_of hd (.inl h1), h2, .refl hr⟩

omit [Facts] in
theorem alloc_op {σ : Sg} {W : AW} {w : World} (hr : HR σ W w) {O : Oper} {ρa : Operand → AV} {ρ : Operand → Value} (hρ : ∀ x ∈ O.op.operands.toList, VR σ (ρa x) (ρ x)) {ob : AO} {mk : Nat → AV} (h : allocF O.op ρa = some (ob, mk)) : OpR σ W w O ρ (mk W.n) (W.new ob) := by
  have hd : ∀ c, O.op ≠ .defer c := fun c hc => by rw [hc] at h; simp [allocF] at h
  obtain ⟨v', w', h1, h2⟩ := alloc_ok hρ h
  obtain ⟨σ', g1, g2⟩ := h2.post hr
  exact ⟨σ', v', w', opOk_of hd (.inl h1), g1, g2⟩

end Go.Ev

namespace Go.Ev
variable [Prg] [Facts]

/-- a round, said of an evaluator's answer -/
def RoundOk (S : EvS) : Prop := ∀ {l args W v W'}, roundF S l args W = some (v, W') → Good W → ∀ {σ w e args'}, Glob σ → HR σ W w → σ l = some e → LR σ args args' →
  ∃ fn tmps assign body σ' v' w', (Instr.yield e.blk args'.toArray).run PP w = .ok (.round e.blk fn tmps assign body) w ∧ RoundS e.blk fn tmps assign body w v' w' ∧ VR σ' v v' ∧ Post σ W w σ' W' w'

omit [Prg] [Facts] in
theorem args_LR {σ : Sg} {ρa : Operand → AV} {ρ : Operand → Value} (l : List Operand) (hρ : ∀ x ∈ l, VR σ (ρa x) (ρ x)) : LR σ (l.map ρa) (l.map ρ) := LR.map_of l ρa ρ hρ

theorem call_op {S : EvS} (hS : Sound S) (hRd : RoundOk S) {O : Oper} {c : Call} (ho : O.op = .call c) {ρa : Operand → AV} {ρ : Operand → Value} {W W' : AW} {v : AV} (h : opF S O.op ρa W = some (v, W')) (hg : Good W)
    {σ : Sg} {w : World} (hG : Glob σ) (hr : HR σ W w) (hρ : ∀ x ∈ O.op.operands.toList, VR σ (ρa x) (ρ x)) : OpR σ W w O ρ v W' := by
  have hd : ∀ c, O.op ≠ .defer c := fun c hc => by rw [ho] at hc; cases hc
  have hrun : (execOp ρ O).run PP w = ((resolve ρ c O.type).run PP w).andThen fun d w => (invoke d.target d.args).run PP w := by
    simp only [execOp, ho, Sem.run_bind]
  have hops : ∀ x ∈ c.operands.toList, VR σ (ρa x) (ρ x) := fun x hx => hρ x (by rw [ho]; exact hx)
  have hargs := args_LR (σ := σ) (ρa := ρa) (ρ := ρ) c.args.toList fun x hx => hops x (by unfold Call.operands; split <;> simp_all)
  have h0 := h
  rw [ho] at h
  rw [opF_def] at h; simp only [opO] at h
  split at h
  · rename_i f hc
    have hf := hops f (by simp [Call.operands, hc])
    unfold callV at h
    split at h
    · rename_i g first captured hfa
      rw [hfa] at hf
      obtain ⟨a', c', hv, q1, q2⟩ := hf.func_inv
      obtain ⟨σ', v', w', k1, k2, k3⟩ := callFn_ok hS h hg hG hr ((q1.append hargs).append q2)
      refine ⟨σ', v', w', opOk_callN hd (f := g) (args := (a' ++ c.args.map ρ) ++ c') ?_ ?_, k2, k3⟩
      · rw [hrun]
        simp [resolve, hc, hv, Deferred.ofValue, invoke]
      · have : (a'.toList ++ List.map ρ c.args.toList ++ c'.toList).toArray = (a' ++ c.args.map ρ) ++ c' := by
          apply Array.ext'; simp
        rwa [this] at k1
    · rename_i l hfa
      rw [hfa] at hf
      generalize hv : ρ f = fv at hf
      cases hf with
      | yield _ e he =>
        obtain ⟨fn, tmps, as, bo, σ', v', w', k1, k2, k3, k4⟩ := hRd h hg hG hr he hargs
        refine ⟨σ', v', w', opOk_round hd (l := e.blk) (f := fn) (tmps := tmps) (assign := as) (body := bo) (w1 := w) ?_ k2, k3, k4⟩
        rw [hrun]
        have : c.args.map ρ = (List.map ρ c.args.toList).toArray := by apply Array.ext'; simp
        simp only [resolve, hc, hv, Deferred.ofValue, Sem.run_pure, Result.andThen_ok, invoke]
        rw [this]
        simpa using k1
    · cases h
  · rename_i r name hc
    have hf := hops r (by simp [Call.operands, hc])
    split at h
    · rename_i t x hra
      rw [hra] at hf
      split at h
      · rename_i f hm
        generalize hv : ρ r = rv at hf
        cases hf with
        | iface _ _ x' hx =>
          obtain ⟨σ', v', w', k1, k2, k3⟩ := callFn_ok hS h hg hG hr (.cons hx hargs)
          refine ⟨σ', v', w', opOk_callN hd (f := f) (args := #[x'] ++ c.args.map ρ) ?_ ?_, k2, k3⟩
          · rw [hrun]
            have h00 : (#[Value.iface t x'] ++ Array.map ρ c.args)[0]? = some (.iface t x') := by rw [Array.getElem?_append_left (by simp)]; rfl
            have hex : (#[Value.iface t x'] ++ Array.map ρ c.args).extract 1 (#[Value.iface t x'] ++ Array.map ρ c.args).size = Array.map ρ c.args := by
              apply Array.ext'; simp; rw [List.take_of_length_le (by simp)]
            simp only [resolve, hc, hv, Sem.run_pure, Result.andThen_ok, invoke, h00, hex, callMethod, Sem.run_bind, run_program]
            rw [show PP.types.size + Made.depth = (PP.types.size + 99) + 1 from rfl, methodA_ok hm hx (PP.types.size + 99) w]
            rfl
          · have : (x' :: List.map ρ c.args.toList).toArray = #[x'] ++ c.args.map ρ := by apply Array.ext'; simp
            rwa [this] at k1
      · cases h
    · cases h
  · rename_i b hc
    split at h
    · rename_i hb
      split at h
      · rename_i u hu
        cases h
        rw [← ho] at hu
        exact val_op hr hρ hu
      · cases h
    · rename_i hnb
      clear hnb
      have hcr : c.args.map ρ = (List.map ρ c.args.toList).toArray := by apply Array.ext'; simp
      unfold bigBuiltin at h
      split at h
      · rename_i s x ha
        rw [ha] at hargs
        obtain ⟨s', x', hl, q1, q2⟩ := hargs.two
        obtain ⟨σ', v', w', k1, k2, k3, k4⟩ := appendF_ok (ty := O.type) hr h q1 q2
        refine ⟨σ', v', w', opOk_of hd (.inl ?_), k2, k3, k4, fun y hy => by rw [appendF_orc h] at hy; exact hy⟩
        rw [hrun]
        simp only [resolve, hc, Sem.run_pure, Result.andThen_ok, invoke, builtin, Sem.run_bind]
        rw [hcr, hl, k1]
        rfl
      · rename_i s x ha
        rw [ha] at hargs
        obtain ⟨s', x', hl, q1, q2⟩ := hargs.two
        obtain ⟨v', w', k1, k2, k3, k4⟩ := copyF_ok (ty := O.type) hr h q1 q2
        refine ⟨σ, v', w', opOk_of hd (.inl ?_), k2, k3, k4, fun y hy => by rw [copyF_orc h] at hy; exact hy⟩
        rw [hrun]
        simp only [resolve, hc, Sem.run_pure, Result.andThen_ok, invoke, builtin, Sem.run_bind]
        rw [hcr, hl, k1]
        rfl
      · rename_i s x ha
        rw [ha] at hargs
        obtain ⟨s', x', hl, q1, q2⟩ := hargs.two
        split at h
        · rename_i W1 h1
          cases h
          obtain ⟨w', k1, k3, k4⟩ := deleteF_ok (ty := O.type) hr h1 q1 q2
          refine ⟨σ, _, w', opOk_of hd (.inl ?_), .tup_LR .nil, k3, k4, fun y hy => by rw [deleteF_orc h1] at hy; exact hy⟩
          rw [hrun]
          simp only [resolve, hc, Sem.run_pure, Result.andThen_ok, invoke, builtin, Sem.run_bind]
          rw [hcr, hl, k1]
          rfl
        · cases h
      · rename_i x ha
        rw [ha] at hargs
        obtain ⟨x', hl, q1⟩ := hargs.one
        split at h
        · rename_i W1 h1
          cases h
          obtain ⟨w', k1, k3, k4⟩ := clearF_ok (ty := O.type) hr h1 q1
          refine ⟨σ, _, w', opOk_of hd (.inl ?_), .tup_LR .nil, k3, k4, fun y hy => by rw [clearF_orc h1] at hy; exact hy⟩
          rw [hrun]
          simp only [resolve, hc, Sem.run_pure, Result.andThen_ok, invoke, builtin, Sem.run_bind]
          rw [hcr, hl, k1]
          rfl
        · cases h
      · rename_i s x ha
        rw [ha] at hargs
        obtain ⟨s', x', hl, q1, q2⟩ := hargs.two
        obtain ⟨v', w', k1, k2, k3, k4⟩ := unsafeStringF_ok (ty := O.type) hr h q1 q2
        refine ⟨σ, v', w', opOk_of hd (.inl ?_), k2, k3, k4, fun y hy => by rw [unsafeStringF_orc h] at hy; exact hy⟩
        rw [hrun]
        simp only [resolve, hc, Sem.run_pure, Result.andThen_ok, invoke, builtin, Sem.run_bind]
        rw [hcr, hl, k1]
        rfl
      · rename_i ha
        cases h
        refine ⟨σ, .nilIface, w, opOk_recover hd ?_ ?_, .nilIface, .refl hr⟩
        · rw [ho]; obtain ⟨cc, ca, ct⟩ := c; cases hc; rfl
        · rw [hrun]
          simp only [resolve, hc, Sem.run_pure, Result.andThen_ok, invoke, builtin]
      · cases h

end Go.Ev

namespace Go.Ev
variable [Prg] [Facts]

theorem opF_ok {S : EvS} (hS : Sound S) (hRd : RoundOk S) {O : Oper} {ρa : Operand → AV} {ρ : Operand → Value} {W W' : AW} {v : AV} (h : opF S O.op ρa W = some (v, W')) (hg : Good W)
    {σ : Sg} {w : World} (hG : Glob σ) (hr : HR σ W w) (hρ : ∀ x ∈ O.op.operands.toList, VR σ (ρa x) (ρ x)) : OpR σ W w O ρ v W' := by
  have gen : (if isAllocB O.op then match allocF O.op ρa with
        | some (ob, mk) => some (mk W.n, W.new ob)
        | none => none
      else match valF O.op ρa W with
        | some v => some (v, W)
        | none => none) = some (v, W') → OpR σ W w O ρ v W' := by
    intro h
    split at h
    · split at h
      · rename_i ob mk ha
        cases h
        exact alloc_op hr hρ ha
      · cases h
    · split at h
      · rename_i u hu
        cases h
        exact val_op hr hρ hu
      · cases h
  have upd : ∀ t m k x, (O.op = .insert t m k x ∨ O.op = .mapUpdate t m k x) → (match mapUpdF t W (ρa m) (ρa k) (ρa x) with | some w' => some (undefA, w') | none => none) = some (v, W') → OpR σ W w O ρ v W' := by
    intro t m k x ho h
    have hd : ∀ c, O.op ≠ .defer c := fun c hc => by rw [hc] at ho; rcases ho with ho | ho <;> cases ho
    split at h
    · rename_i W1 h1
      cases h
      obtain ⟨w', k1, k3, k4⟩ := mapUpdF_ok hr h1 (hρ m (by rcases ho with ho | ho <;> simp [ho, Op.operands])) (hρ k (by rcases ho with ho | ho <;> simp [ho, Op.operands])) (hρ x (by rcases ho with ho | ho <;> simp [ho, Op.operands]))
      refine ⟨σ, undef, w', opOk_of hd (.inr ⟨?_, rfl⟩), .tup_LR .nil, k3, k4, fun y hy => by rw [mapUpdF_orc h1] at hy; exact hy⟩
      rcases ho with ho | ho
      · simp [execOp, ho, k1]
      · simp [execOp, ho, k1]
    · cases h
  cases ho : O.op with
  | store t a x =>
    have hd : ∀ c, O.op ≠ .defer c := fun c hc => by rw [ho] at hc; cases hc
    rw [ho] at h
    rw [opF_def] at h; simp only [opO] at h
    split at h
    · rename_i W1 h1
      cases h
      obtain ⟨w', k1, k3, k4⟩ := storeF_ok hr h1 (hρ a (by simp [ho, Op.operands])) (hρ x (by simp [ho, Op.operands]))
      refine ⟨σ, undef, w', opOk_of hd (.inr ⟨?_, rfl⟩), .tup_LR .nil, k3, k4, fun y hy => by rw [storeF_orc h1] at hy; exact hy⟩
      simp [execOp, ho, k1]
    · cases h
  | insert t m k x => exact upd t m k x (.inl ho) (by rw [ho, opF_def] at h; exact h)
  | mapUpdate t m k x => exact upd t m k x (.inr ho) (by rw [ho, opF_def] at h; exact h)
  | call c => exact call_op hS hRd ho h hg hG hr hρ
  | convert src dst x =>
    have hd : ∀ c, O.op ≠ .defer c := fun c hc => by rw [ho] at hc; cases hc
    have h0 := h
    rw [ho] at h
    rw [opF_def] at h; simp only [opO] at h
    split at h
    · rename_i e0 e hs hdst
      split at h
      · rename_i hsd
        have hsd := beq_eq hsd
        subst hsd
        obtain ⟨v', w', k1, k2, k3, k4⟩ := markF_ok hr hdst hdst (beq_self_eq_true _) h (hρ x (by simp [ho, Op.operands]))
        refine ⟨σ, v', w', opOk_of hd (.inl ?_), k2, k3, k4, fun y hy => by rw [markF_orc h] at hy; exact hy⟩
        simp [execOp, ho, k1]
      · cases h
    · exact gen (by rw [ho]; exact h)
  | _ => exact gen (by rw [ho, opF_def] at h; rw [ho]; exact h)


omit [Prg] [Facts] in
/-- is the operation wanted? the machine says so too -/
theorem wantedA_ok {σ : Sg} {ops : Array Oper} {o : Oper} {e : Env} {s : Array Value} (hs : SlotsR σ e.s s) {b : Bool} (h : wantedA ops o e = some b) : Region.wanted o (yielded ops s) = b := by
  unfold wantedA at h
  unfold Region.wanted
  split at h
  · rename_i hg
    cases h
    simp [hg]
  · rename_i j want hg
    simp only [hg]
    unfold yielded
    split at h
    · rename_i hd
      cases h
      simp [hd]
    · rename_i d hd
      have hsd := hs d
      simp only [hd, Option.bind_some]
      generalize hq : e.s.get d = a at h hsd
      generalize s[d]? = c at hsd ⊢
      cases hsd with
      | none => simp at h; subst h; simp
      | some hv =>
        rename_i x v
        cases hv <;> simp at h <;> try (subst h; simp)

/-- one operation of a region, at its turn -/
theorem step1_ok {S : EvS} (hS : Sound S) (hRd : RoundOk S) {ops : Array Oper} {i : Nat} {o : Oper} (hO : ops[i]? = some o) {e e' : Env} {W W' : AW} (h : step1 S ops o e W = some (e', W')) (hg : Good W)
    {σ : Sg} {w : World} {s : Array Value} (hG : Glob σ) (hr : HR σ W w) (hs : SlotsR σ e.s s) :
    ∃ σ' s' w', (∀ b ds rest k cs, b.roundOf.isSome = e.rnd → KindOk b.kind cs → Steps PP (lone (FA b s ds (.inRegion ops (i :: rest) :: k)) cs w) (lone (FA b s' ds (.inRegion ops rest :: k)) cs w')) ∧
      SlotsR σ' e'.s s' ∧ e'.d = e.d ∧ e'.rnd = e.rnd ∧ Post σ W w σ' W' w' := by
  unfold step1 at h
  split at h
  · rename_i hw
    have hw := wantedA_ok hs hw
    split at h
    · cases h
    · rename_i hrec
      split at h
      · rename_i v W1 h1
        cases h
        obtain ⟨σ', v', w', k1, k2, k3⟩ := opF_ok hS hRd h1 hg hG hr (fun x _ => getO_ok hG hs x)
        have hs' : SlotsR σ' e.s s := hs.mono k3.ext.mono
        refine ⟨σ', putS s o.dst v', w', fun b ds rest k cs hb hk => ?_, SlotsR.put hs' o.dst k2, ?_, ?_, k3⟩
        · have := k1 (FA b s ds (.inRegion ops (i :: rest) :: k)) cs ⟨rfl, ops, i, rest, k, rfl, hO, hw⟩ (FA_evalS _ _ _ _) hk (fun hround => by
            have hb2 : e.rnd = true := by rw [← hb]; exact hround
            rw [hb2] at hrec
            simpa using hrec)
          rw [FA_finish, hO] at this
          exact this
        · cases o.dst <;> rfl
        · cases o.dst <;> rfl
      · cases h
  · rename_i hw
    have hw := wantedA_ok hs hw
    cases h
    refine ⟨σ, putS s o.dst undef, w, fun b ds rest k cs hb hk => ?_, SlotsR.put hs o.dst (.tup_LR .nil), ?_, ?_, .refl hr⟩
    · have := fa_unwanted (P := PP) (b := b) (s := s) (ds := ds) (k := k) (cs := cs) (w := w) (ops := ops) (i := i) (rest := rest) (by rw [hO]; simpa using hw)
      rw [hO] at this
      exact .one this
    · cases o.dst <;> rfl
    · cases o.dst <;> rfl
  · cases h

end Go.Ev

namespace Go.Ev
variable [Prg] [Facts]

omit [Facts] in
/-- a call is put off -/
theorem defer_step {ops : Array Oper} {i : Nat} {O : Oper} (hO : ops[i]? = some O) {c : Call} (ho : O.op = .defer c) {b : Frame} (hb : b.roundOf = none) {s : Array Value} (hw : Region.wanted O (yielded ops s) = true) {d : Deferred} {w : World}
    (hd : (resolve (evalS s) c O.type).run PP w = .ok d w) (ds : List Deferred) (rest : List Nat) (k : List Item) (cs : List Frame) :
    step PP (lone (FA b s ds (.inRegion ops (i :: rest) :: k)) cs w) = .next (lone (FA b (putS s O.dst undef) (d :: ds) (.inRegion ops rest :: k)) cs w) := by
  have he : (FA b s ds (.inRegion ops (i :: rest) :: k)).eval = evalS s := FA_evalS _ _ _ _
  have hf := FA_finish (b := b) (s := s) (ds := d :: ds) (k := k) (ops := ops) (i := i) (rest := rest) (v := undef)
  rw [hO] at hf
  have hr : (execOp (evalS s) O).run PP w = .ok (.defer d) w := by simp [execOp, ho, hd]
  refine step_lone_go ?_
  have h1 : stepG PP true { frame := FA b s ds (.inRegion ops (i :: rest) :: k), callers := cs, status := .running, dying := none } w = stepG.apply PP true (FA b s ds (.inRegion ops (i :: rest) :: k)) cs none (execOp (evalS s) O) w := by
    rw [← he]
    simp [stepG, stepG.exec, FA, hO, hw, stepG.oper, Frame.oper?, hb]
  rw [h1]
  simp [stepG.apply, hr]
  exact hf

omit [Prg] [Facts] in
theorem range'_cons (i n : Nat) : List.range' i (n + 1) = i :: List.range' (i + 1) n := List.range'_succ ..

theorem seqOps_ok {S : EvS} (hS : Sound S) (hRd : RoundOk S) {ops : Array Oper} : ∀ {l : List Oper} {i : Nat}, (∀ j : Nat, l[j]? = ops[i + j]?) → ∀ {e e' : Env} {W W' : AW}, seqOps S ops l e W = some (e', W') → Good W →
    ∀ {σ : Sg} {w : World} {s : Array Value} {ds : List Deferred}, Glob σ → HR σ W w → SlotsR σ e.s s → DefsR σ e.d ds →
    ∃ σ' s' ds' w', (∀ b k cs, b.roundOf.isSome = e.rnd → KindOk b.kind cs → Steps PP (lone (FA b s ds (.inRegion ops (List.range' i l.length) :: k)) cs w) (lone (FA b s' ds' (.inRegion ops [] :: k)) cs w')) ∧
      SlotsR σ' e'.s s' ∧ DefsR σ' e'.d ds' ∧ e'.rnd = e.rnd ∧ Post σ W w σ' W' w'
  | [], i, hl, e, e', W, W', h, hg, σ, w, s, ds, hG, hr, hs, hd => by
    cases h
    exact ⟨σ, s, ds, w, fun _ _ _ _ _ => .refl _ _, hs, hd, rfl, .refl hr⟩
  | o :: l, i, hl, e, e', W, W', h, hg, σ, w, s, ds, hG, hr, hs, hd => by
    have hO : ops[i]? = some o := (hl 0).symm
    have hl' : ∀ j : Nat, l[j]? = ops[i + 1 + j]? := fun j => by rw [Nat.add_assoc, Nat.add_comm 1 j]; exact hl (j + 1)
    simp only [seqOps] at h
    split at h
    · rename_i c hc
      split at h
      · rename_i hw
        have hw := wantedA_ok hs hw
        split at h
        · rename_i e1 h1
          rw [hc] at h1
          unfold deferF at h1
          simp only at h1
          split at h1
          · cases h1
          · rename_i hrnd
            split at h1
            · rename_i f hcf
              split at h1
              · rename_i g first captured hfa
                cases h1
                have hf := getO_ok hG hs f
                rw [hfa] at hf
                obtain ⟨a', c', hv, q1, q2⟩ := hf.func_inv
                have hargs : LR σ (c.args.toList.map (getO e)) (c.args.toList.map (evalS s)) := LR.map_of _ _ _ fun x _ => getO_ok hG hs x
                have hres : (resolve (evalS s) c o.type).run PP w = .ok { target := .fn (.func g) c', args := a' ++ c.args.map (evalS s) } w := by
                  simp [resolve, hcf, hv, Deferred.ofValue]
                have hd1 : DefsR σ (.call g (first ++ c.args.toList.map (getO e) ++ captured) :: e.d) ({ target := .fn (.func g) c', args := a' ++ c.args.map (evalS s) } :: ds) := by
                  refine .call ?_ hd
                  have := (q1.append hargs).append q2
                  simpa using this
                obtain ⟨σ2, s2, ds2, w2, k1, k2, k3, k4, k5⟩ := seqOps_ok hS hRd hl' h hg (s := putS s o.dst undef) (ds := { target := .fn (.func g) c', args := a' ++ c.args.map (evalS s) } :: ds) hG hr
                  (SlotsR.put (e := { e with d := .call g (first ++ c.args.toList.map (getO e) ++ captured) :: e.d }) hs o.dst (.tup_LR .nil)) (by cases o.dst <;> exact hd1)
                have hrn : (setD { e with d := .call g (first ++ c.args.toList.map (getO e) ++ captured) :: e.d } o.dst undefA).rnd = e.rnd := by cases o.dst <;> rfl
                rw [hrn] at k1 k4
                refine ⟨σ2, s2, ds2, w2, fun b k cs hb hk => ?_, k2, k3, k4, k5⟩
                have hbn : b.roundOf = none := by
                  cases hq : b.roundOf with
                  | none => rfl
                  | some _ => rw [hq] at hb; simp at hb; rw [← hb] at hrnd; simp at hrnd
                rw [List.length_cons, range'_cons]
                exact .head (defer_step hO hc hbn hw hres ds _ k cs) (k1 b k cs hb hk)
              · cases h1
            · cases h1
        · cases h
      · rename_i hw
        have hw := wantedA_ok hs hw
        obtain ⟨σ2, s2, ds2, w2, k1, k2, k3, k4, k5⟩ := seqOps_ok hS hRd hl' h hg (s := putS s o.dst undef) (ds := ds) hG hr (SlotsR.put hs o.dst (.tup_LR .nil)) (by cases o.dst <;> exact hd)
        have hrn : (setD e o.dst undefA).rnd = e.rnd := by cases o.dst <;> rfl
        rw [hrn] at k1 k4
        refine ⟨σ2, s2, ds2, w2, fun b k cs hb hk => ?_, k2, k3, k4, k5⟩
        have hst := fa_unwanted (P := PP) (b := b) (s := s) (ds := ds) (k := k) (cs := cs) (w := w) (ops := ops) (i := i) (rest := List.range' (i + 1) l.length) (by rw [hO]; simpa using hw)
        rw [hO] at hst
        rw [List.length_cons, range'_cons]
        exact .head hst (k1 b k cs hb hk)
      · cases h
    · split at h
      · rename_i e1 W1 h1
        obtain ⟨σ1, s1, w1, c1, c2, c3, c4, c5⟩ := step1_ok hS hRd hO h1 hg hG hr hs
        obtain ⟨σ2, s2, ds2, w2, k1, k2, k3, k4, k5⟩ := seqOps_ok hS hRd hl' h (c5.good hg) (hG.mono c5.ext.mono) c5.hr c2 (ds := ds) (by rw [c3]; exact hd.mono c5.ext.mono)
        rw [c4] at k1 k4
        refine ⟨σ2, s2, ds2, w2, fun b k cs hb hk => ?_, k2, k3, k4, c5.trans hr k5⟩
        rw [List.length_cons, range'_cons]
        exact (c1 b ds _ k cs hb hk).trans (k1 b k cs hb hk)
      · cases h

/-! ### the quick way -/
omit [Facts] [Prg] in
theorem slowX_false {o : Op} (h : slowX o = false) : isRecover o = false ∧ ∀ c, o ≠ .defer c := by
  cases o with
  | call c =>
    refine ⟨?_, fun _ h => by cases h⟩
    obtain ⟨k, a, t⟩ := c
    cases k with
    | builtin b => cases b <;> first | rfl | cases h
    | _ => rfl
  | defer c => cases h
  | _ => exact ⟨rfl, fun _ h => by cases h⟩

omit [Facts] [Prg] in
theorem goR_eq (r : REW) (k : Env → AW → REW) : goR r k = match r with | some (e, w) => k e w | none => none := by
  rcases r with _ | ⟨e, w⟩ <;> rfl
omit [Facts] [Prg] in
theorem setX_eq (e : Env) (d : Option Tmp) (v : AV) : setX e d v = setD e d v := by cases d <;> rfl
omit [Facts] [Prg] in
theorem goX_eq (r : Option (AV × AW)) (e : Env) (d : Option Tmp) (k : Env → AW → REW) : goX r e d k = match r with | some (v, w) => k (setD e d v) w | none => none := by
  rcases r with _ | ⟨v, w⟩
  · rfl
  · show k (setX e d v) w = _
    rw [setX_eq]

omit [Facts] in
theorem stepSlow_eq (S : EvS) (ops : Array Oper) {o : Oper} (e : Env) (w : AW) (h : ∀ c, o.op ≠ .defer c) : stepSlow S ops o e w = step1 S ops o e w := by
  unfold stepSlow
  split
  · rename_i c hc
    exact absurd hc (h c)
  · rfl

omit [Facts] in
theorem stepK_eq (S : EvS) (ops : Array Oper) (o : Oper) (e : Env) (w : AW) (k : Env → AW → REW) : stepK S ops o e w k = match stepSlow S ops o e w with | some (e, w) => k e w | none => none := by
  unfold stepK
  cases hs : slowX o.op with
  | true => exact goR_eq _ _
  | false =>
    obtain ⟨h1, h2⟩ := slowX_false hs
    rw [stepSlow_eq S ops e w h2]
    show (Option.rec (motive := fun _ => REW) (goX (opR o.op S (getO e) w) e o.dst k) (fun _ => goR (step1 S ops o e w) k) o.guard : REW) = _
    cases hg : o.guard with
    | some g => exact goR_eq _ _
    | none =>
      show goX (opR o.op S (getO e) w) e o.dst k = _
      rw [goX_eq]
      unfold step1 wantedA
      simp only [hg, h1, Bool.and_false, Bool.false_eq_true, if_false]
      show _ = (match (match opR o.op S (getO e) w with | some (v, w') => some (setD e o.dst v, w') | none => none) with | some (e, w) => k e w | none => none)
      rcases opR o.op S (getO e) w with _ | ⟨v, w'⟩ <;> rfl

omit [Facts] in
theorem seqOps_cons (S : EvS) (ops : Array Oper) (o : Oper) (l : List Oper) (e : Env) (w : AW) : seqOps S ops (o :: l) e w = match stepSlow S ops o e w with | some (e, w) => seqOps S ops l e w | none => none := by
  obtain ⟨dst, op, ty, pos, aft, gd⟩ := o
  cases op with
  | defer c =>
    simp only [seqOps, stepSlow]
    generalize wantedA ops ⟨dst, .defer c, ty, pos, aft, gd⟩ e = x
    rcases x with _ | b
    · rfl
    · cases b
      · rfl
      · simp only []
        generalize deferF (.defer c) e = y
        rcases y with _ | y <;> rfl
  | _ => rfl

omit [Facts] in
theorem seqX_eq (S : EvS) (ops : Array Oper) : ∀ (l : List Oper) (e : Env) (w : AW), seqX S ops l e w = seqOps S ops l e w
  | [], e, w => rfl
  | o :: l, e, w => by
    show stepK S ops o e w (seqX S ops l) = _
    have ih : seqX S ops l = seqOps S ops l := funext fun e => funext fun w => seqX_eq S ops l e w
    rw [stepK_eq, seqOps_cons, ih]

/-- a region whose order is not drawn -/
theorem region_ok {S : EvS} (hS : Sound S) (hRd : RoundOk S) (id : Nat) (ops : Array Oper) : CodeOk (.region id ops false) (regionF S ops false) := by
  intro e W x e' W' h hg σ w s ds hG hr hs hd fn
  simp only [regionF, Bool.false_eq_true, if_false] at h
  split at h
  · rename_i e1 W1 h1
    cases h
    rw [seqX_eq] at h1
    obtain ⟨σ1, s1, ds1, w1, k1, k2, k3, k4, k5⟩ := seqOps_ok hS hRd (i := 0) (fun j => by simp) h1 hg hG hr hs hd
    refine ⟨σ1, s1, ds1, w1, fun b k cs hb hk => ?_, k2, k3, k4, k5⟩
    have := k1 b k cs hb.1 hk
    rw [Array.length_toList, ← List.range_eq_range'] at this
    exact .head fa_region (this.trans (.one fa_region_end))
  · cases h

end Go.Ev

namespace Go.Ev

theorem setPairs_ok {σ : Sg} : ∀ (ps : List Tmp) {s : T AV} {tmps : Array Value} {as : List AV} {as' : List Value}, SlotsR σ s tmps → LR σ as as' →
    SlotsR σ (setPairs s (ps.zip as)) ((ps.zip as').foldl (fun tmps (ta : Tmp × Value) => tmps.setIfInBounds ta.1 ta.2) tmps)
  | [], s, tmps, as, as', hs, ha => by simpa [setPairs] using hs
  | p :: ps, s, tmps, as, as', hs, ha => by
    cases ha with
    | nil => simpa [setPairs] using hs
    | cons hv t =>
      simp only [List.zip_cons_cons, setPairs, List.foldl_cons]
      exact setPairs_ok ps (SlotsR.put (e := { s := s, d := [], rnd := true }) hs (some p) hv) t

theorem loop_at {σ : Sg} {W : AW} {w : World} (hr : HR σ W w) {l : Nat} {L : ALoop} (h : W.get l = some (.loop L)) {e : En} (he : σ l = some e) :
    ∃ r : Loop, w.heap[e.blk]? = some (.loop r) ∧ r.state = L.state ∧ r.pending = L.pending ∧ SlotsR σ L.slots r.tmps ∧ r.params = L.params ∧ r.assign = L.assign ∧ r.body = L.body := hr.obj l _ e h he

/-- a loop's block is turned -/
theorem loop_set {σ : Sg} {W : AW} {w : World} (hr : HR σ W w) {l : Nat} {L L' : ALoop} (h : W.get l = some (.loop L)) {e : En} (he : σ l = some e) {r' : Loop}
    (h1 : r'.state = L'.state) (h2 : r'.pending = L'.pending) (h3 : SlotsR σ L'.slots r'.tmps) (h4 : r'.params = L'.params) (h5 : r'.assign = L'.assign) (h6 : r'.body = L'.body) :
    Post σ W w σ (W.set l (.loop L')) { w with heap := w.heap.setIfInBounds e.blk (.loop r') } := by
  obtain ⟨r, hb, _⟩ := loop_at hr h he
  have hlt := (Array.getElem?_eq_some_iff.1 hb).1
  obtain ⟨k1, k2⟩ := set_ok (o' := .loop L') (w' := { w with heap := w.heap.setIfInBounds e.blk (.loop r') }) hr h he rfl (by simp) (fun b hb => by
    show (w.heap.setIfInBounds e.blk _)[b]? = _
    rw [Array.getElem?_setIfInBounds, if_neg (Ne.symm hb)])
    ⟨r', by show (w.heap.setIfInBounds e.blk _)[e.blk]? = _; rw [Array.getElem?_setIfInBounds]; simp [hlt], h1, h2, h3, h4, h5, h6⟩ rfl rfl rfl
  exact ⟨k1, k2, fun _ h => h⟩

variable [Prg] [Facts]

omit [Facts] in
theorem leave_norm {b : Frame} {l : Nat} (hl : b.roundOf = some l) (hk : b.kind = .normal) {s : Array Value} {c : Frame} {cs : List Frame} {w w' : World} {v : Value} (h : (Instr.endRound l none).run PP w = .ok v w') :
    step PP (lone (FA b s [] []) (c :: cs) w) = .next (lone (c.finish v) cs w') :=
  step_lone_go (by simp [stepG, stepG.exec, FA, hl, h, doReturn, hk])

omit [Facts] in
theorem leave_jump {b : Frame} {l : Nat} (hl : b.roundOf = some l) (hk : b.kind = .normal) {j : Code} (hj : IsJ j) {k0 : List Item} (hres : Res j k0 = none) {s : Array Value} {c : Frame} {cs : List Frame} {w w' : World} {v : Value}
    (h : (Instr.endRound l (some j)).run PP w = .ok v w') : step PP (lone (FA b s [] (.code j :: k0)) (c :: cs) w) = .next (lone (c.finish v) cs w') := by
  cases j <;> simp only [IsJ] at hj <;> simp only [Res] at hres
  · exact step_lone_go (by simp [stepG, stepG.exec, FA, hl, h, doReturn, hk, hres])
  · exact step_lone_go (by simp [stepG, stepG.exec, FA, hl, h, doReturn, hk, hres])
  · exact step_lone_go (by simp [stepG, stepG.exec, FA, hl, h, doReturn, hk])

omit [Facts] in
theorem begin_step {b : Frame} {l : Nat} (hl : b.roundOf = some l) {s : Array Value} {ds : List Deferred} {k : List Item} {cs : List Frame} {w w' : World} (h : (Instr.beginRound l).run PP w = .ok () w') :
    step PP (lone (FA b s ds (.beginRound :: k)) cs w) = .next (lone (FA b s ds k) cs w') :=
  step_lone_go (by simp [stepG, stepG.exec, FA, hl, stepG.apply, h, Frame.finish])

omit [Facts] in
theorem run_getLoop {w : World} {b : Nat} {r : Loop} (h : w.heap[b]? = some (.loop r)) : (Instr.getLoop b).run PP w = .ok r w := by
  simp [Instr.getLoop, run_getObj h (by intro c t f q; cases q)]

omit [Facts] in
theorem roundF_ok {S : EvS} (hS : Sound S) : RoundOk S := by
  intro l args W v W' h hg σ w e args' hG hr he ha
  unfold roundF at h
  split at h
  · rename_i L hL
    obtain ⟨r, hb, r1, r2, r3, r4, r5, r6⟩ := loop_at hr hL he
    split at h
    · cases h
    · rename_i hsz
      have hsz : L.params.size = args.length := beq_eq (by simpa using hsz)
      split at h
      · rename_i hst
        split at h
        · rename_i e1 W1 h1
          have hs0 := setPairs_ok L.params.toList r3 ha
          obtain ⟨σ1, s1, ds1, w1, c1, k1, d1, n1, p1⟩ := hS.code h1 hg hG hr hs0 .nil r.fn
          have he1 := p1.ext.mono _ _ he
          split at h
          · rename_i L1 hL1
            obtain ⟨q, qb, q1, q2, q3, q4, q5, q6⟩ := loop_at p1.hr hL1 he1
            split at h
            · rename_i hst1
              have p2 := loop_set (L' := { L1 with state := .busy }) (r' := { q with state := .busy }) p1.hr hL1 he1 rfl q2 q3 q4 q5 q6
              split at h
              · rename_i x e2 W2 h2
                obtain ⟨σ3, s3, ds3, w3, c3, k3, d3, n3, p3⟩ := hS.code h2 (p2.good (p1.good hg)) (hG.mono p1.ext.mono) p2.hr k1 d1 r.fn
                have he3 := p3.ext.mono _ _ he1
                split at h
                · rename_i L2 hd2 hL2
                  rw [hd2] at d3
                  cases d3
                  obtain ⟨z, zb, z1, z2, z3, z4, z5, z6⟩ := loop_at p3.hr hL2 he3
                  have hyield : (Instr.yield e.blk args'.toArray).run PP w = .ok (.round e.blk r.fn ((L.params.toList.zip args').foldl (fun tmps (ta : Tmp × Value) => tmps.setIfInBounds ta.1 ta.2) r.tmps) L.assign L.body) w := by
                    have hl2 : args'.toArray.size = r.params.size := by rw [r4, hsz, ha.length]; simp
                    have hz : (r.params.zip args'.toArray).toList = L.params.toList.zip args' := by rw [r4, Array.toList_zip]
                    simp only [Instr.yield, Sem.run_bind, run_getLoop hb, Result.andThen_ok, hl2]
                    rw [← hz, ← Array.foldl_toList, ← r5, ← r6]
                    simp
                  have base : ∀ c cs, Steps PP (lone (Frame.round e.blk r.fn ((L.params.toList.zip args').foldl (fun tmps (ta : Tmp × Value) => tmps.setIfInBounds ta.1 ta.2) r.tmps) L.assign L.body .normal) (c :: cs) w)
                      (lone (FA (Frame.round e.blk r.fn ((L.params.toList.zip args').foldl (fun tmps (ta : Tmp × Value) => tmps.setIfInBounds ta.1 ta.2) r.tmps) L.assign L.body .normal) s1 ds1 [.code L.body]) (c :: cs)
                        { w1 with heap := w1.heap.setIfInBounds e.blk (.loop { q with state := .busy }) }) := fun c cs => by
                    have g1 := c1 (Frame.round e.blk r.fn ((L.params.toList.zip args').foldl (fun tmps (ta : Tmp × Value) => tmps.setIfInBounds ta.1 ta.2) r.tmps) L.assign L.body .normal) [.beginRound, .code L.body] (c :: cs) ⟨rfl, rfl⟩ (.inl rfl)
                    refine Steps.trans g1 (.one (begin_step (l := e.blk) rfl ?_))
                    simp [Instr.beginRound, run_getLoop qb, run_setObj qb (by intro c t f q; cases q), q1, hst1]
                  have hn1 : e1.rnd = true := n1
                  rw [hn1] at c3
                  split at h
                  · cases h
                    have p4 := loop_set (L' := { L2 with state := .ready, pending := none }) (r' := { z with state := .ready, pending := none }) p3.hr hL2 he3 rfl rfl z3 z4 z5 z6
                    refine ⟨_, _, _, _, σ3, .bool true, _, hyield, fun c cs => ?_, .bool _, p1.trans hr (p2.trans p1.hr (p3.trans p2.hr p4))⟩
                    have g3 := c3 (Frame.round e.blk r.fn ((L.params.toList.zip args').foldl (fun tmps (ta : Tmp × Value) => tmps.setIfInBounds ta.1 ta.2) r.tmps) L.assign L.body .normal) [] (c :: cs) ⟨rfl, rfl⟩ (.inl rfl)
                    refine (base c cs).trans (Steps.trans g3 (.one (leave_norm (l := e.blk) rfl rfl ?_)))
                    simp [Instr.endRound, run_getLoop zb, run_setObj zb (by intro c t f q; cases q)]
                  · rename_i j
                    cases h
                    have p4 := loop_set (L' := { L2 with state := .done, pending := some j }) (r' := { z with state := .done, pending := some j }) p3.hr hL2 he3 rfl rfl z3 z4 z5 z6
                    refine ⟨_, _, _, _, σ3, .bool false, _, hyield, fun c cs => ?_, .bool _, p1.trans hr (p2.trans p1.hr (p3.trans p2.hr p4))⟩
                    obtain ⟨hj, k0, g3, g4⟩ := c3 (Frame.round e.blk r.fn ((L.params.toList.zip args').foldl (fun tmps (ta : Tmp × Value) => tmps.setIfInBounds ta.1 ta.2) r.tmps) L.assign L.body .normal) [] (c :: cs) ⟨rfl, rfl⟩ (.inl rfl)
                    refine (base c cs).trans (Steps.trans g3 (.one (leave_jump (l := e.blk) rfl rfl hj (g4.trans (by cases j <;> rfl)) ?_)))
                    simp [Instr.endRound, run_getLoop zb, run_setObj zb (by intro c t f q; cases q)]
                · cases h
              · cases h
            · cases h
          · cases h
        · cases h
      · cases h
  · cases h

end Go.Ev

namespace Go.Ev

theorem isJB_ok {c : Code} (h : isJB c = true) : IsJ c := by cases c <;> first | trivial | simp [isJB] at h

/-- a new object of another kind -/
theorem newObj_ok {σ : Sg} {W : AW} {w : World} (hr : HR σ W w) {o : AO} {ob : Obj} (ho : ∀ σ', Le σ σ' → ∀ w' : World, w'.heap[w.heap.size]? = some ob → ObjR σ' o ⟨w.heap.size, 0, 0⟩ w') :
    ∃ σ', σ' W.n = some ⟨w.heap.size, 0, 0⟩ ∧ Post σ W w σ' (W.new o) (w.alloc ob) := by
  have hle := Le.add (σ := σ) (A := W.n) (⟨w.heap.size, 0, 0⟩ : En) (hr.fresh W.n (Nat.le_refl _)).1
  obtain ⟨q1, q2⟩ := new_ok (w' := w.alloc ob) hr o 0 (Array.size_push _) (fun b hb => by
    show (w.heap.push _)[b]? = _
    rw [Array.getElem?_push, if_neg (by omega)]) (ho _ hle _ (arr_push_get _ _)) rfl rfl rfl
  exact ⟨_, by simp [Sg.add], q1, q2, fun _ h => h⟩

variable [Prg] [Facts]

omit [Facts] in
theorem run_newObj (o : Obj) (w : World) : (newObj o).run PP w = .ok w.heap.size (w.alloc o) := rfl

omit [Facts] in
theorem end_step {b : Frame} {s : Array Value} {ds : List Deferred} {l : Nat} {k : List Item} {cs : List Frame} {w w' : World} {j : Option Code} (h : (Instr.endLoop l).run PP w = .ok j w') :
    step PP (lone (FA b s ds (.endRangeFunc l :: k)) cs w) = .next (lone (FA b s ds ((j.map Item.code).toList ++ k)) cs w') :=
  step_lone_go (by simp [stepG, stepG.exec, FA, h])

omit [Facts] in
theorem enter_range {b : Frame} (hb : b.roundOf = none) {s : Array Value} {ds : List Deferred} {f : Operand} {params : Array Tmp} {assign body : Code} {k : List Item} {cs : List Frame} {w w' : World} {g : FuncId} {a' c' : Array Value} {v : Value}
    (hf : evalS s f = .func (.func g) a' c')
    (hc : CallN g ((a' ++ #[.func (.yield (w.heap.size + 1)) #[] #[]]) ++ c') ((w.alloc (.deferred (some []))).alloc (.loop { state := .ready, pending := none, fn := b.fn, tmps := s, params, assign, body, defers := w.heap.size })) v w') :
    Steps PP (lone (FA b s ds (.code (.rangeFunc f params assign body) :: k)) cs w) (lone (FA b s ({ target := .collected w.heap.size, args := #[] } :: ds) (.endRangeFunc (w.heap.size + 1) :: k)) cs w') := by
  have hen : (Instr.enterLoop b.fn s params assign body none).run PP w = .ok (w.heap.size + 1, [{ target := .collected w.heap.size, args := #[] }])
      ((w.alloc (.deferred (some []))).alloc (.loop { state := .ready, pending := none, fn := b.fn, tmps := s, params, assign, body, defers := w.heap.size })) := by
    simp [Instr.enterLoop]
  have hev : (FA b s ({ target := .collected w.heap.size, args := #[] } :: ds) (.inRangeFunc (w.heap.size + 1) :: k)).eval f = .func (.func g) a' c' := by rw [FA_evalS]; exact hf
  have hrun : (resolve (FA b s ({ target := .collected w.heap.size, args := #[] } :: ds) (.inRangeFunc (w.heap.size + 1) :: k)).eval { callee := .value f, args := #[.const (.func (.yield (w.heap.size + 1)) #[] #[])], argTypes := #[] } 0 >>= fun d => invoke d.target d.args).run PP ((w.alloc (.deferred (some []))).alloc (.loop { state := .ready, pending := none, fn := b.fn, tmps := s, params, assign, body, defers := w.heap.size })) =
      (callFunc g ((a' ++ #[.func (.yield (w.heap.size + 1)) #[] #[]]) ++ c')).run PP ((w.alloc (.deferred (some []))).alloc (.loop { state := .ready, pending := none, fn := b.fn, tmps := s, params, assign, body, defers := w.heap.size })) := by
    have hk : (FA b s ({ target := .collected w.heap.size, args := #[] } :: ds) (.inRangeFunc (w.heap.size + 1) :: k)).eval (.const (.func (.yield (w.heap.size + 1)) #[] #[])) = .func (.yield (w.heap.size + 1)) #[] #[] := rfl
    simp [resolve, hev, hk, Deferred.ofValue, invoke]
  simp only [FA, hb, Sem.run_bind] at hrun
  rcases hc with hc | ⟨hc, hcs⟩
  · rw [hc] at hrun
    refine .one (step_lone_go ?_)
    simp [stepG, stepG.exec, FA, hb, hen, stepG.apply, hrun, Frame.finish]
  · rw [hc] at hrun
    generalize hw2 : (w.alloc (.deferred (some []))).alloc (.loop { state := .ready, pending := none, fn := b.fn, tmps := s, params, assign, body, defers := w.heap.size }) = w2 at hrun hcs hen
    generalize hl : w.heap.size + 1 = l at hrun hcs hen ⊢
    obtain ⟨fr', h1, h2⟩ := hcs .normal (FA b s ({ target := .collected w.heap.size, args := #[] } :: ds) (.inRangeFunc l :: k) :: cs) (.inl rfl)
    have h3 := leave_normal (c := FA b s ({ target := .collected w.heap.size, args := #[] } :: ds) (.inRangeFunc l :: k)) (cs := cs) h2
    have hfin : (FA b s ({ target := .collected w.heap.size, args := #[] } :: ds) (.inRangeFunc l :: k)).finish v = FA b s ({ target := .collected w.heap.size, args := #[] } :: ds) (.endRangeFunc l :: k) := by simp [Frame.finish, FA]
    rw [hfin] at h3
    have h4 : step PP (lone (FA b s ds (.code (.rangeFunc f params assign body) :: k)) cs w) = .next (lone (Frame.enter PP g ((a' ++ #[.func (.yield l) #[] #[]]) ++ c') .normal) (FA b s ({ target := .collected w.heap.size, args := #[] } :: ds) (.inRangeFunc l :: k) :: cs) w2) := by
      refine step_lone_go ?_
      simp [stepG, stepG.exec, FA, hb, hen, stepG.apply, hrun]
    exact .head h4 (h1.trans (.one h3))

end Go.Ev

namespace Go.Ev
variable [Prg] [Facts]

theorem rangeF_ok {S : EvS} (hS : Sound S) (f : Operand) (ps : Array Tmp) (a b : Code) : CodeOk (.rangeFunc f ps a b) (rangeF S f ps a b) := by
  intro e W x e' W' h hg σ w s ds hG hr hs hd fn
  unfold rangeF at h
  split at h
  · cases h
  · rename_i hrnd
    have hrnd : e.rnd = false := by simpa using hrnd
    simp only at h
    split at h
    · rename_i g first captured hfa
      have hf := getO_ok hG hs f
      rw [hfa] at hf
      obtain ⟨a', c', hv, q1, q2⟩ := hf.func_inv
      obtain ⟨σ1, hD, p1⟩ := newObj_ok (o := .defd) (ob := .deferred (some [])) hr (fun _ _ _ h => h)
      have hs1 : SlotsR σ1 e.s s := hs.mono p1.ext.mono
      obtain ⟨σ2, hL, p2⟩ := newObj_ok (o := .loop { state := .ready, pending := none, slots := e.s, params := ps, assign := a, body := b })
        (ob := .loop { state := .ready, pending := none, fn := fn, tmps := s, params := ps, assign := a, body := b, defers := w.heap.size }) p1.hr
        (fun σ' hle w' hw' => ⟨_, hw', rfl, rfl, hs1.mono hle, rfl, rfl, rfl⟩)
      have hsz : (w.alloc (.deferred (some []))).heap.size = w.heap.size + 1 := Array.size_push _
      rw [hsz] at hL
      have m2 := p1.ext.mono.trans p2.ext.mono
      split at h
      · rename_i v W3 hcall
        obtain ⟨σ3, v', w3, c1, _, p3⟩ := callFn_ok hS hcall (p2.good (p1.good hg)) (hG.mono m2) p2.hr ((q1.mono m2 |>.append (.cons (.yield _ _ hL) .nil)).append (q2.mono m2))
        have hL3 := p3.ext.mono _ _ hL
        have hD3 := p3.ext.mono _ _ (p2.ext.mono _ _ hD)
        have harr : (a'.toList ++ [Value.func (.yield (w.heap.size + 1)) #[] #[]] ++ c'.toList).toArray = (a' ++ #[.func (.yield (w.heap.size + 1)) #[] #[]]) ++ c' := by apply Array.ext'; simp
        rw [harr] at c1
        split at h
        · rename_i L3 hg3
          obtain ⟨z, zb, z1, z2, z3, z4, z5, z6⟩ := loop_at p3.hr hg3 hL3
          have p4 : Post σ3 W3 w3 σ3 (W3.kill (W.new .defd).n) { w3 with heap := w3.heap.setIfInBounds (w.heap.size + 1) (.loop { z with state := .exhausted }) } := by
            obtain ⟨k1, k2⟩ := kill_ok (w' := { w3 with heap := w3.heap.setIfInBounds (w.heap.size + 1) (.loop { z with state := .exhausted }) }) p3.hr hg3 hL3 rfl (by simp) (fun b hb => by
              show (w3.heap.setIfInBounds (w.heap.size + 1) _)[b]? = _
              rw [Array.getElem?_setIfInBounds, if_neg (Ne.symm hb)]) rfl rfl rfl
            exact ⟨k1, k2, fun _ h => h⟩
          have pall := p1.trans hr (p2.trans p1.hr (p3.trans p2.hr p4))
          have hdd : DefsR σ3 (.coll W.n :: e.d) ({ target := .collected w.heap.size, args := #[] } :: ds) := .coll hD3 (hd.mono (m2.trans p3.ext.mono))
          split at h
          · cases h
          · rename_i hst
            have hend : (Instr.endLoop (w.heap.size + 1)).run PP w3 = .ok z.pending { w3 with heap := w3.heap.setIfInBounds (w.heap.size + 1) (.loop { z with state := .exhausted }) } := by
              have hnb : (z.state == .busy) = false := by
                rw [z1]; generalize L3.state = st at hst
                cases st <;> first | rfl | exact absurd rfl hst
              have hnb2 : ¬ z.state = .busy := fun hh => by rw [hh] at hnb; cases hnb
              simp [Instr.endLoop, run_getLoop zb, run_setObj zb (by intro c t f q; cases q), hnb2]
            have steps : ∀ fb k cs, Base fb (e.rnd, fn) → Steps PP (lone (FA fb s ds (.code (.rangeFunc f ps a b) :: k)) cs w)
                (lone (FA fb s ({ target := .collected w.heap.size, args := #[] } :: ds) ((z.pending.map Item.code).toList ++ k)) cs { w3 with heap := w3.heap.setIfInBounds (w.heap.size + 1) (.loop { z with state := .exhausted }) }) := fun fb k cs hb => by
              have hbn : fb.roundOf = none := by
                have h1 := hb.1
                rw [hrnd] at h1
                cases hq : fb.roundOf with
                | none => rfl
                | some _ => rw [hq] at h1; cases h1
              have hbf : fb.fn = fn := hb.2
              subst hbf
              exact (enter_range hbn hv c1).trans (.one (end_step hend))
            have hs3 : SlotsR σ3 e.s s := hs.mono (m2.trans p3.ext.mono)
            split at h
            · rename_i hp
              cases h
              rw [z2, hp] at steps pall
              exact ⟨σ3, s, _, _, fun fb k cs hb hk => steps fb k cs hb, hs3, hdd, rfl, pall⟩
            · rename_i j hp
              split at h
              · rename_i hj
                cases h
                rw [z2, hp] at steps pall
                exact ⟨σ3, s, _, _, fun fb k cs hb hk => ⟨isJB_ok hj, k, steps fb k cs hb, rfl⟩, hs3, hdd, rfl, pall⟩
              · cases h
        · cases h
      · cases h
    · cases h

end Go.Ev

namespace Go.Ev
variable [Prg] [Facts]

omit [Facts] in
/-- the quick way is the plain one -/
theorem codeX_eq (S : EvS) (c : Code) (e : Env) (w : AW) : codeX c S e w = codeF S c e w := by
  cases c with
  | seq a b =>
    show thenX b S (S.code a e w) = (match S.code a e w with | some (.norm, e', w') => S.code b e' w' | r => r)
    rcases S.code a e w with _ | ⟨x, e', w'⟩
    · rfl
    · cases x <;> rfl
  | loop a =>
    show thenX (.loop a) S (S.code a e w) = (match S.code a e w with | some (.norm, e', w') => S.code (.loop a) e' w' | r => r)
    rcases S.code a e w with _ | ⟨x, e', w'⟩
    · rfl
    · cases x <;> rfl
  | cond c a b =>
    show condX a b (getO e c) S e w = (match getO e c with | .bool true => S.code a e w | .bool false => S.code b e w | _ => none)
    generalize getO e c = v
    cases v <;> try rfl
    rename_i b
    cases b <;> rfl
  | _ => rfl

/-- the evaluator is sound, if regions that draw their order are -/
theorem ev_sound_of (hDraw : ∀ S, Sound S → ∀ id ops, CodeOk (.region id ops true) (regionF S ops true)) : ∀ n, Sound (ev n)
  | 0 => ⟨fun h => (by cases h), fun h => (by cases h), fun h => (by cases h)⟩
  | n + 1 => by
    have hS := ev_sound_of hDraw n
    have hR : ∀ id ops draw, CodeOk (.region id ops draw) (regionF (ev n) ops draw) := fun id ops draw => by
      cases draw
      · exact region_ok hS (roundF_ok hS) id ops
      · exact hDraw _ hS id ops
    constructor
    · intro f args W v W' h hg σ w args' hG hr ha
      exact callF_ok hS h hg hG hr ha
    · intro c e W x e' W' h hg σ w s ds hG hr hs hd fn
      exact codeF_ok hS hR (rangeF_ok hS) c ((codeX_eq _ c e W).symm.trans h) hg hG hr hs hd fn
    · intro a c e W x e' W' h hg σ w s ds hG hr hs hd fn
      exact scopeF_ok hS a c h hg hG hr hs hd fn

end Go.Ev

