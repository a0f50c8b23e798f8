/-
  The cells of the row by tables: the closure of a function, the table of types. No condition.
-/
import Derived.Test.YtaojoifpekoecaaGreatDoorEvD
import GoSem.ClaimFn
import GoSem.ClaimDataLaid
namespace Go.Ev
/-- what the row's cells ask of a function -/
structure FI where
  to : List Nat
  gn : List Nat
  ip : Bool
  bn : Bool

noncomputable def closX (tab : T FI) : Nat → List Nat → T Unit → List Nat → List Nat
  | 0, _, _, out => out.reverse
  | _ + 1, [], _, out => out.reverse
  | n + 1, f :: todo, seen, out =>
    match seen.get f with
    | some _ => closX tab n todo seen out
    | none => closX tab n ((match tab.get f with | some r => r.to | none => []) ++ todo) (T.ins (some ()) (f + 1) seen f) (f :: out)

variable [Prg]
noncomputable section
def ipOf (fn : Func) : Bool := fn.ours || fn.body.isNone || fn.name == "runtime.NumGoroutine"
def okRow (i : Nat) (r : FI) : Bool :=
  match funT.get i with
  | some fn => decide (PP.leadsTo fn = r.to) && decide (fn.body.elim [] Code.globalsNamed = r.gn) && decide (ipOf fn = r.ip) && decide (fn.body.isNone = r.bn)
  | none => false
def chk : Nat → List FI → Bool
  | _, [] => true
  | i, r :: l => okRow i r && chk (i + 1) l

theorem chk_get : ∀ {l : List FI} {s : Nat}, chk s l = true → ∀ (k : Nat) r, l[k]? = some r → okRow (s + k) r = true
  | [], _, _, k, r, h => by simp at h
  | x :: l, s, hc, k, r, h => by
    simp only [chk, Bool.and_eq_true] at hc
    cases k with
    | zero => cases h; exact hc.1
    | succ k =>
      have := chk_get hc.2 k r (by simpa using h)
      rw [show s + (k + 1) = s + 1 + k by omega]; exact this
theorem chk_append : ∀ {a b : List FI} {s : Nat}, chk s a = true → chk (s + a.length) b = true → chk s (a ++ b) = true
  | [], b, s, _, h => h
  | x :: a, b, s, h, g => by
    simp only [chk, Bool.and_eq_true, List.cons_append] at h ⊢
    exact ⟨h.1, chk_append h.2 (by rw [show s + 1 + a.length = s + (x :: a).length by simp; omega]; exact g)⟩

/-- the table says what the program's functions are -/
structure TabOk (tab : T FI) : Prop where
  get : ∀ i, match PP.funcs[i]? with
    | some fn => ∃ r, tab.get i = some r ∧ PP.leadsTo fn = r.to ∧ fn.body.elim [] Code.globalsNamed = r.gn ∧ ipOf fn = r.ip ∧ fn.body.isNone = r.bn
    | none => tab.get i = none

theorem okRow_inv {i : Nat} {r : FI} (h : okRow i r = true) : ∃ fn, PP.funcs[i]? = some fn ∧ PP.leadsTo fn = r.to ∧ fn.body.elim [] Code.globalsNamed = r.gn ∧ ipOf fn = r.ip ∧ fn.body.isNone = r.bn := by
  unfold okRow at h
  rw [funT_eq] at h
  split at h
  · rename_i fn hf
    simp only [Bool.and_eq_true, decide_eq_true_eq] at h
    exact ⟨fn, hf, h.1.1.1, h.1.1.2, h.1.2, h.2⟩
  · cases h

theorem tabOk_of {rows : List FI} (hc : chk 0 rows = true) (hn : rows.length = PP.funcs.size) : TabOk (T.ofList rows.length rows) := by
  refine ⟨fun i => ?_⟩
  have hg : (T.ofList rows.length rows).get i = rows[i]? := get_ofList _ _ _ (Nat.le_refl _)
  split
  · rename_i fn hf
    have hi : i < rows.length := by rw [hn]; exact (Array.getElem?_eq_some_iff.1 hf).1
    have hr : rows[i]? = some rows[i] := List.getElem?_eq_getElem hi
    obtain ⟨fn', h1, h2⟩ := okRow_inv (chk_get hc i _ hr)
    rw [Nat.zero_add, hf] at h1
    cases h1
    exact ⟨_, hg.trans hr, h2⟩
  · rename_i hf
    rw [hg, List.getElem?_eq_none]
    rw [hn]; exact Array.getElem?_eq_none_iff.1 hf

theorem clos_eq {tab : T FI} (ht : TabOk tab) : ∀ (n : Nat) (todo : List Nat) (seen : T Unit) (out : List Nat), (∀ x, (seen.get x).isSome = out.contains x) → closX tab n todo seen out = PP.closureVia n todo out
  | 0, todo, seen, out, h => by simp [closX, Program.closureVia]
  | n + 1, [], seen, out, h => by simp [closX, Program.closureVia]
  | n + 1, f :: todo, seen, out, h => by
    have hf := h f
    simp only [closX, Program.closureVia]
    cases hq : seen.get f with
    | some u =>
      rw [hq] at hf
      simp only [Option.isSome_some] at hf
      rw [if_pos hf.symm]
      exact clos_eq ht n todo seen out h
    | none =>
      rw [hq] at hf
      simp only [Option.isSome_none] at hf
      rw [if_neg (by rw [← hf]; simp)]
      have e : (match tab.get f with | some r => r.to | none => []) = (PP.funcs[f]?).elim [] PP.leadsTo := by
        have := ht.get f
        split at this
        · rename_i fn hfn
          obtain ⟨r, h1, h2, _⟩ := this
          rw [h1, hfn]; exact h2.symm
        · rename_i hfn
          rw [this, hfn]; rfl
      simp only [e]
      refine clos_eq ht n _ _ _ fun x => ?_
      rw [T.get_ins _ _ _ _ _ (lt_pow f), List.contains_cons]
      by_cases hx : x = f
      · subst hx; simp
      · rw [if_neg hx, h x]
        have : (x == f) = false := by simp [hx]
        rw [this, Bool.false_or]

def sumT : List FI → Nat
  | [] => 0
  | r :: l => (r.to.length + 1) + sumT l
omit [Prg] in
theorem sumT_eq : ∀ l : List FI, sumT l = (l.map fun r => r.to.length + 1).sum
  | [] => rfl
  | r :: l => by simp [sumT, sumT_eq l]

/-- the closure of a function, out of the table -/
theorem closure_tab {rows : List FI} (hc : chk 0 rows = true) (hn : rows.length = PP.funcs.size) (f : FuncId) :
    PP.closure f = closX (T.ofList rows.length rows) (1 + sumT rows) [f] .e [] := by
  rw [clos_eq (tabOk_of hc hn) _ _ _ _ (fun x => by rw [T.get_e]; rfl)]
  unfold Program.closure
  rw [sumT_eq]
  have e : rows.map (fun r => r.to.length + 1) = PP.funcs.toList.map fun g => (PP.leadsTo g).length + 1 := ?_
  · rw [e]
  apply List.ext_getElem?
  intro i
  have et : PP.funcs.toList[i]? = PP.funcs[i]? := by simp
  rw [List.getElem?_map, List.getElem?_map, et]
  have := (tabOk_of hc hn).get i
  rw [get_ofList _ _ _ (Nat.le_refl _)] at this
  split at this
  · rename_i fn hf
    obtain ⟨r, h1, h2, _⟩ := this
    rw [hf, h1]
    simp [h2]
  · rename_i hf
    rw [hf, this]; rfl

def gnX (tab : T FI) (g : Nat) : List Nat := match tab.get g with | some r => r.gn | none => []
def ipX (tab : T FI) (g : Nat) : Bool := match tab.get g with | some r => r.ip | none => false
def bnX (tab : T FI) (g : Nat) : Bool := match tab.get g with | some r => r.bn | none => false
def nmX (g : Nat) : List String := match funT.get g with | some fn => [fn.name] | none => []
def erX (g : Nat) : List String := match funT.get g with | some fn => (entryReads.lookup fn.name).toList | none => []

theorem inPlace_tab {rows : List FI} (hc : chk 0 rows = true) (hn : rows.length = PP.funcs.size) (f : FuncId) :
    PP.inPlace f = ((PP.closure f).filter (ipX (T.ofList rows.length rows))).flatMap nmX := by
  unfold Program.inPlace
  generalize PP.closure f = L
  induction L with
  | nil => rfl
  | cons g L ih =>
    rw [List.filterMap_cons, List.filter_cons, ih]
    have := (tabOk_of hc hn).get g
    split at this
    · rename_i fn hf
      obtain ⟨r, h1, _, _, h4, _⟩ := this
      have a1 : ipX (T.ofList rows.length rows) g = r.ip := by unfold ipX; rw [h1]
      have a2 : nmX g = [fn.name] := by unfold nmX; rw [funT_eq, hf]
      rw [hf, a1]
      simp only [Option.bind_some]
      have h4' : (fn.ours || fn.body.isNone || fn.name == "runtime.NumGoroutine") = r.ip := h4
      rw [h4']
      cases r.ip with
      | true => simp [a2]
      | false => simp
    · rename_i hf
      have a1 : ipX (T.ofList rows.length rows) g = false := by unfold ipX; rw [this]
      rw [hf, a1]; simp

theorem varsNamed_tab {rows : List FI} (hc : chk 0 rows = true) (hn : rows.length = PP.funcs.size) (f : FuncId) :
    PP.varsNamed f = ((((PP.closure f).flatMap (gnX (T.ofList rows.length rows))).eraseDups).filterMap (fun g => (PP.globals[g]?).map (·.name)) ++
      ((PP.closure f).filter (bnX (T.ofList rows.length rows))).flatMap erX).eraseDups := by
  unfold Program.varsNamed
  generalize PP.closure f = L
  have e1 : (fun g => ((PP.funcs[g]?).bind (·.body)).elim [] Code.globalsNamed) = gnX (T.ofList rows.length rows) := by
    funext g
    have := (tabOk_of hc hn).get g
    unfold gnX
    split at this
    · rename_i fn hf
      obtain ⟨r, h1, _, h3, _⟩ := this
      rw [hf, h1]; exact h3
    · rename_i hf
      rw [hf, this]; rfl
  have e2 : (L.filterMap fun g => (PP.funcs[g]?).bind fun fn => if fn.body.isNone then entryReads.lookup fn.name else none) = (L.filter (bnX (T.ofList rows.length rows))).flatMap erX := by
    induction L with
    | nil => rfl
    | cons g L ih =>
      rw [List.filterMap_cons, List.filter_cons, ih]
      have := (tabOk_of hc hn).get g
      split at this
      · rename_i fn hf
        obtain ⟨r, h1, _, _, _, h5⟩ := this
        have a1 : bnX (T.ofList rows.length rows) g = r.bn := by unfold bnX; rw [h1]
        have a2 : erX g = (entryReads.lookup fn.name).toList := by unfold erX; rw [funT_eq, hf]
        rw [hf, a1]
        simp only [Option.bind_some]
        rw [h5]
        cases r.bn with
        | true => cases h : entryReads.lookup fn.name <;> simp [a2, h]
        | false => simp
      · rename_i hf
        have a1 : bnX (T.ofList rows.length rows) g = false := by unfold bnX; rw [this]
        rw [hf, a1]; simp
  rw [e1, e2]

/-! the table of types -/
def CO (t : TypeId) : Nat := (SZ t).getD 0
theorem CO_eq (t : TypeId) : CO t = PP.cellsOf t := by unfold CO SZ Program.cellsOf; rw [INFO_eq]
def isVarX (n : Nat) (t : TypeId) : Bool := Nat.blt t n && kindOk (U t)
def rowFineX (n : Nat) (t : TypeId) : Bool :=
  !isVarX n t ||
  match U t with
  | some (.struct fs) => fs.toList.all (fun f => isVarX n f.type) && CO t == (fs.toList.map fun f => CO f.type).sum &&
      (List.range fs.toList.length).all fun j => match fs.toList[j]? with | some f => f.offset == ((fs.toList.take j).map fun f => CO f.type).sum | none => true
  | some (.array m e) => isVarX n e && CO t == m * CO e
  | some (.pointer e) => isVarX n e && CO t == 1
  | some (.slice e) => isVarX n e && CO t == 1
  | _ => CO t == 1
theorem isVarX_eq {n : Nat} (hn : n = PP.types.size) (t : TypeId) : isVarX n t = isVar PP t := by
  unfold isVarX isVar
  rw [U_eq, hn]
  congr 1
  rw [Bool.eq_iff_iff, Nat.blt_eq, decide_eq_true_eq]
theorem rowFineX_eq {n : Nat} (hn : n = PP.types.size) (t : TypeId) : rowFineX n t = rowFine PP t := by
  unfold rowFineX rowFine
  simp only [isVarX_eq hn, U_eq, CO_eq]
  congr 1
def rfL (n : Nat) : Nat → Nat → Bool
  | _, 0 => true
  | s, k + 1 => rowFineX n s && rfL n (s + 1) k
theorem rfL_get {n : Nat} : ∀ {k s : Nat}, rfL n s k = true → ∀ i, s ≤ i → i < s + k → rowFineX n i = true
  | 0, s, _, i, h1, h2 => by omega
  | k + 1, s, h, i, h1, h2 => by
    simp only [rfL, Bool.and_eq_true] at h
    by_cases e : s = i
    · subst e; exact h.1
    · exact rfL_get h.2 i (by omega) (by omega)
theorem laidOut_of {n : Nat} (hn : n = PP.types.size) (h1 : ∀ i, i < n → rowFineX n i = true) (h2 : PP.globals.toList.all (fun g => Nat.blt g.type n) = true) (h3 : PP.funcs.toList.all (fun f => f.params.toList.all fun t => Nat.blt t n) = true) : laidOutB PP = true := by
  unfold laidOutB
  simp only [Bool.and_eq_true]
  refine ⟨⟨?_, ?_⟩, ?_⟩
  · rw [List.all_eq_true]
    intro t ht
    rw [← rowFineX_eq hn]
    exact h1 t (by rw [hn]; exact List.mem_range.1 ht)
  · rw [← Array.all_toList]
    rw [List.all_eq_true] at h2 ⊢
    intro g hg
    have := h2 g hg
    rw [Nat.blt_eq] at this
    exact decide_eq_true (hn ▸ this)
  · rw [← Array.all_toList]
    rw [List.all_eq_true] at h3 ⊢
    intro g hg
    have := h3 g hg
    rw [← Array.all_toList]
    rw [List.all_eq_true] at this ⊢
    intro t ht
    have := this t ht
    rw [Nat.blt_eq] at this
    exact decide_eq_true (hn ▸ this)
end
end Go.Ev

