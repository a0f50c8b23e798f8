/-
  New of Plain at one to four clients, by the evaluator. Condition: the listed table lies in memory.
-/
import Derived.Test.YtkgcnjcehhpkpaaGreatDoorWF
import Derived.Below
namespace Go.Ev
open Go.Proofs
open Go.RowKit (Below)

noncomputable section
def capG : Nat → Nat
  | 0 => 20
  | 5 => 32
  | 6 => 32
  | 7 => 64
  | _ => 0
def sg0 : Sg := fun g => if g < 9 then some ⟨g, 0, capG g⟩ else none
theorem sg0_blk {A : Nat} {e : En} (h : sg0 A = some e) : e = ⟨A, 0, capG A⟩ ∧ A < 9 := by
  unfold sg0 at h
  split at h
  · cases h; exact ⟨rfl, by assumption⟩
  · cases h

theorem glob0 : Glob sg0 := fun g hg => by
  have h9 : PP.globals.size = 9 := by kernel_rfl
  rw [h9] at hg
  exact ⟨capG g, by unfold sg0; rw [if_pos hg]⟩

/-- the listed tables lie in the world -/
def LaidW (w : World) : Prop := ∀ A o, (A, o) ∈ gl → ObjR sg0 o ⟨A, 0, capG A⟩ w

theorem LaidW.below {B : Nat} {w w' : World} (h : LaidW w) (hb : Below B w w') (hB : w.heap.size ≤ B) : LaidW w' := fun A o hm =>
  (h A o hm).mono (Le.refl _) (hb.block _ (Nat.lt_of_lt_of_le (h A o hm).lt hB))

theorem get_lay {l : List (Nat × AO)} {n : Nat} {orc : List Ent} {A : Nat} {o : AO} (h : (layAll { h := .e, n := n, orc := orc } l).get A = some o) : (A, o) ∈ l := by
  rcases layAll_get l { h := .e, n := n, orc := orc } A with ⟨_, h2⟩ | ⟨_, p, h2, h3⟩
  · rw [h2] at h; cases h
  · rw [h3] at h; cases h; exact h2

theorem gl_small {A : Nat} {o : AO} (h : (A, o) ∈ gl) : A < 9 ∧ o.ro = true := by
  have hall : gl.all (fun x => Nat.blt x.1 9 && x.2.ro) = true := by decide +kernel
  have := List.all_eq_true.1 hall _ h
  simp only [Bool.and_eq_true] at this
  exact ⟨by simpa [Nat.blt_eq] using this.1, this.2⟩

theorem hr0 {w : World} (h : LaidW w) : HR sg0 wTop w := by
  unfold wTop
  refine ⟨fun A o e h1 h2 => ?_, fun A B o p e f _ _ h3 h4 h5 => ?_, fun A hA => ⟨?_, ?_⟩⟩
  · obtain ⟨rfl, _⟩ := sg0_blk h2
    exact h A o (get_lay h1)
  · obtain ⟨rfl, _⟩ := sg0_blk h3
    obtain ⟨rfl, _⟩ := sg0_blk h4
    exact h5
  · rw [layAll_n] at hA
    have hA : 20 ≤ A := hA
    unfold sg0; rw [if_neg (by omega)]
  · rw [layAll_n] at hA
    have hA : 20 ≤ A := hA
    cases hq : (layAll { h := .e, n := 20, orc := [E0] } gl).get A with
    | none => rfl
    | some o => have := (gl_small (get_lay hq)).1; omega

/-- where all that is known is for reading alone, nothing old is written -/
theorem below_of_post {σ σ' : Sg} {W W' : AW} {w w' : World} (h : Post σ W w σ' W' w') (hro : ∀ A o, W.get A = some o → o.ro = true) : Below w.heap.size w w' :=
  ⟨h.ext.os, h.ext.tape, h.ext.output, h.ext.size, fun b hb => h.ext.frame b hb fun A e _ ⟨o, h1, h2⟩ => by rw [hro A o h1] at h2; cases h2⟩

/-- the queue of Plain -/
def qObj : AO := .cells [.str [113], .int .i64 4, .int .i64 0, .str []] 66 .ro
def wNew : AW := layAll { h := .e, n := 21, orc := [] } ((20, qObj) :: gl)
def aNew (n : Int) : AV := .agg [.int .i64 n, .int .u32 512, .int .u32 8, .int .u32 0, .slice 20 0 1 (.known 1)]
def okNew : Option (AV × AW) → Bool
  | some (.tup [.ptr _ _, .int .i64 (.ofNat 0)], _) => true
  | _ => false
theorem tNew1 : okNew ((ev 100000).call 8 [aNew 1] wNew) = true := by decide +kernel
theorem tNew2 : okNew ((ev 100000).call 8 [aNew 2] wNew) = true := by decide +kernel
theorem tNew3 : okNew ((ev 100000).call 8 [aNew 3] wNew) = true := by decide +kernel
theorem tNew4 : okNew ((ev 100000).call 8 [aNew 4] wNew) = true := by decide +kernel

theorem okNew_inv {r : Option (AV × AW)} (h : okNew r = true) : ∃ A o W', r = some (.tup [.ptr A o, .int .i64 0], W') := by
  unfold okNew at h
  split at h
  · exact ⟨_, _, _, rfl⟩
  · cases h

def sgQ (b : Nat) : Sg := sg0.add 20 ⟨b, 0, 4⟩
theorem sgQ_inv {b A : Nat} {e : En} (h : sgQ b A = some e) : (A = 20 ∧ e = ⟨b, 0, 4⟩) ∨ (A < 9 ∧ e = ⟨A, 0, capG A⟩) := by
  unfold sgQ Sg.add at h
  split at h
  · cases h; exact .inl ⟨by assumption, rfl⟩
  · obtain ⟨h1, h2⟩ := sg0_blk h; exact .inr ⟨h2, h1⟩

theorem le_sgQ (b : Nat) : Le sg0 (sgQ b) := Le.add _ (by unfold sg0; rw [if_neg (by omega)])

theorem hrQ {w : World} (h : LaidW w) {b : Nat} (hb : 9 ≤ b) {fr : Nat × Nat} (hq : w.heap[b]? = some (.cells #[.string { data := #[113] }, .int .i64 4, .int .i64 0, .string { data := #[] }] 66 fr)) : HR (sgQ b) wNew w := by
  have key : ∀ A o, wNew.get A = some o → (A = 20 ∧ o = qObj) ∨ (A < 9 ∧ (A, o) ∈ gl) := fun A o hA => by
    have := get_lay hA
    rcases List.mem_cons.1 this with h | h
    · cases h; exact .inl ⟨rfl, rfl⟩
    · exact .inr ⟨(gl_small h).1, h⟩
  refine ⟨fun A o e h1 h2 => ?_, fun A B o p e f h1 h2 h3 h4 h5 => ?_, fun A hA => ⟨?_, ?_⟩⟩
  · rcases key A o h1 with ⟨rfl, rfl⟩ | ⟨hA, hm⟩
    · rcases sgQ_inv h2 with ⟨_, rfl⟩ | ⟨h9, _⟩
      · refine ⟨_, fr, hq, rfl, ?_, trivial⟩
        intro i x hx
        match i, hx with
        | 0, hx => cases hx; exact ⟨_, rfl, .str _ _ rfl⟩
        | 1, hx => cases hx; exact ⟨_, rfl, .int _ _⟩
        | 2, hx => cases hx; exact ⟨_, rfl, .int _ _⟩
        | 3, hx => cases hx; exact ⟨_, rfl, .str _ _ rfl⟩
        | i + 4, hx => simp at hx
      · omega
    · rcases sgQ_inv h2 with ⟨rfl, _⟩ | ⟨_, rfl⟩
      · omega
      · exact (h A o hm).mono (le_sgQ b) rfl
  · rcases sgQ_inv h3 with ⟨rfl, rfl⟩ | ⟨ha, rfl⟩ <;> rcases sgQ_inv h4 with ⟨rfl, rfl⟩ | ⟨hb', rfl⟩ <;> simp_all <;> omega
  · have hA : 21 ≤ A := by unfold wNew at hA; rw [layAll_n] at hA; exact hA
    unfold sgQ Sg.add sg0
    rw [if_neg (by omega), if_neg (by omega)]
  · have hA : 21 ≤ A := by unfold wNew at hA; rw [layAll_n] at hA; exact hA
    cases hq : wNew.get A with
    | none => rfl
    | some o => rcases key A o hq with ⟨rfl, _⟩ | ⟨h9, _⟩ <;> omega

/-- script.New of Plain at 1 to 4 clients -/
theorem new_ok14 {w : World} (h : LaidW w) {b : Nat} (hb : 9 ≤ b) {fr : Nat × Nat} (hq : w.heap[b]? = some (.cells #[.string { data := #[113] }, .int .i64 4, .int .i64 0, .string { data := #[] }] 66 fr)) (n : Int) (h1 : 1 ≤ n) (h4 : n ≤ 4) :
    Calls PP 8 #[.agg #[.int .i64 n, .int .u32 512, .int .u32 8, .int .u32 0, .slice (some ⟨b, 0, none⟩) 1 1]] w
      (fun e w' => (∃ a, e = .returned (.tuple #[.pointer (some a), .int .i64 0])) ∧ Below w.heap.size w w') := by
  have hrun : okNew ((ev 100000).call 8 [aNew n] wNew) = true := by
    have : n = 1 ∨ n = 2 ∨ n = 3 ∨ n = 4 := by omega
    rcases this with rfl | rfl | rfl | rfl
    · exact tNew1
    · exact tNew2
    · exact tNew3
    · exact tNew4
  obtain ⟨A, o, W', hc⟩ := okNew_inv hrun
  have harg : LR (sgQ b) [aNew n] [.agg #[.int .i64 n, .int .u32 512, .int .u32 8, .int .u32 0, .slice (some ⟨b, 0, none⟩) 1 1]] := by
    refine .cons (VR.agg_LR ?_) .nil
    exact .cons (.int _ _) (.cons (.int _ _) (.cons (.int _ _) (.cons (.int _ _) (.cons (.slk 20 0 1 1 ⟨b, 0, 4⟩ rfl) .nil))))
  refine (calls_of_ev hc (fun y hy => by rw [show wNew.orc = [] from layAll_orc _ _] at hy; cases hy) (glob0.mono (le_sgQ b)) (hrQ h hb hq) harg).mono fun e w' ⟨v', σ', he, hv, hp⟩ => ⟨?_, below_of_post hp ?_⟩
  · obtain ⟨cs, rfl, hl⟩ := VR.tup_inv hv
    obtain ⟨cs⟩ := cs
    cases hl with
    | cons h1 t =>
      cases t with
      | cons h2 t =>
        cases t
        cases h1; cases h2
        exact ⟨_, he⟩
  · intro A o hA
    rcases List.mem_cons.1 (get_lay hA) with h | h
    · cases h; rfl
    · exact (gl_small h).2
end
end Go.Ev

