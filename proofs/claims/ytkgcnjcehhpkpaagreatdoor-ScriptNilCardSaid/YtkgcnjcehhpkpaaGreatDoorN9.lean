/-
  The event, opened. No condition.
-/
import Derived.Test.YtkgcnjcehhpkpaaGreatDoorN8
import Derived.ProofKit
import Derived.OpenVars
import Derived.OpenShut
import Derived.LaidMore
import Derived.Lay
import Derived.LaidOnce
import Derived.Clock
import Derived.Carry
namespace Go.Proofs.YtkgcnjcehhpkpaaGreatDoor
open Go.ChangeShapes Go.WideShapes Go.ChangeAt Go.RowKit Go.Clock Go.Ev

set_option maxRecDepth 100000 in
/-- the event, opened -/
theorem open_event {W : World} {base : Nat} {v : Value} (h : Value.okWide Tryz.prog W .any base 30 v) :
    ∃ (k N : Int) (c1 c5 c6 c7 c8 c9 c10 c13 c14 c15 : Value) (name text cond id : ByteArray) (p : Option Addr) (bl bc : Nat),
      v = .agg #[.int .u8 k, c1, .int .i64 N, .string name, .string text, c5, c6, c7, c8, c9, c10, .string id, .slice p bl bc, c13, c14, c15, .string cond] := by
  unfold Value.okWide at h
  rw [Tryz.underlying30] at h
  obtain ⟨cs, rfl, hsz, ts, hts, _, hall⟩ := h
  rw [cells30] at hts
  cases hts
  rw [show Tryz.prog.cellsOf 30 = 17 by kernel_rfl] at hsz
  obtain ⟨l⟩ := cs
  match l, hsz with
  | [a0, a1, a2, a3, a4, a5, a6, a7, a8, a9, a10, a11, a12, a13, a14, a15, a16], _ =>
    obtain ⟨u0, e0, h0⟩ := hall 0 a0 rfl
    obtain ⟨u2, e2, h2⟩ := hall 2 a2 rfl
    obtain ⟨u3, e3, h3⟩ := hall 3 a3 rfl
    obtain ⟨u4, e4, h4⟩ := hall 4 a4 rfl
    obtain ⟨u11, e11, h11⟩ := hall 11 a11 rfl
    obtain ⟨u12, e12, h12⟩ := hall 12 a12 rfl
    obtain ⟨u16, e16, h16⟩ := hall 16 a16 rfl
    obtain rfl : u0 = 5 := Option.some.inj e0.symm
    obtain rfl : u2 = 3 := Option.some.inj e2.symm
    obtain rfl : u3 = 9 := Option.some.inj e3.symm
    obtain rfl : u4 = 9 := Option.some.inj e4.symm
    obtain rfl : u11 = 9 := Option.some.inj e11.symm
    obtain rfl : u12 = 23 := Option.some.inj e12.symm
    obtain rfl : u16 = 9 := Option.some.inj e16.symm
    unfold Cell.okWide at h0 h2 h3 h4 h11 h12 h16
    simp only [Tryz.underlying5] at h0
    simp only [Tryz.underlying3] at h2
    simp only [Tryz.underlying9] at h3 h4 h11 h16
    simp only [Tryz.underlying23] at h12
    unfold Cell.ok at h0 h2 h3 h4 h11 h12 h16
    simp only [Tryz.underlying5] at h0
    simp only [Tryz.underlying3] at h2
    simp only [Tryz.underlying9] at h3 h4 h11 h16
    simp only [Tryz.underlying23] at h12
    cases a0 <;> try exact h0.elim
    cases a2 <;> try exact h2.elim
    cases a3 <;> try exact h3.elim
    cases a4 <;> try exact h4.elim
    cases a11 <;> try exact h11.elim
    cases a16 <;> try exact h16.elim
    cases a12 <;> try exact h12.elim
    obtain ⟨rfl, _⟩ := h0
    obtain ⟨rfl, _⟩ := h2
    exact ⟨_, _, _, _, _, _, _, _, _, _, _, _, _, _, _, _, _, _, _, rfl⟩

end Go.Proofs.YtkgcnjcehhpkpaaGreatDoor

