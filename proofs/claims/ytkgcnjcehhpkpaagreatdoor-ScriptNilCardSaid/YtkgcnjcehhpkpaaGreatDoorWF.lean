/-
  The four functions without a body that the run calls are those of the model. No condition.
-/
import Derived.Test.YtkgcnjcehhpkpaaGreatDoorW0
import Derived.KernelRfl
namespace Go.Ev
open Go.Proofs

/-- the one function without a body that bears a name -/
theorem bodiless {name : String} {i : Nat} (hc : (PP.funcs.toList.zipIdx.all fun x => x.1.body.isSome || !(x.1.name == name) || Nat.beq x.2 i) = true) (f : Nat) (fn : Func) (hf : PP.funcs[f]? = some fn) (hb : fn.body = none) (hn : fn.name = name) : f = i := by
  rw [List.all_eq_true] at hc
  have hm : (fn, f) ∈ PP.funcs.toList.zipIdx := by rw [List.mem_zipIdx_iff_getElem?]; simpa using hf
  have := hc _ hm
  simp only [hb, hn, beq_self_eq_true, Bool.not_true, Bool.or_false, Bool.false_or, Option.isSome_none] at this
  exact Nat.eq_of_beq_eq_true this

theorem only138 : (PP.funcs.toList.zipIdx.all fun x => x.1.body.isSome || !(x.1.name == "internal/abi.NoEscape") || Nat.beq x.2 138) = true := by decide +kernel
theorem only315 : (PP.funcs.toList.zipIdx.all fun x => x.1.body.isSome || !(x.1.name == "internal/bytealg.IndexByteString") || Nat.beq x.2 315) = true := by decide +kernel
theorem only207 : (PP.funcs.toList.zipIdx.all fun x => x.1.body.isSome || !(x.1.name == "internal/bytealg.CountString") || Nat.beq x.2 207) = true := by decide +kernel
theorem only204 : (PP.funcs.toList.zipIdx.all fun x => x.1.body.isSome || !(x.1.name == "internal/bytealg.MakeNoZero") || Nat.beq x.2 204) = true := by decide +kernel

instance factsP : Facts where
  ext1 := fun f fn hf hb hn => by
    have := bodiless only138 f fn hf hb hn
    subst this
    obtain rfl := Option.some.inj (Tryz.func138.symm.trans hf)
    exact ⟨by kernel_rfl, by kernel_rfl⟩
  ext2 := fun f fn hf hb hn => by
    have := bodiless only315 f fn hf hb hn
    subst this
    obtain rfl := Option.some.inj (Tryz.func315.symm.trans hf)
    exact ⟨by kernel_rfl, by kernel_rfl⟩
  ext3 := fun f fn hf hb hn => by
    have := bodiless only207 f fn hf hb hn
    subst this
    obtain rfl := Option.some.inj (Tryz.func207.symm.trans hf)
    exact ⟨by kernel_rfl, by kernel_rfl⟩
  ext4 := fun f fn hf hb hn => by
    have := bodiless only204 f fn hf hb hn
    subst this
    obtain rfl := Option.some.inj (Tryz.func204.symm.trans hf)
    exact ⟨by kernel_rfl, by kernel_rfl, by kernel_rfl⟩
end Go.Ev

