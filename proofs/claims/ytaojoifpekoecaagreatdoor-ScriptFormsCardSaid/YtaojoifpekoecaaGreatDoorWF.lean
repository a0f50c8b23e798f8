/-
  The four functions without a body that the run calls are those of the model. No condition.
-/
import Derived.Test.YtaojoifpekoecaaGreatDoorW0
import Derived.KernelRfl
namespace Go.Ev
open Go.Proofs

/-- the one function without a body that bears a name -/
theorem bodiless {name : String} {i : Nat} (hc : (PP.funcs.toList.zipIdx.all fun x => x.1.body.isSome || !(x.1.name == name) || Nat.beq x.2 i) = true) (f : Nat) (fn : Func) (hf : PP.funcs[f]? = some fn) (hb : fn.body = none) (hn : fn.name = name) : f = i := by
  rw [List.all_eq_true] at hc
  have hm : (fn, f) ∈ PP.funcs.toList.zipIdx := by rw [List.mem_zipIdx_iff_getElem?]; simpa using hf
  have := hc _ hm
  simp only [hb, hn, beq_self_eq_true, Bool.not_true, Bool.or_false, Bool.false_or, Option.isSome_none] at this
  exact Nat.eq_of_beq_eq_true this

theorem only106 : (PP.funcs.toList.zipIdx.all fun x => x.1.body.isSome || !(x.1.name == "internal/abi.NoEscape") || Nat.beq x.2 106) = true := by decide +kernel
theorem only181 : (PP.funcs.toList.zipIdx.all fun x => x.1.body.isSome || !(x.1.name == "internal/bytealg.IndexByteString") || Nat.beq x.2 181) = true := by decide +kernel
theorem only127 : (PP.funcs.toList.zipIdx.all fun x => x.1.body.isSome || !(x.1.name == "internal/bytealg.CountString") || Nat.beq x.2 127) = true := by decide +kernel
theorem only137 : (PP.funcs.toList.zipIdx.all fun x => x.1.body.isSome || !(x.1.name == "internal/bytealg.MakeNoZero") || Nat.beq x.2 137) = true := by decide +kernel

instance factsP : Facts where
  ext1 := fun f fn hf hb hn => by
    have := bodiless only106 f fn hf hb hn
    subst this
    obtain rfl := Option.some.inj (Tryz.func106.symm.trans hf)
    exact ⟨by kernel_rfl, by kernel_rfl⟩
  ext2 := fun f fn hf hb hn => by
    have := bodiless only181 f fn hf hb hn
    subst this
    obtain rfl := Option.some.inj (Tryz.func181.symm.trans hf)
    exact ⟨by kernel_rfl, by kernel_rfl⟩
  ext3 := fun f fn hf hb hn => by
    have := bodiless only127 f fn hf hb hn
    subst this
    obtain rfl := Option.some.inj (Tryz.func127.symm.trans hf)
    exact ⟨by kernel_rfl, by kernel_rfl⟩
  ext4 := fun f fn hf hb hn => by
    have := bodiless only137 f fn hf hb hn
    subst this
    obtain rfl := Option.some.inj (Tryz.func137.symm.trans hf)
    exact ⟨by kernel_rfl, by kernel_rfl, by kernel_rfl⟩
end Go.Ev

