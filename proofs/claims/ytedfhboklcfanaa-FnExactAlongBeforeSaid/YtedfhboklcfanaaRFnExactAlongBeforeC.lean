/- The law FnExactAlongBefore, in the given statement's form, for every input. -/
import Derived.Test.YtedfhboklcfanaaRFnExactAlongBeforeA
import Derived.Test.YtedfhboklcfanaaRFnExactAlongBeforeB
import Derived.WalkKit
import Derived.ProofKit
import Derived.OpenShut
import Derived.ShutString
import Derived.ChangeOld
import Derived.Below
import Derived.SizedLaws
namespace Go.Proofs.Ytedfhboklcfanaa.fnExactAlongBefore
open Go.ChangeShapes Go.WideShapes Go.ChangeAt Go.RowKit
set_option linter.unusedVariables false
theorem over : Rows.fnExactAlongBeforeRow.holds Try.pinned (OpenSpec.ofChange Rows.fnExactAlongBeforeSpec) :=
  OpenClaim.holds_of_wide 3 Try.f3 rfl rfl rfl rfl rfl rfl rfl ⟨rfl, rfl, rfl, rfl, rfl⟩ rfl rfl rfl rfl rfl named Try.func3 facts
    (of_decide_eq_true (by kernel_rfl)) (by unfold Func.isWrapper; first | (rw [if_pos (by decide +kernel)]; kernel_rfl) | (rw [if_neg (by decide +kernel)]; exact ⟨rfl, rfl⟩))
    (fun os started H0 enc _ => lifted os started H0 enc)
theorem proved : Rows.FnExactAlongBeforeSaid := over
#print axioms proved
end Go.Proofs.Ytedfhboklcfanaa.fnExactAlongBefore
namespace Go.Proofs.Ytedfhboklcfanaa
/-- The row, under a short name, for the claim. -/
theorem fnExactAlongBefore_holds : Rows.FnExactAlongBeforeSaid := fnExactAlongBefore.proved
end Go.Proofs.Ytedfhboklcfanaa
