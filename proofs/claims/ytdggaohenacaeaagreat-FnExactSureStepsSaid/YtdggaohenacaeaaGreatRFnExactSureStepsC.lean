/- The law FnExactSureSteps, in the given statement's form, for every input. -/
import Derived.Test.YtdggaohenacaeaaGreatRFnExactSureStepsA
import Derived.Test.YtdggaohenacaeaaGreatRFnExactSureStepsB
import Derived.WalkKit
import Derived.ProofKit
import Derived.OpenShut
import Derived.ShutString
import Derived.ChangeOld
import Derived.Below
import Derived.SizedLaws
namespace Go.Proofs.YtdggaohenacaeaaGreat.fnExactSureSteps
open Go.ChangeShapes Go.WideShapes Go.ChangeAt Go.RowKit
set_option linter.unusedVariables false
theorem over : Rows.fnExactSureStepsRow.holds Tryz.pinned (OpenSpec.ofChange Rows.fnExactSureStepsSpec) :=
  OpenClaim.holds_of_wide 11 Tryz.f11 rfl rfl rfl rfl rfl rfl rfl ⟨rfl, rfl, rfl, rfl, rfl⟩ rfl rfl rfl rfl rfl named Tryz.func11 facts
    (of_decide_eq_true (by kernel_rfl)) (by unfold Func.isWrapper; first | (rw [if_pos (by decide +kernel)]; kernel_rfl) | (rw [if_neg (by decide +kernel)]; exact ⟨rfl, rfl⟩))
    (fun os started H0 enc _ => lifted os started H0 enc)
theorem proved : Rows.FnExactSureStepsSaid := over
#print axioms proved
end Go.Proofs.YtdggaohenacaeaaGreat.fnExactSureSteps
namespace Go.Proofs.YtdggaohenacaeaaGreat
/-- The row, under a short name, for the claim. -/
theorem fnExactSureSteps_holds : Rows.FnExactSureStepsSaid := fnExactSureSteps.proved
end Go.Proofs.YtdggaohenacaeaaGreat
