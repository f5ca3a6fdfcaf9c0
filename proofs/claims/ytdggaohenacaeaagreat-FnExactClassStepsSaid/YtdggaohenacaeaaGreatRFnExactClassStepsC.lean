/- The law FnExactClassSteps, in the given statement's form, for every input. -/
import Derived.Test.YtdggaohenacaeaaGreatRFnExactClassStepsA
import Derived.Test.YtdggaohenacaeaaGreatRFnExactClassStepsB
import Derived.WalkKit
import Derived.ProofKit
import Derived.OpenShut
import Derived.ShutString
import Derived.ChangeOld
import Derived.Below
import Derived.SizedLaws
namespace Go.Proofs.YtdggaohenacaeaaGreat.fnExactClassSteps
open Go.ChangeShapes Go.WideShapes Go.ChangeAt Go.RowKit
set_option linter.unusedVariables false
theorem over : Rows.fnExactClassStepsRow.holds Tryz.pinned (OpenSpec.ofChange Rows.fnExactClassStepsSpec) :=
  OpenClaim.holds_of_wide 6 Tryz.f6 rfl rfl rfl rfl rfl rfl rfl ⟨rfl, rfl, rfl, rfl, rfl⟩ rfl rfl rfl rfl rfl named Tryz.func6 facts
    (of_decide_eq_true (by kernel_rfl)) (by unfold Func.isWrapper; first | (rw [if_pos (by decide +kernel)]; kernel_rfl) | (rw [if_neg (by decide +kernel)]; exact ⟨rfl, rfl⟩))
    (fun os started H0 enc _ => lifted os started H0 enc)
theorem proved : Rows.FnExactClassStepsSaid := over
#print axioms proved
end Go.Proofs.YtdggaohenacaeaaGreat.fnExactClassSteps
namespace Go.Proofs.YtdggaohenacaeaaGreat
/-- The row, under a short name, for the claim. -/
theorem fnExactClassSteps_holds : Rows.FnExactClassStepsSaid := fnExactClassSteps.proved
end Go.Proofs.YtdggaohenacaeaaGreat
