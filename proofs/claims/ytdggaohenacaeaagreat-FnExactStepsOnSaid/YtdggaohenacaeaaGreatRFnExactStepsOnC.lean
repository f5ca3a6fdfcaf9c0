/- The law FnExactStepsOn, in the given statement's form, for every input. -/
import Derived.Test.YtdggaohenacaeaaGreatRFnExactStepsOnA
import Derived.Test.YtdggaohenacaeaaGreatRFnExactStepsOnB
import Derived.WalkKit
import Derived.ProofKit
import Derived.OpenShut
import Derived.ShutString
import Derived.ChangeOld
import Derived.Below
import Derived.SizedLaws
namespace Go.Proofs.YtdggaohenacaeaaGreat.fnExactStepsOn
open Go.ChangeShapes Go.WideShapes Go.ChangeAt Go.RowKit
set_option linter.unusedVariables false
theorem over : Rows.fnExactStepsOnRow.holds Tryz.pinned (OpenSpec.ofChange Rows.fnExactStepsOnSpec) :=
  OpenClaim.holds_of_wide 7 Tryz.f7 rfl rfl rfl rfl rfl rfl rfl ⟨rfl, rfl, rfl, rfl, rfl⟩ rfl rfl rfl rfl rfl named Tryz.func7 facts
    (of_decide_eq_true (by kernel_rfl)) (by unfold Func.isWrapper; first | (rw [if_pos (by decide +kernel)]; kernel_rfl) | (rw [if_neg (by decide +kernel)]; exact ⟨rfl, rfl⟩))
    (fun os started H0 enc _ => lifted os started H0 enc)
theorem proved : Rows.FnExactStepsOnSaid := over
#print axioms proved
end Go.Proofs.YtdggaohenacaeaaGreat.fnExactStepsOn
namespace Go.Proofs.YtdggaohenacaeaaGreat
/-- The row, under a short name, for the claim. -/
theorem fnExactStepsOn_holds : Rows.FnExactStepsOnSaid := fnExactStepsOn.proved
end Go.Proofs.YtdggaohenacaeaaGreat
