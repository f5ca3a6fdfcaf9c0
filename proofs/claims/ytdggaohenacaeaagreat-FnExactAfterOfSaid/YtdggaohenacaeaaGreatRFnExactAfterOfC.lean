/- The law FnExactAfterOf, in the given statement's form, for every input. -/
import Derived.Test.YtdggaohenacaeaaGreatRFnExactAfterOfA
import Derived.Test.YtdggaohenacaeaaGreatRFnExactAfterOfB
import Derived.WalkKit
import Derived.ProofKit
import Derived.OpenShut
import Derived.ShutString
import Derived.ChangeOld
import Derived.Below
import Derived.SizedLaws
namespace Go.Proofs.YtdggaohenacaeaaGreat.fnExactAfterOf
open Go.ChangeShapes Go.WideShapes Go.ChangeAt Go.RowKit
set_option linter.unusedVariables false
theorem over : Rows.fnExactAfterOfRow.holds Tryz.pinned (OpenSpec.ofChange Rows.fnExactAfterOfSpec) :=
  OpenClaim.holds_of_wide 4 Tryz.f4 rfl rfl rfl rfl rfl rfl rfl ⟨rfl, rfl, rfl, rfl, rfl⟩ rfl rfl rfl rfl rfl named Tryz.func4 facts
    (of_decide_eq_true (by kernel_rfl)) (by unfold Func.isWrapper; first | (rw [if_pos (by decide +kernel)]; kernel_rfl) | (rw [if_neg (by decide +kernel)]; exact ⟨rfl, rfl⟩))
    (fun os started H0 enc _ => lifted os started H0 enc)
theorem proved : Rows.FnExactAfterOfSaid := over
#print axioms proved
end Go.Proofs.YtdggaohenacaeaaGreat.fnExactAfterOf
namespace Go.Proofs.YtdggaohenacaeaaGreat
/-- The row, under a short name, for the claim. -/
theorem fnExactAfterOf_holds : Rows.FnExactAfterOfSaid := fnExactAfterOf.proved
end Go.Proofs.YtdggaohenacaeaaGreat
