/- The law FnExactRealLasso, in the given statement's form, for every input. -/
import Derived.Test.YtkfnlnohgfpipaaGreatRFnExactRealLassoA
import Derived.Test.YtkfnlnohgfpipaaGreatRFnExactRealLassoB
import Derived.WalkKit
import Derived.ProofKit
import Derived.OpenShut
import Derived.ShutString
import Derived.ChangeOld
import Derived.Below
import Derived.SizedLaws
namespace Go.Proofs.YtkfnlnohgfpipaaGreat.fnExactRealLasso
open Go.ChangeShapes Go.WideShapes Go.ChangeAt Go.RowKit
set_option linter.unusedVariables false
theorem over : Rows.fnExactRealLassoRow.holds Tryz.pinned (OpenSpec.ofChange Rows.fnExactRealLassoSpec) :=
  OpenClaim.holds_of_wide 5 Tryz.f5 rfl rfl rfl rfl rfl rfl rfl ⟨rfl, rfl, rfl, rfl, rfl⟩ rfl rfl rfl rfl rfl named Tryz.func5 facts
    (of_decide_eq_true (by kernel_rfl)) (by unfold Func.isWrapper; first | (rw [if_pos (by decide +kernel)]; kernel_rfl) | (rw [if_neg (by decide +kernel)]; exact ⟨rfl, rfl⟩))
    (fun os started H0 enc _ => lifted os started H0 enc)
theorem proved : Rows.FnExactRealLassoSaid := over
#print axioms proved
end Go.Proofs.YtkfnlnohgfpipaaGreat.fnExactRealLasso
namespace Go.Proofs.YtkfnlnohgfpipaaGreat
/-- The row, under a short name, for the claim. -/
theorem fnExactRealLasso_holds : Rows.FnExactRealLassoSaid := fnExactRealLasso.proved
end Go.Proofs.YtkfnlnohgfpipaaGreat
