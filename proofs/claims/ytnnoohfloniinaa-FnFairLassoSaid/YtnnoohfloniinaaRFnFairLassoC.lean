/- The law FnFairLasso, in the given statement's form, for every input. -/
import Derived.Test.YtnnoohfloniinaaRFnFairLassoA
import Derived.Test.YtnnoohfloniinaaRFnFairLassoB
import Derived.WalkKit
import Derived.ProofKit
import Derived.OpenShut
import Derived.ShutString
import Derived.ChangeOld
import Derived.Below
import Derived.SizedLaws
namespace Go.Proofs.Ytnnoohfloniinaa.fnFairLasso
open Go.ChangeShapes Go.WideShapes Go.ChangeAt Go.RowKit
set_option linter.unusedVariables false
theorem over : Rows.fnFairLassoRow.holds Try.pinned (OpenSpec.ofChange Rows.fnFairLassoSpec) :=
  OpenClaim.holds_of_wide 6 Try.f6 rfl rfl rfl rfl rfl rfl rfl ⟨rfl, rfl, rfl, rfl, rfl⟩ rfl rfl rfl rfl rfl named Try.func6 facts
    (of_decide_eq_true (by kernel_rfl)) (by unfold Func.isWrapper; first | (rw [if_pos (by decide +kernel)]; kernel_rfl) | (rw [if_neg (by decide +kernel)]; exact ⟨rfl, rfl⟩))
    (fun os started H0 enc _ => lifted os started H0 enc)
theorem proved : Rows.FnFairLassoSaid := over
#print axioms proved
end Go.Proofs.Ytnnoohfloniinaa.fnFairLasso
namespace Go.Proofs.Ytnnoohfloniinaa
/-- The row, under a short name, for the claim. -/
theorem fnFairLasso_holds : Rows.FnFairLassoSaid := fnFairLasso.proved
end Go.Proofs.Ytnnoohfloniinaa
