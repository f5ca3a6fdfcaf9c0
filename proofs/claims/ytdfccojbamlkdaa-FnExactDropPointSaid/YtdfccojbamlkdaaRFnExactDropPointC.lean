/- The law FnExactDropPoint, in the given statement's form, for every input. -/
import Derived.Test.YtdfccojbamlkdaaRFnExactDropPointA
import Derived.Test.YtdfccojbamlkdaaRFnExactDropPointB
import Derived.WalkKit
import Derived.ProofKit
import Derived.OpenShut
import Derived.ShutString
import Derived.ChangeOld
import Derived.Below
import Derived.SizedLaws
namespace Go.Proofs.Ytdfccojbamlkdaa.fnExactDropPoint
open Go.ChangeShapes Go.WideShapes Go.ChangeAt Go.RowKit
set_option linter.unusedVariables false
theorem over : Rows.fnExactDropPointRow.holds Try.pinned (OpenSpec.ofChange Rows.fnExactDropPointSpec) :=
  OpenClaim.holds_of_wide 7 Try.f7 rfl rfl rfl rfl rfl rfl rfl ⟨rfl, rfl, rfl, rfl, rfl⟩ rfl rfl rfl rfl rfl named Try.func7 facts
    (of_decide_eq_true (by kernel_rfl)) (by unfold Func.isWrapper; first | (rw [if_pos (by decide +kernel)]; kernel_rfl) | (rw [if_neg (by decide +kernel)]; exact ⟨rfl, rfl⟩))
    (fun os started H0 enc _ => lifted os started H0 enc)
theorem proved : Rows.FnExactDropPointSaid := over
#print axioms proved
end Go.Proofs.Ytdfccojbamlkdaa.fnExactDropPoint
namespace Go.Proofs.Ytdfccojbamlkdaa
/-- The row, under a short name, for the claim. -/
theorem fnExactDropPoint_holds : Rows.FnExactDropPointSaid := fnExactDropPoint.proved
end Go.Proofs.Ytdfccojbamlkdaa
