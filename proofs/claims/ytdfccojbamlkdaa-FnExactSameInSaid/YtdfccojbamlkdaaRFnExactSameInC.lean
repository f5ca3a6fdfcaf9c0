/- The law FnExactSameIn, in the given statement's form, for every input. -/
import Derived.Test.YtdfccojbamlkdaaRFnExactSameInA
import Derived.Test.YtdfccojbamlkdaaRFnExactSameInB
import Derived.WalkKit
import Derived.ProofKit
import Derived.OpenShut
import Derived.ShutString
import Derived.ChangeOld
import Derived.Below
import Derived.SizedLaws
namespace Go.Proofs.Ytdfccojbamlkdaa.fnExactSameIn
open Go.ChangeShapes Go.WideShapes Go.ChangeAt Go.RowKit
set_option linter.unusedVariables false
theorem over : Rows.fnExactSameInRow.holds Try.pinned (OpenSpec.ofChange Rows.fnExactSameInSpec) :=
  OpenClaim.holds_of_wide 4 Try.f4 rfl rfl rfl rfl rfl rfl rfl ⟨rfl, rfl, rfl, rfl, rfl⟩ rfl rfl rfl rfl rfl named Try.func4 facts
    (of_decide_eq_true (by kernel_rfl)) (by unfold Func.isWrapper; first | (rw [if_pos (by decide +kernel)]; kernel_rfl) | (rw [if_neg (by decide +kernel)]; exact ⟨rfl, rfl⟩))
    (fun os started H0 enc _ => lifted os started H0 enc)
theorem proved : Rows.FnExactSameInSaid := over
#print axioms proved
end Go.Proofs.Ytdfccojbamlkdaa.fnExactSameIn
namespace Go.Proofs.Ytdfccojbamlkdaa
/-- The row, under a short name, for the claim. -/
theorem fnExactSameIn_holds : Rows.FnExactSameInSaid := fnExactSameIn.proved
end Go.Proofs.Ytdfccojbamlkdaa
