/- The law FnExactImpliesIn, in the given statement's form, for every input. -/
import Derived.Test.YtdfccojbamlkdaaRFnExactImpliesInA
import Derived.Test.YtdfccojbamlkdaaRFnExactImpliesInB
import Derived.WalkKit
import Derived.ProofKit
import Derived.OpenShut
import Derived.ShutString
import Derived.ChangeOld
import Derived.Below
import Derived.SizedLaws
namespace Go.Proofs.Ytdfccojbamlkdaa.fnExactImpliesIn
open Go.ChangeShapes Go.WideShapes Go.ChangeAt Go.RowKit
set_option linter.unusedVariables false
theorem over : Rows.fnExactImpliesInRow.holds Try.pinned (OpenSpec.ofChange Rows.fnExactImpliesInSpec) :=
  OpenClaim.holds_of_wide 3 Try.f3 rfl rfl rfl rfl rfl rfl rfl ⟨rfl, rfl, rfl, rfl, rfl⟩ rfl rfl rfl rfl rfl named Try.func3 facts
    (of_decide_eq_true (by kernel_rfl)) (by unfold Func.isWrapper; first | (rw [if_pos (by decide +kernel)]; kernel_rfl) | (rw [if_neg (by decide +kernel)]; exact ⟨rfl, rfl⟩))
    (fun os started H0 enc _ => lifted os started H0 enc)
theorem proved : Rows.FnExactImpliesInSaid := over
#print axioms proved
end Go.Proofs.Ytdfccojbamlkdaa.fnExactImpliesIn
namespace Go.Proofs.Ytdfccojbamlkdaa
/-- The row, under a short name, for the claim. -/
theorem fnExactImpliesIn_holds : Rows.FnExactImpliesInSaid := fnExactImpliesIn.proved
end Go.Proofs.Ytdfccojbamlkdaa
