/- The law FnExactSeparates, in the given statement's form, for every input. -/
import Derived.Test.YtdfccojbamlkdaaRFnExactSeparatesA
import Derived.Test.YtdfccojbamlkdaaRFnExactSeparatesB
import Derived.WalkKit
import Derived.ProofKit
import Derived.OpenShut
import Derived.ShutString
import Derived.ChangeOld
import Derived.Below
import Derived.SizedLaws
namespace Go.Proofs.Ytdfccojbamlkdaa.fnExactSeparates
open Go.ChangeShapes Go.WideShapes Go.ChangeAt Go.RowKit
set_option linter.unusedVariables false
theorem over : Rows.fnExactSeparatesRow.holds Try.pinned (OpenSpec.ofChange Rows.fnExactSeparatesSpec) :=
  OpenClaim.holds_of_wide 6 Try.f6 rfl rfl rfl rfl rfl rfl rfl ⟨rfl, rfl, rfl, rfl, rfl⟩ rfl rfl rfl rfl rfl named Try.func6 facts
    (of_decide_eq_true (by kernel_rfl)) (by unfold Func.isWrapper; first | (rw [if_pos (by decide +kernel)]; kernel_rfl) | (rw [if_neg (by decide +kernel)]; exact ⟨rfl, rfl⟩))
    (fun os started H0 enc _ => lifted os started H0 enc)
theorem proved : Rows.FnExactSeparatesSaid := over
#print axioms proved
end Go.Proofs.Ytdfccojbamlkdaa.fnExactSeparates
namespace Go.Proofs.Ytdfccojbamlkdaa
/-- The row, under a short name, for the claim. -/
theorem fnExactSeparates_holds : Rows.FnExactSeparatesSaid := fnExactSeparates.proved
end Go.Proofs.Ytdfccojbamlkdaa
