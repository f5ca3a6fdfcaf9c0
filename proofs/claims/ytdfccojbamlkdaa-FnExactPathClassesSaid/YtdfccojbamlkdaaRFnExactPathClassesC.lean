/- The law FnExactPathClasses, in the given statement's form, for every input. -/
import Derived.Test.YtdfccojbamlkdaaRFnExactPathClassesA
import Derived.Test.YtdfccojbamlkdaaRFnExactPathClassesB
import Derived.WalkKit
import Derived.ProofKit
import Derived.OpenShut
import Derived.ShutString
import Derived.ChangeOld
import Derived.Below
import Derived.SizedLaws
namespace Go.Proofs.Ytdfccojbamlkdaa.fnExactPathClasses
open Go.ChangeShapes Go.WideShapes Go.ChangeAt Go.RowKit
set_option linter.unusedVariables false
theorem over : Rows.fnExactPathClassesRow.holds Try.pinned (OpenSpec.ofChange Rows.fnExactPathClassesSpec) :=
  OpenClaim.holds_of_wide 8 Try.f8 rfl rfl rfl rfl rfl rfl rfl ⟨rfl, rfl, rfl, rfl, rfl⟩ rfl rfl rfl rfl rfl named Try.func8 facts
    (of_decide_eq_true (by kernel_rfl)) (by unfold Func.isWrapper; first | (rw [if_pos (by decide +kernel)]; kernel_rfl) | (rw [if_neg (by decide +kernel)]; exact ⟨rfl, rfl⟩))
    (fun os started H0 enc _ => lifted os started H0 enc)
theorem proved : Rows.FnExactPathClassesSaid := over
#print axioms proved
end Go.Proofs.Ytdfccojbamlkdaa.fnExactPathClasses
namespace Go.Proofs.Ytdfccojbamlkdaa
/-- The row, under a short name, for the claim. -/
theorem fnExactPathClasses_holds : Rows.FnExactPathClassesSaid := fnExactPathClasses.proved
end Go.Proofs.Ytdfccojbamlkdaa
