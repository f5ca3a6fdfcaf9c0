/- The law FnExactTryTerms, in the given statement's form, for every input. -/
import Derived.Test.YtdfccojbamlkdaaRFnExactTryTermsA
import Derived.Test.YtdfccojbamlkdaaRFnExactTryTermsB
import Derived.WalkKit
import Derived.ProofKit
import Derived.OpenShut
import Derived.ShutString
import Derived.ChangeOld
import Derived.Below
import Derived.SizedLaws
namespace Go.Proofs.Ytdfccojbamlkdaa.fnExactTryTerms
open Go.ChangeShapes Go.WideShapes Go.ChangeAt Go.RowKit
set_option linter.unusedVariables false
theorem over : Rows.fnExactTryTermsRow.holds Try.pinned (OpenSpec.ofChange Rows.fnExactTryTermsSpec) :=
  OpenClaim.holds_of_wide 10 Try.f10 rfl rfl rfl rfl rfl rfl rfl ⟨rfl, rfl, rfl, rfl, rfl⟩ rfl rfl rfl rfl rfl named Try.func10 facts
    (of_decide_eq_true (by kernel_rfl)) (by unfold Func.isWrapper; first | (rw [if_pos (by decide +kernel)]; kernel_rfl) | (rw [if_neg (by decide +kernel)]; exact ⟨rfl, rfl⟩))
    (fun os started H0 enc _ => lifted os started H0 enc)
theorem proved : Rows.FnExactTryTermsSaid := over
#print axioms proved
end Go.Proofs.Ytdfccojbamlkdaa.fnExactTryTerms
namespace Go.Proofs.Ytdfccojbamlkdaa
/-- The row, under a short name, for the claim. -/
theorem fnExactTryTerms_holds : Rows.FnExactTryTermsSaid := fnExactTryTerms.proved
end Go.Proofs.Ytdfccojbamlkdaa
