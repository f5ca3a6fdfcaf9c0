/- The law FnPruned, in the given statement's form, for every input. -/
import Derived.Test.YtnnoohfloniinaaRFnPrunedA
import Derived.Test.YtnnoohfloniinaaRFnPrunedB
import Derived.WalkKit
import Derived.ProofKit
import Derived.OpenShut
import Derived.ShutString
import Derived.ChangeOld
import Derived.Below
import Derived.SizedLaws
namespace Go.Proofs.Ytnnoohfloniinaa.fnPruned
open Go.ChangeShapes Go.WideShapes Go.ChangeAt Go.RowKit
set_option linter.unusedVariables false
theorem over : Rows.fnPrunedRow.holds Try.pinned (OpenSpec.ofChange Rows.fnPrunedSpec) :=
  OpenClaim.holds_of_wide 5 Try.f5 rfl rfl rfl rfl rfl rfl rfl ⟨rfl, rfl, rfl, rfl, rfl⟩ rfl rfl rfl rfl rfl named Try.func5 facts
    (of_decide_eq_true (by kernel_rfl)) (by unfold Func.isWrapper; first | (rw [if_pos (by decide +kernel)]; kernel_rfl) | (rw [if_neg (by decide +kernel)]; exact ⟨rfl, rfl⟩))
    (fun os started H0 enc _ => lifted os started H0 enc)
theorem proved : Rows.FnPrunedSaid := over
#print axioms proved
end Go.Proofs.Ytnnoohfloniinaa.fnPruned
namespace Go.Proofs.Ytnnoohfloniinaa
/-- The row, under a short name, for the claim. -/
theorem fnPruned_holds : Rows.FnPrunedSaid := fnPruned.proved
end Go.Proofs.Ytnnoohfloniinaa
