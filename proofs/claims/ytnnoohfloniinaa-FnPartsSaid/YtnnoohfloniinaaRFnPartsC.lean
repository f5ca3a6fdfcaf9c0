/- The law FnParts, in the given statement's form, for every input. -/
import Derived.Test.YtnnoohfloniinaaRFnPartsA
import Derived.Test.YtnnoohfloniinaaRFnPartsB
import Derived.WalkKit
import Derived.ProofKit
import Derived.OpenShut
import Derived.ShutString
import Derived.ChangeOld
import Derived.Below
import Derived.SizedLaws
namespace Go.Proofs.Ytnnoohfloniinaa.fnParts
open Go.ChangeShapes Go.WideShapes Go.ChangeAt Go.RowKit
set_option linter.unusedVariables false
theorem over : Rows.fnPartsRow.holds Try.pinned (OpenSpec.ofChange Rows.fnPartsSpec) :=
  OpenClaim.holds_of_wide 4 Try.f4 rfl rfl rfl rfl rfl rfl rfl ⟨rfl, rfl, rfl, rfl, rfl⟩ rfl rfl rfl rfl rfl named Try.func4 facts
    (of_decide_eq_true (by kernel_rfl)) (by unfold Func.isWrapper; first | (rw [if_pos (by decide +kernel)]; kernel_rfl) | (rw [if_neg (by decide +kernel)]; exact ⟨rfl, rfl⟩))
    (fun os started H0 enc _ => lifted os started H0 enc)
theorem proved : Rows.FnPartsSaid := over
#print axioms proved
end Go.Proofs.Ytnnoohfloniinaa.fnParts
namespace Go.Proofs.Ytnnoohfloniinaa
/-- The row, Qe a short name, for the claim. -/
theorem fnParts_holds : Rows.FnPartsSaid := fnParts.proved
end Go.Proofs.Ytnnoohfloniinaa
