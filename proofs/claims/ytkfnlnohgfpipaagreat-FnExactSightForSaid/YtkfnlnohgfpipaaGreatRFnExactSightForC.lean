/- The law FnExactSightFor, in the given statement's form, for every input. -/
import Derived.Test.YtkfnlnohgfpipaaGreatRFnExactSightForA
import Derived.Test.YtkfnlnohgfpipaaGreatRFnExactSightForB
import Derived.WalkKit
import Derived.ProofKit
import Derived.OpenShut
import Derived.ShutString
import Derived.ChangeOld
import Derived.Below
import Derived.SizedLaws
namespace Go.Proofs.YtkfnlnohgfpipaaGreat.fnExactSightFor
open Go.ChangeShapes Go.WideShapes Go.ChangeAt Go.RowKit
set_option linter.unusedVariables false
theorem over : Rows.fnExactSightForRow.holds Tryz.pinned (OpenSpec.ofChange Rows.fnExactSightForSpec) :=
  OpenClaim.holds_of_wide 3 Tryz.f3 rfl rfl rfl rfl rfl rfl rfl ⟨rfl, rfl, rfl, rfl, rfl⟩ rfl rfl rfl rfl rfl named Tryz.func3 facts
    (of_decide_eq_true (by kernel_rfl)) (by unfold Func.isWrapper; first | (rw [if_pos (by decide +kernel)]; kernel_rfl) | (rw [if_neg (by decide +kernel)]; exact ⟨rfl, rfl⟩))
    (fun os started H0 enc _ => lifted os started H0 enc)
theorem proved : Rows.FnExactSightForSaid := over
#print axioms proved
end Go.Proofs.YtkfnlnohgfpipaaGreat.fnExactSightFor
namespace Go.Proofs.YtkfnlnohgfpipaaGreat
/-- The row, under a short name, for the claim. -/
theorem fnExactSightFor_holds : Rows.FnExactSightForSaid := fnExactSightFor.proved
end Go.Proofs.YtkfnlnohgfpipaaGreat
