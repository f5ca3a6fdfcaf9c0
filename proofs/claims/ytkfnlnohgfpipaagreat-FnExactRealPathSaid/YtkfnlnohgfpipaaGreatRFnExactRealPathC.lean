/- The law FnExactRealPath, in the given statement's form, for every input. -/
import Derived.Test.YtkfnlnohgfpipaaGreatRFnExactRealPathA
import Derived.Test.YtkfnlnohgfpipaaGreatRFnExactRealPathB
import Derived.WalkKit
import Derived.ProofKit
import Derived.OpenShut
import Derived.ShutString
import Derived.ChangeOld
import Derived.Below
import Derived.SizedLaws
namespace Go.Proofs.YtkfnlnohgfpipaaGreat.fnExactRealPath
open Go.ChangeShapes Go.WideShapes Go.ChangeAt Go.RowKit
set_option linter.unusedVariables false
theorem over : Rows.fnExactRealPathRow.holds Tryz.pinned (OpenSpec.ofChange Rows.fnExactRealPathSpec) :=
  OpenClaim.holds_of_wide 4 Tryz.f4 rfl rfl rfl rfl rfl rfl rfl ⟨rfl, rfl, rfl, rfl, rfl⟩ rfl rfl rfl rfl rfl named Tryz.func4 facts
    (of_decide_eq_true (by kernel_rfl)) (by unfold Func.isWrapper; first | (rw [if_pos (by decide +kernel)]; kernel_rfl) | (rw [if_neg (by decide +kernel)]; exact ⟨rfl, rfl⟩))
    (fun os started H0 enc _ => lifted os started H0 enc)
theorem proved : Rows.FnExactRealPathSaid := over
#print axioms proved
end Go.Proofs.YtkfnlnohgfpipaaGreat.fnExactRealPath
namespace Go.Proofs.YtkfnlnohgfpipaaGreat
/-- The row, under a short name, for the claim. -/
theorem fnExactRealPath_holds : Rows.FnExactRealPathSaid := fnExactRealPath.proved
end Go.Proofs.YtkfnlnohgfpipaaGreat
