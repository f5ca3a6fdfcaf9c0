/- The law FnExactFailsAt, in the given statement's form, for every input. -/
import Derived.Test.YtdggaohenacaeaaGreatRFnExactFailsAtA
import Derived.Test.YtdggaohenacaeaaGreatRFnExactFailsAtB
import Derived.WalkKit
import Derived.ProofKit
import Derived.OpenShut
import Derived.ShutString
import Derived.ChangeOld
import Derived.Below
import Derived.SizedLaws
namespace Go.Proofs.YtdggaohenacaeaaGreat.fnExactFailsAt
open Go.ChangeShapes Go.WideShapes Go.ChangeAt Go.RowKit
set_option linter.unusedVariables false
theorem over : Rows.fnExactFailsAtRow.holds Tryz.pinned (OpenSpec.ofChange Rows.fnExactFailsAtSpec) :=
  OpenClaim.holds_of_wide 8 Tryz.f8 rfl rfl rfl rfl rfl rfl rfl ⟨rfl, rfl, rfl, rfl, rfl⟩ rfl rfl rfl rfl rfl named Tryz.func8 facts
    (of_decide_eq_true (by kernel_rfl)) (by unfold Func.isWrapper; first | (rw [if_pos (by decide +kernel)]; kernel_rfl) | (rw [if_neg (by decide +kernel)]; exact ⟨rfl, rfl⟩))
    (fun os started H0 enc _ => lifted os started H0 enc)
theorem proved : Rows.FnExactFailsAtSaid := over
#print axioms proved
end Go.Proofs.YtdggaohenacaeaaGreat.fnExactFailsAt
namespace Go.Proofs.YtdggaohenacaeaaGreat
/-- The row, under a short name, for the claim. -/
theorem fnExactFailsAt_holds : Rows.FnExactFailsAtSaid := fnExactFailsAt.proved
end Go.Proofs.YtdggaohenacaeaaGreat
