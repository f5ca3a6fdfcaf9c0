/- The law FnExactDeadEnds, in the given statement's form, for every input. -/
import Derived.Test.YtdggaohenacaeaaGreatRFnExactDeadEndsA
import Derived.Test.YtdggaohenacaeaaGreatRFnExactDeadEndsB
import Derived.WalkKit
import Derived.ProofKit
import Derived.OpenShut
import Derived.ShutString
import Derived.ChangeOld
import Derived.Below
import Derived.SizedLaws
namespace Go.Proofs.YtdggaohenacaeaaGreat.fnExactDeadEnds
open Go.ChangeShapes Go.WideShapes Go.ChangeAt Go.RowKit
set_option linter.unusedVariables false
theorem over : Rows.fnExactDeadEndsRow.holds Tryz.pinned (OpenSpec.ofChange Rows.fnExactDeadEndsSpec) :=
  OpenClaim.holds_of_wide 13 Tryz.f13 rfl rfl rfl rfl rfl rfl rfl ⟨rfl, rfl, rfl, rfl, rfl⟩ rfl rfl rfl rfl rfl named Tryz.func13 facts
    (of_decide_eq_true (by kernel_rfl)) (by unfold Func.isWrapper; first | (rw [if_pos (by decide +kernel)]; kernel_rfl) | (rw [if_neg (by decide +kernel)]; exact ⟨rfl, rfl⟩))
    (fun os started H0 enc _ => lifted os started H0 enc)
theorem proved : Rows.FnExactDeadEndsSaid := over
#print axioms proved
end Go.Proofs.YtdggaohenacaeaaGreat.fnExactDeadEnds
namespace Go.Proofs.YtdggaohenacaeaaGreat
/-- The row, under a short name, for the claim. -/
theorem fnExactDeadEnds_holds : Rows.FnExactDeadEndsSaid := fnExactDeadEnds.proved
end Go.Proofs.YtdggaohenacaeaaGreat
