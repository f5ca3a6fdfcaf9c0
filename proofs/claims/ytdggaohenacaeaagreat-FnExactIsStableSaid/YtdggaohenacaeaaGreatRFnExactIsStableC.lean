/- The law FnExactIsStable, in the given statement's form, for every input. -/
import Derived.Test.YtdggaohenacaeaaGreatRFnExactIsStableA
import Derived.Test.YtdggaohenacaeaaGreatRFnExactIsStableB
import Derived.WalkKit
import Derived.ProofKit
import Derived.OpenShut
import Derived.ShutString
import Derived.ChangeOld
import Derived.Below
import Derived.SizedLaws
namespace Go.Proofs.YtdggaohenacaeaaGreat.fnExactIsStable
open Go.ChangeShapes Go.WideShapes Go.ChangeAt Go.RowKit
set_option linter.unusedVariables false
theorem over : Rows.fnExactIsStableRow.holds Tryz.pinned (OpenSpec.ofChange Rows.fnExactIsStableSpec) :=
  OpenClaim.holds_of_wide 9 Tryz.f9 rfl rfl rfl rfl rfl rfl rfl ⟨rfl, rfl, rfl, rfl, rfl⟩ rfl rfl rfl rfl rfl named Tryz.func9 facts
    (of_decide_eq_true (by kernel_rfl)) (by unfold Func.isWrapper; first | (rw [if_pos (by decide +kernel)]; kernel_rfl) | (rw [if_neg (by decide +kernel)]; exact ⟨rfl, rfl⟩))
    (fun os started H0 enc _ => lifted os started H0 enc)
theorem proved : Rows.FnExactIsStableSaid := over
#print axioms proved
end Go.Proofs.YtdggaohenacaeaaGreat.fnExactIsStable
namespace Go.Proofs.YtdggaohenacaeaaGreat
/-- The row, under a short name, for the claim. -/
theorem fnExactIsStable_holds : Rows.FnExactIsStableSaid := fnExactIsStable.proved
end Go.Proofs.YtdggaohenacaeaaGreat
