/- The law FnExactSureNever, in the given statement's form, for every input. -/
import Derived.Test.YtmfoobckeoaklaaGreatRFnExactSureNeverA
import Derived.Test.YtmfoobckeoaklaaGreatRFnExactSureNeverB
import Derived.WalkKit
import Derived.ProofKit
import Derived.OpenShut
import Derived.ShutString
import Derived.ChangeOld
import Derived.Below
import Derived.SizedLaws
namespace Go.Proofs.YtmfoobckeoaklaaGreat.fnExactSureNever
open Go.ChangeShapes Go.WideShapes Go.ChangeAt Go.RowKit
set_option linter.unusedVariables false
theorem over : Rows.fnExactSureNeverRow.holds Tryz.pinned (OpenSpec.ofChange Rows.fnExactSureNeverSpec) :=
  OpenClaim.holds_of_wide 4 Tryz.f4 rfl rfl rfl rfl rfl rfl rfl ⟨rfl, rfl, rfl, rfl, rfl⟩ rfl rfl rfl rfl rfl named Tryz.func4 facts
    (of_decide_eq_true (by kernel_rfl)) (by unfold Func.isWrapper; first | (rw [if_pos (by decide +kernel)]; kernel_rfl) | (rw [if_neg (by decide +kernel)]; exact ⟨rfl, rfl⟩))
    (fun os started H0 enc _ => lifted os started H0 enc)
theorem proved : Rows.FnExactSureNeverSaid := over
#print axioms proved
end Go.Proofs.YtmfoobckeoaklaaGreat.fnExactSureNever
namespace Go.Proofs.YtmfoobckeoaklaaGreat
/-- The row, under a short name, for the claim. -/
theorem fnExactSureNever_holds : Rows.FnExactSureNeverSaid := fnExactSureNever.proved
end Go.Proofs.YtmfoobckeoaklaaGreat
