/- The law FnExactCutAt, in the given statement's form, for every input. -/
import Derived.Test.YtpokpgejcendmaaGreatRFnExactCutAtA
import Derived.Test.YtpokpgejcendmaaGreatRFnExactCutAtB
import Derived.WalkKit
import Derived.ProofKit
import Derived.OpenShut
import Derived.ShutString
import Derived.ChangeOld
import Derived.Below
import Derived.SizedLaws
namespace Go.Proofs.YtpokpgejcendmaaGreat.fnExactCutAt
open Go.ChangeShapes Go.WideShapes Go.ChangeAt Go.RowKit
set_option linter.unusedVariables false
theorem over : Rows.fnExactCutAtRow.holds Tryz.pinned (OpenSpec.ofChange Rows.fnExactCutAtSpec) :=
  OpenClaim.holds_of_wide 4 Tryz.f4 rfl rfl rfl rfl rfl rfl rfl ⟨rfl, rfl, rfl, rfl, rfl⟩ rfl rfl rfl rfl rfl named Tryz.func4 facts
    (of_decide_eq_true (by kernel_rfl)) (by unfold Func.isWrapper; first | (rw [if_pos (by decide +kernel)]; kernel_rfl) | (rw [if_neg (by decide +kernel)]; exact ⟨rfl, rfl⟩))
    (fun os started H0 enc _ => lifted os started H0 enc)
theorem proved : Rows.FnExactCutAtSaid := over
#print axioms proved
end Go.Proofs.YtpokpgejcendmaaGreat.fnExactCutAt
namespace Go.Proofs.YtpokpgejcendmaaGreat
/-- The row, under a short name, for the claim. -/
theorem fnExactCutAt_holds : Rows.FnExactCutAtSaid := fnExactCutAt.proved
end Go.Proofs.YtpokpgejcendmaaGreat
