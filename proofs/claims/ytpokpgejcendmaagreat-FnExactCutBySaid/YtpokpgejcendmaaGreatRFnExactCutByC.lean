/- The law FnExactCutBy, in the given statement's form, for every input. -/
import Derived.Test.YtpokpgejcendmaaGreatRFnExactCutByA
import Derived.Test.YtpokpgejcendmaaGreatRFnExactCutByB
import Derived.WalkKit
import Derived.ProofKit
import Derived.OpenShut
import Derived.ShutString
import Derived.ChangeOld
import Derived.Below
import Derived.SizedLaws
namespace Go.Proofs.YtpokpgejcendmaaGreat.fnExactCutBy
open Go.ChangeShapes Go.WideShapes Go.ChangeAt Go.RowKit
set_option linter.unusedVariables false
theorem over : Rows.fnExactCutByRow.holds Tryz.pinned (OpenSpec.ofChange Rows.fnExactCutBySpec) :=
  OpenClaim.holds_of_wide 7 Tryz.f7 rfl rfl rfl rfl rfl rfl rfl ⟨rfl, rfl, rfl, rfl, rfl⟩ rfl rfl rfl rfl rfl named Tryz.func7 facts
    (of_decide_eq_true (by kernel_rfl)) (by unfold Func.isWrapper; first | (rw [if_pos (by decide +kernel)]; kernel_rfl) | (rw [if_neg (by decide +kernel)]; exact ⟨rfl, rfl⟩))
    (fun os started H0 enc _ => lifted os started H0 enc)
theorem proved : Rows.FnExactCutBySaid := over
#print axioms proved
end Go.Proofs.YtpokpgejcendmaaGreat.fnExactCutBy
namespace Go.Proofs.YtpokpgejcendmaaGreat
/-- The row, under a short name, for the claim. -/
theorem fnExactCutBy_holds : Rows.FnExactCutBySaid := fnExactCutBy.proved
end Go.Proofs.YtpokpgejcendmaaGreat
