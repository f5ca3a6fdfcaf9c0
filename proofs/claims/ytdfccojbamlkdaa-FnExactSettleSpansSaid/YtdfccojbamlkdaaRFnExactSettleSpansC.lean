/- The law FnExactSettleSpans, in the given statement's form, for every input. -/
import Derived.Test.YtdfccojbamlkdaaRFnExactSettleSpansA
import Derived.Test.YtdfccojbamlkdaaRFnExactSettleSpansB
import Derived.WalkKit
import Derived.ProofKit
import Derived.OpenShut
import Derived.ShutString
import Derived.ChangeOld
import Derived.Below
import Derived.SizedLaws
namespace Go.Proofs.Ytdfccojbamlkdaa.fnExactSettleSpans
open Go.ChangeShapes Go.WideShapes Go.ChangeAt Go.RowKit
set_option linter.unusedVariables false
theorem over : Rows.fnExactSettleSpansRow.holds Try.pinned (OpenSpec.ofChange Rows.fnExactSettleSpansSpec) :=
  OpenClaim.holds_of_wide 13 Try.f13 rfl rfl rfl rfl rfl rfl rfl ⟨rfl, rfl, rfl, rfl, rfl⟩ rfl rfl rfl rfl rfl named Try.func13 facts
    (of_decide_eq_true (by kernel_rfl)) (by unfold Func.isWrapper; first | (rw [if_pos (by decide +kernel)]; kernel_rfl) | (rw [if_neg (by decide +kernel)]; exact ⟨rfl, rfl⟩))
    (fun os started H0 enc _ => lifted os started H0 enc)
theorem proved : Rows.FnExactSettleSpansSaid := over
#print axioms proved
end Go.Proofs.Ytdfccojbamlkdaa.fnExactSettleSpans
namespace Go.Proofs.Ytdfccojbamlkdaa
/-- The row, under a short name, for the claim. -/
theorem fnExactSettleSpans_holds : Rows.FnExactSettleSpansSaid := fnExactSettleSpans.proved
end Go.Proofs.Ytdfccojbamlkdaa
