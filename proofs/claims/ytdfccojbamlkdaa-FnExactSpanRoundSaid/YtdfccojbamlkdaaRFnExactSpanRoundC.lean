/- The law FnExactSpanRound, in the given statement's form, for every input. -/
import Derived.Test.YtdfccojbamlkdaaRFnExactSpanRoundA
import Derived.Test.YtdfccojbamlkdaaRFnExactSpanRoundB
import Derived.WalkKit
import Derived.ProofKit
import Derived.OpenShut
import Derived.ShutString
import Derived.ChangeOld
import Derived.Below
import Derived.SizedLaws
namespace Go.Proofs.Ytdfccojbamlkdaa.fnExactSpanRound
open Go.ChangeShapes Go.WideShapes Go.ChangeAt Go.RowKit
set_option linter.unusedVariables false
theorem over : Rows.fnExactSpanRoundRow.holds Try.pinned (OpenSpec.ofChange Rows.fnExactSpanRoundSpec) :=
  OpenClaim.holds_of_wide 12 Try.f12 rfl rfl rfl rfl rfl rfl rfl ⟨rfl, rfl, rfl, rfl, rfl⟩ rfl rfl rfl rfl rfl named Try.func12 facts
    (of_decide_eq_true (by kernel_rfl)) (by unfold Func.isWrapper; first | (rw [if_pos (by decide +kernel)]; kernel_rfl) | (rw [if_neg (by decide +kernel)]; exact ⟨rfl, rfl⟩))
    (fun os started H0 enc _ => lifted os started H0 enc)
theorem proved : Rows.FnExactSpanRoundSaid := over
#print axioms proved
end Go.Proofs.Ytdfccojbamlkdaa.fnExactSpanRound
namespace Go.Proofs.Ytdfccojbamlkdaa
/-- The row, under a short name, for the claim. -/
theorem fnExactSpanRound_holds : Rows.FnExactSpanRoundSaid := fnExactSpanRound.proved
end Go.Proofs.Ytdfccojbamlkdaa
