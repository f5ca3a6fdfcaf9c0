/- The law FnExactRoundAndRound, in the given statement's form, for every input. -/
import Derived.Test.YtdfccojbamlkdaaRFnExactRoundAndRoundA
import Derived.Test.YtdfccojbamlkdaaRFnExactRoundAndRoundB
import Derived.WalkKit
import Derived.ProofKit
import Derived.OpenShut
import Derived.ShutString
import Derived.ChangeOld
import Derived.Below
import Derived.SizedLaws
namespace Go.Proofs.Ytdfccojbamlkdaa.fnExactRoundAndRound
open Go.ChangeShapes Go.WideShapes Go.ChangeAt Go.RowKit
set_option linter.unusedVariables false
theorem over : Rows.fnExactRoundAndRoundRow.holds Try.pinned (OpenSpec.ofChange Rows.fnExactRoundAndRoundSpec) :=
  OpenClaim.holds_of_wide 11 Try.f11 rfl rfl rfl rfl rfl rfl rfl ⟨rfl, rfl, rfl, rfl, rfl⟩ rfl rfl rfl rfl rfl named Try.func11 facts
    (of_decide_eq_true (by kernel_rfl)) (by unfold Func.isWrapper; first | (rw [if_pos (by decide +kernel)]; kernel_rfl) | (rw [if_neg (by decide +kernel)]; exact ⟨rfl, rfl⟩))
    (fun os started H0 enc _ => lifted os started H0 enc)
theorem proved : Rows.FnExactRoundAndRoundSaid := over
#print axioms proved
end Go.Proofs.Ytdfccojbamlkdaa.fnExactRoundAndRound
namespace Go.Proofs.Ytdfccojbamlkdaa
/-- The row, under a short name, for the claim. -/
theorem fnExactRoundAndRound_holds : Rows.FnExactRoundAndRoundSaid := fnExactRoundAndRound.proved
end Go.Proofs.Ytdfccojbamlkdaa
