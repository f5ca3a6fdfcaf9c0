/- The law FnExactKeepsOut, in the given statement's form, for every input. -/
import Derived.Test.YtdfccojbamlkdaaRFnExactKeepsOutA
import Derived.Test.YtdfccojbamlkdaaRFnExactKeepsOutB
import Derived.WalkKit
import Derived.ProofKit
import Derived.OpenShut
import Derived.ShutString
import Derived.ChangeOld
import Derived.Below
import Derived.SizedLaws
namespace Go.Proofs.Ytdfccojbamlkdaa.fnExactKeepsOut
open Go.ChangeShapes Go.WideShapes Go.ChangeAt Go.RowKit
set_option linter.unusedVariables false
theorem over : Rows.fnExactKeepsOutRow.holds Try.pinned (OpenSpec.ofChange Rows.fnExactKeepsOutSpec) :=
  OpenClaim.holds_of_wide 5 Try.f5 rfl rfl rfl rfl rfl rfl rfl ⟨rfl, rfl, rfl, rfl, rfl⟩ rfl rfl rfl rfl rfl named Try.func5 facts
    (of_decide_eq_true (by kernel_rfl)) (by unfold Func.isWrapper; first | (rw [if_pos (by decide +kernel)]; kernel_rfl) | (rw [if_neg (by decide +kernel)]; exact ⟨rfl, rfl⟩))
    (fun os started H0 enc _ => lifted os started H0 enc)
theorem proved : Rows.FnExactKeepsOutSaid := over
#print axioms proved
end Go.Proofs.Ytdfccojbamlkdaa.fnExactKeepsOut
namespace Go.Proofs.Ytdfccojbamlkdaa
/-- The row, under a short name, for the claim. -/
theorem fnExactKeepsOut_holds : Rows.FnExactKeepsOutSaid := fnExactKeepsOut.proved
end Go.Proofs.Ytdfccojbamlkdaa
