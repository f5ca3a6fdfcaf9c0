/- The law FnShort, in the given statement's form, for every input. -/
import Derived.Test.YtnnoohfloniinaaRFnShortA
import Derived.Test.YtnnoohfloniinaaRFnShortB
import Derived.WalkKit
import Derived.ProofKit
import Derived.OpenShut
import Derived.ShutString
import Derived.ChangeOld
import Derived.Below
import Derived.SizedLaws
namespace Go.Proofs.Ytnnoohfloniinaa.fnShort
open Go.ChangeShapes Go.WideShapes Go.ChangeAt Go.RowKit
set_option linter.unusedVariables false
theorem over : Rows.fnShortRow.holds Try.pinned (OpenSpec.ofChange Rows.fnShortSpec) :=
  OpenClaim.holds_of_wide 3 Try.f3 rfl rfl rfl rfl rfl rfl rfl ⟨rfl, rfl, rfl, rfl, rfl⟩ rfl rfl rfl rfl rfl named Try.func3 facts
    (of_decide_eq_true (by kernel_rfl)) (by unfold Func.isWrapper; first | (rw [if_pos (by decide +kernel)]; kernel_rfl) | (rw [if_neg (by decide +kernel)]; exact ⟨rfl, rfl⟩))
    (fun os started H0 enc _ => lifted os started H0 enc)
theorem proved : Rows.FnShortSaid := over
#print axioms proved
end Go.Proofs.Ytnnoohfloniinaa.fnShort
namespace Go.Proofs.Ytnnoohfloniinaa
/-- The row, Qb a short name, for the claim. -/
theorem fnShort_holds : Rows.FnShortSaid := fnShort.proved
end Go.Proofs.Ytnnoohfloniinaa
