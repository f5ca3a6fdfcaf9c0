/- The law FnExactCheckRun, in the given statement's form, for every input. -/
import Derived.Test.YtedfhboklcfanaaGreatRFnExactCheckRunA
import Derived.Test.YtedfhboklcfanaaGreatRFnExactCheckRunB
import Derived.WalkKit
import Derived.ProofKit
import Derived.OpenShut
import Derived.ShutString
import Derived.ChangeOld
import Derived.Below
import Derived.SizedLaws
namespace Go.Proofs.YtedfhboklcfanaaGreat.fnExactCheckRun
open Go.ChangeShapes Go.WideShapes Go.ChangeAt Go.RowKit
set_option linter.unusedVariables false
theorem over : Rows.fnExactCheckRunRow.holds Tryz.pinned (OpenSpec.ofChange Rows.fnExactCheckRunSpec) :=
  OpenClaim.holds_of_wide 3 Tryz.f3 rfl rfl rfl rfl rfl rfl rfl ⟨rfl, rfl, rfl, rfl, rfl⟩ rfl rfl rfl rfl rfl named Tryz.func3 facts
    (of_decide_eq_true (by kernel_rfl)) (by unfold Func.isWrapper; first | (rw [if_pos (by decide +kernel)]; kernel_rfl) | (rw [if_neg (by decide +kernel)]; exact ⟨rfl, rfl⟩))
    (fun os started H0 enc _ => lifted os started H0 enc)
theorem proved : Rows.FnExactCheckRunSaid := over
#print axioms proved
end Go.Proofs.YtedfhboklcfanaaGreat.fnExactCheckRun
namespace Go.Proofs.YtedfhboklcfanaaGreat
/-- The row, under a short name, for the claim. -/
theorem fnExactCheckRun_holds : Rows.FnExactCheckRunSaid := fnExactCheckRun.proved
end Go.Proofs.YtedfhboklcfanaaGreat
