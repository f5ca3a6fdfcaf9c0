/- The law FnExactClassBeside, in the given statement's form, for every input. -/
import Derived.Test.YtmfoobckeoaklaaGreatRFnExactClassBesideA
import Derived.Test.YtmfoobckeoaklaaGreatRFnExactClassBesideB
import Derived.WalkKit
import Derived.ProofKit
import Derived.OpenShut
import Derived.ShutString
import Derived.ChangeOld
import Derived.Below
import Derived.SizedLaws
namespace Go.Proofs.YtmfoobckeoaklaaGreat.fnExactClassBeside
open Go.ChangeShapes Go.WideShapes Go.ChangeAt Go.RowKit
set_option linter.unusedVariables false
theorem over : Rows.fnExactClassBesideRow.holds Tryz.pinned (OpenSpec.ofChange Rows.fnExactClassBesideSpec) :=
  OpenClaim.holds_of_wide 9 Tryz.f9 rfl rfl rfl rfl rfl rfl rfl ⟨rfl, rfl, rfl, rfl, rfl⟩ rfl rfl rfl rfl rfl named Tryz.func9 facts
    (of_decide_eq_true (by kernel_rfl)) (by unfold Func.isWrapper; first | (rw [if_pos (by decide +kernel)]; kernel_rfl) | (rw [if_neg (by decide +kernel)]; exact ⟨rfl, rfl⟩))
    (fun os started H0 enc _ => lifted os started H0 enc)
theorem proved : Rows.FnExactClassBesideSaid := over
#print axioms proved
end Go.Proofs.YtmfoobckeoaklaaGreat.fnExactClassBeside
namespace Go.Proofs.YtmfoobckeoaklaaGreat
/-- The row, under a short name, for the claim. -/
theorem fnExactClassBeside_holds : Rows.FnExactClassBesideSaid := fnExactClassBeside.proved
end Go.Proofs.YtmfoobckeoaklaaGreat
