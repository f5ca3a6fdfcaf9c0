/- The law FnExactIsFit, in the given statement's form, for every input. -/
import Derived.Test.YtmfoobckeoaklaaGreatRFnExactIsFitA
import Derived.Test.YtmfoobckeoaklaaGreatRFnExactIsFitB
import Derived.WalkKit
import Derived.ProofKit
import Derived.OpenShut
import Derived.ShutString
import Derived.ChangeOld
import Derived.Below
import Derived.SizedLaws
namespace Go.Proofs.YtmfoobckeoaklaaGreat.fnExactIsFit
open Go.ChangeShapes Go.WideShapes Go.ChangeAt Go.RowKit
set_option linter.unusedVariables false
theorem over : Rows.fnExactIsFitRow.holds Tryz.pinned (OpenSpec.ofChange Rows.fnExactIsFitSpec) :=
  OpenClaim.holds_of_wide 6 Tryz.f6 rfl rfl rfl rfl rfl rfl rfl ⟨rfl, rfl, rfl, rfl, rfl⟩ rfl rfl rfl rfl rfl named Tryz.func6 facts
    (of_decide_eq_true (by kernel_rfl)) (by unfold Func.isWrapper; first | (rw [if_pos (by decide +kernel)]; kernel_rfl) | (rw [if_neg (by decide +kernel)]; exact ⟨rfl, rfl⟩))
    (fun os started H0 enc _ => lifted os started H0 enc)
theorem proved : Rows.FnExactIsFitSaid := over
#print axioms proved
end Go.Proofs.YtmfoobckeoaklaaGreat.fnExactIsFit
namespace Go.Proofs.YtmfoobckeoaklaaGreat
/-- The row, under a short name, for the claim. -/
theorem fnExactIsFit_holds : Rows.FnExactIsFitSaid := fnExactIsFit.proved
end Go.Proofs.YtmfoobckeoaklaaGreat
