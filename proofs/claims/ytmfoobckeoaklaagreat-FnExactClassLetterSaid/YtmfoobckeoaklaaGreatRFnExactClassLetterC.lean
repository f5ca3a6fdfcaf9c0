/- The law FnExactClassLetter, in the given statement's form, for every input. -/
import Derived.Test.YtmfoobckeoaklaaGreatRFnExactClassLetterA
import Derived.Test.YtmfoobckeoaklaaGreatRFnExactClassLetterB
import Derived.WalkKit
import Derived.ProofKit
import Derived.OpenShut
import Derived.ShutString
import Derived.ChangeOld
import Derived.Below
import Derived.SizedLaws
namespace Go.Proofs.YtmfoobckeoaklaaGreat.fnExactClassLetter
open Go.ChangeShapes Go.WideShapes Go.ChangeAt Go.RowKit
set_option linter.unusedVariables false
theorem over : Rows.fnExactClassLetterRow.holds Tryz.pinned (OpenSpec.ofChange Rows.fnExactClassLetterSpec) :=
  OpenClaim.holds_of_wide 7 Tryz.f7 rfl rfl rfl rfl rfl rfl rfl ⟨rfl, rfl, rfl, rfl, rfl⟩ rfl rfl rfl rfl rfl named Tryz.func7 facts
    (of_decide_eq_true (by kernel_rfl)) (by unfold Func.isWrapper; first | (rw [if_pos (by decide +kernel)]; kernel_rfl) | (rw [if_neg (by decide +kernel)]; exact ⟨rfl, rfl⟩))
    (fun os started H0 enc _ => lifted os started H0 enc)
theorem proved : Rows.FnExactClassLetterSaid := over
#print axioms proved
end Go.Proofs.YtmfoobckeoaklaaGreat.fnExactClassLetter
namespace Go.Proofs.YtmfoobckeoaklaaGreat
/-- The row, under a short name, for the claim. -/
theorem fnExactClassLetter_holds : Rows.FnExactClassLetterSaid := fnExactClassLetter.proved
end Go.Proofs.YtmfoobckeoaklaaGreat
