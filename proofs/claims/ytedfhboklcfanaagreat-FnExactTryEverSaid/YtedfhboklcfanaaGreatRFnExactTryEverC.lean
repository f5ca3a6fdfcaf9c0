/- The law FnExactTryEver, in the given statement's form, for every input. -/
import Derived.Test.YtedfhboklcfanaaGreatRFnExactTryEverA
import Derived.Test.YtedfhboklcfanaaGreatRFnExactTryEverB
import Derived.WalkKit
import Derived.ProofKit
import Derived.OpenShut
import Derived.ShutString
import Derived.ChangeOld
import Derived.Below
import Derived.SizedLaws
namespace Go.Proofs.YtedfhboklcfanaaGreat.fnExactTryEver
open Go.ChangeShapes Go.WideShapes Go.ChangeAt Go.RowKit
set_option linter.unusedVariables false
theorem over : Rows.fnExactTryEverRow.holds Tryz.pinned (OpenSpec.ofChange Rows.fnExactTryEverSpec) :=
  OpenClaim.holds_of_wide 4 Tryz.f4 rfl rfl rfl rfl rfl rfl rfl ⟨rfl, rfl, rfl, rfl, rfl⟩ rfl rfl rfl rfl rfl named Tryz.func4 facts
    (of_decide_eq_true (by kernel_rfl)) (by unfold Func.isWrapper; first | (rw [if_pos (by decide +kernel)]; kernel_rfl) | (rw [if_neg (by decide +kernel)]; exact ⟨rfl, rfl⟩))
    (fun os started H0 enc _ => lifted os started H0 enc)
theorem proved : Rows.FnExactTryEverSaid := over
#print axioms proved
end Go.Proofs.YtedfhboklcfanaaGreat.fnExactTryEver
namespace Go.Proofs.YtedfhboklcfanaaGreat
/-- The row, Q2g a short name, for the claim. -/
theorem fnExactTryEver_holds : Rows.FnExactTryEverSaid := fnExactTryEver.proved
end Go.Proofs.YtedfhboklcfanaaGreat
