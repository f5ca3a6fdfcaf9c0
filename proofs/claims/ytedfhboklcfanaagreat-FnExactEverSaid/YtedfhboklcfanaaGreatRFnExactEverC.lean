/- The law FnExactEver, in the given statement's form, for every input. -/
import Derived.Test.YtedfhboklcfanaaGreatRFnExactEverA
import Derived.Test.YtedfhboklcfanaaGreatRFnExactEverB
import Derived.WalkKit
import Derived.ProofKit
import Derived.OpenShut
import Derived.ShutString
import Derived.ChangeOld
import Derived.Below
import Derived.SizedLaws
namespace Go.Proofs.YtedfhboklcfanaaGreat.fnExactEver
open Go.ChangeShapes Go.WideShapes Go.ChangeAt Go.RowKit
set_option linter.unusedVariables false
theorem over : Rows.fnExactEverRow.holds Tryz.pinned (OpenSpec.ofChange Rows.fnExactEverSpec) :=
  OpenClaim.holds_of_wide 5 Tryz.f5 rfl rfl rfl rfl rfl rfl rfl ⟨rfl, rfl, rfl, rfl, rfl⟩ rfl rfl rfl rfl rfl named Tryz.func5 facts
    (of_decide_eq_true (by kernel_rfl)) (by unfold Func.isWrapper; first | (rw [if_pos (by decide +kernel)]; kernel_rfl) | (rw [if_neg (by decide +kernel)]; exact ⟨rfl, rfl⟩))
    (fun os started H0 enc _ => lifted os started H0 enc)
theorem proved : Rows.FnExactEverSaid := over
#print axioms proved
end Go.Proofs.YtedfhboklcfanaaGreat.fnExactEver
namespace Go.Proofs.YtedfhboklcfanaaGreat
/-- The row, Q32 a short name, for the claim. -/
theorem fnExactEver_holds : Rows.FnExactEverSaid := fnExactEver.proved
end Go.Proofs.YtedfhboklcfanaaGreat
