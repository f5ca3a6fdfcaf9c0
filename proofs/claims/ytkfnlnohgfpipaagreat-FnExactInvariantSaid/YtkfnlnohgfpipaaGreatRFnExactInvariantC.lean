/- The law FnExactInvariant, in the given statement's form, for every input. -/
import Derived.Test.YtkfnlnohgfpipaaGreatRFnExactInvariantA
import Derived.Test.YtkfnlnohgfpipaaGreatRFnExactInvariantB
import Derived.WalkKit
import Derived.ProofKit
import Derived.OpenShut
import Derived.ShutString
import Derived.ChangeOld
import Derived.Below
import Derived.SizedLaws
namespace Go.Proofs.YtkfnlnohgfpipaaGreat.fnExactInvariant
open Go.ChangeShapes Go.WideShapes Go.ChangeAt Go.RowKit
set_option linter.unusedVariables false
theorem over : Rows.fnExactInvariantRow.holds Tryz.pinned (OpenSpec.ofChange Rows.fnExactInvariantSpec) :=
  OpenClaim.holds_of_wide 7 Tryz.f7 rfl rfl rfl rfl rfl rfl rfl ⟨rfl, rfl, rfl, rfl, rfl⟩ rfl rfl rfl rfl rfl named Tryz.func7 facts
    (of_decide_eq_true (by kernel_rfl)) (by unfold Func.isWrapper; first | (rw [if_pos (by decide +kernel)]; kernel_rfl) | (rw [if_neg (by decide +kernel)]; exact ⟨rfl, rfl⟩))
    (fun os started H0 enc _ => lifted os started H0 enc)
theorem proved : Rows.FnExactInvariantSaid := over
#print axioms proved
end Go.Proofs.YtkfnlnohgfpipaaGreat.fnExactInvariant
namespace Go.Proofs.YtkfnlnohgfpipaaGreat
/-- The row, Q22 a short name, for the claim. -/
theorem fnExactInvariant_holds : Rows.FnExactInvariantSaid := fnExactInvariant.proved
end Go.Proofs.YtkfnlnohgfpipaaGreat
