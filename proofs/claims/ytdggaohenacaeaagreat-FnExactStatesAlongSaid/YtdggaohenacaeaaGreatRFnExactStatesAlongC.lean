/- The law FnExactStatesAlong, in the given statement's form, for every input. -/
import Derived.Test.YtdggaohenacaeaaGreatRFnExactStatesAlongA
import Derived.Test.YtdggaohenacaeaaGreatRFnExactStatesAlongB
import Derived.WalkKit
import Derived.ProofKit
import Derived.OpenShut
import Derived.ShutString
import Derived.ChangeOld
import Derived.Below
import Derived.SizedLaws
namespace Go.Proofs.YtdggaohenacaeaaGreat.fnExactStatesAlong
open Go.ChangeShapes Go.WideShapes Go.ChangeAt Go.RowKit
set_option linter.unusedVariables false
theorem over : Rows.fnExactStatesAlongRow.holds Tryz.pinned (OpenSpec.ofChange Rows.fnExactStatesAlongSpec) :=
  OpenClaim.holds_of_wide 12 Tryz.f12 rfl rfl rfl rfl rfl rfl rfl ⟨rfl, rfl, rfl, rfl, rfl⟩ rfl rfl rfl rfl rfl named Tryz.func12 facts
    (of_decide_eq_true (by kernel_rfl)) (by unfold Func.isWrapper; first | (rw [if_pos (by decide +kernel)]; kernel_rfl) | (rw [if_neg (by decide +kernel)]; exact ⟨rfl, rfl⟩))
    (fun os started H0 enc _ => lifted os started H0 enc)
theorem proved : Rows.FnExactStatesAlongSaid := over
#print axioms proved
end Go.Proofs.YtdggaohenacaeaaGreat.fnExactStatesAlong
namespace Go.Proofs.YtdggaohenacaeaaGreat
/-- The row, under a short name, for the claim. -/
theorem fnExactStatesAlong_holds : Rows.FnExactStatesAlongSaid := fnExactStatesAlong.proved
end Go.Proofs.YtdggaohenacaeaaGreat
