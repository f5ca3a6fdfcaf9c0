/- The law FnExactClassGraph, in the given statement's form, for every input. -/
import Derived.Test.YtdggaohenacaeaaGreatRFnExactClassGraphA
import Derived.Test.YtdggaohenacaeaaGreatRFnExactClassGraphB
import Derived.WalkKit
import Derived.ProofKit
import Derived.OpenShut
import Derived.ShutString
import Derived.ChangeOld
import Derived.Below
import Derived.SizedLaws
namespace Go.Proofs.YtdggaohenacaeaaGreat.fnExactClassGraph
open Go.ChangeShapes Go.WideShapes Go.ChangeAt Go.RowKit
set_option linter.unusedVariables false
theorem over : Rows.fnExactClassGraphRow.holds Tryz.pinned (OpenSpec.ofChange Rows.fnExactClassGraphSpec) :=
  OpenClaim.holds_of_wide 10 Tryz.f10 rfl rfl rfl rfl rfl rfl rfl ⟨rfl, rfl, rfl, rfl, rfl⟩ rfl rfl rfl rfl rfl named Tryz.func10 facts
    (of_decide_eq_true (by kernel_rfl)) (by unfold Func.isWrapper; first | (rw [if_pos (by decide +kernel)]; kernel_rfl) | (rw [if_neg (by decide +kernel)]; exact ⟨rfl, rfl⟩))
    (fun os started H0 enc _ => lifted os started H0 enc)
theorem proved : Rows.FnExactClassGraphSaid := over
#print axioms proved
end Go.Proofs.YtdggaohenacaeaaGreat.fnExactClassGraph
namespace Go.Proofs.YtdggaohenacaeaaGreat
/-- The row, under a short name, for the claim. -/
theorem fnExactClassGraph_holds : Rows.FnExactClassGraphSaid := fnExactClassGraph.proved
end Go.Proofs.YtdggaohenacaeaaGreat
