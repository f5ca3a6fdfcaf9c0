/- The law FnOnlyRun, in the given statement's form, for every input. -/
import Derived.Test.YtnnoohfloniinaaGreatRFnOnlyRunA
import Derived.Test.YtnnoohfloniinaaGreatRFnOnlyRunB
import Derived.WalkKit
import Derived.ProofKit
import Derived.OpenShut
import Derived.ShutString
import Derived.ChangeOld
import Derived.Below
import Derived.SizedLaws
namespace Go.Proofs.YtnnoohfloniinaaGreat.fnOnlyRun
open Go.ChangeShapes Go.WideShapes Go.ChangeAt Go.RowKit
set_option linter.unusedVariables false
theorem over : Rows.fnOnlyRunRow.holds Tryz.pinned (OpenSpec.ofChange Rows.fnOnlyRunSpec) :=
  OpenClaim.holds_of_wide 3 Tryz.f3 rfl rfl rfl rfl rfl rfl rfl ⟨rfl, rfl, rfl, rfl, rfl⟩ rfl rfl rfl rfl rfl named Tryz.func3 facts
    (of_decide_eq_true (by kernel_rfl)) (by unfold Func.isWrapper; first | (rw [if_pos (by decide +kernel)]; kernel_rfl) | (rw [if_neg (by decide +kernel)]; exact ⟨rfl, rfl⟩))
    (fun os started H0 enc _ => lifted os started H0 enc)
theorem proved : Rows.FnOnlyRunSaid := over
#print axioms proved
end Go.Proofs.YtnnoohfloniinaaGreat.fnOnlyRun
namespace Go.Proofs.YtnnoohfloniinaaGreat
/-- The row, under a short name, for the claim. -/
theorem fnOnlyRun_holds : Rows.FnOnlyRunSaid := fnOnlyRun.proved
end Go.Proofs.YtnnoohfloniinaaGreat
