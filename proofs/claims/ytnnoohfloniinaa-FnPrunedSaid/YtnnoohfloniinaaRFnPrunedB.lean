/- What the row asks of the program, reckoned out. -/
import Derived.Test.YtnnoohfloniinaaRows
import Derived.WalkKit
import Derived.ProofKit
import Derived.OpenShut
import Derived.ShutString
import Derived.ChangeOld
import Derived.Below
import Derived.SizedLaws
namespace Go.Proofs.Ytnnoohfloniinaa.fnPruned
open Go.ChangeShapes Go.WideShapes Go.ChangeAt Go.RowKit
set_option linter.unusedVariables false
theorem named : Try.checked.prog.funcNamed Rows.fnPrunedRow.func = some 5 := by kernel_rfl
set_option maxHeartbeats 8000000 in
theorem facts : joinedFacts Try.checked.prog 5 Try.f5 Rows.fnPrunedSpec Rows.fnPrunedRow = true := by
  unfold joinedFacts
  simp only [Bool.and_eq_true]
  repeat' apply And.intro
  all_goals (as_aux_lemma => kernel_rfl)
end Go.Proofs.Ytnnoohfloniinaa.fnPruned
