/- What the row asks of the program, reckoned out. -/
import Derived.Test.YtnnoohfloniinaaGreatRows
import Derived.WalkKit
import Derived.ProofKit
import Derived.OpenShut
import Derived.ShutString
import Derived.ChangeOld
import Derived.Below
import Derived.SizedLaws
namespace Go.Proofs.YtnnoohfloniinaaGreat.fnOnlyRun
open Go.ChangeShapes Go.WideShapes Go.ChangeAt Go.RowKit
set_option linter.unusedVariables false
theorem named : Tryz.checked.prog.funcNamed Rows.fnOnlyRunRow.func = some 3 := by kernel_rfl
set_option maxHeartbeats 8000000 in
theorem facts : joinedFacts Tryz.checked.prog 3 Tryz.f3 Rows.fnOnlyRunSpec Rows.fnOnlyRunRow = true := by
  unfold joinedFacts
  simp only [Bool.and_eq_true]
  repeat' apply And.intro
  all_goals (as_aux_lemma => kernel_rfl)
end Go.Proofs.YtnnoohfloniinaaGreat.fnOnlyRun
