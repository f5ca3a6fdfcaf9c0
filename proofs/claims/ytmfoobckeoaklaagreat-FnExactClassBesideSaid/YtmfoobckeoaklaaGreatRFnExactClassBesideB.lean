/- What the row asks of the program, reckoned out. -/
import Derived.Test.YtmfoobckeoaklaaGreatRows
import Derived.WalkKit
import Derived.ProofKit
import Derived.OpenShut
import Derived.ShutString
import Derived.ChangeOld
import Derived.Below
import Derived.SizedLaws
namespace Go.Proofs.YtmfoobckeoaklaaGreat.fnExactClassBeside
open Go.ChangeShapes Go.WideShapes Go.ChangeAt Go.RowKit
set_option linter.unusedVariables false
theorem named : Tryz.checked.prog.funcNamed Rows.fnExactClassBesideRow.func = some 9 := by kernel_rfl
set_option maxHeartbeats 8000000 in
theorem facts : joinedFacts Tryz.checked.prog 9 Tryz.f9 Rows.fnExactClassBesideSpec Rows.fnExactClassBesideRow = true := by
  unfold joinedFacts
  simp only [Bool.and_eq_true]
  repeat' apply And.intro
  all_goals (as_aux_lemma => kernel_rfl)
end Go.Proofs.YtmfoobckeoaklaaGreat.fnExactClassBeside
