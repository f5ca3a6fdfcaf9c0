/- What the row asks of the program, reckoned out. -/
import Derived.Test.YtedfhboklcfanaaGreatRows
import Derived.WalkKit
import Derived.ProofKit
import Derived.OpenShut
import Derived.ShutString
import Derived.ChangeOld
import Derived.Below
import Derived.SizedLaws
namespace Go.Proofs.YtedfhboklcfanaaGreat.fnExactEver
open Go.ChangeShapes Go.WideShapes Go.ChangeAt Go.RowKit
set_option linter.unusedVariables false
theorem named : Tryz.checked.prog.funcNamed Rows.fnExactEverRow.func = some 5 := by kernel_rfl
set_option maxHeartbeats 8000000 in
theorem facts : joinedFacts Tryz.checked.prog 5 Tryz.f5 Rows.fnExactEverSpec Rows.fnExactEverRow = true := by
  unfold joinedFacts
  simp only [Bool.and_eq_true]
  repeat' apply And.intro
  all_goals (as_aux_lemma => kernel_rfl)
end Go.Proofs.YtedfhboklcfanaaGreat.fnExactEver
