/- What the row asks of the program, reckoned out. -/
import Derived.Test.YtedfhboklcfanaaGreatRows
import Derived.WalkKit
import Derived.ProofKit
import Derived.OpenShut
import Derived.ShutString
import Derived.ChangeOld
import Derived.Below
import Derived.SizedLaws
namespace Go.Proofs.YtedfhboklcfanaaGreat.fnExactTryEver
open Go.ChangeShapes Go.WideShapes Go.ChangeAt Go.RowKit
set_option linter.unusedVariables false
theorem named : Tryz.checked.prog.funcNamed Rows.fnExactTryEverRow.func = some 4 := by kernel_rfl
set_option maxHeartbeats 8000000 in
theorem facts : joinedFacts Tryz.checked.prog 4 Tryz.f4 Rows.fnExactTryEverSpec Rows.fnExactTryEverRow = true := by
  unfold joinedFacts
  simp only [Bool.and_eq_true]
  repeat' apply And.intro
  all_goals (as_aux_lemma => kernel_rfl)
end Go.Proofs.YtedfhboklcfanaaGreat.fnExactTryEver
