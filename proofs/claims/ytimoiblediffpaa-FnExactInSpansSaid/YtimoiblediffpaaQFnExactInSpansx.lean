-- PRINTED by print.py (a twelfth state) out of the translation. Not trusted: Lean checks it.
import Derived.Test.YtimoiblediffpaaQFnExactInSpansx0
import Derived.Test.YtimoiblediffpaaQFnExactInSpansx1
import Derived.Test.YtimoiblediffpaaQFnExactInSpansx2
import Derived.Test.YtimoiblediffpaaQFnExactInSpansx3
import Derived.Test.YtimoiblediffpaaQFnExactInSpansx4
namespace Go.Proofs.Ytimoiblediffpaa.QFnExactInSpans
open Go.RowKit Go.Proofs.YtimoiblediffpaaW.PrintWords Go.Proofs.YtimoiblediffpaaW.PrintLast Go.Proofs.YtimoiblediffpaaW.PrintMore
attribute [local go_sem] max2_int min2_int max_two min_two max_three min_three max_four min_four   -- for this text's walks alone
set_option linter.unusedVariables false
set_option linter.unusedSimpArgs false

end Go.Proofs.Ytimoiblediffpaa.QFnExactInSpans
