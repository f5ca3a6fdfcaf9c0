/- What is known of what comes in by the law FnExactInSpans; and the law's pure statement. -/
import Derived.Test.YtimoiblediffpaaQFnExactInSpansx
import Derived.Test.YtimoiblediffpaaOpen
import Derived.Test.YtimoiblediffpaaRows
set_option linter.unusedVariables false
namespace Go.Proofs.Ytimoiblediffpaa.QFnExactInSpans
open Go.RowKit Go.Proofs.YtimoiblediffpaaW.PrintWords Go.Proofs.Ytimoiblediffpaa.Open
def Wf24 (y : S24) : Prop := (Lit.int .u64 y.f0).wf = true ∧ (Lit.int .u64 y.f1).wf = true
theorem opens24 {H : Type} {enc : TypeId × Value → H} {W : World} : Opens enc Try.prog W 24 k24 Wf24 :=
  Opens.imp (Opens.iso (fun x : S24 => (x.f0, x.f1)) (fun y => ⟨y.1, y.2⟩) (fun _ => rfl) (Opens.struct Try.underlying24 (by kernel_rfl) (OpensF.cons (by rfl) (by kernel_rfl) (Opens.int Try.underlying22) (OpensF.one (by rfl) (by kernel_rfl) (Opens.int Try.underlying22))))) (fun _ h => h)
/-- THE PURE STATEMENT. -/
def laws_FnExactInSpans.Pure : Prop := ∀ (a0 : Int) (w0 : (Lit.int .i64 a0).wf = true) (l1 : List S24) (m1 : l1.length ≤ 9223372036854775807) (w1 : (∀ x ∈ l1, Wf24 x)) (l2 : List Int) (m2 : l2.length ≤ 9223372036854775807) (w2 : (∀ x ∈ l2, (Lit.int .u64 x).wf = true)), ∃ k, laws_FnExactInSpans.f k a0 l1 l2 = some true
end Go.Proofs.Ytimoiblediffpaa.QFnExactInSpans
