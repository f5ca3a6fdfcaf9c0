/- What the proof of the law FnExactSpanOf leans on, part 10: words, printed walks of the Go functions, plain lemmas. -/
import Derived.Test.YtimoiblediffpaaRows
import Derived.Test.YtimoiblediffpaaZFnExactSpanOfI
section
set_option linter.unusedVariables false
namespace Go.Proofs.Ytimoiblediffpaa.QFnExactSpanOf
open Go.RowKit Go.Proofs.YtimoiblediffpaaW.PrintWords Go.Proofs.Ytimoiblediffpaa.Open
def Wf163 (y : S163) : Prop := (Lit.int .i64 y.f0).wf = true ∧ (Lit.int .u64 y.f1).wf = true
theorem opens163 {H : Type} {enc : TypeId × Value → H} {W : World} : Opens enc Try.prog W 163 k163 Wf163 :=
  Opens.imp (Opens.iso (fun x : S163 => (x.f0, x.f1)) (fun y => ⟨y.1, y.2⟩) (fun _ => rfl) (Opens.struct Try.underlying163 (by kernel_rfl) (OpensF.cons (by rfl) (by kernel_rfl) (Opens.int Try.underlying3) (OpensF.one (by rfl) (by kernel_rfl) (Opens.int Try.underlying22))))) (fun _ h => h)
def Wf24 (y : S24) : Prop := (Lit.int .u64 y.f0).wf = true ∧ (Lit.int .u64 y.f1).wf = true
theorem opens24 {H : Type} {enc : TypeId × Value → H} {W : World} : Opens enc Try.prog W 24 k24 Wf24 :=
  Opens.imp (Opens.iso (fun x : S24 => (x.f0, x.f1)) (fun y => ⟨y.1, y.2⟩) (fun _ => rfl) (Opens.struct Try.underlying24 (by kernel_rfl) (OpensF.cons (by rfl) (by kernel_rfl) (Opens.int Try.underlying22) (OpensF.one (by rfl) (by kernel_rfl) (Opens.int Try.underlying22))))) (fun _ h => h)
def laws_FnExactSpanOf.Pure : Prop := ∀ (a0 : Int) (w0 : (Lit.int .i64 a0).wf = true) (l1 : List S163) (m1 : l1.length ≤ 9223372036854775807) (w1 : (∀ x ∈ l1, Wf163 x)) (l2 : List S24) (m2 : l2.length ≤ 9223372036854775807) (w2 : (∀ x ∈ l2, Wf24 x)), ∃ k, laws_FnExactSpanOf.f k a0 l1 l2 = some true
end Go.Proofs.Ytimoiblediffpaa.QFnExactSpanOf
end
