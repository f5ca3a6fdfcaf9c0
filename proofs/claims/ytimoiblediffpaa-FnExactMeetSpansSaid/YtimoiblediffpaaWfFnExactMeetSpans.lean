/- What is known of what comes in by the law FnExactMeetSpans; and the law's pure statement. -/
import Derived.Test.YtimoiblediffpaaLFnExactMeetSpans
import Derived.Test.YtimoiblediffpaaOpen
import Derived.Test.YtimoiblediffpaaRows
set_option linter.unusedVariables false
namespace Go.Proofs.Ytimoiblediffpaa.PFnExactMeetSpans
open Go.RowKit Go.Proofs.YtimoiblediffpaaW.PrintWords Go.Proofs.Ytimoiblediffpaa.Open
structure S24 where
  f0 : Int
  f1 : Int
def k24 : Kd S24 := Kd.iso (Kd.pair (Kd.int .u64) (Kd.int .u64)) (fun x : S24 => (x.f0, x.f1))
theorem k24_open {w : World} {x : S24} {cs : List Value} (h : k24.K w x cs) : cs = [.int .u64 x.f0, .int .u64 x.f1] := by
  obtain ⟨_, _, rfl, rfl, rfl⟩ := h
  exact rfl
def Wf24 (y : S24) : Prop := (Lit.int .u64 y.f0).wf = true ∧ (Lit.int .u64 y.f1).wf = true
theorem opens24 {H : Type} {enc : TypeId × Value → H} {W : World} : Opens enc Try.prog W 24 k24 Wf24 :=
  Opens.imp (Opens.iso (fun x : S24 => (x.f0, x.f1)) (fun y => ⟨y.1, y.2⟩) (fun _ => rfl) (Opens.struct Try.underlying24 (by kernel_rfl) (OpensF.cons (by rfl) (by kernel_rfl) (Opens.int Try.underlying22) (OpensF.one (by rfl) (by kernel_rfl) (Opens.int Try.underlying22))))) (fun _ h => h)
/-- THE PURE STATEMENT. -/
def laws_FnExactMeetSpans.Pure : Prop := ∀ (a0 : Int) (w0 : (Lit.int .i64 a0).wf = true) (y1 : S24) (w1 : Wf24 y1) (y2 : S24) (w2 : Wf24 y2), ∃ k, laws_FnExactMeetSpans.f k a0 y1.f0 y1.f1 y2.f0 y2.f1 = some true
end Go.Proofs.Ytimoiblediffpaa.PFnExactMeetSpans
