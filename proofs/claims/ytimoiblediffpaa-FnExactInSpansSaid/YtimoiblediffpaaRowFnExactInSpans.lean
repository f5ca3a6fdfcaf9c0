/- The law FnExactInSpans, in the given statement's form, for every input. -/
import Derived.Test.YtimoiblediffpaaRows
import Derived.Test.YtimoiblediffpaaOpen
import Derived.Test.YtimoiblediffpaaWfFnExactInSpans
import Derived.Test.YtimoiblediffpaaPureFnExactInSpans
import Derived.WalkKit
import Derived.ProofKit
import Derived.OpenShut
import Derived.ShutString
import Derived.ChangeOld
import Derived.Below
import Derived.SizedLaws
namespace Go.Proofs.Ytimoiblediffpaa.fnExactInSpans
open Go.ChangeShapes Go.WideShapes Go.ChangeAt Go.RowKit Go.Proofs.YtimoiblediffpaaW.PrintWords Go.Proofs.Ytimoiblediffpaa.Open Go.Proofs.Ytimoiblediffpaa.QFnExactInSpans
set_option linter.unusedVariables false
theorem own : ownKnob Try.prog.godebug = none := by kernel_rfl
theorem laidOut : laidOutB Try.prog = true := by kernel_rfl
set_option maxRecDepth 100000 in
theorem lifted (os : Os) (started : os.Started) (H : Type) (enc : TypeId × Value → H) :
    ReturnsInHanded {} Try.checked os 6 .any (Rows.fnExactInSpansSpec.pre6 enc Try.prog Try.f6 Rows.fnExactInSpansRow.domain false) (Rows.fnExactInSpansSpec.post enc Try.prog Try.f6 false true false false) := by
  refine returnsInHanded_of_change_sized (C := Try.checked) own started (by kernel_rfl) Try.func6
    (ChangeSpec.witness6 (enc := enc) (C := Try.checked) false ⟨#[], #[.int .i64 0, .slice none 0 0, .slice none 0 0], []⟩ 8 (by kernel_rfl) (by kernel_rfl) (by kernel_rfl) (by kernel_rfl)) ?_
  intro W base args ds gs before hval0 hW hcnd hsz0 _
  have hval : ∀ (j : Nat) t v, Try.f6.params[j]? = some t → args[j]? = some v → Value.okWide Try.prog W .any base t v := hval0
  have hW' := hW
  obtain ⟨p, q, hA0, hV, rfl, hfz, hnd⟩ := hW
  have hA : DataW.TrodAll enc Try.prog W 0 (fun _ => true) true Try.f6.params.toList args.toList ds p := hA0
  rw [Try.params6] at hA hval
  obtain ⟨v0, vs0, d0, ds0, p0, q0, hargs, rfl, rfl, h0, r0⟩ := trodAll_cons hA
  obtain ⟨v1, vs1, d1, ds1, p1, q1, rfl, rfl, rfl, h1, r1⟩ := trodAll_cons r0
  obtain ⟨v2, vs2, d2, ds2, p2, q2, rfl, rfl, rfl, h2, r2⟩ := trodAll_cons r1
  obtain ⟨rfl, rfl, rfl⟩ := trodAll_nil r2
  obtain rfl : args = #[v0, v1, v2] := by cases args; simp_all
  obtain ⟨rfl, rfl⟩ := trodVars_none hV
  obtain ⟨a0, rfl, rfl, rfl, w0⟩ := open_int Try.underlying3 (hval 0 3 v0 rfl rfl) h0
  have lt1 : ∀ x ∈ p1, x.block < W.heap.size := by obtain ⟨m, hm⟩ := h1; exact DataW.trod_lt m _ _ _ hm
  have k1 := h1
  obtain ⟨l1, A1, c1, rfl, hl1, hr1, w1⟩ := open_slice Try.underlying33 (by kernel_rfl) opens24 (hval 1 33 v1 rfl rfl) h1
  have m1 : l1.length ≤ 9223372036854775807 := hr1.2.1
  have lt2 : ∀ x ∈ p2, x.block < W.heap.size := by obtain ⟨m, hm⟩ := h2; exact DataW.trod_lt m _ _ _ hm
  have k2 := h2
  obtain ⟨l2, A2, c2, rfl, hl2, hr2, w2⟩ := open_slice Try.underlying34 (by kernel_rfl) (Opens.int Try.underlying22) (hval 2 34 v2 rfl rfl) h2
  have m2 : l2.length ≤ 9223372036854775807 := hr2.2.1
  obtain ⟨k, hk⟩ := pure a0 w0 l1 m1 w1 l2 m2 w2
  refine (laws_FnExactInSpans.calls k a0 A1 c1 l1 A2 c2 l2 true W hr1 hl1 hr2 hl2 hk).mono fun e W' hp => ?_
  obtain ⟨rfl, bel0⟩ := hp
  have bel : Below W.heap.size W W' := by first | exact bel0 | exact bel0.below
  exact ⟨_, rfl, _, _, _, [], _, [], hW', trodAll_mk1 (shut_bool Try.underlying4 _), (trodAll_cons_mk (shut_int Try.underlying3 w0) (trodAll_cons_mk (Below.trod laidOut (by kernel_rfl) (of_decide_eq_true (by kernel_rfl)) k1 bel lt1) (trodAll_cons_mk (Below.trod laidOut (by kernel_rfl) (of_decide_eq_true (by kernel_rfl)) k2 bel lt2) trodAll_mk0))), rfl, bel.frame _, fun h => by cases h⟩
theorem over : Rows.fnExactInSpansRow.holds Try.pinned (OpenSpec.ofChange Rows.fnExactInSpansSpec) :=
  OpenClaim.holds_of_wide 6 Try.f6 rfl rfl rfl rfl rfl rfl rfl ⟨rfl, rfl, rfl, rfl, rfl⟩ rfl rfl rfl rfl rfl (by kernel_rfl) Try.func6 (by kernel_rfl)
    (of_decide_eq_true (by kernel_rfl)) (by unfold Func.isWrapper; first | (rw [if_pos (by decide +kernel)]; kernel_rfl) | (rw [if_neg (by decide +kernel)]; exact ⟨rfl, rfl⟩))
    (fun os started H enc _ => lifted os started H enc)
theorem proved : Rows.FnExactInSpansSaid := over
#print axioms proved
end Go.Proofs.Ytimoiblediffpaa.fnExactInSpans
namespace Go.Proofs.Ytimoiblediffpaa
/-- The row, under a short name, for the claim. -/
theorem fnExactInSpans_holds : Rows.FnExactInSpansSaid := fnExactInSpans.proved
end Go.Proofs.Ytimoiblediffpaa
