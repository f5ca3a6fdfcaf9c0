/- The law FnExactTryEver, in the given statement's form, for every input. -/
import Derived.Test.YtedfhboklcfanaaGreatRows
import Derived.Test.YtedfhboklcfanaaGreatEFnExactTryEver
import Derived.Test.YtedfhboklcfanaaGreatUFnExactTryEverC
import Derived.WalkKit
import Derived.ProofKit
import Derived.OpenShut
import Derived.ShutString
import Derived.ChangeOld
import Derived.Below
import Derived.SizedLaws
namespace Go.Proofs.YtedfhboklcfanaaGreat.fnExactTryEver
open Go.Rf Go.ChangeShapes Go.WideShapes Go.ChangeAt Go.RowKit Go.Proofs.YtedfhboklcfanaaGreat.R
set_option linter.unusedVariables false
theorem own : ownKnob Tryz.prog.godebug = none := by kernel_rfl
theorem laidOut : laidOutB Tryz.prog = true := by kernel_rfl
set_option maxRecDepth 100000 in
theorem lifted (os : Os) (started : os.Started) (H0 : Type) (enc : TypeId × Value → H0) :
    ReturnsInHanded {} Tryz.checked os 4 .any (Rows.fnExactTryEverSpec.pre6 enc Tryz.prog Tryz.f4 Rows.fnExactTryEverRow.domain false) (Rows.fnExactTryEverSpec.post enc Tryz.prog Tryz.f4 false true false false) := by
  refine returnsInHanded_of_change_sized (C := Tryz.checked) own started (by kernel_rfl) Tryz.func4
    (ChangeSpec.witness6 (enc := enc) (C := Tryz.checked) false ⟨#[], #[.agg #[.int .i64 0, .int .i64 0, .slice none 0 0, .slice none 0 0, .slice none 0 0, .slice none 0 0], .agg #[.slice none 0 0]], []⟩ 8 (by kernel_rfl) (by kernel_rfl) (by kernel_rfl) (by kernel_rfl)) ?_
  intro W base args ds gs Q16 hval0 hW hcnd hsz0 _
  have hval : ∀ (j : Nat) t v, Tryz.f4.params[j]? = some t → args[j]? = some v → Value.okWide Tryz.prog W .any base t v := hval0
  have hW' := hW
  obtain ⟨p, q, hA0, hV, rfl, hfz, hnd⟩ := hW
  have hA : DataW.TrodAll enc Tryz.prog W 0 (fun _ => true) true Tryz.f4.params.toList args.toList ds p := hA0
  rw [Tryz.params4] at hA hval
  obtain ⟨v0, vs0, d0, ds0, p0, q0, hargs, rfl, rfl, h0, r0⟩ := trodAll_cons hA
  obtain ⟨v1, vs1, d1, ds1, p1, q1, rfl, rfl, rfl, h1, r1⟩ := trodAll_cons r0
  obtain ⟨rfl, rfl, rfl⟩ := trodAll_nil r1
  obtain rfl : args = #[v0, v1] := by cases args; simp_all
  obtain ⟨rfl, rfl⟩ := trodVars_none hV
  obtain ⟨x0, V0, w0⟩ := Jgg (S := fun b => b < W.heap.size) (hv := fun _ => undef) (g := fun _ => none) (t := tyQuestion) fit rfl (T := 29) (by kernel_rfl) (hval 0 29 v0 rfl rfl) h0
  have lt0 : ∀ x ∈ p0, x.block < W.heap.size := by obtain ⟨m, hm⟩ := h0; exact DataW.trod_lt m _ _ _ hm
  obtain ⟨x1, V1, w1⟩ := Jgg (S := fun b => b < W.heap.size) (hv := fun _ => undef) (g := fun _ => none) (t := tySight) fit rfl (T := 48) (by kernel_rfl) (hval 1 48 v1 rfl rfl) h1
  have lt1 : ∀ x ∈ p1, x.block < W.heap.size := by obtain ⟨m, hm⟩ := h1; exact DataW.trod_lt m _ _ _ hm
  have hk := Q3i x0 x1 w0 w1
  refine (Jee fit nats (key := 4) (h := F8kH) (x := (x0, x1)) (y := true) (sv := (.tup (.v tyQuestion x0) (.tup (.v tySight x1) .unit))) (b := true) (by kernel_rfl) hk (by kernel_rfl) (by kernel_rfl) (by kernel_rfl) (vs := [v0, v1]) (J83 V0 (J83 V1 Jfs))).mono fun e W' hp => ?_
  obtain ⟨rfl, bel⟩ := hp
  exact ⟨_, rfl, _, _, _, [], _, [], hW', trodAll_mk1 (shut_bool Tryz.underlying4 _), (trodAll_cons_mk (Below.trod laidOut (by kernel_rfl) (of_decide_eq_true (by kernel_rfl)) h0 bel lt0) (trodAll_cons_mk (Below.trod laidOut (by kernel_rfl) (of_decide_eq_true (by kernel_rfl)) h1 bel lt1) trodAll_mk0)), rfl, bel.frame _, fun h => by cases h⟩
end Go.Proofs.YtedfhboklcfanaaGreat.fnExactTryEver
