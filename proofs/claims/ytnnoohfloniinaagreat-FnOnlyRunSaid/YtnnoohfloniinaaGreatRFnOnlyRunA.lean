/- The law FnOnlyRun, in the given statement's form, for every input. -/
import Derived.Test.YtnnoohfloniinaaGreatRows
import Derived.Test.YtnnoohfloniinaaGreatEFnOnlyRun
import Derived.Test.YtnnoohfloniinaaGreatUFnOnlyRunA
import Derived.WalkKit
import Derived.ProofKit
import Derived.OpenShut
import Derived.ShutString
import Derived.ChangeOld
import Derived.Below
import Derived.SizedLaws
namespace Go.Proofs.YtnnoohfloniinaaGreat.fnOnlyRun
open Go.Rf Go.ChangeShapes Go.WideShapes Go.ChangeAt Go.RowKit Go.Proofs.YtnnoohfloniinaaGreat.R
set_option linter.unusedVariables false
theorem own : ownKnob Tryz.prog.godebug = none := by kernel_rfl
theorem laidOut : laidOutB Tryz.prog = true := by kernel_rfl
set_option maxRecDepth 100000 in
theorem lifted (os : Os) (started : os.Started) (H0 : Type) (enc : TypeId × Value → H0) :
    ReturnsInHanded {} Tryz.checked os 3 .any (Rows.fnOnlyRunSpec.pre6 enc Tryz.prog Tryz.f3 Rows.fnOnlyRunRow.domain false) (Rows.fnOnlyRunSpec.post enc Tryz.prog Tryz.f3 false true false false) := by
  refine returnsInHanded_of_change_sized (C := Tryz.checked) own started (by kernel_rfl) Tryz.func3
    (ChangeSpec.witness6 (enc := enc) (C := Tryz.checked) false ⟨#[], #[.slice none 0 0, .slice none 0 0], []⟩ 8 (by kernel_rfl) (by kernel_rfl) (by kernel_rfl) (by kernel_rfl)) ?_
  intro W base args ds gs before hval0 hW hcnd hsz0 _
  have hval : ∀ (j : Nat) t v, Tryz.f3.params[j]? = some t → args[j]? = some v → Value.okWide Tryz.prog W .any base t v := hval0
  have hW' := hW
  obtain ⟨p, q, hA0, hV, rfl, hfz, hnd⟩ := hW
  have hA : DataW.TrodAll enc Tryz.prog W 0 (fun _ => true) true Tryz.f3.params.toList args.toList ds p := hA0
  rw [Tryz.params3] at hA hval
  obtain ⟨v0, vs0, d0, ds0, p0, q0, hargs, rfl, rfl, h0, r0⟩ := trodAll_cons hA
  obtain ⟨v1, vs1, d1, ds1, p1, q1, rfl, rfl, rfl, h1, r1⟩ := trodAll_cons r0
  obtain ⟨rfl, rfl, rfl⟩ := trodAll_nil r1
  obtain rfl : args = #[v0, v1] := by cases args; simp_all
  obtain ⟨rfl, rfl⟩ := trodVars_none hV
  obtain ⟨x0, V0, w0⟩ := open_rf (S := fun b => b < W.heap.size) (hv := fun _ => undef) (g := fun _ => none) (t := (.sl (.int .u8))) fit rfl (T := 22) (by kernel_rfl) (hval 0 22 v0 rfl rfl) h0
  have lt0 : ∀ x ∈ p0, x.block < W.heap.size := by obtain ⟨m, hm⟩ := h0; exact DataW.trod_lt m _ _ _ hm
  obtain ⟨x1, V1, w1⟩ := open_rf (S := fun b => b < W.heap.size) (hv := fun _ => undef) (g := fun _ => none) (t := (.sl (.int .u8))) fit rfl (T := 22) (by kernel_rfl) (hval 1 22 v1 rfl rfl) h1
  have lt1 : ∀ x ∈ p1, x.block < W.heap.size := by obtain ⟨m, hm⟩ := h1; exact DataW.trod_lt m _ _ _ hm
  have hk := pure_FnOnlyRun x0 x1 w0 w1
  refine (law_calls fit nats (key := 3) (h := h_laws_FnOnlyRun) (x := (x0, x1)) (y := true) (sv := (.tup (.v (.sl (.int .u8)) x0) (.tup (.v (.sl (.int .u8)) x1) .unit))) (b := true) (by kernel_rfl) hk (by kernel_rfl) (by kernel_rfl) (by kernel_rfl) (vs := [v0, v1]) (CRep_one_more V0 (CRep_one_more V1 CRep_no_more))).mono fun e W' hp => ?_
  obtain ⟨rfl, bel⟩ := hp
  exact ⟨_, rfl, _, _, _, [], _, [], hW', trodAll_mk1 (shut_bool Tryz.underlying4 _), (trodAll_cons_mk (Below.trod laidOut (by kernel_rfl) (of_decide_eq_true (by kernel_rfl)) h0 bel lt0) (trodAll_cons_mk (Below.trod laidOut (by kernel_rfl) (of_decide_eq_true (by kernel_rfl)) h1 bel lt1) trodAll_mk0)), rfl, bel.frame _, fun h => by cases h⟩
end Go.Proofs.YtnnoohfloniinaaGreat.fnOnlyRun
