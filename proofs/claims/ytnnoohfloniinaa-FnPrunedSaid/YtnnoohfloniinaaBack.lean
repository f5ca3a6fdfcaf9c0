/- slices.Backward: what it hands back, and the rounds that its function value makes. -/
import Derived.RangeFuncBox
import Derived.RangeFuncLeaves
import Derived.Shelf.Abstract
import Derived.WalkKit
import Derived.OwnWalkIn
import Derived.TacticsInMore
import Derived.LoopNIn
import Derived.LoopIn
import Derived.KernelRfl
import Derived.Test.YtnnoohfloniinaaRfE
import Derived.Test.YtnnoohfloniinaaProg
set_option linter.all false
namespace Go.Proofs.Ytnnoohfloniinaa.R
open Go.Rf Go.Proofs Go.RowKit Go.Shelf
theorem back94 : BackOk Try.prog 94 117 := ⟨enters_of Try.func94 (by kernel_rfl) rfl, fun a len cap w => (callsIn_wide (n := 0)).1 (by
  refine callsIn_of_wp Try.func94 rfl trivial ?_ rfl
  simp only [Try.ntmps94, Array.size_append, List.size_toArray, List.length_cons, List.length_nil, Nat.reduceAdd, Nat.reduceSub, Array.replicate_succ, Array.replicate_zero, List.push_toArray, List.append_toArray, List.nil_append, List.cons_append]
  gi_wp2
  go_ret
  exact ⟨rfl, _, rfl⟩)⟩
set_option maxRecDepth 100000 in
set_option maxHeartbeats 2000000 in
theorem iter117 : IterOk Try.prog 117 true 3 := ⟨enters_of Try.func117 (by kernel_rfl) rfl, fun l Bs J Jx a k cap w hk hd h0 hY => callsIn_wide.2 ((callsIn_wide (n := 1)).1 (by
  have hk : k ≤ 9223372036854775807 := hk
  refine callsIn_of_wp Try.func117 rfl trivial ?_ rfl
  simp only [Try.ntmps117, Array.size_append, List.size_toArray, List.length_cons, List.length_nil, Nat.reduceAdd, Nat.reduceSub, Array.replicate_succ, Array.replicate_zero, List.push_toArray, List.append_toArray, List.nil_append, List.cons_append]
  gi_wp2
  gi_loopw [3] (fun i wr => ∃ j : Nat, j ≤ k ∧ i = .int .i64 ((j : Int) - 1) ∧ J j wr) (fun i _ => (Go.RowKit.intOf i + 1).toNat)
  case atStart => exact ⟨k, Nat.le_refl _, by first | (simp [IntKind.wrap]; done) | (simp [IntKind.wrap]; omega), h0⟩
  case round =>
    obtain ⟨j, hj, rfl, hJ⟩ := hrel
    cases j with
    | zero =>
      gi_wp2
      go_end0
      exact ⟨⟨_, rfl⟩, .inl hJ⟩
    | succ j =>
      obtain ⟨b, o, len, cap2, cs, v, c1, c2, c3, c4, c5, c6, fn, tmps, assign, body, hy, hR⟩ := hY j wr (by omega) hJ
      obtain ⟨x0, x1, x2, rfl⟩ : ∃ x0 x1 x2, cs = [x0, x1, x2] := by
        match cs, c4 with
        | [x0, x1, x2], _ => exact ⟨x0, x1, x2, rfl⟩
      obtain rfl : v = .agg #[x0, x1, x2] := by
        rcases c6 with ⟨_, h⟩ | ⟨h, _⟩
        · exact h
        · cases h
      have hcx0 : wr.cell? ⟨b, o + j * 3, none⟩ = some x0 := by have := c5 0 x0 rfl; simpa using this
      have hcx1 : wr.cell? ⟨b, o + j * 3 + 1, none⟩ = some x1 := by have := c5 1 x1 rfl; simpa using this
      have hcx2 : wr.cell? ⟨b, o + j * 3 + 2, none⟩ = some x2 := by have := c5 2 x2 rfl; simpa using this
      gi_wp2
      refine hR.mono ?_
      rintro e W3 (⟨rfl, hJ3⟩ | ⟨rfl, hJx3⟩)
      · gi_wp2
        go_roundw
        case rel => exact ⟨j, by omega, by simp, hJ3⟩
        case measure => first | (simp [Go.RowKit.intOf]; done) | (simp [Go.RowKit.intOf]; omega)
      · gi_wp2
        refine bodyPost_ret (results_none rfl _ _ _) rfl ?_
        exact ⟨⟨_, rfl⟩, .inr hJx3⟩))⟩
end Go.Proofs.Ytnnoohfloniinaa.R
