/- slices.Backward: what it hands back, and the rounds that its function value makes. -/
import Derived.RangeFuncBox
import Derived.RangeFuncLeaves
import Derived.Shelf.Abstract
import Derived.WalkKit
import Derived.OwnWalkIn
import Derived.TacticsInMore
import Derived.LoopNIn
import Derived.LoopIn
import Derived.Lib.SliceRun
import Derived.Shelf.RegionOpenPlain
import Derived.Lib.Walk
import Derived.KernelRfl
import Derived.Test.YtnnoohfloniinaaGreatRfE
import Derived.Test.YtnnoohfloniinaaGreatProg
set_option linter.all false
namespace Go.Proofs.YtnnoohfloniinaaGreat.R
open Go.Rf Go.Proofs Go.RowKit Go.Shelf Go.Lib
theorem back113 : BackOk Tryz.prog 113 130 := ⟨enters_of Tryz.func113 (by kernel_rfl) rfl, fun a len cap w => (callsIn_wide (n := 0)).1 (by
  refine callsIn_of_wp Tryz.func113 rfl trivial ?_ rfl
  simp only [Tryz.ntmps113, Array.size_append, List.size_toArray, List.length_cons, List.length_nil, Nat.reduceAdd, Nat.reduceSub, Array.replicate_succ, Array.replicate_zero, List.push_toArray, List.append_toArray, List.nil_append, List.cons_append]
  gi_wp2
  go_ret
  exact ⟨rfl, _, rfl⟩)⟩
set_option maxRecDepth 100000 in
set_option maxHeartbeats 2000000 in
theorem iter130 : IterOk Tryz.prog 130 false 1 := ⟨enters_of Tryz.func130 (by kernel_rfl) rfl, fun l Bs J Jx a k cap w hk hd h0 hY => callsIn_wide.2 ((callsIn_wide (n := 1)).1 (by
  have hk : k ≤ 9223372036854775807 := hk
  refine callsIn_of_wp Tryz.func130 rfl trivial ?_ rfl
  simp only [Tryz.ntmps130, Array.size_append, List.size_toArray, List.length_cons, List.length_nil, Nat.reduceAdd, Nat.reduceSub, Array.replicate_succ, Array.replicate_zero, List.push_toArray, List.append_toArray, List.nil_append, List.cons_append]
  gi_wp2
  gi_loopw [3] (fun i wr => ∃ j : Nat, j ≤ k ∧ i = .int .i64 ((j : Int) - 1) ∧ J j wr) (fun i _ => (Go.RowKit.intOf i + 1).toNat)
  case atStart => exact ⟨k, Nat.le_refl _, by first | (simp [IntKind.wrap]; done) | (simp [IntKind.wrap]; omega), h0⟩
  case round =>
    obtain ⟨j, hj, rfl, hJ⟩ := hrel
    cases j with
    | zero =>
      gi_wp2
      go_end0
      exact ⟨⟨_, rfl⟩, .inl hJ⟩
    | succ j =>
      obtain ⟨b, o, len, cap2, cs, v, c1, c2, c3, c4, c5, c6, fn, tmps, assign, body, hy, hR⟩ := hY j wr (by omega) hJ
      obtain rfl : cs = [v] := by
        rcases c6 with ⟨h, _⟩ | ⟨_, h⟩
        · cases h
        · exact h
      have hcx : wr.cell? ⟨b, o + j, none⟩ = some v := by have := c5 0 v rfl; simpa using this
      gi_wp2
      refine hR.mono ?_
      rintro e W3 (⟨rfl, hJ3⟩ | ⟨rfl, hJx3⟩)
      · gi_wp2
        go_roundw
        case rel => exact ⟨j, by omega, by simp, hJ3⟩
        case measure => first | (simp [Go.RowKit.intOf]; done) | (simp [Go.RowKit.intOf]; omega)
      · gi_wp2
        refine bodyPost_ret (results_none rfl _ _ _) rfl ?_
        exact ⟨⟨_, rfl⟩, .inr hJx3⟩))⟩
theorem wpListIn_append_drawn {F : Fence} {n : Nat} {P : Program} (w : World) {ops : Array Oper} {rest : List Oper} {o : Oper} {a : Act} {Q : Exit → Act → World → Prop}
    (hg : o.guard = none) (s x : Operand) (t : TypeId) (hop : o.op = Op.call { callee := Callee.builtin Builtin.append, args := #[s, x], argTypes := #[t, t] })
    (base : Nat) (e : TypeId) (i : TypeInfo) (z : Value) (size bytes : Nat) (h1 : P.underlying t = some (.slice e)) (h2 : P.info? e = some i) (h3 : i.zero = some z) (h4 : i.size = size) (h5 : i.bytes = bytes) (h6 : z.cells.size = size) (h7 : 0 < size)
    (v : Value) (k : Nat) (xs : List Value) (hs : a.eval s = v) (hown : w.ownsRow base e size v k xs) (ad : Addr) (m c : Nat) (news : List Value) (hx : a.eval x = .slice (some ad) m c) (hn : news.length = m * size)
    (hc : ∀ j u, news[j]? = some u → w.cell? (ad.add j) = some u) (h1c : ∀ u ∈ news, u.oneCell' = true) (b1 : k + m ≤ maxLen) (b2 : (k + m) * bytes ≤ 140737488355328) (b3 : base ≤ w.heap.size)
    (hK : ∀ v' w', w.drawn ≤ w'.drawn → w'.ownsRow base e size v' (k + m) (xs ++ news) → w.grownBy w' v.ownBlock → (v' = .slice none 0 0 ↔ v = .slice none 0 0 ∧ m = 0) → wpListIn F n P ops Q rest (a.put o.dst v') w') :
    wpListIn F n P ops Q (o :: rest) a w := by
  refine wpListIn_plain hg fun K hK' => ?_
  obtain ⟨v', w', hrun, r1, r2, r3⟩ := run_append_own (P := P) w base t o.type e i z size bytes h1 h2 h3 h4 h5 h6 h7 v k xs hown ad m c news hn hc h1c b1 b2 b3
  unfold Oper.wpIn
  refine ⟨?_, ?_⟩
  · simp [Oper.about, hop, resolve, Target.leads, Sem.run_pure]
  · rw [Oper.semAt_plain F _ _ (by rw [hop]; intro c hc'; cases hc')]
    simp [execOp, hop, resolve, invoke, builtin, hs, hx, hrun, Result.andThen]
    exact hK' _ _ (hK v' w' (run_drawn _ _ _ _ hrun) r1 r2 r3)
def oneB (P : Program) (E : Nat) : Bool := match P.info? E with
  | some i => (match i.zero with
    | some (.slice none 0 0) => true
    | _ => false) && ((i.size == 1) && (i.bytes == 24))
  | none => false
theorem oneB_spec {P : Program} {E : Nat} (h : oneB P E = true) : ∃ i, P.info? E = some i ∧ i.zero = some (.slice none 0 0) ∧ i.size = 1 ∧ i.bytes = 24 := by
  unfold oneB at h
  split at h
  · rename_i i hi
    simp only [Bool.and_eq_true, beq_iff_eq] at h
    obtain ⟨h1, h2, h3⟩ := h
    split at h1
    · rename_i hz
      exact ⟨i, hi, hz, h2, h3⟩
    · cases h1
  · cases h
set_option maxRecDepth 100000 in
set_option maxHeartbeats 2000000 in
theorem clone61 : CloneOk Tryz.prog 61 47 := by
  have t : Tryz.prog.underlying 63 = some (.slice 47) := by kernel_rfl
  obtain ⟨i0, hi, hz0, hz1, hz2⟩ := oneB_spec (P := Tryz.prog) (E := 47) (by kernel_rfl)
  have q : ∀ (w : World) (a : Option Addr) (n c n' c' : Nat), (binOp .eql 63 (.slice a n c) (.slice none n' c')).run Tryz.prog w = .ok (.bool a.isNone) w := fun w a n c n' c' => Lib.run_eql_slice_nil w _ _ a n c n' c' t
  have u : ∀ w, Sem.run Tryz.prog (underlying 63) w = .ok (TypeDesc.slice 47) w := run_underlying t
  refine ⟨enters_of Tryz.func61 (by kernel_rfl) rfl, fun n c w => (callsIn_wide (n := 0)).1 ?_, fun b o n c cs w hn hlim hc h1 => (callsIn_wide (n := 0)).1 ?_⟩
  · refine callsIn_of_wp Tryz.func61 rfl trivial ?_ rfl
    simp only [Tryz.ntmps61, Array.size_append, List.size_toArray, List.length_cons, List.length_nil, Nat.reduceAdd, Nat.reduceSub, Array.replicate_succ, Array.replicate_zero, List.push_toArray, List.append_toArray, List.nil_append, List.cons_append]
    gi_wp2
    go_ret
    exact ⟨rfl, rfl⟩
  · have A : Hid (∀ j u, cs[j]? = some u → w.cell? ⟨b, o + j, none⟩ = some u) := hc
    clear hc
    have A1 : Hid (∀ u ∈ cs, u.oneCell' = true) := h1
    clear h1
    have A2 : Hid (cs.length = n) := hn
    clear hn
    have A3 : Hid (n ≤ 1099511627776) := hlim
    clear hlim
    refine callsIn_of_wp Tryz.func61 rfl trivial ?_ rfl
    simp only [Tryz.ntmps61, Array.size_append, List.size_toArray, List.length_cons, List.length_nil, Nat.reduceAdd, Nat.reduceSub, Array.replicate_succ, Array.replicate_zero, List.push_toArray, List.append_toArray, List.nil_append, List.cons_append]
    gi_wp2_with (gi_at_builtin; refine wpListIn_append_drawn _ rfl _ _ 63 rfl w.heap.size 47 i0 (.slice none 0 0) 1 24 t hi hz0 hz1 hz2 rfl (by decide) _ _ _ rfl (World.ownsRow_made w #[] 0 (Nat.le_refl _) (Nat.zero_le _) rfl) ⟨b, o, none⟩ n c cs rfl ?qc1 ?qc2 ?qc3 ?qc4 ?qc5 ?qc6 ?_)
    case qc1 => have := A2.out; omega
    case qc2 =>
      intro j u hj
      rw [Addr.add_lit]
      refine Lib.cell?_alloc_some _ ?_
      exact A.out j u hj
    case qc3 => exact A1.out
    case qc4 => have := A3.out; unfold maxLen; omega
    case qc5 => have := A3.out; omega
    case qc6 => simp
    intro v' w1 hdr hown hgrow hnil
    gi_wp2
    go_ret
    refine ⟨v', rfl, by simpa using hown, ?_, ?_, ?_⟩
    · first | exact hnil | (intro e; exact absurd (hnil.1 e).1 (by simp))
    · exact ((Below.refl _ w).alloc (Nat.le_refl _) _).grown hgrow (by simp) (by intro k hk; simp [Value.ownBlock] at hk; omega)
    · have := hdr; simpa using this
end Go.Proofs.YtnnoohfloniinaaGreat.R
