/- What the proof of the law FnExactSpanOf leans on, part 7: words, printed walks of the Go functions, plain lemmas. -/
import Derived.Test.YtimoiblediffpaaZFnExactSpanOfF
section
namespace Go.Proofs.Ytimoiblediffpaa.QFnExactSpanOf
open Go.RowKit Go.Proofs.YtimoiblediffpaaW.PrintWords Go.Proofs.YtimoiblediffpaaW.PrintLast Go.Proofs.YtimoiblediffpaaW.PrintMore
attribute [local go_sem] max2_int min2_int max_two min_two
set_option linter.unusedVariables false
set_option linter.unusedSimpArgs false
attribute [local go_sem high] eqA26
mutual
def spec_l18Ask.j0 : Nat → Int → Bool → Int → Int → Int → Int → Int → Int → Int → Int → Option (Int × Int)
 | 0, _, _, _, _, _, _, _, _, _, _ => none
 | k + 1, x0, x11, x165000, x165001, x166000, x166001, x168000, x168001, x169000, x169001 => if x11 = true then (some (x168000, x168001)) else (if x0 = 14 then (if x165000 = x165001 then (spec_l18Ask.j1 k x0 (x165000 == x166000 && (x165001 == x166001)) x165000 x165001 x166000 x166001 x168000 x168001 x169000 x169001) else (spec_l18Ask.j1 k x0 false x165000 x165001 x166000 x166001 x168000 x168001 x169000 x169001)) else (spec_l18Ask.j1 k x0 false x165000 x165001 x166000 x166001 x168000 x168001 x169000 x169001))
def spec_l18Ask.j1 : Nat → Int → Bool → Int → Int → Int → Int → Int → Int → Int → Int → Option (Int × Int)
 | 0, _, _, _, _, _, _, _, _, _, _ => none
 | k + 1, x0, x29, x165000, x165001, x166000, x166001, x168000, x168001, x169000, x169001 => if x29 = true then (some (x169000, x169001)) else (if x0 = 15 then (spec_l18Ask.j2 k x0 (decide (x165001 < x166000)) x165000 x165001 x166000 x166001 x168000 x168001 x169000 x169001) else (spec_l18Ask.j2 k x0 false x165000 x165001 x166000 x166001 x168000 x168001 x169000 x169001))
def spec_l18Ask.j2 : Nat → Int → Bool → Int → Int → Int → Int → Int → Int → Int → Int → Option (Int × Int)
 | 0, _, _, _, _, _, _, _, _, _, _ => none
 | k + 1, x0, x45, x165000, x165001, x166000, x166001, x168000, x168001, x169000, x169001 => if x45 = true then (some (x169000, x169001)) else (if x0 = 15 then (spec_l18Ask.j3 k x0 (decide (x165000 ≥ x166001)) x165000 x165001 x166000 x166001 x168000 x168001) else (spec_l18Ask.j3 k x0 false x165000 x165001 x166000 x166001 x168000 x168001))
def spec_l18Ask.j3 : Nat → Int → Bool → Int → Int → Int → Int → Int → Int → Option (Int × Int)
 | 0, _, _, _, _, _, _, _, _ => none
 | k + 1, x0, x56, x165000, x165001, x166000, x166001, x168000, x168001 => if x56 = true then (some (x168000, x168001)) else (if x0 = 17 then ((spec_l18Least.f x165000 x166000).bind fun t169 => ((spec_l18Least.f x165001 x166001).bind fun t170 => (some (t169, t170)))) else (if x0 = 18 then ((spec_l18Most.f x165000 x166000).bind fun t171 => ((spec_l18Most.f x165001 x166001).bind fun t172 => (some (t171, t172)))) else (some (0, 1))))
end
def spec_l18Ask.f (k : Nat) (a0 : Int) (a1_0 : Int) (a1_1 : Int) (a2_0 : Int) (a2_1 : Int) : Option (Int × Int) := if a0 = 14 then (if a1_1 < a2_0 then (spec_l18Ask.j0 k a0 true a1_0 a1_1 a2_0 a2_1 0 0 1 1) else (spec_l18Ask.j0 k a0 (decide (a2_1 < a1_0)) a1_0 a1_1 a2_0 a2_1 0 0 1 1)) else (spec_l18Ask.j0 k a0 false a1_0 a1_1 a2_0 a2_1 0 0 1 1)
def spec_l18Ask.T12 : Bool × List (List Nat × List Nat) := (true, [([], []), ([0], [0]), ([], []), ([2], [2]), ([1, 3], [1, 3]), ([], []), ([5], [5]), ([], []), ([7], [7]), ([6, 8, 4], [6, 8]), ([4, 9], [4, 9]), ([10, 9, 0, 1, 2, 3, 4, 5, 6, 7, 8, 9, 10], [10])])
def spec_l18Ask.B12 : List Nat := [0, 1, 0, 4, 15, 0, 32, 0, 128, 511, 1023, 2047]
theorem spec_l18Ask.tab12 : rtab .any (opsOf Try.f193 12) = spec_l18Ask.T12 := by kernel_rfl
theorem spec_l18Ask.bits12 : waitsOk spec_l18Ask.T12.2 spec_l18Ask.B12 = true := by kernel_rfl
def spec_l18Ask.T14 : Bool × List (List Nat × List Nat) := (true, [([], []), ([0], [0]), ([], []), ([2], [2]), ([1, 3], [1, 3]), ([], []), ([5], [5]), ([], []), ([7], [7]), ([6, 8, 4], [6, 8]), ([4, 9], [4, 9]), ([10, 9, 0, 1, 2, 3, 4, 5, 6, 7, 8, 9, 10], [10])])
def spec_l18Ask.B14 : List Nat := [0, 1, 0, 4, 15, 0, 32, 0, 128, 511, 1023, 2047]
theorem spec_l18Ask.tab14 : rtab .any (opsOf Try.f193 14) = spec_l18Ask.T14 := by kernel_rfl
theorem spec_l18Ask.bits14 : waitsOk spec_l18Ask.T14.2 spec_l18Ask.B14 = true := by kernel_rfl
set_option maxHeartbeats 8000000 in
set_option maxRecDepth 100000 in
theorem spec_l18Ask.calls (k : Nat) (a0 : Int) (a1_0 : Int) (a1_1 : Int) (a2_0 : Int) (a2_1 : Int) (r1 : Int) (r2 : Int) (w : World) (h : spec_l18Ask.f k a0 a1_0 a1_1 a2_0 a2_1 = some (r1, r2)) :
  Calls Try.prog 193 #[.int .i64 a0, .agg #[.int .u64 a1_0, .int .u64 a1_1], .agg #[.int .u64 a2_0, .int .u64 a2_1]] w fun e w' => e = .returned (.agg #[.int .u64 r1, .int .u64 r2]) ∧ Below w.heap.size w w' := by
 have hu26 := Try.underlying26
 have HB := Aside0.mk (Below.refl w.heap.size w)
 have H : (if a0 = 14 then (if a1_1 < a2_0 then (spec_l18Ask.j0 k a0 true a1_0 a1_1 a2_0 a2_1 0 0 1 1) else (spec_l18Ask.j0 k a0 (decide (a2_1 < a1_0)) a1_0 a1_1 a2_0 a2_1 0 0 1 1)) else (spec_l18Ask.j0 k a0 false a1_0 a1_1 a2_0 a2_1 0 0 1 1)) = some (r1, r2) := h
 clear h
 have HC4 := Aside0.mk H
 clear H
 go_enter Try.func193, Try.ntmps193
 go_upto_region 3 with (first | ((with_reducible refine gate_dst (N := 4) rfl ?_); refine Slim.boxE 4 (#[.int .u64 a1_0, .int .u64 a1_1]) 26 ?_; intro gb164 hg w5 hbox hb; have GW164 := Aside0.mk (Slim.vS : w.heap.size ≤ gb164); have GE164 := GW164; replace HB := Aside0.mk (below_step Slim.vB hb); have BK164 := Aside0.mk hbox; clear hb hbox hg) | ((with_reducible refine gate_dst (N := 5) rfl ?_); refine Slim.boxE 5 (#[.int .u64 a2_0, .int .u64 a2_1]) 26 ?_; intro gb165 hg w6 hbox hb; have GW165 := Aside0.mk (Slim.vS : w.heap.size ≤ gb165); have GE165 := GW165; have NB164_165 := Aside0.mk (Slim.nL hg BK164.out : gb164 ≠ gb165); have NB165_164 := Aside0.mk (Slim.nG hg BK164.out : gb165 ≠ gb164); replace BK164 := Aside0.mk (Slim.bB BK164.out hb); replace HB := Aside0.mk (below_step Slim.vB hb); have BK165 := Aside0.mk hbox; clear hb hbox hg) | ((with_reducible refine gate_dst (N := 6) rfl ?_); refine Slim.boxE 6 (#[.int .u64 0, .int .u64 0]) 26 ?_; intro gb166 hg w7 hbox hb; have GW166 := Aside0.mk (Slim.vS : w.heap.size ≤ gb166); have GE166 := GW166; have NB164_166 := Aside0.mk (Slim.nL hg BK164.out : gb164 ≠ gb166); have NB166_164 := Aside0.mk (Slim.nG hg BK164.out : gb166 ≠ gb164); have NB165_166 := Aside0.mk (Slim.nL hg BK165.out : gb165 ≠ gb166); have NB166_165 := Aside0.mk (Slim.nG hg BK165.out : gb166 ≠ gb165); replace BK164 := Aside0.mk (Slim.bB BK164.out hb); replace BK165 := Aside0.mk (Slim.bB BK165.out hb); replace HB := Aside0.mk (below_step Slim.vB hb); have BK166 := Aside0.mk hbox; clear hb hbox hg) | ((with_reducible refine gate_dst (N := 7) rfl ?_); refine Slim.boxE 7 (#[.int .u64 0, .int .u64 0]) 26 ?_; intro gb167 hg w8 hbox hb; have GW167 := Aside0.mk (Slim.vS : w.heap.size ≤ gb167); have GE167 := GW167; have NB164_167 := Aside0.mk (Slim.nL hg BK164.out : gb164 ≠ gb167); have NB167_164 := Aside0.mk (Slim.nG hg BK164.out : gb167 ≠ gb164); have NB165_167 := Aside0.mk (Slim.nL hg BK165.out : gb165 ≠ gb167); have NB167_165 := Aside0.mk (Slim.nG hg BK165.out : gb167 ≠ gb165); have NB166_167 := Aside0.mk (Slim.nL hg BK166.out : gb166 ≠ gb167); have NB167_166 := Aside0.mk (Slim.nG hg BK166.out : gb167 ≠ gb166); replace BK164 := Aside0.mk (Slim.bB BK164.out hb); replace BK165 := Aside0.mk (Slim.bB BK165.out hb); replace BK166 := Aside0.mk (Slim.bB BK166.out hb); replace HB := Aside0.mk (below_step Slim.vB hb); have BK167 := Aside0.mk hbox; clear hb hbox hg; have hnb9 := NB167_164.out; have hnc9 := NB164_167.out; have hnb10 := NB167_165.out; have hnc10 := NB165_167.out; have hnb11 := NB167_166.out; have hnc11 := NB166_167.out; have hcz12_0 := Slim.bc BK167.out 0 rfl; have hcz12_1 := Slim.bc BK167.out 1 rfl; have hfz12_0 := blk_frozen BK167.out 0; have hfz12_1 := blk_frozen BK167.out 1) | ((with_reducible refine gate_dst (N := 8) rfl ?_); refine Slim.boxE 8 (#[.int .u64 0, .int .u64 0]) 26 ?_; intro gb168 hg w13 hbox hb; have n0_ := Aside0.mk (blk_below (g := gb164) (o := .cells #[.int .u64 a1_0, .int .u64 a1_1] 26 (0, 0)) (by (with_reducible repeat (first | refine blk_drewN ?_ _ | refine blk_drew ?_ | refine blk_alloc ?_ _)); refine blk_far ?_ NB164_167.out _; (with_reducible repeat (first | refine blk_drewN ?_ _ | refine blk_drew ?_ | refine blk_alloc ?_ _)); refine blk_far ?_ NB164_167.out _; (with_reducible repeat (first | refine blk_drewN ?_ _ | refine blk_drew ?_ | refine blk_alloc ?_ _)); exact BK164.out) hb); have n1_ := Aside0.mk (blk_below (g := gb165) (o := .cells #[.int .u64 a2_0, .int .u64 a2_1] 26 (0, 0)) (by (with_reducible repeat (first | refine blk_drewN ?_ _ | refine blk_drew ?_ | refine blk_alloc ?_ _)); refine blk_far ?_ NB165_167.out _; (with_reducible repeat (first | refine blk_drewN ?_ _ | refine blk_drew ?_ | refine blk_alloc ?_ _)); refine blk_far ?_ NB165_167.out _; (with_reducible repeat (first | refine blk_drewN ?_ _ | refine blk_drew ?_ | refine blk_alloc ?_ _)); exact BK165.out) hb); have n2_ := Aside0.mk (blk_below (g := gb166) (o := .cells #[.int .u64 0, .int .u64 0] 26 (0, 0)) (by (with_reducible repeat (first | refine blk_drewN ?_ _ | refine blk_drew ?_ | refine blk_alloc ?_ _)); refine blk_far ?_ NB166_167.out _; (with_reducible repeat (first | refine blk_drewN ?_ _ | refine blk_drew ?_ | refine blk_alloc ?_ _)); refine blk_far ?_ NB166_167.out _; (with_reducible repeat (first | refine blk_drewN ?_ _ | refine blk_drew ?_ | refine blk_alloc ?_ _)); exact BK166.out) hb); have n3_ := Aside0.mk (blk_below (g := gb167) (o := .cells #[.int .u64 0, .int .u64 0] 26 (0, 0)) (by (with_reducible repeat (first | refine blk_drewN ?_ _ | refine blk_drew ?_ | refine blk_alloc ?_ _)); refine blk_put (cs := #[.int .u64 0, .int .u64 0]) ?_ 1 _ rfl; (with_reducible repeat (first | refine blk_drewN ?_ _ | refine blk_drew ?_ | refine blk_alloc ?_ _)); refine blk_put (cs := #[.int .u64 0, .int .u64 0]) ?_ 0 _ rfl; (with_reducible repeat (first | refine blk_drewN ?_ _ | refine blk_drew ?_ | refine blk_alloc ?_ _)); exact BK167.out) hb); have n4_ := Aside0.mk (below_step Slim.vB hb); have n5_ := Aside0.mk (hbox); have n6_ := Aside0.mk (Slim.vS : w.heap.size ≤ gb168); have n7_ := n6_; have n8_ := Aside0.mk ((by rw [hg]; exact Nat.ne_of_lt (blk_lt (g := gb164) (o := .cells #[.int .u64 a1_0, .int .u64 a1_1] 26 (0, 0)) (by (with_reducible repeat (first | refine blk_drewN ?_ _ | refine blk_drew ?_ | refine blk_alloc ?_ _)); refine blk_far ?_ NB164_167.out _; (with_reducible repeat (first | refine blk_drewN ?_ _ | refine blk_drew ?_ | refine blk_alloc ?_ _)); refine blk_far ?_ NB164_167.out _; (with_reducible repeat (first | refine blk_drewN ?_ _ | refine blk_drew ?_ | refine blk_alloc ?_ _)); exact BK164.out)) : gb164 ≠ gb168)); have n9_ := Aside0.mk ((by rw [hg]; exact Nat.ne_of_gt (blk_lt (g := gb164) (o := .cells #[.int .u64 a1_0, .int .u64 a1_1] 26 (0, 0)) (by (with_reducible repeat (first | refine blk_drewN ?_ _ | refine blk_drew ?_ | refine blk_alloc ?_ _)); refine blk_far ?_ NB164_167.out _; (with_reducible repeat (first | refine blk_drewN ?_ _ | refine blk_drew ?_ | refine blk_alloc ?_ _)); refine blk_far ?_ NB164_167.out _; (with_reducible repeat (first | refine blk_drewN ?_ _ | refine blk_drew ?_ | refine blk_alloc ?_ _)); exact BK164.out)) : gb168 ≠ gb164)); have n10_ := Aside0.mk ((by rw [hg]; exact Nat.ne_of_lt (blk_lt (g := gb165) (o := .cells #[.int .u64 a2_0, .int .u64 a2_1] 26 (0, 0)) (by (with_reducible repeat (first | refine blk_drewN ?_ _ | refine blk_drew ?_ | refine blk_alloc ?_ _)); refine blk_far ?_ NB165_167.out _; (with_reducible repeat (first | refine blk_drewN ?_ _ | refine blk_drew ?_ | refine blk_alloc ?_ _)); refine blk_far ?_ NB165_167.out _; (with_reducible repeat (first | refine blk_drewN ?_ _ | refine blk_drew ?_ | refine blk_alloc ?_ _)); exact BK165.out)) : gb165 ≠ gb168)); have n11_ := Aside0.mk ((by rw [hg]; exact Nat.ne_of_gt (blk_lt (g := gb165) (o := .cells #[.int .u64 a2_0, .int .u64 a2_1] 26 (0, 0)) (by (with_reducible repeat (first | refine blk_drewN ?_ _ | refine blk_drew ?_ | refine blk_alloc ?_ _)); refine blk_far ?_ NB165_167.out _; (with_reducible repeat (first | refine blk_drewN ?_ _ | refine blk_drew ?_ | refine blk_alloc ?_ _)); refine blk_far ?_ NB165_167.out _; (with_reducible repeat (first | refine blk_drewN ?_ _ | refine blk_drew ?_ | refine blk_alloc ?_ _)); exact BK165.out)) : gb168 ≠ gb165)); have n12_ := Aside0.mk ((by rw [hg]; exact Nat.ne_of_lt (blk_lt (g := gb166) (o := .cells #[.int .u64 0, .int .u64 0] 26 (0, 0)) (by (with_reducible repeat (first | refine blk_drewN ?_ _ | refine blk_drew ?_ | refine blk_alloc ?_ _)); refine blk_far ?_ NB166_167.out _; (with_reducible repeat (first | refine blk_drewN ?_ _ | refine blk_drew ?_ | refine blk_alloc ?_ _)); refine blk_far ?_ NB166_167.out _; (with_reducible repeat (first | refine blk_drewN ?_ _ | refine blk_drew ?_ | refine blk_alloc ?_ _)); exact BK166.out)) : gb166 ≠ gb168)); have n13_ := Aside0.mk ((by rw [hg]; exact Nat.ne_of_gt (blk_lt (g := gb166) (o := .cells #[.int .u64 0, .int .u64 0] 26 (0, 0)) (by (with_reducible repeat (first | refine blk_drewN ?_ _ | refine blk_drew ?_ | refine blk_alloc ?_ _)); refine blk_far ?_ NB166_167.out _; (with_reducible repeat (first | refine blk_drewN ?_ _ | refine blk_drew ?_ | refine blk_alloc ?_ _)); refine blk_far ?_ NB166_167.out _; (with_reducible repeat (first | refine blk_drewN ?_ _ | refine blk_drew ?_ | refine blk_alloc ?_ _)); exact BK166.out)) : gb168 ≠ gb166)); have n14_ := Aside0.mk ((by rw [hg]; exact Nat.ne_of_lt (blk_lt (g := gb167) (o := .cells #[.int .u64 0, .int .u64 0] 26 (0, 0)) (by (with_reducible repeat (first | refine blk_drewN ?_ _ | refine blk_drew ?_ | refine blk_alloc ?_ _)); refine blk_put (cs := #[.int .u64 0, .int .u64 0]) ?_ 1 _ rfl; (with_reducible repeat (first | refine blk_drewN ?_ _ | refine blk_drew ?_ | refine blk_alloc ?_ _)); refine blk_put (cs := #[.int .u64 0, .int .u64 0]) ?_ 0 _ rfl; (with_reducible repeat (first | refine blk_drewN ?_ _ | refine blk_drew ?_ | refine blk_alloc ?_ _)); exact BK167.out)) : gb167 ≠ gb168)); have n15_ := Aside0.mk ((by rw [hg]; exact Nat.ne_of_gt (blk_lt (g := gb167) (o := .cells #[.int .u64 0, .int .u64 0] 26 (0, 0)) (by (with_reducible repeat (first | refine blk_drewN ?_ _ | refine blk_drew ?_ | refine blk_alloc ?_ _)); refine blk_put (cs := #[.int .u64 0, .int .u64 0]) ?_ 1 _ rfl; (with_reducible repeat (first | refine blk_drewN ?_ _ | refine blk_drew ?_ | refine blk_alloc ?_ _)); refine blk_put (cs := #[.int .u64 0, .int .u64 0]) ?_ 0 _ rfl; (with_reducible repeat (first | refine blk_drewN ?_ _ | refine blk_drew ?_ | refine blk_alloc ?_ _)); exact BK167.out)) : gb168 ≠ gb167)); clear BK164; clear BK165; clear BK166; clear BK167; clear HB; have BK164 := n0_; have BK165 := n1_; have BK166 := n2_; have BK167 := n3_; have HB := n4_; have BK168 := n5_; have GW168 := n6_; have GE168 := n7_; have NB164_168 := n8_; have NB168_164 := n9_; have NB165_168 := n10_; have NB168_165 := n11_; have NB166_168 := n12_; have NB168_166 := n13_; have NB167_168 := n14_; have NB168_167 := n15_; clear n0_ n1_ n2_ n3_ n4_ n5_ n6_ n7_ n8_ n9_ n10_ n11_ n12_ n13_ n14_ n15_; clear hb hbox hg; have hnb14 := NB168_164.out; have hnc14 := NB164_168.out; have hnb15 := NB168_165.out; have hnc15 := NB165_168.out; have hnb16 := NB168_166.out; have hnc16 := NB166_168.out; have hnb17 := NB168_167.out; have hnc17 := NB167_168.out; have hcz18_0 := Slim.bc BK168.out 0 rfl; have hcz18_1 := Slim.bc BK168.out 1 rfl; have hfz18_0 := blk_frozen BK168.out 0; have hfz18_1 := blk_frozen BK168.out 1))
 (try simp only [Act.put, List.setIfInBounds_toArray, List.set_cons_zero, List.set_cons_succ])
 go_cut [11] (fun v11 wc => ∃ (kq : Nat) (x11_3 : Bool), v11 = .bool x11_3 ∧ Aside0 (spec_l18Ask.j0 kq a0 x11_3 a1_0 a1_1 a2_0 a2_1 0 0 1 1 = some (r1, r2)) ∧ Aside0 (kq ≤ k) ∧ Aside0 (wc.heap[gb164]? = some (.cells #[.int .u64 a1_0, .int .u64 a1_1] 26 (0, 0))) ∧ Aside0 (wc.heap[gb165]? = some (.cells #[.int .u64 a2_0, .int .u64 a2_1] 26 (0, 0))) ∧ Aside0 (wc.heap[gb166]? = some (.cells #[.int .u64 0, .int .u64 0] 26 (0, 0))) ∧ Aside0 (wc.heap[gb167]? = some (.cells #[.int .u64 0, .int .u64 0] 26 (0, 0))) ∧ Aside0 (wc.heap[gb168]? = some (.cells #[.int .u64 1, .int .u64 1] 26 (0, 0))) ∧ Aside0 (Below w.heap.size w wc))
 case first =>
  have H := HC4.out
  clear HC4
  by_cases c19 : a0 = 14
  ·rw [if_pos c19] at H
   have c19b0 : (a0 == 14) = true := beq_iff_eq.mpr c19
   have c19b1 : (a0 != 14) = false := bne_eq_false_iff_eq.mpr c19
   clear c19
   (first | rw [c19b0] | (simp only [i64_w, i32_w]; rw [c19b0]) | skip)
   by_cases c20 : a1_1 < a2_0
   ·rw [if_pos c20] at H
    have c20b0 : decide (a1_1 < a2_0) = true := decide_eq_true c20
    clear c20
    have H' := Aside0.mk H
    clear H
    have hnb21 := NB164_165.out
    have hnc21 := NB165_164.out
    have hnb22 := NB164_166.out
    have hnc22 := NB166_164.out
    have hnb23 := NB164_167.out
    have hnc23 := NB167_164.out
    have hnb24 := NB164_168.out
    have hnc24 := NB168_164.out
    have hcz25_0 := Slim.bc BK164.out 0 rfl
    have hcz25_1 := Slim.bc BK164.out 1 rfl
    have hfz25_0 := blk_frozen BK164.out 0
    have hfz25_1 := blk_frozen BK164.out 1
    have hnb26 := NB165_166.out
    have hnc26 := NB166_165.out
    have hnb27 := NB165_167.out
    have hnc27 := NB167_165.out
    have hnb28 := NB165_168.out
    have hnc28 := NB168_165.out
    have hcz29_0 := Slim.bc BK165.out 0 rfl
    have hcz29_1 := Slim.bc BK165.out 1 rfl
    have hfz29_0 := blk_frozen BK165.out 0
    have hfz29_1 := blk_frozen BK165.out 1
    go_wp2
    go_meet
    case rel => exact ⟨_, (true), (by first | rfl | (simp; done) | (simp [*]; done)), H', ⟨by first | omega | exact Nat.le_refl _⟩, ⟨by (with_reducible repeat (first | refine blk_drewN ?_ _ | refine blk_drew ?_ | refine blk_alloc ?_ _)); refine blk_far ?_ NB164_168.out _; (with_reducible repeat (first | refine blk_drewN ?_ _ | refine blk_drew ?_ | refine blk_alloc ?_ _)); refine blk_far ?_ NB164_168.out _; (with_reducible repeat (first | refine blk_drewN ?_ _ | refine blk_drew ?_ | refine blk_alloc ?_ _)); exact BK164.out⟩, ⟨by (with_reducible repeat (first | refine blk_drewN ?_ _ | refine blk_drew ?_ | refine blk_alloc ?_ _)); refine blk_far ?_ NB165_168.out _; (with_reducible repeat (first | refine blk_drewN ?_ _ | refine blk_drew ?_ | refine blk_alloc ?_ _)); refine blk_far ?_ NB165_168.out _; (with_reducible repeat (first | refine blk_drewN ?_ _ | refine blk_drew ?_ | refine blk_alloc ?_ _)); exact BK165.out⟩, ⟨by (with_reducible repeat (first | refine blk_drewN ?_ _ | refine blk_drew ?_ | refine blk_alloc ?_ _)); refine blk_far ?_ NB166_168.out _; (with_reducible repeat (first | refine blk_drewN ?_ _ | refine blk_drew ?_ | refine blk_alloc ?_ _)); refine blk_far ?_ NB166_168.out _; (with_reducible repeat (first | refine blk_drewN ?_ _ | refine blk_drew ?_ | refine blk_alloc ?_ _)); exact BK166.out⟩, ⟨by (with_reducible repeat (first | refine blk_drewN ?_ _ | refine blk_drew ?_ | refine blk_alloc ?_ _)); refine blk_far ?_ NB167_168.out _; (with_reducible repeat (first | refine blk_drewN ?_ _ | refine blk_drew ?_ | refine blk_alloc ?_ _)); refine blk_far ?_ NB167_168.out _; (with_reducible repeat (first | refine blk_drewN ?_ _ | refine blk_drew ?_ | refine blk_alloc ?_ _)); exact BK167.out⟩, ⟨by (with_reducible repeat (first | refine blk_drewN ?_ _ | refine blk_drew ?_ | refine blk_alloc ?_ _)); refine blk_put (cs := #[.int .u64 1, .int .u64 0]) ?_ 1 _ rfl; (with_reducible repeat (first | refine blk_drewN ?_ _ | refine blk_drew ?_ | refine blk_alloc ?_ _)); refine blk_put (cs := #[.int .u64 0, .int .u64 0]) ?_ 0 _ rfl; (with_reducible repeat (first | refine blk_drewN ?_ _ | refine blk_drew ?_ | refine blk_alloc ?_ _)); exact BK168.out⟩, ⟨Slim.vB⟩⟩
   ·rw [if_neg c20] at H
    have c20b0 : decide (a1_1 < a2_0) = false := decide_eq_false c20
    clear c20
    have H' := Aside0.mk H
    clear H
    have hnb30 := NB164_165.out
    have hnc30 := NB165_164.out
    have hnb31 := NB164_166.out
    have hnc31 := NB166_164.out
    have hnb32 := NB164_167.out
    have hnc32 := NB167_164.out
    have hnb33 := NB164_168.out
    have hnc33 := NB168_164.out
    have hcz34_0 := Slim.bc BK164.out 0 rfl
    have hcz34_1 := Slim.bc BK164.out 1 rfl
    have hfz34_0 := blk_frozen BK164.out 0
    have hfz34_1 := blk_frozen BK164.out 1
    have hnb35 := NB165_166.out
    have hnc35 := NB166_165.out
    have hnb36 := NB165_167.out
    have hnc36 := NB167_165.out
    have hnb37 := NB165_168.out
    have hnc37 := NB168_165.out
    have hcz38_0 := Slim.bc BK165.out 0 rfl
    have hcz38_1 := Slim.bc BK165.out 1 rfl
    have hfz38_0 := blk_frozen BK165.out 0
    have hfz38_1 := blk_frozen BK165.out 1
    go_wp2
    go_meet
    case rel => exact ⟨_, (decide (a2_1 < a1_0)), (by first | rfl | (simp; done) | (simp [*]; done)), H', ⟨by first | omega | exact Nat.le_refl _⟩, ⟨by (with_reducible repeat (first | refine blk_drewN ?_ _ | refine blk_drew ?_ | refine blk_alloc ?_ _)); refine blk_far ?_ NB164_168.out _; (with_reducible repeat (first | refine blk_drewN ?_ _ | refine blk_drew ?_ | refine blk_alloc ?_ _)); refine blk_far ?_ NB164_168.out _; (with_reducible repeat (first | refine blk_drewN ?_ _ | refine blk_drew ?_ | refine blk_alloc ?_ _)); exact BK164.out⟩, ⟨by (with_reducible repeat (first | refine blk_drewN ?_ _ | refine blk_drew ?_ | refine blk_alloc ?_ _)); refine blk_far ?_ NB165_168.out _; (with_reducible repeat (first | refine blk_drewN ?_ _ | refine blk_drew ?_ | refine blk_alloc ?_ _)); refine blk_far ?_ NB165_168.out _; (with_reducible repeat (first | refine blk_drewN ?_ _ | refine blk_drew ?_ | refine blk_alloc ?_ _)); exact BK165.out⟩, ⟨by (with_reducible repeat (first | refine blk_drewN ?_ _ | refine blk_drew ?_ | refine blk_alloc ?_ _)); refine blk_far ?_ NB166_168.out _; (with_reducible repeat (first | refine blk_drewN ?_ _ | refine blk_drew ?_ | refine blk_alloc ?_ _)); refine blk_far ?_ NB166_168.out _; (with_reducible repeat (first | refine blk_drewN ?_ _ | refine blk_drew ?_ | refine blk_alloc ?_ _)); exact BK166.out⟩, ⟨by (with_reducible repeat (first | refine blk_drewN ?_ _ | refine blk_drew ?_ | refine blk_alloc ?_ _)); refine blk_far ?_ NB167_168.out _; (with_reducible repeat (first | refine blk_drewN ?_ _ | refine blk_drew ?_ | refine blk_alloc ?_ _)); refine blk_far ?_ NB167_168.out _; (with_reducible repeat (first | refine blk_drewN ?_ _ | refine blk_drew ?_ | refine blk_alloc ?_ _)); exact BK167.out⟩, ⟨by (with_reducible repeat (first | refine blk_drewN ?_ _ | refine blk_drew ?_ | refine blk_alloc ?_ _)); refine blk_put (cs := #[.int .u64 1, .int .u64 0]) ?_ 1 _ rfl; (with_reducible repeat (first | refine blk_drewN ?_ _ | refine blk_drew ?_ | refine blk_alloc ?_ _)); refine blk_put (cs := #[.int .u64 0, .int .u64 0]) ?_ 0 _ rfl; (with_reducible repeat (first | refine blk_drewN ?_ _ | refine blk_drew ?_ | refine blk_alloc ?_ _)); exact BK168.out⟩, ⟨Slim.vB⟩⟩
  ·rw [if_neg c19] at H
   have c19b0 : (a0 == 14) = false := beq_eq_false_iff_ne.mpr c19
   have c19b1 : (a0 != 14) = true := bne_iff_ne.mpr c19
   (first | rw [c19b0] | (simp only [i64_w, i32_w]; rw [c19b0]) | skip)
   have H' := Aside0.mk H
   clear H
   go_wp2
   go_meet
   case rel => exact ⟨_, (false), (by first | rfl | (simp; done) | (simp [*]; done)), H', ⟨by first | omega | exact Nat.le_refl _⟩, ⟨by (with_reducible repeat (first | refine blk_drewN ?_ _ | refine blk_drew ?_ | refine blk_alloc ?_ _)); refine blk_far ?_ NB164_168.out _; (with_reducible repeat (first | refine blk_drewN ?_ _ | refine blk_drew ?_ | refine blk_alloc ?_ _)); refine blk_far ?_ NB164_168.out _; (with_reducible repeat (first | refine blk_drewN ?_ _ | refine blk_drew ?_ | refine blk_alloc ?_ _)); exact BK164.out⟩, ⟨by (with_reducible repeat (first | refine blk_drewN ?_ _ | refine blk_drew ?_ | refine blk_alloc ?_ _)); refine blk_far ?_ NB165_168.out _; (with_reducible repeat (first | refine blk_drewN ?_ _ | refine blk_drew ?_ | refine blk_alloc ?_ _)); refine blk_far ?_ NB165_168.out _; (with_reducible repeat (first | refine blk_drewN ?_ _ | refine blk_drew ?_ | refine blk_alloc ?_ _)); exact BK165.out⟩, ⟨by (with_reducible repeat (first | refine blk_drewN ?_ _ | refine blk_drew ?_ | refine blk_alloc ?_ _)); refine blk_far ?_ NB166_168.out _; (with_reducible repeat (first | refine blk_drewN ?_ _ | refine blk_drew ?_ | refine blk_alloc ?_ _)); refine blk_far ?_ NB166_168.out _; (with_reducible repeat (first | refine blk_drewN ?_ _ | refine blk_drew ?_ | refine blk_alloc ?_ _)); exact BK166.out⟩, ⟨by (with_reducible repeat (first | refine blk_drewN ?_ _ | refine blk_drew ?_ | refine blk_alloc ?_ _)); refine blk_far ?_ NB167_168.out _; (with_reducible repeat (first | refine blk_drewN ?_ _ | refine blk_drew ?_ | refine blk_alloc ?_ _)); refine blk_far ?_ NB167_168.out _; (with_reducible repeat (first | refine blk_drewN ?_ _ | refine blk_drew ?_ | refine blk_alloc ?_ _)); exact BK167.out⟩, ⟨by (with_reducible repeat (first | refine blk_drewN ?_ _ | refine blk_drew ?_ | refine blk_alloc ?_ _)); refine blk_put (cs := #[.int .u64 1, .int .u64 0]) ?_ 1 _ rfl; (with_reducible repeat (first | refine blk_drewN ?_ _ | refine blk_drew ?_ | refine blk_alloc ?_ _)); refine blk_put (cs := #[.int .u64 0, .int .u64 0]) ?_ 0 _ rfl; (with_reducible repeat (first | refine blk_drewN ?_ _ | refine blk_drew ?_ | refine blk_alloc ?_ _)); exact BK168.out⟩, ⟨Slim.vB⟩⟩
 case rest =>
  clear HC4
  try clear c1
  try clear c2
  try clear p2
  try clear c3
  try clear c9
  try clear c10
  try clear c11
  try clear c14
  try clear c15
  try clear c16
  try clear c17
  try clear c19
  try clear c19b0
  try clear c19b1
  try clear c20
  try clear c20b0
  try clear c21
  try clear c22
  try clear c23
  try clear c24
  try clear c26
  try clear c27
  try clear c28
  try clear c30
  try clear c31
  try clear c32
  try clear c33
  try clear c35
  try clear c36
  try clear c37
  try clear hcz12_0
  try clear hcz12_1
  try clear hcz18_0
  try clear hcz18_1
  try clear hcz25_0
  try clear hcz25_1
  try clear hcz29_0
  try clear hcz29_1
  try clear hcz34_0
  try clear hcz34_1
  try clear hcz38_0
  try clear hcz38_1
  try clear hfz12_0
  try clear hfz12_1
  try clear hfz18_0
  try clear hfz18_1
  try clear hfz25_0
  try clear hfz25_1
  try clear hfz29_0
  try clear hfz29_1
  try clear hfz34_0
  try clear hfz34_1
  try clear hfz38_0
  try clear hfz38_1
  obtain ⟨kq, x11_3, rfl, HA, HJ3, BK164, BK165, BK166, BK167, BK168, HB⟩ := hcut
  cases kq with
  | zero => exact absurd HA.out (by simp [spec_l18Ask.j0])
  | succ kj3 =>
   have H := HA.out
   clear HA
   simp only [spec_l18Ask.j0] at H
   by_cases c39 : x11_3 = true
   ·subst c39
    have H1 : (some (0, 0)) = some (r1, r2) := by rw [if_pos rfl] at H; exact H
    clear H
    have H := H1
    clear H1
    simp only [Option.some.injEq, Prod.mk.injEq] at H
    obtain ⟨rfl, rfl⟩ := H
    have hnb40 := NB167_164.out
    have hnc40 := NB164_167.out
    have hnb41 := NB167_165.out
    have hnc41 := NB165_167.out
    have hnb42 := NB167_166.out
    have hnc42 := NB166_167.out
    have hnb43 := NB167_168.out
    have hnc43 := NB168_167.out
    have hcz44_0 := Slim.bc BK167.out 0 rfl
    have hcz44_1 := Slim.bc BK167.out 1 rfl
    have hfz44_0 := blk_frozen BK167.out 0
    have hfz44_1 := blk_frozen BK167.out 1
    have hnb45 := NB166_164.out
    have hnc45 := NB164_166.out
    have hnb46 := NB166_165.out
    have hnc46 := NB165_166.out
    have hnb47 := NB166_168.out
    have hnc47 := NB168_166.out
    have hcz48_0 := Slim.bc BK166.out 0 rfl
    have hcz48_1 := Slim.bc BK166.out 1 rfl
    have hfz48_0 := blk_frozen BK166.out 0
    have hfz48_1 := blk_frozen BK166.out 1
    go_wp2
    refine bodyPost_ret (results_cell_row rfl _ _ gb166 26 #[.int .u64 0, .int .u64 0] (0, 0) _ rfl (by (with_reducible repeat (first | refine blk_drewN ?_ _ | refine blk_drew ?_ | refine blk_alloc ?_ _)); refine blk_put (cs := #[.int .u64 0, .int .u64 0]) ?_ 1 _ rfl; (with_reducible repeat (first | refine blk_drewN ?_ _ | refine blk_drew ?_ | refine blk_alloc ?_ _)); refine blk_put (cs := #[.int .u64 0, .int .u64 0]) ?_ 0 _ rfl; (with_reducible repeat (first | refine blk_drewN ?_ _ | refine blk_drew ?_ | refine blk_alloc ?_ _)); exact BK166.out) Try.underlying26 rfl (by kernel_rfl)) rfl ?_
    exact ⟨Slim.vE, Slim.vB⟩
   ·replace c39 := Bool.eq_false_iff.mpr c39
    subst c39
    have H1 : (if a0 = 14 then (if a1_0 = a1_1 then (spec_l18Ask.j1 kj3 a0 (a1_0 == a2_0 && (a1_1 == a2_1)) a1_0 a1_1 a2_0 a2_1 0 0 1 1) else (spec_l18Ask.j1 kj3 a0 false a1_0 a1_1 a2_0 a2_1 0 0 1 1)) else (spec_l18Ask.j1 kj3 a0 false a1_0 a1_1 a2_0 a2_1 0 0 1 1)) = some (r1, r2) := by rw [if_neg (show ¬ (false = true) by decide)] at H; exact H
    clear H
    have H := H1
    clear H1
    have HC49 := Aside0.mk H
    clear H
    go_upto_region 5 with (fail)
    go_cut [29] (fun v29 wc => ∃ (kq : Nat) (x29_48 : Bool), v29 = .bool x29_48 ∧ Aside0 (spec_l18Ask.j1 kq a0 x29_48 a1_0 a1_1 a2_0 a2_1 0 0 1 1 = some (r1, r2)) ∧ Aside0 (kq ≤ kj3) ∧ Aside0 (wc.heap[gb164]? = some (.cells #[.int .u64 a1_0, .int .u64 a1_1] 26 (0, 0))) ∧ Aside0 (wc.heap[gb165]? = some (.cells #[.int .u64 a2_0, .int .u64 a2_1] 26 (0, 0))) ∧ Aside0 (wc.heap[gb166]? = some (.cells #[.int .u64 0, .int .u64 0] 26 (0, 0))) ∧ Aside0 (wc.heap[gb167]? = some (.cells #[.int .u64 0, .int .u64 0] 26 (0, 0))) ∧ Aside0 (wc.heap[gb168]? = some (.cells #[.int .u64 1, .int .u64 1] 26 (0, 0))) ∧ Aside0 (Below w.heap.size w wc))
    case first =>
     have H := HC49.out
     clear HC49
     by_cases c50 : a0 = 14
     ·rw [if_pos c50] at H
      have c50b0 : (a0 == 14) = true := beq_iff_eq.mpr c50
      have c50b1 : (a0 != 14) = false := bne_eq_false_iff_eq.mpr c50
      clear c50
      (first | rw [c50b0] | (simp only [i64_w, i32_w]; rw [c50b0]) | skip)
      by_cases c51 : a1_0 = a1_1
      ·rw [if_pos c51] at H
       have c51b0 : (a1_0 == a1_1) = true := beq_iff_eq.mpr c51
       have c51b1 : (a1_0 != a1_1) = false := bne_eq_false_iff_eq.mpr c51
       clear c51
       have H' := Aside0.mk H
       clear H
       have hnb52 := NB164_165.out
       have hnc52 := NB165_164.out
       have hnb53 := NB164_166.out
       have hnc53 := NB166_164.out
       have hnb54 := NB164_167.out
       have hnc54 := NB167_164.out
       have hnb55 := NB164_168.out
       have hnc55 := NB168_164.out
       have hcz56_0 := Slim.bc BK164.out 0 rfl
       have hcz56_1 := Slim.bc BK164.out 1 rfl
       have hfz56_0 := blk_frozen BK164.out 0
       have hfz56_1 := blk_frozen BK164.out 1
       have hnb57 := NB165_166.out
       have hnc57 := NB166_165.out
       have hnb58 := NB165_167.out
       have hnc58 := NB167_165.out
       have hnb59 := NB165_168.out
       have hnc59 := NB168_165.out
       have hcz60_0 := Slim.bc BK165.out 0 rfl
       have hcz60_1 := Slim.bc BK165.out 1 rfl
       have hfz60_0 := blk_frozen BK165.out 0
       have hfz60_1 := blk_frozen BK165.out 1
       go_wp2
       go_meet
       case rel => exact ⟨_, ((a1_0 == a2_0 && (a1_1 == a2_1))), (by first | rfl | (simp; done) | (simp [*]; done)), H', ⟨by have := HJ3.out; first | omega | exact Nat.le_refl _⟩, ⟨by (with_reducible repeat (first | refine blk_drewN ?_ _ | refine blk_drew ?_ | refine blk_alloc ?_ _)); exact BK164.out⟩, ⟨by (with_reducible repeat (first | refine blk_drewN ?_ _ | refine blk_drew ?_ | refine blk_alloc ?_ _)); exact BK165.out⟩, ⟨by (with_reducible repeat (first | refine blk_drewN ?_ _ | refine blk_drew ?_ | refine blk_alloc ?_ _)); exact BK166.out⟩, ⟨by (with_reducible repeat (first | refine blk_drewN ?_ _ | refine blk_drew ?_ | refine blk_alloc ?_ _)); exact BK167.out⟩, ⟨by (with_reducible repeat (first | refine blk_drewN ?_ _ | refine blk_drew ?_ | refine blk_alloc ?_ _)); exact BK168.out⟩, ⟨Slim.vB⟩⟩
      ·rw [if_neg c51] at H
       have c51b0 : (a1_0 == a1_1) = false := beq_eq_false_iff_ne.mpr c51
       have c51b1 : (a1_0 != a1_1) = true := bne_iff_ne.mpr c51
       have H' := Aside0.mk H
       clear H
       have hnb61 := NB164_165.out
       have hnc61 := NB165_164.out
       have hnb62 := NB164_166.out
       have hnc62 := NB166_164.out
       have hnb63 := NB164_167.out
       have hnc63 := NB167_164.out
       have hnb64 := NB164_168.out
       have hnc64 := NB168_164.out
       have hcz65_0 := Slim.bc BK164.out 0 rfl
       have hcz65_1 := Slim.bc BK164.out 1 rfl
       have hfz65_0 := blk_frozen BK164.out 0
       have hfz65_1 := blk_frozen BK164.out 1
       go_wp2
       go_meet
       case rel => exact ⟨_, (false), (by first | rfl | (simp; done) | (simp [*]; done)), H', ⟨by have := HJ3.out; first | omega | exact Nat.le_refl _⟩, ⟨by (with_reducible repeat (first | refine blk_drewN ?_ _ | refine blk_drew ?_ | refine blk_alloc ?_ _)); exact BK164.out⟩, ⟨by (with_reducible repeat (first | refine blk_drewN ?_ _ | refine blk_drew ?_ | refine blk_alloc ?_ _)); exact BK165.out⟩, ⟨by (with_reducible repeat (first | refine blk_drewN ?_ _ | refine blk_drew ?_ | refine blk_alloc ?_ _)); exact BK166.out⟩, ⟨by (with_reducible repeat (first | refine blk_drewN ?_ _ | refine blk_drew ?_ | refine blk_alloc ?_ _)); exact BK167.out⟩, ⟨by (with_reducible repeat (first | refine blk_drewN ?_ _ | refine blk_drew ?_ | refine blk_alloc ?_ _)); exact BK168.out⟩, ⟨Slim.vB⟩⟩
     ·rw [if_neg c50] at H
      have c50b0 : (a0 == 14) = false := beq_eq_false_iff_ne.mpr c50
      have c50b1 : (a0 != 14) = true := bne_iff_ne.mpr c50
      (first | rw [c50b0] | (simp only [i64_w, i32_w]; rw [c50b0]) | skip)
      have H' := Aside0.mk H
      clear H
      go_wp2
      go_meet
      case rel => exact ⟨_, (false), (by first | rfl | (simp; done) | (simp [*]; done)), H', ⟨by have := HJ3.out; first | omega | exact Nat.le_refl _⟩, ⟨by (with_reducible repeat (first | refine blk_drewN ?_ _ | refine blk_drew ?_ | refine blk_alloc ?_ _)); exact BK164.out⟩, ⟨by (with_reducible repeat (first | refine blk_drewN ?_ _ | refine blk_drew ?_ | refine blk_alloc ?_ _)); exact BK165.out⟩, ⟨by (with_reducible repeat (first | refine blk_drewN ?_ _ | refine blk_drew ?_ | refine blk_alloc ?_ _)); exact BK166.out⟩, ⟨by (with_reducible repeat (first | refine blk_drewN ?_ _ | refine blk_drew ?_ | refine blk_alloc ?_ _)); exact BK167.out⟩, ⟨by (with_reducible repeat (first | refine blk_drewN ?_ _ | refine blk_drew ?_ | refine blk_alloc ?_ _)); exact BK168.out⟩, ⟨Slim.vB⟩⟩
    case rest =>
     clear HC49
     try clear c1
     try clear c2
     try clear p2
     try clear c3
     try clear c4
     try clear c5
     try clear c6
     try clear c9
     try clear c10
     try clear c11
     try clear c14
     try clear c15
     try clear c16
     try clear c17
     try clear c19
     try clear c19b0
     try clear c19b1
     try clear c20
     try clear c20b0
     try clear c21
     try clear c22
     try clear c23
     try clear c24
     try clear c26
     try clear c27
     try clear c28
     try clear c30
     try clear c31
     try clear c32
     try clear c33
     try clear c35
     try clear c36
     try clear c37
     try clear c39
     try clear c40
     try clear c41
     try clear c42
     try clear c43
     try clear c45
     try clear c46
     try clear c47
     try clear c50
     try clear c50b0
     try clear c50b1
     try clear c51
     try clear c51b0
     try clear c51b1
     try clear c52
     try clear c53
     try clear c54
     try clear c55
     try clear c57
     try clear c58
     try clear c59
     try clear c61
     try clear c62
     try clear c63
     try clear c64
     try clear hcz12_0
     try clear hcz12_1
     try clear hcz18_0
     try clear hcz18_1
     try clear hcz25_0
     try clear hcz25_1
     try clear hcz29_0
     try clear hcz29_1
     try clear hcz34_0
     try clear hcz34_1
     try clear hcz38_0
     try clear hcz38_1
     try clear hcz44_0
     try clear hcz44_1
     try clear hcz48_0
     try clear hcz48_1
     try clear hcz56_0
     try clear hcz56_1
     try clear hcz60_0
     try clear hcz60_1
     try clear hcz65_0
     try clear hcz65_1
     try clear hfz12_0
     try clear hfz12_1
     try clear hfz18_0
     try clear hfz18_1
     try clear hfz25_0
     try clear hfz25_1
     try clear hfz29_0
     try clear hfz29_1
     try clear hfz34_0
     try clear hfz34_1
     try clear hfz38_0
     try clear hfz38_1
     try clear hfz44_0
     try clear hfz44_1
     try clear hfz48_0
     try clear hfz48_1
     try clear hfz56_0
     try clear hfz56_1
     try clear hfz60_0
     try clear hfz60_1
     try clear hfz65_0
     try clear hfz65_1
     try clear p2
     obtain ⟨kq, x29_48, rfl, HA, HJ48, BK164, BK165, BK166, BK167, BK168, HB⟩ := hcut
     cases kq with
     | zero => exact absurd HA.out (by simp [spec_l18Ask.j1])
     | succ kj48 =>
      have H := HA.out
      clear HA
      simp only [spec_l18Ask.j1] at H
      by_cases c66 : x29_48 = true
      ·subst c66
       have H1 : (some (1, 1)) = some (r1, r2) := by rw [if_pos rfl] at H; exact H
       clear H
       have H := H1
       clear H1
       simp only [Option.some.injEq, Prod.mk.injEq] at H
       obtain ⟨rfl, rfl⟩ := H
       have hnb67 := NB168_164.out
       have hnc67 := NB164_168.out
       have hnb68 := NB168_165.out
       have hnc68 := NB165_168.out
       have hnb69 := NB168_166.out
       have hnc69 := NB166_168.out
       have hnb70 := NB168_167.out
       have hnc70 := NB167_168.out
       have hcz71_0 := Slim.bc BK168.out 0 rfl
       have hcz71_1 := Slim.bc BK168.out 1 rfl
       have hfz71_0 := blk_frozen BK168.out 0
       have hfz71_1 := blk_frozen BK168.out 1
       have hnb72 := NB166_164.out
       have hnc72 := NB164_166.out
       have hnb73 := NB166_165.out
       have hnc73 := NB165_166.out
       have hnb74 := NB166_167.out
       have hnc74 := NB167_166.out
       have hcz75_0 := Slim.bc BK166.out 0 rfl
       have hcz75_1 := Slim.bc BK166.out 1 rfl
       have hfz75_0 := blk_frozen BK166.out 0
       have hfz75_1 := blk_frozen BK166.out 1
       go_wp2
       refine bodyPost_ret (results_cell_row rfl _ _ gb166 26 #[.int .u64 1, .int .u64 1] (0, 0) _ rfl (by (with_reducible repeat (first | refine blk_drewN ?_ _ | refine blk_drew ?_ | refine blk_alloc ?_ _)); refine blk_put (cs := #[.int .u64 1, .int .u64 0]) ?_ 1 _ rfl; (with_reducible repeat (first | refine blk_drewN ?_ _ | refine blk_drew ?_ | refine blk_alloc ?_ _)); refine blk_put (cs := #[.int .u64 0, .int .u64 0]) ?_ 0 _ rfl; (with_reducible repeat (first | refine blk_drewN ?_ _ | refine blk_drew ?_ | refine blk_alloc ?_ _)); exact BK166.out) Try.underlying26 rfl (by kernel_rfl)) rfl ?_
       exact ⟨Slim.vE, Slim.vB⟩
      ·replace c66 := Bool.eq_false_iff.mpr c66
       subst c66
       have H1 : (if a0 = 15 then (spec_l18Ask.j2 kj48 a0 (decide (a1_1 < a2_0)) a1_0 a1_1 a2_0 a2_1 0 0 1 1) else (spec_l18Ask.j2 kj48 a0 false a1_0 a1_1 a2_0 a2_1 0 0 1 1)) = some (r1, r2) := by rw [if_neg (show ¬ (false = true) by decide)] at H; exact H
       clear H
       have H := H1
       clear H1
       have HC76 := Aside0.mk H
       clear H
       go_upto_region 7 with (fail)
       go_cut [45] (fun v45 wc => ∃ (kq : Nat) (x45_75 : Bool), v45 = .bool x45_75 ∧ Aside0 (spec_l18Ask.j2 kq a0 x45_75 a1_0 a1_1 a2_0 a2_1 0 0 1 1 = some (r1, r2)) ∧ Aside0 (kq ≤ kj48) ∧ Aside0 (wc.heap[gb164]? = some (.cells #[.int .u64 a1_0, .int .u64 a1_1] 26 (0, 0))) ∧ Aside0 (wc.heap[gb165]? = some (.cells #[.int .u64 a2_0, .int .u64 a2_1] 26 (0, 0))) ∧ Aside0 (wc.heap[gb166]? = some (.cells #[.int .u64 0, .int .u64 0] 26 (0, 0))) ∧ Aside0 (wc.heap[gb167]? = some (.cells #[.int .u64 0, .int .u64 0] 26 (0, 0))) ∧ Aside0 (wc.heap[gb168]? = some (.cells #[.int .u64 1, .int .u64 1] 26 (0, 0))) ∧ Aside0 (Below w.heap.size w wc))
       case first =>
        have H := HC76.out
        clear HC76
        by_cases c77 : a0 = 15
        ·rw [if_pos c77] at H
         have c77b0 : (a0 == 15) = true := beq_iff_eq.mpr c77
         have c77b1 : (a0 != 15) = false := bne_eq_false_iff_eq.mpr c77
         clear c77
         (first | rw [c77b0] | (simp only [i64_w, i32_w]; rw [c77b0]) | skip)
         have H' := Aside0.mk H
         clear H
         have hnb78 := NB164_165.out
         have hnc78 := NB165_164.out
         have hnb79 := NB164_166.out
         have hnc79 := NB166_164.out
         have hnb80 := NB164_167.out
         have hnc80 := NB167_164.out
         have hnb81 := NB164_168.out
         have hnc81 := NB168_164.out
         have hcz82_0 := Slim.bc BK164.out 0 rfl
         have hcz82_1 := Slim.bc BK164.out 1 rfl
         have hfz82_0 := blk_frozen BK164.out 0
         have hfz82_1 := blk_frozen BK164.out 1
         have hnb83 := NB165_166.out
         have hnc83 := NB166_165.out
         have hnb84 := NB165_167.out
         have hnc84 := NB167_165.out
         have hnb85 := NB165_168.out
         have hnc85 := NB168_165.out
         have hcz86_0 := Slim.bc BK165.out 0 rfl
         have hcz86_1 := Slim.bc BK165.out 1 rfl
         have hfz86_0 := blk_frozen BK165.out 0
         have hfz86_1 := blk_frozen BK165.out 1
         go_wp2
         go_meet
         case rel => exact ⟨_, (decide (a1_1 < a2_0)), (by first | rfl | (simp; done) | (simp [*]; done)), H', ⟨by have := HJ3.out; have := HJ48.out; first | omega | exact Nat.le_refl _⟩, ⟨by (with_reducible repeat (first | refine blk_drewN ?_ _ | refine blk_drew ?_ | refine blk_alloc ?_ _)); exact BK164.out⟩, ⟨by (with_reducible repeat (first | refine blk_drewN ?_ _ | refine blk_drew ?_ | refine blk_alloc ?_ _)); exact BK165.out⟩, ⟨by (with_reducible repeat (first | refine blk_drewN ?_ _ | refine blk_drew ?_ | refine blk_alloc ?_ _)); exact BK166.out⟩, ⟨by (with_reducible repeat (first | refine blk_drewN ?_ _ | refine blk_drew ?_ | refine blk_alloc ?_ _)); exact BK167.out⟩, ⟨by (with_reducible repeat (first | refine blk_drewN ?_ _ | refine blk_drew ?_ | refine blk_alloc ?_ _)); exact BK168.out⟩, ⟨Slim.vB⟩⟩
        ·rw [if_neg c77] at H
         have c77b0 : (a0 == 15) = false := beq_eq_false_iff_ne.mpr c77
         have c77b1 : (a0 != 15) = true := bne_iff_ne.mpr c77
         (first | rw [c77b0] | (simp only [i64_w, i32_w]; rw [c77b0]) | skip)
         have H' := Aside0.mk H
         clear H
         go_wp2
         go_meet
         case rel => exact ⟨_, (false), (by first | rfl | (simp; done) | (simp [*]; done)), H', ⟨by have := HJ3.out; have := HJ48.out; first | omega | exact Nat.le_refl _⟩, ⟨by (with_reducible repeat (first | refine blk_drewN ?_ _ | refine blk_drew ?_ | refine blk_alloc ?_ _)); exact BK164.out⟩, ⟨by (with_reducible repeat (first | refine blk_drewN ?_ _ | refine blk_drew ?_ | refine blk_alloc ?_ _)); exact BK165.out⟩, ⟨by (with_reducible repeat (first | refine blk_drewN ?_ _ | refine blk_drew ?_ | refine blk_alloc ?_ _)); exact BK166.out⟩, ⟨by (with_reducible repeat (first | refine blk_drewN ?_ _ | refine blk_drew ?_ | refine blk_alloc ?_ _)); exact BK167.out⟩, ⟨by (with_reducible repeat (first | refine blk_drewN ?_ _ | refine blk_drew ?_ | refine blk_alloc ?_ _)); exact BK168.out⟩, ⟨Slim.vB⟩⟩
       case rest =>
        clear HC76
        try clear c1
        try clear c2
        try clear p2
        try clear c3
        try clear c4
        try clear c5
        try clear c6
        try clear c7
        try clear c8
        try clear c9
        try clear c10
        try clear c11
        try clear c14
        try clear c15
        try clear c16
        try clear c17
        try clear c19
        try clear c19b0
        try clear c19b1
        try clear c20
        try clear c20b0
        try clear c21
        try clear c22
        try clear c23
        try clear c24
        try clear c26
        try clear c27
        try clear c28
        try clear c30
        try clear c31
        try clear c32
        try clear c33
        try clear c35
        try clear c36
        try clear c37
        try clear c39
        try clear c40
        try clear c41
        try clear c42
        try clear c43
        try clear c45
        try clear c46
        try clear c47
        try clear c50
        try clear c50b0
        try clear c50b1
        try clear c51
        try clear c51b0
        try clear c51b1
        try clear c52
        try clear c53
        try clear c54
        try clear c55
        try clear c57
        try clear c58
        try clear c59
        try clear c61
        try clear c62
        try clear c63
        try clear c64
        try clear c66
        try clear c67
        try clear c68
        try clear c69
        try clear c70
        try clear c72
        try clear c73
        try clear c74
        try clear c77
        try clear c77b0
        try clear c77b1
        try clear c78
        try clear c79
        try clear c80
        try clear c81
        try clear c83
        try clear c84
        try clear c85
        try clear hcz12_0
        try clear hcz12_1
        try clear hcz18_0
        try clear hcz18_1
        try clear hcz25_0
        try clear hcz25_1
        try clear hcz29_0
        try clear hcz29_1
        try clear hcz34_0
        try clear hcz34_1
        try clear hcz38_0
        try clear hcz38_1
        try clear hcz44_0
        try clear hcz44_1
        try clear hcz48_0
        try clear hcz48_1
        try clear hcz56_0
        try clear hcz56_1
        try clear hcz60_0
        try clear hcz60_1
        try clear hcz65_0
        try clear hcz65_1
        try clear hcz71_0
        try clear hcz71_1
        try clear hcz75_0
        try clear hcz75_1
        try clear hcz82_0
        try clear hcz82_1
        try clear hcz86_0
        try clear hcz86_1
        try clear hfz12_0
        try clear hfz12_1
        try clear hfz18_0
        try clear hfz18_1
        try clear hfz25_0
        try clear hfz25_1
        try clear hfz29_0
        try clear hfz29_1
        try clear hfz34_0
        try clear hfz34_1
        try clear hfz38_0
        try clear hfz38_1
        try clear hfz44_0
        try clear hfz44_1
        try clear hfz48_0
        try clear hfz48_1
        try clear hfz56_0
        try clear hfz56_1
        try clear hfz60_0
        try clear hfz60_1
        try clear hfz65_0
        try clear hfz65_1
        try clear hfz71_0
        try clear hfz71_1
        try clear hfz75_0
        try clear hfz75_1
        try clear hfz82_0
        try clear hfz82_1
        try clear hfz86_0
        try clear hfz86_1
        try clear p2
        obtain ⟨kq, x45_75, rfl, HA, HJ75, BK164, BK165, BK166, BK167, BK168, HB⟩ := hcut
        cases kq with
        | zero => exact absurd HA.out (by simp [spec_l18Ask.j2])
        | succ kj75 =>
         have H := HA.out
         clear HA
         simp only [spec_l18Ask.j2] at H
         by_cases c87 : x45_75 = true
         ·subst c87
          have H1 : (some (1, 1)) = some (r1, r2) := by rw [if_pos rfl] at H; exact H
          clear H
          have H := H1
          clear H1
          simp only [Option.some.injEq, Prod.mk.injEq] at H
          obtain ⟨rfl, rfl⟩ := H
          have hnb88 := NB168_164.out
          have hnc88 := NB164_168.out
          have hnb89 := NB168_165.out
          have hnc89 := NB165_168.out
          have hnb90 := NB168_166.out
          have hnc90 := NB166_168.out
          have hnb91 := NB168_167.out
          have hnc91 := NB167_168.out
          have hcz92_0 := Slim.bc BK168.out 0 rfl
          have hcz92_1 := Slim.bc BK168.out 1 rfl
          have hfz92_0 := blk_frozen BK168.out 0
          have hfz92_1 := blk_frozen BK168.out 1
          have hnb93 := NB166_164.out
          have hnc93 := NB164_166.out
          have hnb94 := NB166_165.out
          have hnc94 := NB165_166.out
          have hnb95 := NB166_167.out
          have hnc95 := NB167_166.out
          have hcz96_0 := Slim.bc BK166.out 0 rfl
          have hcz96_1 := Slim.bc BK166.out 1 rfl
          have hfz96_0 := blk_frozen BK166.out 0
          have hfz96_1 := blk_frozen BK166.out 1
          go_wp2
          refine bodyPost_ret (results_cell_row rfl _ _ gb166 26 #[.int .u64 1, .int .u64 1] (0, 0) _ rfl (by (with_reducible repeat (first | refine blk_drewN ?_ _ | refine blk_drew ?_ | refine blk_alloc ?_ _)); refine blk_put (cs := #[.int .u64 1, .int .u64 0]) ?_ 1 _ rfl; (with_reducible repeat (first | refine blk_drewN ?_ _ | refine blk_drew ?_ | refine blk_alloc ?_ _)); refine blk_put (cs := #[.int .u64 0, .int .u64 0]) ?_ 0 _ rfl; (with_reducible repeat (first | refine blk_drewN ?_ _ | refine blk_drew ?_ | refine blk_alloc ?_ _)); exact BK166.out) Try.underlying26 rfl (by kernel_rfl)) rfl ?_
          exact ⟨Slim.vE, Slim.vB⟩
         ·replace c87 := Bool.eq_false_iff.mpr c87
          subst c87
          have H1 : (if a0 = 15 then (spec_l18Ask.j3 kj75 a0 (decide (a1_0 ≥ a2_1)) a1_0 a1_1 a2_0 a2_1 0 0) else (spec_l18Ask.j3 kj75 a0 false a1_0 a1_1 a2_0 a2_1 0 0)) = some (r1, r2) := by rw [if_neg (show ¬ (false = true) by decide)] at H; exact H
          clear H
          have H := H1
          clear H1
          have HC97 := Aside0.mk H
          clear H
          go_upto_region 9 with (fail)
          go_cut [56] (fun v56 wc => ∃ (kq : Nat) (x56_96 : Bool), v56 = .bool x56_96 ∧ Aside0 (spec_l18Ask.j3 kq a0 x56_96 a1_0 a1_1 a2_0 a2_1 0 0 = some (r1, r2)) ∧ Aside0 (kq ≤ kj75) ∧ Aside0 (wc.heap[gb164]? = some (.cells #[.int .u64 a1_0, .int .u64 a1_1] 26 (0, 0))) ∧ Aside0 (wc.heap[gb165]? = some (.cells #[.int .u64 a2_0, .int .u64 a2_1] 26 (0, 0))) ∧ Aside0 (wc.heap[gb166]? = some (.cells #[.int .u64 0, .int .u64 0] 26 (0, 0))) ∧ Aside0 (wc.heap[gb167]? = some (.cells #[.int .u64 0, .int .u64 0] 26 (0, 0))) ∧ Aside0 (wc.heap[gb168]? = some (.cells #[.int .u64 1, .int .u64 1] 26 (0, 0))) ∧ Aside0 (Below w.heap.size w wc))
          case first =>
           have H := HC97.out
           clear HC97
           by_cases c98 : a0 = 15
           ·rw [if_pos c98] at H
            have c98b0 : (a0 == 15) = true := beq_iff_eq.mpr c98
            have c98b1 : (a0 != 15) = false := bne_eq_false_iff_eq.mpr c98
            clear c98
            (first | rw [c98b0] | (simp only [i64_w, i32_w]; rw [c98b0]) | skip)
            have H' := Aside0.mk H
            clear H
            have hnb99 := NB164_165.out
            have hnc99 := NB165_164.out
            have hnb100 := NB164_166.out
            have hnc100 := NB166_164.out
            have hnb101 := NB164_167.out
            have hnc101 := NB167_164.out
            have hnb102 := NB164_168.out
            have hnc102 := NB168_164.out
            have hcz103_0 := Slim.bc BK164.out 0 rfl
            have hcz103_1 := Slim.bc BK164.out 1 rfl
            have hfz103_0 := blk_frozen BK164.out 0
            have hfz103_1 := blk_frozen BK164.out 1
            have hnb104 := NB165_166.out
            have hnc104 := NB166_165.out
            have hnb105 := NB165_167.out
            have hnc105 := NB167_165.out
            have hnb106 := NB165_168.out
            have hnc106 := NB168_165.out
            have hcz107_0 := Slim.bc BK165.out 0 rfl
            have hcz107_1 := Slim.bc BK165.out 1 rfl
            have hfz107_0 := blk_frozen BK165.out 0
            have hfz107_1 := blk_frozen BK165.out 1
            go_wp2
            go_meet
            case rel => exact ⟨_, (decide (a1_0 ≥ a2_1)), (by first | rfl | (simp; done) | (simp [*]; done)), H', ⟨by have := HJ3.out; have := HJ48.out; have := HJ75.out; first | omega | exact Nat.le_refl _⟩, ⟨by (with_reducible repeat (first | refine blk_drewN ?_ _ | refine blk_drew ?_ | refine blk_alloc ?_ _)); exact BK164.out⟩, ⟨by (with_reducible repeat (first | refine blk_drewN ?_ _ | refine blk_drew ?_ | refine blk_alloc ?_ _)); exact BK165.out⟩, ⟨by (with_reducible repeat (first | refine blk_drewN ?_ _ | refine blk_drew ?_ | refine blk_alloc ?_ _)); exact BK166.out⟩, ⟨by (with_reducible repeat (first | refine blk_drewN ?_ _ | refine blk_drew ?_ | refine blk_alloc ?_ _)); exact BK167.out⟩, ⟨by (with_reducible repeat (first | refine blk_drewN ?_ _ | refine blk_drew ?_ | refine blk_alloc ?_ _)); exact BK168.out⟩, ⟨Slim.vB⟩⟩
           ·rw [if_neg c98] at H
            have c98b0 : (a0 == 15) = false := beq_eq_false_iff_ne.mpr c98
            have c98b1 : (a0 != 15) = true := bne_iff_ne.mpr c98
            (first | rw [c98b0] | (simp only [i64_w, i32_w]; rw [c98b0]) | skip)
            have H' := Aside0.mk H
            clear H
            go_wp2
            go_meet
            case rel => exact ⟨_, (false), (by first | rfl | (simp; done) | (simp [*]; done)), H', ⟨by have := HJ3.out; have := HJ48.out; have := HJ75.out; first | omega | exact Nat.le_refl _⟩, ⟨by (with_reducible repeat (first | refine blk_drewN ?_ _ | refine blk_drew ?_ | refine blk_alloc ?_ _)); exact BK164.out⟩, ⟨by (with_reducible repeat (first | refine blk_drewN ?_ _ | refine blk_drew ?_ | refine blk_alloc ?_ _)); exact BK165.out⟩, ⟨by (with_reducible repeat (first | refine blk_drewN ?_ _ | refine blk_drew ?_ | refine blk_alloc ?_ _)); exact BK166.out⟩, ⟨by (with_reducible repeat (first | refine blk_drewN ?_ _ | refine blk_drew ?_ | refine blk_alloc ?_ _)); exact BK167.out⟩, ⟨by (with_reducible repeat (first | refine blk_drewN ?_ _ | refine blk_drew ?_ | refine blk_alloc ?_ _)); exact BK168.out⟩, ⟨Slim.vB⟩⟩
          case rest =>
           clear HC97
           try clear c1
           try clear c2
           try clear p2
           try clear c3
           try clear c4
           try clear c5
           try clear c6
           try clear c7
           try clear c8
           try clear c9
           try clear c10
           try clear c11
           try clear c14
           try clear c15
           try clear c16
           try clear c17
           try clear c19
           try clear c19b0
           try clear c19b1
           try clear c20
           try clear c20b0
           try clear c21
           try clear c22
           try clear c23
           try clear c24
           try clear c26
           try clear c27
           try clear c28
           try clear c30
           try clear c31
           try clear c32
           try clear c33
           try clear c35
           try clear c36
           try clear c37
           try clear c39
           try clear c40
           try clear c41
           try clear c42
           try clear c43
           try clear c45
           try clear c46
           try clear c47
           try clear c50
           try clear c50b0
           try clear c50b1
           try clear c51
           try clear c51b0
           try clear c51b1
           try clear c52
           try clear c53
           try clear c54
           try clear c55
           try clear c57
           try clear c58
           try clear c59
           try clear c61
           try clear c62
           try clear c63
           try clear c64
           try clear c66
           try clear c67
           try clear c68
           try clear c69
           try clear c70
           try clear c72
           try clear c73
           try clear c74
           try clear c77
           try clear c77b0
           try clear c77b1
           try clear c78
           try clear c79
           try clear c80
           try clear c81
           try clear c83
           try clear c84
           try clear c85
           try clear c87
           try clear c88
           try clear c89
           try clear c90
           try clear c91
           try clear c93
           try clear c94
           try clear c95
           try clear c98
           try clear c98b0
           try clear c98b1
           try clear c99
           try clear c100
           try clear c101
           try clear c102
           try clear c104
           try clear c105
           try clear c106
           try clear hcz103_0
           try clear hcz103_1
           try clear hcz107_0
           try clear hcz107_1
           try clear hcz12_0
           try clear hcz12_1
           try clear hcz18_0
           try clear hcz18_1
           try clear hcz25_0
           try clear hcz25_1
           try clear hcz29_0
           try clear hcz29_1
           try clear hcz34_0
           try clear hcz34_1
           try clear hcz38_0
           try clear hcz38_1
           try clear hcz44_0
           try clear hcz44_1
           try clear hcz48_0
           try clear hcz48_1
           try clear hcz56_0
           try clear hcz56_1
           try clear hcz60_0
           try clear hcz60_1
           try clear hcz65_0
           try clear hcz65_1
           try clear hcz71_0
           try clear hcz71_1
           try clear hcz75_0
           try clear hcz75_1
           try clear hcz82_0
           try clear hcz82_1
           try clear hcz86_0
           try clear hcz86_1
           try clear hcz92_0
           try clear hcz92_1
           try clear hcz96_0
           try clear hcz96_1
           try clear hfz103_0
           try clear hfz103_1
           try clear hfz107_0
           try clear hfz107_1
           try clear hfz12_0
           try clear hfz12_1
           try clear hfz18_0
           try clear hfz18_1
           try clear hfz25_0
           try clear hfz25_1
           try clear hfz29_0
           try clear hfz29_1
           try clear hfz34_0
           try clear hfz34_1
           try clear hfz38_0
           try clear hfz38_1
           try clear hfz44_0
           try clear hfz44_1
           try clear hfz48_0
           try clear hfz48_1
           try clear hfz56_0
           try clear hfz56_1
           try clear hfz60_0
           try clear hfz60_1
           try clear hfz65_0
           try clear hfz65_1
           try clear hfz71_0
           try clear hfz71_1
           try clear hfz75_0
           try clear hfz75_1
           try clear hfz82_0
           try clear hfz82_1
           try clear hfz86_0
           try clear hfz86_1
           try clear hfz92_0
           try clear hfz92_1
           try clear hfz96_0
           try clear hfz96_1
           try clear p2
           obtain ⟨kq, x56_96, rfl, HA, HJ96, BK164, BK165, BK166, BK167, BK168, HB⟩ := hcut
           cases kq with
           | zero => exact absurd HA.out (by simp [spec_l18Ask.j3])
           | succ kj96 =>
            have H := HA.out
            clear HA
            simp only [spec_l18Ask.j3] at H
            by_cases c108 : x56_96 = true
            ·subst c108
             have H1 : (some (0, 0)) = some (r1, r2) := by rw [if_pos rfl] at H; exact H
             clear H
             have H := H1
             clear H1
             simp only [Option.some.injEq, Prod.mk.injEq] at H
             obtain ⟨rfl, rfl⟩ := H
             have hnb109 := NB167_164.out
             have hnc109 := NB164_167.out
             have hnb110 := NB167_165.out
             have hnc110 := NB165_167.out
             have hnb111 := NB167_166.out
             have hnc111 := NB166_167.out
             have hnb112 := NB167_168.out
             have hnc112 := NB168_167.out
             have hcz113_0 := Slim.bc BK167.out 0 rfl
             have hcz113_1 := Slim.bc BK167.out 1 rfl
             have hfz113_0 := blk_frozen BK167.out 0
             have hfz113_1 := blk_frozen BK167.out 1
             have hnb114 := NB166_164.out
             have hnc114 := NB164_166.out
             have hnb115 := NB166_165.out
             have hnc115 := NB165_166.out
             have hnb116 := NB166_168.out
             have hnc116 := NB168_166.out
             have hcz117_0 := Slim.bc BK166.out 0 rfl
             have hcz117_1 := Slim.bc BK166.out 1 rfl
             have hfz117_0 := blk_frozen BK166.out 0
             have hfz117_1 := blk_frozen BK166.out 1
             go_wp2
             refine bodyPost_ret (results_cell_row rfl _ _ gb166 26 #[.int .u64 0, .int .u64 0] (0, 0) _ rfl (by (with_reducible repeat (first | refine blk_drewN ?_ _ | refine blk_drew ?_ | refine blk_alloc ?_ _)); refine blk_put (cs := #[.int .u64 0, .int .u64 0]) ?_ 1 _ rfl; (with_reducible repeat (first | refine blk_drewN ?_ _ | refine blk_drew ?_ | refine blk_alloc ?_ _)); refine blk_put (cs := #[.int .u64 0, .int .u64 0]) ?_ 0 _ rfl; (with_reducible repeat (first | refine blk_drewN ?_ _ | refine blk_drew ?_ | refine blk_alloc ?_ _)); exact BK166.out) Try.underlying26 rfl (by kernel_rfl)) rfl ?_
             exact ⟨Slim.vE, Slim.vB⟩
            ·replace c108 := Bool.eq_false_iff.mpr c108
             subst c108
             have H1 : (if a0 = 17 then ((spec_l18Least.f a1_0 a2_0).bind fun t169 => ((spec_l18Least.f a1_1 a2_1).bind fun t170 => (some (t169, t170)))) else (if a0 = 18 then ((spec_l18Most.f a1_0 a2_0).bind fun t171 => ((spec_l18Most.f a1_1 a2_1).bind fun t172 => (some (t171, t172)))) else (some (0, 1)))) = some (r1, r2) := by rw [if_neg (show ¬ (false = true) by decide)] at H; exact H
             clear H
             have H := H1
             clear H1
             by_cases c118 : a0 = 17
             ·rw [if_pos c118] at H
              have c118b0 : (a0 == 17) = true := beq_iff_eq.mpr c118
              have c118b1 : (a0 != 17) = false := bne_eq_false_iff_eq.mpr c118
              clear c118
              replace H := Option.bind_eq_some_iff.mp H
              obtain ⟨t169, A1190, H⟩ := H
              replace H : ((spec_l18Least.f a1_1 a2_1).bind fun t170 => (some (t169, t170))) = some (r1, r2) := H
              have A119 := Aside0.mk A1190
              clear A1190
              replace H := Option.bind_eq_some_iff.mp H
              obtain ⟨t170, A1200, H⟩ := H
              replace H : (some (t169, t170)) = some (r1, r2) := H
              have A120 := Aside0.mk A1200
              clear A1200
              simp only [Option.some.injEq, Prod.mk.injEq] at H
              obtain ⟨rfl, rfl⟩ := H
              try go_wp2
              have n0_ := Aside0.mk (blk_drew BK164.out)
              have n1_ := Aside0.mk (blk_drew BK165.out)
              have n2_ := Aside0.mk (blk_drew BK166.out)
              have n3_ := Aside0.mk (blk_drew BK167.out)
              have n4_ := Aside0.mk (blk_drew BK168.out)
              have n5_ := Aside0.mk (below_drew1 HB.out)
              clear BK164
              clear BK165
              clear BK166
              clear BK167
              clear BK168
              clear HB
              have BK164 := n0_
              have BK165 := n1_
              have BK166 := n2_
              have BK167 := n3_
              have BK168 := n4_
              have HB := n5_
              clear n0_ n1_ n2_ n3_ n4_ n5_
              refine start_ (n := 12) (S := fun w' => w'.cell? ⟨gb164, 0, none⟩ = some (.int .u64 a1_0) ∧ w'.cell? ⟨gb164, 1, none⟩ = some (.int .u64 a1_1) ∧ w'.cell? ⟨gb165, 0, none⟩ = some (.int .u64 a2_0) ∧ w'.cell? ⟨gb165, 1, none⟩ = some (.int .u64 a2_1)) (ds := []) (Slim.ba 12 0) (by kernel_rfl) rfl rfl ⟨(blk_cell BK164.out 0).trans rfl, (blk_cell BK164.out 1).trans rfl, (blk_cell BK165.out 0).trans rfl, (blk_cell BK165.out 1).trans rfl⟩ (fun hHeld => ?_); refine with_tabW spec_l18Ask.tab12 spec_l18Ask.bits12 (fun HT_ HW_ => ?_)
              generalize wc.drew = w121 at BK164 BK165 BK166 BK167 BK168 HB hHeld ⊢
              refine Slim.pure1 HT_ 0 (some 70) (Slim.ba 12 1) rfl ?_
              refine Slim.pure1 HT_ 2 (some 72) (Slim.ba 12 5) rfl ?_
              refine Slim.pure1 HT_ 5 (some 75) (Slim.ba 12 37) rfl ?_
              refine Slim.pure1 HT_ 7 (some 77) (Slim.ba 12 165) rfl ?_
              refine Slim.take1 HT_ HW_ hHeld 1 (some 71) (Slim.ba 12 167) rfl (by rintro w' ⟨s0, s1, s2, s3⟩; go_simp; with_reducible rfl) ?_
              refine Slim.take1 HT_ HW_ hHeld 3 (some 73) (Slim.ba 12 175) rfl (by rintro w' ⟨s0, s1, s2, s3⟩; go_simp; with_reducible rfl) ?_
              refine Slim.take1 HT_ HW_ hHeld 6 (some 76) (Slim.ba 12 239) rfl (by rintro w' ⟨s0, s1, s2, s3⟩; go_simp; with_reducible rfl) ?_
              refine Slim.take1 HT_ HW_ hHeld 8 (some 78) (Slim.ba 12 495) rfl (by rintro w' ⟨s0, s1, s2, s3⟩; go_simp; with_reducible rfl) ?_
              refine one_ (i := 4) (N := some 74) (Slim.ba 12 511) rfl rfl (one_of HT_.out (by kernel_rfl)) (by decide) (fun K hK => ?_)
              refine goes_ Try.func92 (by kernel_rfl) rfl #[.int .u64 a1_0, .int .u64 a2_0] (by rfl) rfl rfl Slim.vA ?_
              with_reducible refine (spec_l18Least.calls a1_0 a2_0 t169 _ A119.out).mono ?_
              rintro e w' ⟨rfl, ⟨nd, rfl⟩⟩
              refine ⟨_, rfl, ?_⟩
              refine hK.out _ _ ⟨(blk_cell BK164.out 0).trans rfl, (blk_cell BK164.out 1).trans rfl, (blk_cell BK165.out 0).trans rfl, (blk_cell BK165.out 1).trans rfl⟩ (fun hHeld => ?_)
              clear hK K
              refine norm_ (a' := ?_) ?_ ?_
              rotate_left
              ·show Act.put _ (some 74) _ = _
               simp only [Act.put, List.setIfInBounds_toArray, List.set_cons_zero, List.set_cons_succ, i64_w, i32_w]
               rfl
              refine one_ (i := 9) (N := some 79) (Slim.ba 12 1023) rfl rfl (one_of HT_.out (by kernel_rfl)) (by decide) (fun K hK => ?_)
              refine goes_ Try.func92 (by kernel_rfl) rfl #[.int .u64 a1_1, .int .u64 a2_1] (by rfl) rfl rfl Slim.vA ?_
              with_reducible refine (spec_l18Least.calls a1_1 a2_1 t170 _ A120.out).mono ?_
              rintro e w' ⟨rfl, ⟨nd, rfl⟩⟩
              refine ⟨_, rfl, ?_⟩
              refine hK.out _ _ ⟨(blk_cell BK164.out 0).trans rfl, (blk_cell BK164.out 1).trans rfl, (blk_cell BK165.out 0).trans rfl, (blk_cell BK165.out 1).trans rfl⟩ (fun hHeld => ?_)
              clear hK K
              refine norm_ (a' := ?_) ?_ ?_
              rotate_left
              ·show Act.put _ (some 79) _ = _
               simp only [Act.put, List.setIfInBounds_toArray, List.set_cons_zero, List.set_cons_succ, i64_w, i32_w]
               rfl
              refine Slim.pure1 HT_ 10 (some 80) (Slim.ba 12 2047) rfl ?_
              refine one_ (i := 11) (N := none) (Slim.ba 12 4095) rfl rfl (one_of HT_.out (by kernel_rfl)) (by decide) (fun K hK => ?_)
              have hs122 : w121.cell? ⟨gb166, 0, none⟩ = some (.int .u64 0) := (blk_cell BK166.out 0).trans rfl
              have hfs122 := blk_frozen BK166.out 0
              have hns122_0 := NB164_166.out
              have hns122_1 := NB165_166.out
              have hns122_3 := NB167_166.out
              have hns122_4 := NB168_166.out
              have hms122_0 := NB166_164.out
              have hms122_1 := NB166_165.out
              have hms122_3 := NB166_167.out
              have hms122_4 := NB166_168.out
              have hs123 : w121.cell? ⟨gb166, 1, none⟩ = some (.int .u64 0) := (blk_cell BK166.out 1).trans rfl
              have hfs123 := blk_frozen BK166.out 1
              have hns123_0 := NB164_166.out
              have hns123_1 := NB165_166.out
              have hns123_3 := NB167_166.out
              have hns123_4 := NB168_166.out
              have hms123_0 := NB166_164.out
              have hms123_1 := NB166_165.out
              have hms123_3 := NB166_167.out
              have hms123_4 := NB166_168.out
              refine skip_ (w1 := ?_) (by rfl) rfl ?_ ?_
              rotate_left
              ·go_simp
               rfl
              refine hK.out _ _ ⟨((cell_far (p := ⟨gb166, _, none⟩) NB164_166.out _).trans (((cell_far (p := ⟨gb166, _, none⟩) NB164_166.out _).trans (hHeld.1)))), ((cell_far (p := ⟨gb166, _, none⟩) NB164_166.out _).trans (((cell_far (p := ⟨gb166, _, none⟩) NB164_166.out _).trans (hHeld.2.1)))), ((cell_far (p := ⟨gb166, _, none⟩) NB165_166.out _).trans (((cell_far (p := ⟨gb166, _, none⟩) NB165_166.out _).trans (hHeld.2.2.1)))), ((cell_far (p := ⟨gb166, _, none⟩) NB165_166.out _).trans (((cell_far (p := ⟨gb166, _, none⟩) NB165_166.out _).trans (hHeld.2.2.2))))⟩ (fun hHeld => ?_)
              clear hK K
              refine done_ (done_of HT_.out (by kernel_rfl)) ?_
              try go_wp2
              refine bodyPost_ret (results_cell_row rfl _ _ gb166 26 #[.int .u64 t169, .int .u64 t170] (0, 0) _ rfl (by (with_reducible repeat (first | refine blk_drewN ?_ _ | refine blk_drew ?_ | refine blk_alloc ?_ _)); refine blk_put (cs := #[.int .u64 t169, .int .u64 0]) ?_ 1 _ rfl; (with_reducible repeat (first | refine blk_drewN ?_ _ | refine blk_drew ?_ | refine blk_alloc ?_ _)); refine blk_put (cs := #[.int .u64 0, .int .u64 0]) ?_ 0 _ rfl; (with_reducible repeat (first | refine blk_drewN ?_ _ | refine blk_drew ?_ | refine blk_alloc ?_ _)); exact BK166.out) Try.underlying26 rfl (by kernel_rfl)) rfl ?_
              exact ⟨Slim.vE, Slim.vB⟩
             ·rw [if_neg c118] at H
              have c118b0 : (a0 == 17) = false := beq_eq_false_iff_ne.mpr c118
              have c118b1 : (a0 != 17) = true := bne_iff_ne.mpr c118
              by_cases c124 : a0 = 18
              ·rw [if_pos c124] at H
               have c124b0 : (a0 == 18) = true := beq_iff_eq.mpr c124
               have c124b1 : (a0 != 18) = false := bne_eq_false_iff_eq.mpr c124
               clear c124
               replace H := Option.bind_eq_some_iff.mp H
               obtain ⟨t171, A1250, H⟩ := H
               replace H : ((spec_l18Most.f a1_1 a2_1).bind fun t172 => (some (t171, t172))) = some (r1, r2) := H
               have A125 := Aside0.mk A1250
               clear A1250
               replace H := Option.bind_eq_some_iff.mp H
               obtain ⟨t172, A1260, H⟩ := H
               replace H : (some (t171, t172)) = some (r1, r2) := H
               have A126 := Aside0.mk A1260
               clear A1260
               simp only [Option.some.injEq, Prod.mk.injEq] at H
               obtain ⟨rfl, rfl⟩ := H
               try go_wp2
               have n0_ := Aside0.mk (blk_drew BK164.out)
               have n1_ := Aside0.mk (blk_drew BK165.out)
               have n2_ := Aside0.mk (blk_drew BK166.out)
               have n3_ := Aside0.mk (blk_drew BK167.out)
               have n4_ := Aside0.mk (blk_drew BK168.out)
               have n5_ := Aside0.mk (below_drew1 HB.out)
               clear BK164
               clear BK165
               clear BK166
               clear BK167
               clear BK168
               clear HB
               have BK164 := n0_
               have BK165 := n1_
               have BK166 := n2_
               have BK167 := n3_
               have BK168 := n4_
               have HB := n5_
               clear n0_ n1_ n2_ n3_ n4_ n5_
               refine start_ (n := 12) (S := fun w' => w'.cell? ⟨gb164, 0, none⟩ = some (.int .u64 a1_0) ∧ w'.cell? ⟨gb164, 1, none⟩ = some (.int .u64 a1_1) ∧ w'.cell? ⟨gb165, 0, none⟩ = some (.int .u64 a2_0) ∧ w'.cell? ⟨gb165, 1, none⟩ = some (.int .u64 a2_1)) (ds := []) (Slim.ba 12 0) (by kernel_rfl) rfl rfl ⟨(blk_cell BK164.out 0).trans rfl, (blk_cell BK164.out 1).trans rfl, (blk_cell BK165.out 0).trans rfl, (blk_cell BK165.out 1).trans rfl⟩ (fun hHeld => ?_); refine with_tabW spec_l18Ask.tab14 spec_l18Ask.bits14 (fun HT_ HW_ => ?_)
               generalize wc.drew = w127 at BK164 BK165 BK166 BK167 BK168 HB hHeld ⊢
               refine Slim.pure1 HT_ 0 (some 84) (Slim.ba 12 1) rfl ?_
               refine Slim.pure1 HT_ 2 (some 86) (Slim.ba 12 5) rfl ?_
               refine Slim.pure1 HT_ 5 (some 89) (Slim.ba 12 37) rfl ?_
               refine Slim.pure1 HT_ 7 (some 91) (Slim.ba 12 165) rfl ?_
               refine Slim.take1 HT_ HW_ hHeld 1 (some 85) (Slim.ba 12 167) rfl (by rintro w' ⟨s0, s1, s2, s3⟩; go_simp; with_reducible rfl) ?_
               refine Slim.take1 HT_ HW_ hHeld 3 (some 87) (Slim.ba 12 175) rfl (by rintro w' ⟨s0, s1, s2, s3⟩; go_simp; with_reducible rfl) ?_
               refine Slim.take1 HT_ HW_ hHeld 6 (some 90) (Slim.ba 12 239) rfl (by rintro w' ⟨s0, s1, s2, s3⟩; go_simp; with_reducible rfl) ?_
               refine Slim.take1 HT_ HW_ hHeld 8 (some 92) (Slim.ba 12 495) rfl (by rintro w' ⟨s0, s1, s2, s3⟩; go_simp; with_reducible rfl) ?_
               refine one_ (i := 4) (N := some 88) (Slim.ba 12 511) rfl rfl (one_of HT_.out (by kernel_rfl)) (by decide) (fun K hK => ?_)
               refine goes_ Try.func91 (by kernel_rfl) rfl #[.int .u64 a1_0, .int .u64 a2_0] (by rfl) rfl rfl Slim.vA ?_
               with_reducible refine (spec_l18Most.calls a1_0 a2_0 t171 _ A125.out).mono ?_
               rintro e w' ⟨rfl, ⟨nd, rfl⟩⟩
               refine ⟨_, rfl, ?_⟩
               refine hK.out _ _ ⟨(blk_cell BK164.out 0).trans rfl, (blk_cell BK164.out 1).trans rfl, (blk_cell BK165.out 0).trans rfl, (blk_cell BK165.out 1).trans rfl⟩ (fun hHeld => ?_)
               clear hK K
               refine norm_ (a' := ?_) ?_ ?_
               rotate_left
               ·show Act.put _ (some 88) _ = _
                simp only [Act.put, List.setIfInBounds_toArray, List.set_cons_zero, List.set_cons_succ, i64_w, i32_w]
                rfl
               refine one_ (i := 9) (N := some 93) (Slim.ba 12 1023) rfl rfl (one_of HT_.out (by kernel_rfl)) (by decide) (fun K hK => ?_)
               refine goes_ Try.func91 (by kernel_rfl) rfl #[.int .u64 a1_1, .int .u64 a2_1] (by rfl) rfl rfl Slim.vA ?_
               with_reducible refine (spec_l18Most.calls a1_1 a2_1 t172 _ A126.out).mono ?_
               rintro e w' ⟨rfl, ⟨nd, rfl⟩⟩
               refine ⟨_, rfl, ?_⟩
               refine hK.out _ _ ⟨(blk_cell BK164.out 0).trans rfl, (blk_cell BK164.out 1).trans rfl, (blk_cell BK165.out 0).trans rfl, (blk_cell BK165.out 1).trans rfl⟩ (fun hHeld => ?_)
               clear hK K
               refine norm_ (a' := ?_) ?_ ?_
               rotate_left
               ·show Act.put _ (some 93) _ = _
                simp only [Act.put, List.setIfInBounds_toArray, List.set_cons_zero, List.set_cons_succ, i64_w, i32_w]
                rfl
               refine Slim.pure1 HT_ 10 (some 94) (Slim.ba 12 2047) rfl ?_
               refine one_ (i := 11) (N := none) (Slim.ba 12 4095) rfl rfl (one_of HT_.out (by kernel_rfl)) (by decide) (fun K hK => ?_)
               have hs128 : w127.cell? ⟨gb166, 0, none⟩ = some (.int .u64 0) := (blk_cell BK166.out 0).trans rfl
               have hfs128 := blk_frozen BK166.out 0
               have hns128_0 := NB164_166.out
               have hns128_1 := NB165_166.out
               have hns128_3 := NB167_166.out
               have hns128_4 := NB168_166.out
               have hms128_0 := NB166_164.out
               have hms128_1 := NB166_165.out
               have hms128_3 := NB166_167.out
               have hms128_4 := NB166_168.out
               have hs129 : w127.cell? ⟨gb166, 1, none⟩ = some (.int .u64 0) := (blk_cell BK166.out 1).trans rfl
               have hfs129 := blk_frozen BK166.out 1
               have hns129_0 := NB164_166.out
               have hns129_1 := NB165_166.out
               have hns129_3 := NB167_166.out
               have hns129_4 := NB168_166.out
               have hms129_0 := NB166_164.out
               have hms129_1 := NB166_165.out
               have hms129_3 := NB166_167.out
               have hms129_4 := NB166_168.out
               refine skip_ (w1 := ?_) (by rfl) rfl ?_ ?_
               rotate_left
               ·go_simp
                rfl
               refine hK.out _ _ ⟨((cell_far (p := ⟨gb166, _, none⟩) NB164_166.out _).trans (((cell_far (p := ⟨gb166, _, none⟩) NB164_166.out _).trans (hHeld.1)))), ((cell_far (p := ⟨gb166, _, none⟩) NB164_166.out _).trans (((cell_far (p := ⟨gb166, _, none⟩) NB164_166.out _).trans (hHeld.2.1)))), ((cell_far (p := ⟨gb166, _, none⟩) NB165_166.out _).trans (((cell_far (p := ⟨gb166, _, none⟩) NB165_166.out _).trans (hHeld.2.2.1)))), ((cell_far (p := ⟨gb166, _, none⟩) NB165_166.out _).trans (((cell_far (p := ⟨gb166, _, none⟩) NB165_166.out _).trans (hHeld.2.2.2))))⟩ (fun hHeld => ?_)
               clear hK K
               refine done_ (done_of HT_.out (by kernel_rfl)) ?_
               try go_wp2
               refine bodyPost_ret (results_cell_row rfl _ _ gb166 26 #[.int .u64 t171, .int .u64 t172] (0, 0) _ rfl (by (with_reducible repeat (first | refine blk_drewN ?_ _ | refine blk_drew ?_ | refine blk_alloc ?_ _)); refine blk_put (cs := #[.int .u64 t171, .int .u64 0]) ?_ 1 _ rfl; (with_reducible repeat (first | refine blk_drewN ?_ _ | refine blk_drew ?_ | refine blk_alloc ?_ _)); refine blk_put (cs := #[.int .u64 0, .int .u64 0]) ?_ 0 _ rfl; (with_reducible repeat (first | refine blk_drewN ?_ _ | refine blk_drew ?_ | refine blk_alloc ?_ _)); exact BK166.out) Try.underlying26 rfl (by kernel_rfl)) rfl ?_
               exact ⟨Slim.vE, Slim.vB⟩
              ·rw [if_neg c124] at H
               have c124b0 : (a0 == 18) = false := beq_eq_false_iff_ne.mpr c124
               have c124b1 : (a0 != 18) = true := bne_iff_ne.mpr c124
               simp only [Option.some.injEq, Prod.mk.injEq] at H
               obtain ⟨rfl, rfl⟩ := H
               have hnb130 := NB166_164.out
               have hnc130 := NB164_166.out
               have hnb131 := NB166_165.out
               have hnc131 := NB165_166.out
               have hnb132 := NB166_167.out
               have hnc132 := NB167_166.out
               have hnb133 := NB166_168.out
               have hnc133 := NB168_166.out
               have hcz134_0 := Slim.bc BK166.out 0 rfl
               have hcz134_1 := Slim.bc BK166.out 1 rfl
               have hfz134_0 := blk_frozen BK166.out 0
               have hfz134_1 := blk_frozen BK166.out 1
               go_wp2
               refine bodyPost_ret (results_cell_row rfl _ _ gb166 26 #[.int .u64 0, .int .u64 1] (0, 0) _ rfl (by (with_reducible repeat (first | refine blk_drewN ?_ _ | refine blk_drew ?_ | refine blk_alloc ?_ _)); refine blk_put (cs := #[.int .u64 0, .int .u64 0]) ?_ 1 _ rfl; (with_reducible repeat (first | refine blk_drewN ?_ _ | refine blk_drew ?_ | refine blk_alloc ?_ _)); refine blk_put (cs := #[.int .u64 0, .int .u64 0]) ?_ 0 _ rfl; (with_reducible repeat (first | refine blk_drewN ?_ _ | refine blk_drew ?_ | refine blk_alloc ?_ _)); exact BK166.out) Try.underlying26 rfl (by kernel_rfl)) rfl ?_
               exact ⟨Slim.vE, Slim.vB⟩
end Go.Proofs.Ytimoiblediffpaa.QFnExactSpanOf
end
section
namespace Go.Proofs.Ytimoiblediffpaa.QFnExactSpanOf
open Go.RowKit Go.Proofs.YtimoiblediffpaaW.PrintWords Go.Proofs.YtimoiblediffpaaW.PrintLast Go.Proofs.YtimoiblediffpaaW.PrintMore
attribute [local go_sem] max2_int min2_int max_two min_two
set_option linter.unusedVariables false
set_option linter.unusedSimpArgs false
def spec_l18Of.f : Nat → Int → List (S161) → Int → List (S26) → Option (Int × Int)
 | 0, _, _, _, _ => none
 | k + 1, a0, l1, a2, l3 => if 0 ≤ a2 then (if a2 < (l1.length : Int) then ((spec_l2Need.f k ((rd_T161 l1 a2).f0)).bind fun bt176 => (if ((rd_T161 l1 a2).f0) = 2 then (if 0 ≤ ((rd_T161 l1 a2).f1) then (if ((rd_T161 l1 a2).f1) < (l3.length : Int) then (some ((rd_T26 l3 ((rd_T161 l1 a2).f1)).f0, (rd_T26 l3 ((rd_T161 l1 a2).f1)).f1)) else (none)) else (none)) else (if bt176.1 = 0 then (some ((rd_T161 l1 a2).f1, (rd_T161 l1 a2).f1)) else ((spec_l18Of.f k a0 l1 (wrap64 (a2 - 1)) l3).bind fun bt180 => (if ((rd_T161 l1 a2).f0) = 13 then ((spec_l1Cut.f k a0 (Go.bits .xor .u64 18446744073709551615 bt180.2)).bind fun t183 => ((spec_l1Cut.f k a0 (Go.bits .xor .u64 18446744073709551615 bt180.1)).bind fun t184 => (some (t183, t184)))) else (if ((rd_T161 l1 a2).f0) = 19 then (some (IntKind.u64.wrap (1 - bt180.2), IntKind.u64.wrap (1 - bt180.1))) else ((spec_l2From.f k l1 (wrap64 (a2 - 1))).bind fun t185 => ((spec_l18Of.f k a0 l1 (wrap64 (t185 - 1)) l3).bind fun bt186 => (if bt176.2.2 = 1 then ((spec_l18Num.f k a0 ((rd_T161 l1 a2).f0) bt186.1 bt186.2 bt180.1 bt180.2).bind fun bt189 => (some (bt189.1, bt189.2))) else ((spec_l18Ask.f k ((rd_T161 l1 a2).f0) bt186.1 bt186.2 bt180.1 bt180.2).bind fun bt191 => (some (bt191.1, bt191.2)))))))))))) else (none)) else (none)
def spec_l18Of.T9 : Bool × List (List Nat × List Nat) := (true, [([], []), ([], []), ([1], [1]), ([2], [2]), ([0, 3], [0, 3]), ([], []), ([], []), ([6], [6]), ([7], [7]), ([5, 8, 4], [5, 8]), ([4, 9], [4, 9]), ([10, 9, 0, 1, 2, 3, 4, 5, 6, 7, 8, 9, 10], [10])])
def spec_l18Of.B9 : List Nat := [0, 0, 2, 6, 15, 0, 0, 64, 192, 511, 1023, 2047]
theorem spec_l18Of.tab9 : rtab .any (opsOf Try.f140 9) = spec_l18Of.T9 := by kernel_rfl
theorem spec_l18Of.bits9 : waitsOk spec_l18Of.T9.2 spec_l18Of.B9 = true := by kernel_rfl
set_option maxHeartbeats 8000000 in
set_option maxRecDepth 100000 in
theorem spec_l18Of.calls (k : Nat) : ∀ (a0 : Int) (A1 : Option Addr) (c1 : Nat) (l1 : List (S161)) (a2 : Int) (A3 : Option Addr) (c3 : Nat) (l3 : List (S26)) (r1 : Int) (r2 : Int) (w : World) (hr1 : Kd.C k161 w A1 l1.length l1) (hc1 : l1.length ≤ c1) (hr3 : Kd.C k26 w A3 l3.length l3) (hc3 : l3.length ≤ c3) (h : spec_l18Of.f k a0 l1 a2 l3 = some (r1, r2)),
  Calls Try.prog 140 #[.int .i64 a0, .slice A1 l1.length c1, .int .i64 a2, .slice A3 l3.length c3] w fun e w' => e = .returned (.agg #[.int .u64 r1, .int .u64 r2]) ∧ Below w.heap.size w w' := by
 induction k using Nat.strongRecOn with
 | _ k ih =>
 intro a0 A1 c1 l1 a2 A3 c3 l3 r1 r2 w hr1 hc1 hr3 hc3 h
 cases k with
 | zero => exact absurd h (by simp [spec_l18Of.f])
 | succ k =>
 simp only [spec_l18Of.f] at h
 have hu26 := Try.underlying26
 have hu161 := Try.underlying161
 have HR1 := Aside0.mk hr1
 have HC1 := Aside0.mk hc1
 clear hr1 hc1
 have HR3 := Aside0.mk hr3
 have HC3 := Aside0.mk hc3
 clear hr3 hc3
 have HB := Aside0.mk (Below.refl w.heap.size w)
 have H : (if 0 ≤ a2 then (if a2 < (l1.length : Int) then ((spec_l2Need.f k ((rd_T161 l1 a2).f0)).bind fun bt176 => (if ((rd_T161 l1 a2).f0) = 2 then (if 0 ≤ ((rd_T161 l1 a2).f1) then (if ((rd_T161 l1 a2).f1) < (l3.length : Int) then (some ((rd_T26 l3 ((rd_T161 l1 a2).f1)).f0, (rd_T26 l3 ((rd_T161 l1 a2).f1)).f1)) else (none)) else (none)) else (if bt176.1 = 0 then (some ((rd_T161 l1 a2).f1, (rd_T161 l1 a2).f1)) else ((spec_l18Of.f k a0 l1 (wrap64 (a2 - 1)) l3).bind fun bt180 => (if ((rd_T161 l1 a2).f0) = 13 then ((spec_l1Cut.f k a0 (Go.bits .xor .u64 18446744073709551615 bt180.2)).bind fun t183 => ((spec_l1Cut.f k a0 (Go.bits .xor .u64 18446744073709551615 bt180.1)).bind fun t184 => (some (t183, t184)))) else (if ((rd_T161 l1 a2).f0) = 19 then (some (IntKind.u64.wrap (1 - bt180.2), IntKind.u64.wrap (1 - bt180.1))) else ((spec_l2From.f k l1 (wrap64 (a2 - 1))).bind fun t185 => ((spec_l18Of.f k a0 l1 (wrap64 (t185 - 1)) l3).bind fun bt186 => (if bt176.2.2 = 1 then ((spec_l18Num.f k a0 ((rd_T161 l1 a2).f0) bt186.1 bt186.2 bt180.1 bt180.2).bind fun bt189 => (some (bt189.1, bt189.2))) else ((spec_l18Ask.f k ((rd_T161 l1 a2).f0) bt186.1 bt186.2 bt180.1 bt180.2).bind fun bt191 => (some (bt191.1, bt191.2)))))))))))) else (none)) else (none)) = some (r1, r2) := h
 clear h
 by_cases c5 : 0 ≤ a2
 ·rw [if_pos c5] at H
  have c5b0 : decide (0 ≤ a2) = true := decide_eq_true c5
  clear c5
  by_cases c6 : a2 < (l1.length : Int)
  ·rw [if_pos c6] at H
   have c6b0 : decide (a2 < (l1.length : Int)) = true := decide_eq_true c6
   clear c6
   replace H := Option.bind_eq_some_iff.mp H
   obtain ⟨⟨t176, t177, t178⟩, A70, H⟩ := H
   replace H : (if ((rd_T161 l1 a2).f0) = 2 then (if 0 ≤ ((rd_T161 l1 a2).f1) then (if ((rd_T161 l1 a2).f1) < (l3.length : Int) then (some ((rd_T26 l3 ((rd_T161 l1 a2).f1)).f0, (rd_T26 l3 ((rd_T161 l1 a2).f1)).f1)) else (none)) else (none)) else (if t176 = 0 then (some ((rd_T161 l1 a2).f1, (rd_T161 l1 a2).f1)) else ((spec_l18Of.f k a0 l1 (wrap64 (a2 - 1)) l3).bind fun bt180 => (if ((rd_T161 l1 a2).f0) = 13 then ((spec_l1Cut.f k a0 (Go.bits .xor .u64 18446744073709551615 bt180.2)).bind fun t183 => ((spec_l1Cut.f k a0 (Go.bits .xor .u64 18446744073709551615 bt180.1)).bind fun t184 => (some (t183, t184)))) else (if ((rd_T161 l1 a2).f0) = 19 then (some (IntKind.u64.wrap (1 - bt180.2), IntKind.u64.wrap (1 - bt180.1))) else ((spec_l2From.f k l1 (wrap64 (a2 - 1))).bind fun t185 => ((spec_l18Of.f k a0 l1 (wrap64 (t185 - 1)) l3).bind fun bt186 => (if t178 = 1 then ((spec_l18Num.f k a0 ((rd_T161 l1 a2).f0) bt186.1 bt186.2 bt180.1 bt180.2).bind fun bt189 => (some (bt189.1, bt189.2))) else ((spec_l18Ask.f k ((rd_T161 l1 a2).f0) bt186.1 bt186.2 bt180.1 bt180.2).bind fun bt191 => (some (bt191.1, bt191.2))))))))))) = some (r1, r2) := H
   have A7 := Aside0.mk A70
   clear A70
   by_cases c8 : ((rd_T161 l1 a2).f0) = 2
   ·rw [if_pos c8] at H
    have c8b0 : (((rd_T161 l1 a2).f0) == 2) = true := beq_iff_eq.mpr c8
    have c8b1 : (((rd_T161 l1 a2).f0) != 2) = false := bne_eq_false_iff_eq.mpr c8
    clear c8
    by_cases c9 : 0 ≤ ((rd_T161 l1 a2).f1)
    ·rw [if_pos c9] at H
     have c9b0 : decide (0 ≤ ((rd_T161 l1 a2).f1)) = true := decide_eq_true c9
     clear c9
     by_cases c10 : ((rd_T161 l1 a2).f1) < (l3.length : Int)
     ·rw [if_pos c10] at H
      have c10b0 : decide (((rd_T161 l1 a2).f1) < (l3.length : Int)) = true := decide_eq_true c10
      clear c10
      simp only [Option.some.injEq, Prod.mk.injEq] at H
      obtain ⟨rfl, rfl⟩ := H
      go_enter Try.func140, Try.ntmps140
      go_wp2_with (first | ((with_reducible refine gate_dst (N := 8) rfl ?_); refine Slim.boxE 8 (#[.int .u64 0, .int .u64 0]) 26 ?_; intro gb173 hg w11 hbox hb; have GW173 := Aside0.mk (Slim.vS : w.heap.size ≤ gb173); have GE173 := GW173; replace HB := Aside0.mk (below_step Slim.vB hb); have BK173 := Aside0.mk hbox; clear hb hbox hg; have p174 : 0 ≤ (a2 : Int) := of_decide_eq_true (by first | (with_reducible assumption) | assumption); have q174 : a2 < (l1.length : Int) := of_decide_eq_true (by first | (with_reducible assumption) | assumption); obtain ⟨ad174, e174, hx174_0, hx174_1⟩ := at_T161 HR1.out a2 p174 q174; cases e174; replace hx174_0 := (HB.out.cell (World.block_lt_of_cell? w _ hx174_0)).trans hx174_0; replace hx174_1 := (HB.out.cell (World.block_lt_of_cell? w _ hx174_1)).trans hx174_1; replace p174 := eq_true p174; replace q174 := eq_true q174) | ((with_reducible refine gate_dst (N := 9) rfl ?_); refine Slim.boxE 9 (#[.int .i64 0, .int .u64 0]) 161 ?_; intro gb175 hg w12 hbox hb; have GW175 := Aside0.mk (Slim.vS : w.heap.size ≤ gb175); have GE175 := GW175; have NB173_175 := Aside0.mk (Slim.nL hg BK173.out : gb173 ≠ gb175); have NB175_173 := Aside0.mk (Slim.nG hg BK173.out : gb175 ≠ gb173); replace BK173 := Aside0.mk (Slim.bB BK173.out hb); replace HB := Aside0.mk (below_step Slim.vB hb); have BK175 := Aside0.mk hbox; clear hb hbox hg; have hnb13 := NB175_173.out; have hnc13 := NB173_175.out; have hcz14_0 := Slim.bc BK175.out 0 rfl; have hcz14_1 := Slim.bc BK175.out 1 rfl; have hfz14_0 := blk_frozen BK175.out 0; have hfz14_1 := blk_frozen BK175.out 1) | ((with_reducible refine gate_callee (f := 189) rfl ?_); refine goesL_ (some 22) rfl rfl Try.func189 (by kernel_rfl) rfl #[.int .i64 ((rd_T161 l1 a2).f0)] rfl Slim.vA ?_; (with_reducible refine (spec_l2Need.calls k ((rd_T161 l1 a2).f0) t176 t177 t178 _ A7.out).mono ?_); rintro e w' ⟨rfl, ⟨nd, rfl⟩⟩; refine ⟨_, rfl, ?_⟩; have p179 : 0 ≤ (((rd_T161 l1 a2).f1) : Int) := of_decide_eq_true (by first | (with_reducible assumption) | assumption); have q179 : ((rd_T161 l1 a2).f1) < (l3.length : Int) := of_decide_eq_true (by first | (with_reducible assumption) | assumption); obtain ⟨ad179, e179, hx179_0, hx179_1⟩ := at_T26 HR3.out ((rd_T161 l1 a2).f1) p179 q179; cases e179; have hn179_0 : ad179.block ≠ gb175 := Nat.ne_of_lt (Nat.lt_of_lt_of_le (by have := World.block_lt_of_cell? _ _ hx179_0; first | rwa [add_block] at this | exact this) GW175.out); have hn179_1 : ad179.block ≠ gb175 := Nat.ne_of_lt (Nat.lt_of_lt_of_le (by have := World.block_lt_of_cell? _ _ hx179_0; first | rwa [add_block] at this | exact this) GW175.out); replace hx179_0 := (HB.out.cell (World.block_lt_of_cell? w _ hx179_0)).trans hx179_0; replace hx179_1 := (HB.out.cell (World.block_lt_of_cell? w _ hx179_1)).trans hx179_1; replace hx179_0 := (cell_far (p := ⟨gb175, 0, none⟩) (by first | (rw [add_block]; exact hn179_0) | (show (Addr.add _ _).block ≠ _; rw [add_block]; exact hn179_0) | exact hn179_0) (.int .i64 ((rd_T161 l1 a2).f0))).trans hx179_0; replace hx179_1 := (cell_far (p := ⟨gb175, 0, none⟩) (by first | (rw [add_block]; exact hn179_0) | (show (Addr.add _ _).block ≠ _; rw [add_block]; exact hn179_0) | exact hn179_0) (.int .i64 ((rd_T161 l1 a2).f0))).trans hx179_1; replace hx179_0 := (cell_far (p := ⟨gb175, 1, none⟩) (by first | (rw [add_block]; exact hn179_1) | (show (Addr.add _ _).block ≠ _; rw [add_block]; exact hn179_1) | exact hn179_1) (.int .u64 ((rd_T161 l1 a2).f1))).trans hx179_0; replace hx179_1 := (cell_far (p := ⟨gb175, 1, none⟩) (by first | (rw [add_block]; exact hn179_1) | (show (Addr.add _ _).block ≠ _; rw [add_block]; exact hn179_1) | exact hn179_1) (.int .u64 ((rd_T161 l1 a2).f1))).trans hx179_1; clear hn179_0; clear hn179_1; replace p179 := eq_true p179; replace q179 := eq_true q179; have hcz15_0 := Slim.bc BK173.out 0 rfl; have hcz15_1 := Slim.bc BK173.out 1 rfl; have hfz15_0 := blk_frozen BK173.out 0; have hfz15_1 := blk_frozen BK173.out 1))
      refine bodyPost_ret (results_cell_row rfl _ _ gb173 26 #[.int .u64 ((rd_T26 l3 ((rd_T161 l1 a2).f1)).f0), .int .u64 ((rd_T26 l3 ((rd_T161 l1 a2).f1)).f1)] (0, 0) _ rfl (by (with_reducible repeat (first | refine blk_drewN ?_ _ | refine blk_drew ?_ | refine blk_alloc ?_ _)); refine blk_put (cs := #[.int .u64 ((rd_T26 l3 ((rd_T161 l1 a2).f1)).f0), .int .u64 0]) ?_ 1 _ rfl; (with_reducible repeat (first | refine blk_drewN ?_ _ | refine blk_drew ?_ | refine blk_alloc ?_ _)); refine blk_put (cs := #[.int .u64 0, .int .u64 0]) ?_ 0 _ rfl; (with_reducible repeat (first | refine blk_drewN ?_ _ | refine blk_drew ?_ | refine blk_alloc ?_ _)); refine blk_far ?_ NB173_175.out _; (with_reducible repeat (first | refine blk_drewN ?_ _ | refine blk_drew ?_ | refine blk_alloc ?_ _)); refine blk_far ?_ NB173_175.out _; (with_reducible repeat (first | refine blk_drewN ?_ _ | refine blk_drew ?_ | refine blk_alloc ?_ _)); exact BK173.out) Try.underlying26 rfl (by kernel_rfl)) rfl ?_
      exact ⟨Slim.vE, Slim.vB⟩
     ·rw [if_neg c10] at H
      exact absurd H (by simp)
    ·rw [if_neg c9] at H
     exact absurd H (by simp)
   ·rw [if_neg c8] at H
    have c8b0 : (((rd_T161 l1 a2).f0) == 2) = false := beq_eq_false_iff_ne.mpr c8
    have c8b1 : (((rd_T161 l1 a2).f0) != 2) = true := bne_iff_ne.mpr c8
    by_cases c16 : t176 = 0
    ·rw [if_pos c16] at H
     have c16b0 : (t176 == 0) = true := beq_iff_eq.mpr c16
     have c16b1 : (t176 != 0) = false := bne_eq_false_iff_eq.mpr c16
     clear c16
     simp only [Option.some.injEq, Prod.mk.injEq] at H
     obtain ⟨rfl, rfl⟩ := H
     go_enter Try.func140, Try.ntmps140
     go_wp2_with (first | ((with_reducible refine gate_dst (N := 8) rfl ?_); refine Slim.boxE 8 (#[.int .u64 0, .int .u64 0]) 26 ?_; intro gb173 hg w17 hbox hb; have GW173 := Aside0.mk (Slim.vS : w.heap.size ≤ gb173); have GE173 := GW173; replace HB := Aside0.mk (below_step Slim.vB hb); have BK173 := Aside0.mk hbox; clear hb hbox hg; have p174 : 0 ≤ (a2 : Int) := of_decide_eq_true (by first | (with_reducible assumption) | assumption); have q174 : a2 < (l1.length : Int) := of_decide_eq_true (by first | (with_reducible assumption) | assumption); obtain ⟨ad174, e174, hx174_0, hx174_1⟩ := at_T161 HR1.out a2 p174 q174; cases e174; replace hx174_0 := (HB.out.cell (World.block_lt_of_cell? w _ hx174_0)).trans hx174_0; replace hx174_1 := (HB.out.cell (World.block_lt_of_cell? w _ hx174_1)).trans hx174_1; replace p174 := eq_true p174; replace q174 := eq_true q174) | ((with_reducible refine gate_dst (N := 9) rfl ?_); refine Slim.boxE 9 (#[.int .i64 0, .int .u64 0]) 161 ?_; intro gb175 hg w18 hbox hb; have GW175 := Aside0.mk (Slim.vS : w.heap.size ≤ gb175); have GE175 := GW175; have NB173_175 := Aside0.mk (Slim.nL hg BK173.out : gb173 ≠ gb175); have NB175_173 := Aside0.mk (Slim.nG hg BK173.out : gb175 ≠ gb173); replace BK173 := Aside0.mk (Slim.bB BK173.out hb); replace HB := Aside0.mk (below_step Slim.vB hb); have BK175 := Aside0.mk hbox; clear hb hbox hg; have hnb19 := NB175_173.out; have hnc19 := NB173_175.out; have hcz20_0 := Slim.bc BK175.out 0 rfl; have hcz20_1 := Slim.bc BK175.out 1 rfl; have hfz20_0 := blk_frozen BK175.out 0; have hfz20_1 := blk_frozen BK175.out 1) | ((with_reducible refine gate_callee (f := 189) rfl ?_); refine goesL_ (some 22) rfl rfl Try.func189 (by kernel_rfl) rfl #[.int .i64 ((rd_T161 l1 a2).f0)] rfl Slim.vA ?_; (with_reducible refine (spec_l2Need.calls k ((rd_T161 l1 a2).f0) t176 t177 t178 _ A7.out).mono ?_); rintro e w' ⟨rfl, ⟨nd, rfl⟩⟩; refine ⟨_, rfl, ?_⟩; have hcz21_0 := Slim.bc BK173.out 0 rfl; have hcz21_1 := Slim.bc BK173.out 1 rfl; have hfz21_0 := blk_frozen BK173.out 0; have hfz21_1 := blk_frozen BK173.out 1))
     refine bodyPost_ret (results_cell_row rfl _ _ gb173 26 #[.int .u64 ((rd_T161 l1 a2).f1), .int .u64 ((rd_T161 l1 a2).f1)] (0, 0) _ rfl (by (with_reducible repeat (first | refine blk_drewN ?_ _ | refine blk_drew ?_ | refine blk_alloc ?_ _)); refine blk_put (cs := #[.int .u64 ((rd_T161 l1 a2).f1), .int .u64 0]) ?_ 1 _ rfl; (with_reducible repeat (first | refine blk_drewN ?_ _ | refine blk_drew ?_ | refine blk_alloc ?_ _)); refine blk_put (cs := #[.int .u64 0, .int .u64 0]) ?_ 0 _ rfl; (with_reducible repeat (first | refine blk_drewN ?_ _ | refine blk_drew ?_ | refine blk_alloc ?_ _)); refine blk_far ?_ NB173_175.out _; (with_reducible repeat (first | refine blk_drewN ?_ _ | refine blk_drew ?_ | refine blk_alloc ?_ _)); refine blk_far ?_ NB173_175.out _; (with_reducible repeat (first | refine blk_drewN ?_ _ | refine blk_drew ?_ | refine blk_alloc ?_ _)); exact BK173.out) Try.underlying26 rfl (by kernel_rfl)) rfl ?_
     exact ⟨Slim.vE, Slim.vB⟩
    ·rw [if_neg c16] at H
     have c16b0 : (t176 == 0) = false := beq_eq_false_iff_ne.mpr c16
     have c16b1 : (t176 != 0) = true := bne_iff_ne.mpr c16
     replace H := Option.bind_eq_some_iff.mp H
     obtain ⟨⟨t180, t181⟩, A220, H⟩ := H
     replace H : (if ((rd_T161 l1 a2).f0) = 13 then ((spec_l1Cut.f k a0 (Go.bits .xor .u64 18446744073709551615 t181)).bind fun t183 => ((spec_l1Cut.f k a0 (Go.bits .xor .u64 18446744073709551615 t180)).bind fun t184 => (some (t183, t184)))) else (if ((rd_T161 l1 a2).f0) = 19 then (some (IntKind.u64.wrap (1 - t181), IntKind.u64.wrap (1 - t180))) else ((spec_l2From.f k l1 (wrap64 (a2 - 1))).bind fun t185 => ((spec_l18Of.f k a0 l1 (wrap64 (t185 - 1)) l3).bind fun bt186 => (if t178 = 1 then ((spec_l18Num.f k a0 ((rd_T161 l1 a2).f0) bt186.1 bt186.2 t180 t181).bind fun bt189 => (some (bt189.1, bt189.2))) else ((spec_l18Ask.f k ((rd_T161 l1 a2).f0) bt186.1 bt186.2 t180 t181).bind fun bt191 => (some (bt191.1, bt191.2)))))))) = some (r1, r2) := H
     have A22 := Aside0.mk A220
     clear A220
     by_cases c23 : ((rd_T161 l1 a2).f0) = 13
     ·rw [if_pos c23] at H
      have c23b0 : (((rd_T161 l1 a2).f0) == 13) = true := beq_iff_eq.mpr c23
      have c23b1 : (((rd_T161 l1 a2).f0) != 13) = false := bne_eq_false_iff_eq.mpr c23
      clear c23
      replace H := Option.bind_eq_some_iff.mp H
      obtain ⟨t183, A240, H⟩ := H
      replace H : ((spec_l1Cut.f k a0 (Go.bits .xor .u64 18446744073709551615 t180)).bind fun t184 => (some (t183, t184))) = some (r1, r2) := H
      have A24 := Aside0.mk A240
      clear A240
      replace H := Option.bind_eq_some_iff.mp H
      obtain ⟨t184, A250, H⟩ := H
      replace H : (some (t183, t184)) = some (r1, r2) := H
      have A25 := Aside0.mk A250
      clear A250
      simp only [Option.some.injEq, Prod.mk.injEq] at H
      obtain ⟨rfl, rfl⟩ := H
      go_enter Try.func140, Try.ntmps140
      try go_wp2_with (first | ((with_reducible refine gate_dst (N := 8) rfl ?_); refine Slim.boxE 8 (#[.int .u64 0, .int .u64 0]) 26 ?_; intro gb173 hg w26 hbox hb; have GW173 := Aside0.mk (Slim.vS : w.heap.size ≤ gb173); have GE173 := GW173; replace HB := Aside0.mk (below_step Slim.vB hb); have BK173 := Aside0.mk hbox; clear hb hbox hg; have p174 : 0 ≤ (a2 : Int) := of_decide_eq_true (by first | (with_reducible assumption) | assumption); have q174 : a2 < (l1.length : Int) := of_decide_eq_true (by first | (with_reducible assumption) | assumption); obtain ⟨ad174, e174, hx174_0, hx174_1⟩ := at_T161 HR1.out a2 p174 q174; cases e174; replace hx174_0 := (HB.out.cell (World.block_lt_of_cell? w _ hx174_0)).trans hx174_0; replace hx174_1 := (HB.out.cell (World.block_lt_of_cell? w _ hx174_1)).trans hx174_1; replace p174 := eq_true p174; replace q174 := eq_true q174) | ((with_reducible refine gate_dst (N := 9) rfl ?_); refine Slim.boxE 9 (#[.int .i64 0, .int .u64 0]) 161 ?_; intro gb175 hg w27 hbox hb; have GW175 := Aside0.mk (Slim.vS : w.heap.size ≤ gb175); have GE175 := GW175; have NB173_175 := Aside0.mk (Slim.nL hg BK173.out : gb173 ≠ gb175); have NB175_173 := Aside0.mk (Slim.nG hg BK173.out : gb175 ≠ gb173); replace BK173 := Aside0.mk (Slim.bB BK173.out hb); replace HB := Aside0.mk (below_step Slim.vB hb); have BK175 := Aside0.mk hbox; clear hb hbox hg; have hnb28 := NB175_173.out; have hnc28 := NB173_175.out; have hcz29_0 := Slim.bc BK175.out 0 rfl; have hcz29_1 := Slim.bc BK175.out 1 rfl; have hfz29_0 := blk_frozen BK175.out 0; have hfz29_1 := blk_frozen BK175.out 1) | ((with_reducible refine gate_callee (f := 189) rfl ?_); refine goesL_ (some 22) rfl rfl Try.func189 (by kernel_rfl) rfl #[.int .i64 ((rd_T161 l1 a2).f0)] rfl Slim.vA ?_; (with_reducible refine (spec_l2Need.calls k ((rd_T161 l1 a2).f0) t176 t177 t178 _ A7.out).mono ?_); rintro e w' ⟨rfl, ⟨nd, rfl⟩⟩; refine ⟨_, rfl, ?_⟩) | ((with_reducible refine gate_callee (f := 140) rfl ?_); refine goesL_ (some 48) rfl rfl Try.func140 (by kernel_rfl) rfl #[.int .i64 a0, .slice (some ad174) l1.length c1, .int .i64 (wrap64 (a2 - 1)), .slice A3 l3.length c3] rfl Slim.vA ?_; (with_reducible refine (ih k (by omega) a0 _ _ l1 (wrap64 (a2 - 1)) _ _ l3 t180 t181 _ ?side1 ?side2 ?side3 ?side4 A22.out).mono ?_); (case side1 => exact Kd.C_below HR1.out Slim.vB); (case side2 => exact HC1.out); (case side3 => exact Kd.C_below HR3.out Slim.vB); (case side4 => exact HC3.out); rintro e w30 ⟨rfl, hb⟩; refine ⟨_, rfl, ?_⟩; have n0_ := Aside0.mk (blk_below (g := gb173) (o := .cells #[.int .u64 0, .int .u64 0] 26 (0, 0)) (by (with_reducible repeat (first | refine blk_drewN ?_ _ | refine blk_drew ?_ | refine blk_alloc ?_ _)); refine blk_far ?_ NB173_175.out _; (with_reducible repeat (first | refine blk_drewN ?_ _ | refine blk_drew ?_ | refine blk_alloc ?_ _)); refine blk_far ?_ NB173_175.out _; (with_reducible repeat (first | refine blk_drewN ?_ _ | refine blk_drew ?_ | refine blk_alloc ?_ _)); exact BK173.out) hb); have n1_ := Aside0.mk (blk_below (g := gb175) (o := .cells #[.int .i64 ((rd_T161 l1 a2).f0), .int .u64 ((rd_T161 l1 a2).f1)] 161 (0, 0)) (by (with_reducible repeat (first | refine blk_drewN ?_ _ | refine blk_drew ?_ | refine blk_alloc ?_ _)); refine blk_put (cs := #[.int .i64 ((rd_T161 l1 a2).f0), .int .u64 0]) ?_ 1 _ rfl; (with_reducible repeat (first | refine blk_drewN ?_ _ | refine blk_drew ?_ | refine blk_alloc ?_ _)); refine blk_put (cs := #[.int .i64 0, .int .u64 0]) ?_ 0 _ rfl; (with_reducible repeat (first | refine blk_drewN ?_ _ | refine blk_drew ?_ | refine blk_alloc ?_ _)); exact BK175.out) hb); have n2_ := Aside0.mk (below_step Slim.vB hb); clear BK173; clear BK175; clear HB; have BK173 := n0_; have BK175 := n1_; have HB := n2_; clear n0_ n1_ n2_; (try clear hb); (try clear hb2); (try clear hk); (try clear hi)) | ((with_reducible refine gate_dst (N := 13) rfl ?_); refine Slim.boxE 13 (#[.int .u64 0, .int .u64 0]) 26 ?_; intro gb182 hg w31 hbox hb; have GW182 := Aside0.mk (Slim.vS : w.heap.size ≤ gb182); have GE182 := GW182; have NB173_182 := Aside0.mk (Slim.nL hg BK173.out : gb173 ≠ gb182); have NB182_173 := Aside0.mk (Slim.nG hg BK173.out : gb182 ≠ gb173); have NB175_182 := Aside0.mk (Slim.nL hg BK175.out : gb175 ≠ gb182); have NB182_175 := Aside0.mk (Slim.nG hg BK175.out : gb182 ≠ gb175); replace BK173 := Aside0.mk (Slim.bB BK173.out hb); replace BK175 := Aside0.mk (Slim.bB BK175.out hb); replace HB := Aside0.mk (below_step Slim.vB hb); have BK182 := Aside0.mk hbox; clear hb hbox hg; have hnb32 := NB182_173.out; have hnc32 := NB173_182.out; have hnb33 := NB182_175.out; have hnc33 := NB175_182.out; have hcz34_0 := Slim.bc BK182.out 0 rfl; have hcz34_1 := Slim.bc BK182.out 1 rfl; have hfz34_0 := blk_frozen BK182.out 0; have hfz34_1 := blk_frozen BK182.out 1; have hcz35_0 := Slim.bc BK175.out 0 rfl; have hcz35_1 := Slim.bc BK175.out 1 rfl; have hfz35_0 := blk_frozen BK175.out 0; have hfz35_1 := blk_frozen BK175.out 1))
      have n0_ : Aside0 (((w31.setCell ⟨gb182, 0, none⟩ (.int .u64 t180)).setCell ⟨gb182, 1, none⟩ (.int .u64 t181)).heap[gb173]? = some (.cells #[.int .u64 0, .int .u64 0] 26 (0, 0))) := ⟨by (with_reducible repeat (first | refine blk_drewN ?_ _ | refine blk_drew ?_ | refine blk_alloc ?_ _)); refine blk_far ?_ NB173_182.out _; (with_reducible repeat (first | refine blk_drewN ?_ _ | refine blk_drew ?_ | refine blk_alloc ?_ _)); refine blk_far ?_ NB173_182.out _; (with_reducible repeat (first | refine blk_drewN ?_ _ | refine blk_drew ?_ | refine blk_alloc ?_ _)); exact BK173.out⟩
      have n1_ : Aside0 (((w31.setCell ⟨gb182, 0, none⟩ (.int .u64 t180)).setCell ⟨gb182, 1, none⟩ (.int .u64 t181)).heap[gb175]? = some (.cells #[.int .i64 ((rd_T161 l1 a2).f0), .int .u64 ((rd_T161 l1 a2).f1)] 161 (0, 0))) := ⟨by (with_reducible repeat (first | refine blk_drewN ?_ _ | refine blk_drew ?_ | refine blk_alloc ?_ _)); refine blk_far ?_ NB175_182.out _; (with_reducible repeat (first | refine blk_drewN ?_ _ | refine blk_drew ?_ | refine blk_alloc ?_ _)); refine blk_far ?_ NB175_182.out _; (with_reducible repeat (first | refine blk_drewN ?_ _ | refine blk_drew ?_ | refine blk_alloc ?_ _)); exact BK175.out⟩
      have n2_ : Aside0 (((w31.setCell ⟨gb182, 0, none⟩ (.int .u64 t180)).setCell ⟨gb182, 1, none⟩ (.int .u64 t181)).heap[gb182]? = some (.cells #[.int .u64 t180, .int .u64 t181] 26 (0, 0))) := ⟨by (with_reducible repeat (first | refine blk_drewN ?_ _ | refine blk_drew ?_ | refine blk_alloc ?_ _)); refine blk_put (cs := #[.int .u64 t180, .int .u64 0]) ?_ 1 _ rfl; (with_reducible repeat (first | refine blk_drewN ?_ _ | refine blk_drew ?_ | refine blk_alloc ?_ _)); refine blk_put (cs := #[.int .u64 0, .int .u64 0]) ?_ 0 _ rfl; (with_reducible repeat (first | refine blk_drewN ?_ _ | refine blk_drew ?_ | refine blk_alloc ?_ _)); exact BK182.out⟩
      have n3_ : Aside0 (Below w.heap.size w ((w31.setCell ⟨gb182, 0, none⟩ (.int .u64 t180)).setCell ⟨gb182, 1, none⟩ (.int .u64 t181))) := ⟨Slim.vB⟩
      (try clear BK173)
      (try clear BK175)
      (try clear BK182)
      (try clear HB)
      generalize ((w31.setCell ⟨gb182, 0, none⟩ (.int .u64 t180)).setCell ⟨gb182, 1, none⟩ (.int .u64 t181)) = w36 at n0_ n1_ n2_ n3_ ⊢
      have BK173 := n0_
      have BK175 := n1_
      have BK182 := n2_
      have HB := n3_
      clear n0_ n1_ n2_ n3_
      have n0_ := Aside0.mk (blk_drew BK173.out)
      have n1_ := Aside0.mk (blk_drew BK175.out)
      have n2_ := Aside0.mk (blk_drew BK182.out)
      have n3_ := Aside0.mk (below_drew1 HB.out)
      clear BK173
      clear BK175
      clear BK182
      clear HB
      have BK173 := n0_
      have BK175 := n1_
      have BK182 := n2_
      have HB := n3_
      clear n0_ n1_ n2_ n3_
      refine start_ (n := 12) (S := fun w' => w'.cell? ⟨gb182, 0, none⟩ = some (.int .u64 t180) ∧ w'.cell? ⟨gb182, 1, none⟩ = some (.int .u64 t181)) (ds := []) (Slim.ba 12 0) (by kernel_rfl) rfl rfl ⟨(blk_cell BK182.out 0).trans rfl, (blk_cell BK182.out 1).trans rfl⟩ (fun hHeld => ?_); refine with_tabW spec_l18Of.tab9 spec_l18Of.bits9 (fun HT_ HW_ => ?_)
      generalize w36.drew = w37 at BK173 BK175 BK182 HB hHeld ⊢
      refine Slim.pure1 HT_ 0 (some 53) (Slim.ba 12 1) rfl ?_
      refine Slim.pure1 HT_ 1 (some 54) (Slim.ba 12 3) rfl ?_
      refine Slim.pure1 HT_ 5 (some 58) (Slim.ba 12 35) rfl ?_
      refine Slim.pure1 HT_ 6 (some 59) (Slim.ba 12 99) rfl ?_
      refine Slim.take1 HT_ HW_ hHeld 2 (some 55) (Slim.ba 12 103) rfl (by rintro w' ⟨s0, s1⟩; go_simp; with_reducible rfl) ?_
      refine Slim.pure1 HT_ 3 (some 56) (Slim.ba 12 111) rfl ?_
      refine Slim.take1 HT_ HW_ hHeld 7 (some 60) (Slim.ba 12 239) rfl (by rintro w' ⟨s0, s1⟩; go_simp; with_reducible rfl) ?_
      refine Slim.pure1 HT_ 8 (some 61) (Slim.ba 12 495) rfl ?_
      refine one_ (i := 4) (N := some 57) (Slim.ba 12 511) rfl rfl (one_of HT_.out (by kernel_rfl)) (by decide) (fun K hK => ?_)
      refine goes_ Try.func190 (by kernel_rfl) rfl #[.int .i64 a0, .int .u64 (Go.bits .xor .u64 18446744073709551615 t181)] (by rfl) rfl rfl Slim.vA ?_
      with_reducible refine (spec_l1Cut.calls k a0 (Go.bits .xor .u64 18446744073709551615 t181) t183 _ A24.out).mono ?_
      rintro e w' ⟨rfl, ⟨nd, rfl⟩⟩
      refine ⟨_, rfl, ?_⟩
      refine hK.out _ _ ⟨(blk_cell BK182.out 0).trans rfl, (blk_cell BK182.out 1).trans rfl⟩ (fun hHeld => ?_)
      clear hK K
      refine norm_ (a' := ?_) ?_ ?_
      rotate_left
      ·show Act.put _ (some 57) _ = _
       simp only [Act.put, List.setIfInBounds_toArray, List.set_cons_zero, List.set_cons_succ, i64_w, i32_w]
       rfl
      refine one_ (i := 9) (N := some 62) (Slim.ba 12 1023) rfl rfl (one_of HT_.out (by kernel_rfl)) (by decide) (fun K hK => ?_)
      refine goes_ Try.func190 (by kernel_rfl) rfl #[.int .i64 a0, .int .u64 (Go.bits .xor .u64 18446744073709551615 t180)] (by rfl) rfl rfl Slim.vA ?_
      with_reducible refine (spec_l1Cut.calls k a0 (Go.bits .xor .u64 18446744073709551615 t180) t184 _ A25.out).mono ?_
      rintro e w' ⟨rfl, ⟨nd, rfl⟩⟩
      refine ⟨_, rfl, ?_⟩
      refine hK.out _ _ ⟨(blk_cell BK182.out 0).trans rfl, (blk_cell BK182.out 1).trans rfl⟩ (fun hHeld => ?_)
      clear hK K
      refine norm_ (a' := ?_) ?_ ?_
      rotate_left
      ·show Act.put _ (some 62) _ = _
       simp only [Act.put, List.setIfInBounds_toArray, List.set_cons_zero, List.set_cons_succ, i64_w, i32_w]
       rfl
      refine Slim.pure1 HT_ 10 (some 63) (Slim.ba 12 2047) rfl ?_
      refine one_ (i := 11) (N := none) (Slim.ba 12 4095) rfl rfl (one_of HT_.out (by kernel_rfl)) (by decide) (fun K hK => ?_)
      have hs38 : w37.cell? ⟨gb173, 0, none⟩ = some (.int .u64 0) := (blk_cell BK173.out 0).trans rfl
      have hfs38 := blk_frozen BK173.out 0
      have hns38_1 := NB175_173.out
      have hns38_2 := NB182_173.out
      have hms38_1 := NB173_175.out
      have hms38_2 := NB173_182.out
      have hs39 : w37.cell? ⟨gb173, 1, none⟩ = some (.int .u64 0) := (blk_cell BK173.out 1).trans rfl
      have hfs39 := blk_frozen BK173.out 1
      have hns39_1 := NB175_173.out
      have hns39_2 := NB182_173.out
      have hms39_1 := NB173_175.out
      have hms39_2 := NB173_182.out
      refine skip_ (w1 := ?_) (by rfl) rfl ?_ ?_
      rotate_left
      ·go_simp
       rfl
      refine hK.out _ _ ⟨((cell_far (p := ⟨gb173, _, none⟩) NB182_173.out _).trans (((cell_far (p := ⟨gb173, _, none⟩) NB182_173.out _).trans (hHeld.1)))), ((cell_far (p := ⟨gb173, _, none⟩) NB182_173.out _).trans (((cell_far (p := ⟨gb173, _, none⟩) NB182_173.out _).trans (hHeld.2))))⟩ (fun hHeld => ?_)
      clear hK K
      refine done_ (done_of HT_.out (by kernel_rfl)) ?_
      try go_wp2
      refine bodyPost_ret (results_cell_row rfl _ _ gb173 26 #[.int .u64 t183, .int .u64 t184] (0, 0) _ rfl (by (with_reducible repeat (first | refine blk_drewN ?_ _ | refine blk_drew ?_ | refine blk_alloc ?_ _)); refine blk_put (cs := #[.int .u64 t183, .int .u64 0]) ?_ 1 _ rfl; (with_reducible repeat (first | refine blk_drewN ?_ _ | refine blk_drew ?_ | refine blk_alloc ?_ _)); refine blk_put (cs := #[.int .u64 0, .int .u64 0]) ?_ 0 _ rfl; (with_reducible repeat (first | refine blk_drewN ?_ _ | refine blk_drew ?_ | refine blk_alloc ?_ _)); exact BK173.out) Try.underlying26 rfl (by kernel_rfl)) rfl ?_
      exact ⟨Slim.vE, Slim.vB⟩
     ·rw [if_neg c23] at H
      have c23b0 : (((rd_T161 l1 a2).f0) == 13) = false := beq_eq_false_iff_ne.mpr c23
      have c23b1 : (((rd_T161 l1 a2).f0) != 13) = true := bne_iff_ne.mpr c23
      by_cases c40 : ((rd_T161 l1 a2).f0) = 19
      ·rw [if_pos c40] at H
       have c40b0 : (((rd_T161 l1 a2).f0) == 19) = true := beq_iff_eq.mpr c40
       have c40b1 : (((rd_T161 l1 a2).f0) != 19) = false := bne_eq_false_iff_eq.mpr c40
       clear c40
       simp only [Option.some.injEq, Prod.mk.injEq] at H
       obtain ⟨rfl, rfl⟩ := H
       go_enter Try.func140, Try.ntmps140
       go_wp2_with (first | ((with_reducible refine gate_dst (N := 8) rfl ?_); refine Slim.boxE 8 (#[.int .u64 0, .int .u64 0]) 26 ?_; intro gb173 hg w41 hbox hb; have GW173 := Aside0.mk (Slim.vS : w.heap.size ≤ gb173); have GE173 := GW173; replace HB := Aside0.mk (below_step Slim.vB hb); have BK173 := Aside0.mk hbox; clear hb hbox hg; have p174 : 0 ≤ (a2 : Int) := of_decide_eq_true (by first | (with_reducible assumption) | assumption); have q174 : a2 < (l1.length : Int) := of_decide_eq_true (by first | (with_reducible assumption) | assumption); obtain ⟨ad174, e174, hx174_0, hx174_1⟩ := at_T161 HR1.out a2 p174 q174; cases e174; replace hx174_0 := (HB.out.cell (World.block_lt_of_cell? w _ hx174_0)).trans hx174_0; replace hx174_1 := (HB.out.cell (World.block_lt_of_cell? w _ hx174_1)).trans hx174_1; replace p174 := eq_true p174; replace q174 := eq_true q174) | ((with_reducible refine gate_dst (N := 9) rfl ?_); refine Slim.boxE 9 (#[.int .i64 0, .int .u64 0]) 161 ?_; intro gb175 hg w42 hbox hb; have GW175 := Aside0.mk (Slim.vS : w.heap.size ≤ gb175); have GE175 := GW175; have NB173_175 := Aside0.mk (Slim.nL hg BK173.out : gb173 ≠ gb175); have NB175_173 := Aside0.mk (Slim.nG hg BK173.out : gb175 ≠ gb173); replace BK173 := Aside0.mk (Slim.bB BK173.out hb); replace HB := Aside0.mk (below_step Slim.vB hb); have BK175 := Aside0.mk hbox; clear hb hbox hg; have hnb43 := NB175_173.out; have hnc43 := NB173_175.out; have hcz44_0 := Slim.bc BK175.out 0 rfl; have hcz44_1 := Slim.bc BK175.out 1 rfl; have hfz44_0 := blk_frozen BK175.out 0; have hfz44_1 := blk_frozen BK175.out 1) | ((with_reducible refine gate_callee (f := 189) rfl ?_); refine goesL_ (some 22) rfl rfl Try.func189 (by kernel_rfl) rfl #[.int .i64 ((rd_T161 l1 a2).f0)] rfl Slim.vA ?_; (with_reducible refine (spec_l2Need.calls k ((rd_T161 l1 a2).f0) t176 t177 t178 _ A7.out).mono ?_); rintro e w' ⟨rfl, ⟨nd, rfl⟩⟩; refine ⟨_, rfl, ?_⟩) | ((with_reducible refine gate_callee (f := 140) rfl ?_); refine goesL_ (some 48) rfl rfl Try.func140 (by kernel_rfl) rfl #[.int .i64 a0, .slice (some ad174) l1.length c1, .int .i64 (wrap64 (a2 - 1)), .slice A3 l3.length c3] rfl Slim.vA ?_; (with_reducible refine (ih k (by omega) a0 _ _ l1 (wrap64 (a2 - 1)) _ _ l3 t180 t181 _ ?side1 ?side2 ?side3 ?side4 A22.out).mono ?_); (case side1 => exact Kd.C_below HR1.out Slim.vB); (case side2 => exact HC1.out); (case side3 => exact Kd.C_below HR3.out Slim.vB); (case side4 => exact HC3.out); rintro e w45 ⟨rfl, hb⟩; refine ⟨_, rfl, ?_⟩; have n0_ := Aside0.mk (blk_below (g := gb173) (o := .cells #[.int .u64 0, .int .u64 0] 26 (0, 0)) (by (with_reducible repeat (first | refine blk_drewN ?_ _ | refine blk_drew ?_ | refine blk_alloc ?_ _)); refine blk_far ?_ NB173_175.out _; (with_reducible repeat (first | refine blk_drewN ?_ _ | refine blk_drew ?_ | refine blk_alloc ?_ _)); refine blk_far ?_ NB173_175.out _; (with_reducible repeat (first | refine blk_drewN ?_ _ | refine blk_drew ?_ | refine blk_alloc ?_ _)); exact BK173.out) hb); have n1_ := Aside0.mk (blk_below (g := gb175) (o := .cells #[.int .i64 ((rd_T161 l1 a2).f0), .int .u64 ((rd_T161 l1 a2).f1)] 161 (0, 0)) (by (with_reducible repeat (first | refine blk_drewN ?_ _ | refine blk_drew ?_ | refine blk_alloc ?_ _)); refine blk_put (cs := #[.int .i64 ((rd_T161 l1 a2).f0), .int .u64 0]) ?_ 1 _ rfl; (with_reducible repeat (first | refine blk_drewN ?_ _ | refine blk_drew ?_ | refine blk_alloc ?_ _)); refine blk_put (cs := #[.int .i64 0, .int .u64 0]) ?_ 0 _ rfl; (with_reducible repeat (first | refine blk_drewN ?_ _ | refine blk_drew ?_ | refine blk_alloc ?_ _)); exact BK175.out) hb); have n2_ := Aside0.mk (below_step Slim.vB hb); clear BK173; clear BK175; clear HB; have BK173 := n0_; have BK175 := n1_; have HB := n2_; clear n0_ n1_ n2_; (try clear hb); (try clear hb2); (try clear hk); (try clear hi)) | ((with_reducible refine gate_dst (N := 13) rfl ?_); refine Slim.boxE 13 (#[.int .u64 0, .int .u64 0]) 26 ?_; intro gb182 hg w46 hbox hb; have GW182 := Aside0.mk (Slim.vS : w.heap.size ≤ gb182); have GE182 := GW182; have NB173_182 := Aside0.mk (Slim.nL hg BK173.out : gb173 ≠ gb182); have NB182_173 := Aside0.mk (Slim.nG hg BK173.out : gb182 ≠ gb173); have NB175_182 := Aside0.mk (Slim.nL hg BK175.out : gb175 ≠ gb182); have NB182_175 := Aside0.mk (Slim.nG hg BK175.out : gb182 ≠ gb175); replace BK173 := Aside0.mk (Slim.bB BK173.out hb); replace BK175 := Aside0.mk (Slim.bB BK175.out hb); replace HB := Aside0.mk (below_step Slim.vB hb); have BK182 := Aside0.mk hbox; clear hb hbox hg; have hnb47 := NB182_173.out; have hnc47 := NB173_182.out; have hnb48 := NB182_175.out; have hnc48 := NB175_182.out; have hcz49_0 := Slim.bc BK182.out 0 rfl; have hcz49_1 := Slim.bc BK182.out 1 rfl; have hfz49_0 := blk_frozen BK182.out 0; have hfz49_1 := blk_frozen BK182.out 1; have hcz50_0 := Slim.bc BK175.out 0 rfl; have hcz50_1 := Slim.bc BK175.out 1 rfl; have hfz50_0 := blk_frozen BK175.out 0; have hfz50_1 := blk_frozen BK175.out 1; have hcz51_0 := Slim.bc BK173.out 0 rfl; have hcz51_1 := Slim.bc BK173.out 1 rfl; have hfz51_0 := blk_frozen BK173.out 0; have hfz51_1 := blk_frozen BK173.out 1))
       refine bodyPost_ret (results_cell_row rfl _ _ gb173 26 #[.int .u64 (IntKind.u64.wrap (1 - t181)), .int .u64 (IntKind.u64.wrap (1 - t180))] (0, 0) _ rfl (by (with_reducible repeat (first | refine blk_drewN ?_ _ | refine blk_drew ?_ | refine blk_alloc ?_ _)); refine blk_put (cs := #[.int .u64 (IntKind.u64.wrap (1 - t181)), .int .u64 0]) ?_ 1 _ rfl; (with_reducible repeat (first | refine blk_drewN ?_ _ | refine blk_drew ?_ | refine blk_alloc ?_ _)); refine blk_put (cs := #[.int .u64 0, .int .u64 0]) ?_ 0 _ rfl; (with_reducible repeat (first | refine blk_drewN ?_ _ | refine blk_drew ?_ | refine blk_alloc ?_ _)); refine blk_far ?_ NB173_182.out _; (with_reducible repeat (first | refine blk_drewN ?_ _ | refine blk_drew ?_ | refine blk_alloc ?_ _)); refine blk_far ?_ NB173_182.out _; (with_reducible repeat (first | refine blk_drewN ?_ _ | refine blk_drew ?_ | refine blk_alloc ?_ _)); exact BK173.out) Try.underlying26 rfl (by kernel_rfl)) rfl ?_
       exact ⟨Slim.vE, Slim.vB⟩
      ·rw [if_neg c40] at H
       have c40b0 : (((rd_T161 l1 a2).f0) == 19) = false := beq_eq_false_iff_ne.mpr c40
       have c40b1 : (((rd_T161 l1 a2).f0) != 19) = true := bne_iff_ne.mpr c40
       replace H := Option.bind_eq_some_iff.mp H
       obtain ⟨t185, A520, H⟩ := H
       replace H : ((spec_l18Of.f k a0 l1 (wrap64 (t185 - 1)) l3).bind fun bt186 => (if t178 = 1 then ((spec_l18Num.f k a0 ((rd_T161 l1 a2).f0) bt186.1 bt186.2 t180 t181).bind fun bt189 => (some (bt189.1, bt189.2))) else ((spec_l18Ask.f k ((rd_T161 l1 a2).f0) bt186.1 bt186.2 t180 t181).bind fun bt191 => (some (bt191.1, bt191.2))))) = some (r1, r2) := H
       have A52 := Aside0.mk A520
       clear A520
       replace H := Option.bind_eq_some_iff.mp H
       obtain ⟨⟨t186, t187⟩, A530, H⟩ := H
       replace H : (if t178 = 1 then ((spec_l18Num.f k a0 ((rd_T161 l1 a2).f0) t186 t187 t180 t181).bind fun bt189 => (some (bt189.1, bt189.2))) else ((spec_l18Ask.f k ((rd_T161 l1 a2).f0) t186 t187 t180 t181).bind fun bt191 => (some (bt191.1, bt191.2)))) = some (r1, r2) := H
       have A53 := Aside0.mk A530
       clear A530
       by_cases c54 : t178 = 1
       ·rw [if_pos c54] at H
        have c54b0 : (t178 == 1) = true := beq_iff_eq.mpr c54
        have c54b1 : (t178 != 1) = false := bne_eq_false_iff_eq.mpr c54
        clear c54
        replace H := Option.bind_eq_some_iff.mp H
        obtain ⟨⟨t189, t190⟩, A550, H⟩ := H
        replace H : (some (t189, t190)) = some (r1, r2) := H
        have A55 := Aside0.mk A550
        clear A550
        simp only [Option.some.injEq, Prod.mk.injEq] at H
        obtain ⟨rfl, rfl⟩ := H
        go_enter Try.func140, Try.ntmps140
        go_wp2_with (first | ((with_reducible refine gate_dst (N := 8) rfl ?_); refine Slim.boxE 8 (#[.int .u64 0, .int .u64 0]) 26 ?_; intro gb173 hg w56 hbox hb; have GW173 := Aside0.mk (Slim.vS : w.heap.size ≤ gb173); have GE173 := GW173; replace HB := Aside0.mk (below_step Slim.vB hb); have BK173 := Aside0.mk hbox; clear hb hbox hg; have p174 : 0 ≤ (a2 : Int) := of_decide_eq_true (by first | (with_reducible assumption) | assumption); have q174 : a2 < (l1.length : Int) := of_decide_eq_true (by first | (with_reducible assumption) | assumption); obtain ⟨ad174, e174, hx174_0, hx174_1⟩ := at_T161 HR1.out a2 p174 q174; cases e174; replace hx174_0 := (HB.out.cell (World.block_lt_of_cell? w _ hx174_0)).trans hx174_0; replace hx174_1 := (HB.out.cell (World.block_lt_of_cell? w _ hx174_1)).trans hx174_1; replace p174 := eq_true p174; replace q174 := eq_true q174) | ((with_reducible refine gate_dst (N := 9) rfl ?_); refine Slim.boxE 9 (#[.int .i64 0, .int .u64 0]) 161 ?_; intro gb175 hg w57 hbox hb; have GW175 := Aside0.mk (Slim.vS : w.heap.size ≤ gb175); have GE175 := GW175; have NB173_175 := Aside0.mk (Slim.nL hg BK173.out : gb173 ≠ gb175); have NB175_173 := Aside0.mk (Slim.nG hg BK173.out : gb175 ≠ gb173); replace BK173 := Aside0.mk (Slim.bB BK173.out hb); replace HB := Aside0.mk (below_step Slim.vB hb); have BK175 := Aside0.mk hbox; clear hb hbox hg; have hnb58 := NB175_173.out; have hnc58 := NB173_175.out; have hcz59_0 := Slim.bc BK175.out 0 rfl; have hcz59_1 := Slim.bc BK175.out 1 rfl; have hfz59_0 := blk_frozen BK175.out 0; have hfz59_1 := blk_frozen BK175.out 1) | ((with_reducible refine gate_callee (f := 189) rfl ?_); refine goesL_ (some 22) rfl rfl Try.func189 (by kernel_rfl) rfl #[.int .i64 ((rd_T161 l1 a2).f0)] rfl Slim.vA ?_; (with_reducible refine (spec_l2Need.calls k ((rd_T161 l1 a2).f0) t176 t177 t178 _ A7.out).mono ?_); rintro e w' ⟨rfl, ⟨nd, rfl⟩⟩; refine ⟨_, rfl, ?_⟩) | ((with_reducible refine gate_callee (f := 140) rfl ?_); refine goesL_ (some 48) rfl rfl Try.func140 (by kernel_rfl) rfl #[.int .i64 a0, .slice (some ad174) l1.length c1, .int .i64 (wrap64 (a2 - 1)), .slice A3 l3.length c3] rfl Slim.vA ?_; (with_reducible refine (ih k (by omega) a0 _ _ l1 (wrap64 (a2 - 1)) _ _ l3 t180 t181 _ ?side1 ?side2 ?side3 ?side4 A22.out).mono ?_); (case side1 => exact Kd.C_below HR1.out Slim.vB); (case side2 => exact HC1.out); (case side3 => exact Kd.C_below HR3.out Slim.vB); (case side4 => exact HC3.out); rintro e w60 ⟨rfl, hb⟩; refine ⟨_, rfl, ?_⟩; have n0_ := Aside0.mk (blk_below (g := gb173) (o := .cells #[.int .u64 0, .int .u64 0] 26 (0, 0)) (by (with_reducible repeat (first | refine blk_drewN ?_ _ | refine blk_drew ?_ | refine blk_alloc ?_ _)); refine blk_far ?_ NB173_175.out _; (with_reducible repeat (first | refine blk_drewN ?_ _ | refine blk_drew ?_ | refine blk_alloc ?_ _)); refine blk_far ?_ NB173_175.out _; (with_reducible repeat (first | refine blk_drewN ?_ _ | refine blk_drew ?_ | refine blk_alloc ?_ _)); exact BK173.out) hb); have n1_ := Aside0.mk (blk_below (g := gb175) (o := .cells #[.int .i64 ((rd_T161 l1 a2).f0), .int .u64 ((rd_T161 l1 a2).f1)] 161 (0, 0)) (by (with_reducible repeat (first | refine blk_drewN ?_ _ | refine blk_drew ?_ | refine blk_alloc ?_ _)); refine blk_put (cs := #[.int .i64 ((rd_T161 l1 a2).f0), .int .u64 0]) ?_ 1 _ rfl; (with_reducible repeat (first | refine blk_drewN ?_ _ | refine blk_drew ?_ | refine blk_alloc ?_ _)); refine blk_put (cs := #[.int .i64 0, .int .u64 0]) ?_ 0 _ rfl; (with_reducible repeat (first | refine blk_drewN ?_ _ | refine blk_drew ?_ | refine blk_alloc ?_ _)); exact BK175.out) hb); have n2_ := Aside0.mk (below_step Slim.vB hb); clear BK173; clear BK175; clear HB; have BK173 := n0_; have BK175 := n1_; have HB := n2_; clear n0_ n1_ n2_; (try clear hb); (try clear hb2); (try clear hk); (try clear hi)) | ((with_reducible refine gate_dst (N := 13) rfl ?_); refine Slim.boxE 13 (#[.int .u64 0, .int .u64 0]) 26 ?_; intro gb182 hg w61 hbox hb; have GW182 := Aside0.mk (Slim.vS : w.heap.size ≤ gb182); have GE182 := GW182; have NB173_182 := Aside0.mk (Slim.nL hg BK173.out : gb173 ≠ gb182); have NB182_173 := Aside0.mk (Slim.nG hg BK173.out : gb182 ≠ gb173); have NB175_182 := Aside0.mk (Slim.nL hg BK175.out : gb175 ≠ gb182); have NB182_175 := Aside0.mk (Slim.nG hg BK175.out : gb182 ≠ gb175); replace BK173 := Aside0.mk (Slim.bB BK173.out hb); replace BK175 := Aside0.mk (Slim.bB BK175.out hb); replace HB := Aside0.mk (below_step Slim.vB hb); have BK182 := Aside0.mk hbox; clear hb hbox hg; have hnb62 := NB182_173.out; have hnc62 := NB173_182.out; have hnb63 := NB182_175.out; have hnc63 := NB175_182.out; have hcz64_0 := Slim.bc BK182.out 0 rfl; have hcz64_1 := Slim.bc BK182.out 1 rfl; have hfz64_0 := blk_frozen BK182.out 0; have hfz64_1 := blk_frozen BK182.out 1; have hcz65_0 := Slim.bc BK175.out 0 rfl; have hcz65_1 := Slim.bc BK175.out 1 rfl; have hfz65_0 := blk_frozen BK175.out 0; have hfz65_1 := blk_frozen BK175.out 1) | ((with_reducible refine gate_callee (f := 191) rfl ?_); refine goesL_ (some 80) rfl rfl Try.func191 (by kernel_rfl) rfl #[.slice (some ad174) l1.length c1, .int .i64 (wrap64 (a2 - 1))] rfl Slim.vA ?_; (with_reducible refine (spec_l2From.calls k _ _ l1 (wrap64 (a2 - 1)) t185 _ ?side1 ?side2 A52.out).mono ?_); (case side1 => exact Kd.C_below HR1.out Slim.vB); (case side2 => exact HC1.out); rintro e w' ⟨rfl, ⟨nd, rfl⟩⟩; refine ⟨_, rfl, ?_⟩) | ((with_reducible refine gate_callee (f := 140) rfl ?_); refine goesL_ (some 83) rfl rfl Try.func140 (by kernel_rfl) rfl #[.int .i64 a0, .slice (some ad174) l1.length c1, .int .i64 (wrap64 (t185 - 1)), .slice A3 l3.length c3] rfl Slim.vA ?_; (with_reducible refine (ih k (by omega) a0 _ _ l1 (wrap64 (t185 - 1)) _ _ l3 t186 t187 _ ?side1 ?side2 ?side3 ?side4 A53.out).mono ?_); (case side1 => exact Kd.C_below HR1.out Slim.vB); (case side2 => exact HC1.out); (case side3 => exact Kd.C_below HR3.out Slim.vB); (case side4 => exact HC3.out); rintro e w66 ⟨rfl, hb⟩; refine ⟨_, rfl, ?_⟩; have n0_ := Aside0.mk (blk_below (g := gb173) (o := .cells #[.int .u64 0, .int .u64 0] 26 (0, 0)) (by (with_reducible repeat (first | refine blk_drewN ?_ _ | refine blk_drew ?_ | refine blk_alloc ?_ _)); refine blk_far ?_ NB173_182.out _; (with_reducible repeat (first | refine blk_drewN ?_ _ | refine blk_drew ?_ | refine blk_alloc ?_ _)); refine blk_far ?_ NB173_182.out _; (with_reducible repeat (first | refine blk_drewN ?_ _ | refine blk_drew ?_ | refine blk_alloc ?_ _)); exact BK173.out) hb); have n1_ := Aside0.mk (blk_below (g := gb175) (o := .cells #[.int .i64 ((rd_T161 l1 a2).f0), .int .u64 ((rd_T161 l1 a2).f1)] 161 (0, 0)) (by (with_reducible repeat (first | refine blk_drewN ?_ _ | refine blk_drew ?_ | refine blk_alloc ?_ _)); refine blk_far ?_ NB175_182.out _; (with_reducible repeat (first | refine blk_drewN ?_ _ | refine blk_drew ?_ | refine blk_alloc ?_ _)); refine blk_far ?_ NB175_182.out _; (with_reducible repeat (first | refine blk_drewN ?_ _ | refine blk_drew ?_ | refine blk_alloc ?_ _)); exact BK175.out) hb); have n2_ := Aside0.mk (blk_below (g := gb182) (o := .cells #[.int .u64 t180, .int .u64 t181] 26 (0, 0)) (by (with_reducible repeat (first | refine blk_drewN ?_ _ | refine blk_drew ?_ | refine blk_alloc ?_ _)); refine blk_put (cs := #[.int .u64 t180, .int .u64 0]) ?_ 1 _ rfl; (with_reducible repeat (first | refine blk_drewN ?_ _ | refine blk_drew ?_ | refine blk_alloc ?_ _)); refine blk_put (cs := #[.int .u64 0, .int .u64 0]) ?_ 0 _ rfl; (with_reducible repeat (first | refine blk_drewN ?_ _ | refine blk_drew ?_ | refine blk_alloc ?_ _)); exact BK182.out) hb); have n3_ := Aside0.mk (below_step Slim.vB hb); clear BK173; clear BK175; clear BK182; clear HB; have BK173 := n0_; have BK175 := n1_; have BK182 := n2_; have HB := n3_; clear n0_ n1_ n2_ n3_; (try clear hb); (try clear hb2); (try clear hk); (try clear hi)) | ((with_reducible refine gate_dst (N := 14) rfl ?_); refine Slim.boxE 14 (#[.int .u64 0, .int .u64 0]) 26 ?_; intro gb188 hg w67 hbox hb; have GW188 := Aside0.mk (Slim.vS : w.heap.size ≤ gb188); have GE188 := GW188; have NB173_188 := Aside0.mk (Slim.nL hg BK173.out : gb173 ≠ gb188); have NB188_173 := Aside0.mk (Slim.nG hg BK173.out : gb188 ≠ gb173); have NB175_188 := Aside0.mk (Slim.nL hg BK175.out : gb175 ≠ gb188); have NB188_175 := Aside0.mk (Slim.nG hg BK175.out : gb188 ≠ gb175); have NB182_188 := Aside0.mk (Slim.nL hg BK182.out : gb182 ≠ gb188); have NB188_182 := Aside0.mk (Slim.nG hg BK182.out : gb188 ≠ gb182); replace BK173 := Aside0.mk (Slim.bB BK173.out hb); replace BK175 := Aside0.mk (Slim.bB BK175.out hb); replace BK182 := Aside0.mk (Slim.bB BK182.out hb); replace HB := Aside0.mk (below_step Slim.vB hb); have BK188 := Aside0.mk hbox; clear hb hbox hg; have hnb68 := NB188_173.out; have hnc68 := NB173_188.out; have hnb69 := NB188_175.out; have hnc69 := NB175_188.out; have hnb70 := NB188_182.out; have hnc70 := NB182_188.out; have hcz71_0 := Slim.bc BK188.out 0 rfl; have hcz71_1 := Slim.bc BK188.out 1 rfl; have hfz71_0 := blk_frozen BK188.out 0; have hfz71_1 := blk_frozen BK188.out 1; have hcz72_0 := Slim.bc BK175.out 0 rfl; have hcz72_1 := Slim.bc BK175.out 1 rfl; have hfz72_0 := blk_frozen BK175.out 0; have hfz72_1 := blk_frozen BK175.out 1; have hcz73_0 := Slim.bc BK182.out 0 rfl; have hcz73_1 := Slim.bc BK182.out 1 rfl; have hfz73_0 := blk_frozen BK182.out 0; have hfz73_1 := blk_frozen BK182.out 1) | ((with_reducible refine gate_callee (f := 192) rfl ?_); refine goesL_ (some 91) rfl rfl Try.func192 (by kernel_rfl) rfl #[.int .i64 a0, .int .i64 ((rd_T161 l1 a2).f0), .agg #[.int .u64 t186, .int .u64 t187], .agg #[.int .u64 t180, .int .u64 t181]] rfl Slim.vA ?_; (with_reducible refine (spec_l18Num.calls k a0 ((rd_T161 l1 a2).f0) t186 t187 t180 t181 t189 t190 _ A55.out).mono ?_); rintro e w74 ⟨rfl, hb⟩; refine ⟨_, rfl, ?_⟩; have n0_ := Aside0.mk (blk_below (g := gb173) (o := .cells #[.int .u64 0, .int .u64 0] 26 (0, 0)) (by (with_reducible repeat (first | refine blk_drewN ?_ _ | refine blk_drew ?_ | refine blk_alloc ?_ _)); refine blk_far ?_ NB173_188.out _; (with_reducible repeat (first | refine blk_drewN ?_ _ | refine blk_drew ?_ | refine blk_alloc ?_ _)); refine blk_far ?_ NB173_188.out _; (with_reducible repeat (first | refine blk_drewN ?_ _ | refine blk_drew ?_ | refine blk_alloc ?_ _)); exact BK173.out) hb); have n1_ := Aside0.mk (blk_below (g := gb175) (o := .cells #[.int .i64 ((rd_T161 l1 a2).f0), .int .u64 ((rd_T161 l1 a2).f1)] 161 (0, 0)) (by (with_reducible repeat (first | refine blk_drewN ?_ _ | refine blk_drew ?_ | refine blk_alloc ?_ _)); refine blk_far ?_ NB175_188.out _; (with_reducible repeat (first | refine blk_drewN ?_ _ | refine blk_drew ?_ | refine blk_alloc ?_ _)); refine blk_far ?_ NB175_188.out _; (with_reducible repeat (first | refine blk_drewN ?_ _ | refine blk_drew ?_ | refine blk_alloc ?_ _)); exact BK175.out) hb); have n2_ := Aside0.mk (blk_below (g := gb182) (o := .cells #[.int .u64 t180, .int .u64 t181] 26 (0, 0)) (by (with_reducible repeat (first | refine blk_drewN ?_ _ | refine blk_drew ?_ | refine blk_alloc ?_ _)); refine blk_far ?_ NB182_188.out _; (with_reducible repeat (first | refine blk_drewN ?_ _ | refine blk_drew ?_ | refine blk_alloc ?_ _)); refine blk_far ?_ NB182_188.out _; (with_reducible repeat (first | refine blk_drewN ?_ _ | refine blk_drew ?_ | refine blk_alloc ?_ _)); exact BK182.out) hb); have n3_ := Aside0.mk (blk_below (g := gb188) (o := .cells #[.int .u64 t186, .int .u64 t187] 26 (0, 0)) (by (with_reducible repeat (first | refine blk_drewN ?_ _ | refine blk_drew ?_ | refine blk_alloc ?_ _)); refine blk_put (cs := #[.int .u64 t186, .int .u64 0]) ?_ 1 _ rfl; (with_reducible repeat (first | refine blk_drewN ?_ _ | refine blk_drew ?_ | refine blk_alloc ?_ _)); refine blk_put (cs := #[.int .u64 0, .int .u64 0]) ?_ 0 _ rfl; (with_reducible repeat (first | refine blk_drewN ?_ _ | refine blk_drew ?_ | refine blk_alloc ?_ _)); exact BK188.out) hb); have n4_ := Aside0.mk (below_step Slim.vB hb); clear BK173; clear BK175; clear BK182; clear BK188; clear HB; have BK173 := n0_; have BK175 := n1_; have BK182 := n2_; have BK188 := n3_; have HB := n4_; clear n0_ n1_ n2_ n3_ n4_; (try clear hb); (try clear hb2); (try clear hk); (try clear hi); have hcz75_0 := Slim.bc BK173.out 0 rfl; have hcz75_1 := Slim.bc BK173.out 1 rfl; have hfz75_0 := blk_frozen BK173.out 0; have hfz75_1 := blk_frozen BK173.out 1))
        refine bodyPost_ret (results_cell_row rfl _ _ gb173 26 #[.int .u64 t189, .int .u64 t190] (0, 0) _ rfl (by (with_reducible repeat (first | refine blk_drewN ?_ _ | refine blk_drew ?_ | refine blk_alloc ?_ _)); refine blk_put (cs := #[.int .u64 t189, .int .u64 0]) ?_ 1 _ rfl; (with_reducible repeat (first | refine blk_drewN ?_ _ | refine blk_drew ?_ | refine blk_alloc ?_ _)); refine blk_put (cs := #[.int .u64 0, .int .u64 0]) ?_ 0 _ rfl; (with_reducible repeat (first | refine blk_drewN ?_ _ | refine blk_drew ?_ | refine blk_alloc ?_ _)); exact BK173.out) Try.underlying26 rfl (by kernel_rfl)) rfl ?_
        exact ⟨Slim.vE, Slim.vB⟩
       ·rw [if_neg c54] at H
        have c54b0 : (t178 == 1) = false := beq_eq_false_iff_ne.mpr c54
        have c54b1 : (t178 != 1) = true := bne_iff_ne.mpr c54
        replace H := Option.bind_eq_some_iff.mp H
        obtain ⟨⟨t191, t192⟩, A760, H⟩ := H
        replace H : (some (t191, t192)) = some (r1, r2) := H
        have A76 := Aside0.mk A760
        clear A760
        simp only [Option.some.injEq, Prod.mk.injEq] at H
        obtain ⟨rfl, rfl⟩ := H
        go_enter Try.func140, Try.ntmps140
        go_wp2_with (first | ((with_reducible refine gate_dst (N := 8) rfl ?_); refine Slim.boxE 8 (#[.int .u64 0, .int .u64 0]) 26 ?_; intro gb173 hg w77 hbox hb; have GW173 := Aside0.mk (Slim.vS : w.heap.size ≤ gb173); have GE173 := GW173; replace HB := Aside0.mk (below_step Slim.vB hb); have BK173 := Aside0.mk hbox; clear hb hbox hg; have p174 : 0 ≤ (a2 : Int) := of_decide_eq_true (by first | (with_reducible assumption) | assumption); have q174 : a2 < (l1.length : Int) := of_decide_eq_true (by first | (with_reducible assumption) | assumption); obtain ⟨ad174, e174, hx174_0, hx174_1⟩ := at_T161 HR1.out a2 p174 q174; cases e174; replace hx174_0 := (HB.out.cell (World.block_lt_of_cell? w _ hx174_0)).trans hx174_0; replace hx174_1 := (HB.out.cell (World.block_lt_of_cell? w _ hx174_1)).trans hx174_1; replace p174 := eq_true p174; replace q174 := eq_true q174) | ((with_reducible refine gate_dst (N := 9) rfl ?_); refine Slim.boxE 9 (#[.int .i64 0, .int .u64 0]) 161 ?_; intro gb175 hg w78 hbox hb; have GW175 := Aside0.mk (Slim.vS : w.heap.size ≤ gb175); have GE175 := GW175; have NB173_175 := Aside0.mk (Slim.nL hg BK173.out : gb173 ≠ gb175); have NB175_173 := Aside0.mk (Slim.nG hg BK173.out : gb175 ≠ gb173); replace BK173 := Aside0.mk (Slim.bB BK173.out hb); replace HB := Aside0.mk (below_step Slim.vB hb); have BK175 := Aside0.mk hbox; clear hb hbox hg; have hnb79 := NB175_173.out; have hnc79 := NB173_175.out; have hcz80_0 := Slim.bc BK175.out 0 rfl; have hcz80_1 := Slim.bc BK175.out 1 rfl; have hfz80_0 := blk_frozen BK175.out 0; have hfz80_1 := blk_frozen BK175.out 1) | ((with_reducible refine gate_callee (f := 189) rfl ?_); refine goesL_ (some 22) rfl rfl Try.func189 (by kernel_rfl) rfl #[.int .i64 ((rd_T161 l1 a2).f0)] rfl Slim.vA ?_; (with_reducible refine (spec_l2Need.calls k ((rd_T161 l1 a2).f0) t176 t177 t178 _ A7.out).mono ?_); rintro e w' ⟨rfl, ⟨nd, rfl⟩⟩; refine ⟨_, rfl, ?_⟩) | ((with_reducible refine gate_callee (f := 140) rfl ?_); refine goesL_ (some 48) rfl rfl Try.func140 (by kernel_rfl) rfl #[.int .i64 a0, .slice (some ad174) l1.length c1, .int .i64 (wrap64 (a2 - 1)), .slice A3 l3.length c3] rfl Slim.vA ?_; (with_reducible refine (ih k (by omega) a0 _ _ l1 (wrap64 (a2 - 1)) _ _ l3 t180 t181 _ ?side1 ?side2 ?side3 ?side4 A22.out).mono ?_); (case side1 => exact Kd.C_below HR1.out Slim.vB); (case side2 => exact HC1.out); (case side3 => exact Kd.C_below HR3.out Slim.vB); (case side4 => exact HC3.out); rintro e w81 ⟨rfl, hb⟩; refine ⟨_, rfl, ?_⟩; have n0_ := Aside0.mk (blk_below (g := gb173) (o := .cells #[.int .u64 0, .int .u64 0] 26 (0, 0)) (by (with_reducible repeat (first | refine blk_drewN ?_ _ | refine blk_drew ?_ | refine blk_alloc ?_ _)); refine blk_far ?_ NB173_175.out _; (with_reducible repeat (first | refine blk_drewN ?_ _ | refine blk_drew ?_ | refine blk_alloc ?_ _)); refine blk_far ?_ NB173_175.out _; (with_reducible repeat (first | refine blk_drewN ?_ _ | refine blk_drew ?_ | refine blk_alloc ?_ _)); exact BK173.out) hb); have n1_ := Aside0.mk (blk_below (g := gb175) (o := .cells #[.int .i64 ((rd_T161 l1 a2).f0), .int .u64 ((rd_T161 l1 a2).f1)] 161 (0, 0)) (by (with_reducible repeat (first | refine blk_drewN ?_ _ | refine blk_drew ?_ | refine blk_alloc ?_ _)); refine blk_put (cs := #[.int .i64 ((rd_T161 l1 a2).f0), .int .u64 0]) ?_ 1 _ rfl; (with_reducible repeat (first | refine blk_drewN ?_ _ | refine blk_drew ?_ | refine blk_alloc ?_ _)); refine blk_put (cs := #[.int .i64 0, .int .u64 0]) ?_ 0 _ rfl; (with_reducible repeat (first | refine blk_drewN ?_ _ | refine blk_drew ?_ | refine blk_alloc ?_ _)); exact BK175.out) hb); have n2_ := Aside0.mk (below_step Slim.vB hb); clear BK173; clear BK175; clear HB; have BK173 := n0_; have BK175 := n1_; have HB := n2_; clear n0_ n1_ n2_; (try clear hb); (try clear hb2); (try clear hk); (try clear hi)) | ((with_reducible refine gate_dst (N := 13) rfl ?_); refine Slim.boxE 13 (#[.int .u64 0, .int .u64 0]) 26 ?_; intro gb182 hg w82 hbox hb; have GW182 := Aside0.mk (Slim.vS : w.heap.size ≤ gb182); have GE182 := GW182; have NB173_182 := Aside0.mk (Slim.nL hg BK173.out : gb173 ≠ gb182); have NB182_173 := Aside0.mk (Slim.nG hg BK173.out : gb182 ≠ gb173); have NB175_182 := Aside0.mk (Slim.nL hg BK175.out : gb175 ≠ gb182); have NB182_175 := Aside0.mk (Slim.nG hg BK175.out : gb182 ≠ gb175); replace BK173 := Aside0.mk (Slim.bB BK173.out hb); replace BK175 := Aside0.mk (Slim.bB BK175.out hb); replace HB := Aside0.mk (below_step Slim.vB hb); have BK182 := Aside0.mk hbox; clear hb hbox hg; have hnb83 := NB182_173.out; have hnc83 := NB173_182.out; have hnb84 := NB182_175.out; have hnc84 := NB175_182.out; have hcz85_0 := Slim.bc BK182.out 0 rfl; have hcz85_1 := Slim.bc BK182.out 1 rfl; have hfz85_0 := blk_frozen BK182.out 0; have hfz85_1 := blk_frozen BK182.out 1; have hcz86_0 := Slim.bc BK175.out 0 rfl; have hcz86_1 := Slim.bc BK175.out 1 rfl; have hfz86_0 := blk_frozen BK175.out 0; have hfz86_1 := blk_frozen BK175.out 1) | ((with_reducible refine gate_callee (f := 191) rfl ?_); refine goesL_ (some 80) rfl rfl Try.func191 (by kernel_rfl) rfl #[.slice (some ad174) l1.length c1, .int .i64 (wrap64 (a2 - 1))] rfl Slim.vA ?_; (with_reducible refine (spec_l2From.calls k _ _ l1 (wrap64 (a2 - 1)) t185 _ ?side1 ?side2 A52.out).mono ?_); (case side1 => exact Kd.C_below HR1.out Slim.vB); (case side2 => exact HC1.out); rintro e w' ⟨rfl, ⟨nd, rfl⟩⟩; refine ⟨_, rfl, ?_⟩) | ((with_reducible refine gate_callee (f := 140) rfl ?_); refine goesL_ (some 83) rfl rfl Try.func140 (by kernel_rfl) rfl #[.int .i64 a0, .slice (some ad174) l1.length c1, .int .i64 (wrap64 (t185 - 1)), .slice A3 l3.length c3] rfl Slim.vA ?_; (with_reducible refine (ih k (by omega) a0 _ _ l1 (wrap64 (t185 - 1)) _ _ l3 t186 t187 _ ?side1 ?side2 ?side3 ?side4 A53.out).mono ?_); (case side1 => exact Kd.C_below HR1.out Slim.vB); (case side2 => exact HC1.out); (case side3 => exact Kd.C_below HR3.out Slim.vB); (case side4 => exact HC3.out); rintro e w87 ⟨rfl, hb⟩; refine ⟨_, rfl, ?_⟩; have n0_ := Aside0.mk (blk_below (g := gb173) (o := .cells #[.int .u64 0, .int .u64 0] 26 (0, 0)) (by (with_reducible repeat (first | refine blk_drewN ?_ _ | refine blk_drew ?_ | refine blk_alloc ?_ _)); refine blk_far ?_ NB173_182.out _; (with_reducible repeat (first | refine blk_drewN ?_ _ | refine blk_drew ?_ | refine blk_alloc ?_ _)); refine blk_far ?_ NB173_182.out _; (with_reducible repeat (first | refine blk_drewN ?_ _ | refine blk_drew ?_ | refine blk_alloc ?_ _)); exact BK173.out) hb); have n1_ := Aside0.mk (blk_below (g := gb175) (o := .cells #[.int .i64 ((rd_T161 l1 a2).f0), .int .u64 ((rd_T161 l1 a2).f1)] 161 (0, 0)) (by (with_reducible repeat (first | refine blk_drewN ?_ _ | refine blk_drew ?_ | refine blk_alloc ?_ _)); refine blk_far ?_ NB175_182.out _; (with_reducible repeat (first | refine blk_drewN ?_ _ | refine blk_drew ?_ | refine blk_alloc ?_ _)); refine blk_far ?_ NB175_182.out _; (with_reducible repeat (first | refine blk_drewN ?_ _ | refine blk_drew ?_ | refine blk_alloc ?_ _)); exact BK175.out) hb); have n2_ := Aside0.mk (blk_below (g := gb182) (o := .cells #[.int .u64 t180, .int .u64 t181] 26 (0, 0)) (by (with_reducible repeat (first | refine blk_drewN ?_ _ | refine blk_drew ?_ | refine blk_alloc ?_ _)); refine blk_put (cs := #[.int .u64 t180, .int .u64 0]) ?_ 1 _ rfl; (with_reducible repeat (first | refine blk_drewN ?_ _ | refine blk_drew ?_ | refine blk_alloc ?_ _)); refine blk_put (cs := #[.int .u64 0, .int .u64 0]) ?_ 0 _ rfl; (with_reducible repeat (first | refine blk_drewN ?_ _ | refine blk_drew ?_ | refine blk_alloc ?_ _)); exact BK182.out) hb); have n3_ := Aside0.mk (below_step Slim.vB hb); clear BK173; clear BK175; clear BK182; clear HB; have BK173 := n0_; have BK175 := n1_; have BK182 := n2_; have HB := n3_; clear n0_ n1_ n2_ n3_; (try clear hb); (try clear hb2); (try clear hk); (try clear hi)) | ((with_reducible refine gate_dst (N := 14) rfl ?_); refine Slim.boxE 14 (#[.int .u64 0, .int .u64 0]) 26 ?_; intro gb188 hg w88 hbox hb; have GW188 := Aside0.mk (Slim.vS : w.heap.size ≤ gb188); have GE188 := GW188; have NB173_188 := Aside0.mk (Slim.nL hg BK173.out : gb173 ≠ gb188); have NB188_173 := Aside0.mk (Slim.nG hg BK173.out : gb188 ≠ gb173); have NB175_188 := Aside0.mk (Slim.nL hg BK175.out : gb175 ≠ gb188); have NB188_175 := Aside0.mk (Slim.nG hg BK175.out : gb188 ≠ gb175); have NB182_188 := Aside0.mk (Slim.nL hg BK182.out : gb182 ≠ gb188); have NB188_182 := Aside0.mk (Slim.nG hg BK182.out : gb188 ≠ gb182); replace BK173 := Aside0.mk (Slim.bB BK173.out hb); replace BK175 := Aside0.mk (Slim.bB BK175.out hb); replace BK182 := Aside0.mk (Slim.bB BK182.out hb); replace HB := Aside0.mk (below_step Slim.vB hb); have BK188 := Aside0.mk hbox; clear hb hbox hg; have hnb89 := NB188_173.out; have hnc89 := NB173_188.out; have hnb90 := NB188_175.out; have hnc90 := NB175_188.out; have hnb91 := NB188_182.out; have hnc91 := NB182_188.out; have hcz92_0 := Slim.bc BK188.out 0 rfl; have hcz92_1 := Slim.bc BK188.out 1 rfl; have hfz92_0 := blk_frozen BK188.out 0; have hfz92_1 := blk_frozen BK188.out 1; have hcz93_0 := Slim.bc BK175.out 0 rfl; have hcz93_1 := Slim.bc BK175.out 1 rfl; have hfz93_0 := blk_frozen BK175.out 0; have hfz93_1 := blk_frozen BK175.out 1; have hcz94_0 := Slim.bc BK182.out 0 rfl; have hcz94_1 := Slim.bc BK182.out 1 rfl; have hfz94_0 := blk_frozen BK182.out 0; have hfz94_1 := blk_frozen BK182.out 1) | ((with_reducible refine gate_callee (f := 193) rfl ?_); refine goesL_ (some 96) rfl rfl Try.func193 (by kernel_rfl) rfl #[.int .i64 ((rd_T161 l1 a2).f0), .agg #[.int .u64 t186, .int .u64 t187], .agg #[.int .u64 t180, .int .u64 t181]] rfl Slim.vA ?_; (with_reducible refine (spec_l18Ask.calls k ((rd_T161 l1 a2).f0) t186 t187 t180 t181 t191 t192 _ A76.out).mono ?_); rintro e w95 ⟨rfl, hb⟩; refine ⟨_, rfl, ?_⟩; have n0_ := Aside0.mk (blk_below (g := gb173) (o := .cells #[.int .u64 0, .int .u64 0] 26 (0, 0)) (by (with_reducible repeat (first | refine blk_drewN ?_ _ | refine blk_drew ?_ | refine blk_alloc ?_ _)); refine blk_far ?_ NB173_188.out _; (with_reducible repeat (first | refine blk_drewN ?_ _ | refine blk_drew ?_ | refine blk_alloc ?_ _)); refine blk_far ?_ NB173_188.out _; (with_reducible repeat (first | refine blk_drewN ?_ _ | refine blk_drew ?_ | refine blk_alloc ?_ _)); exact BK173.out) hb); have n1_ := Aside0.mk (blk_below (g := gb175) (o := .cells #[.int .i64 ((rd_T161 l1 a2).f0), .int .u64 ((rd_T161 l1 a2).f1)] 161 (0, 0)) (by (with_reducible repeat (first | refine blk_drewN ?_ _ | refine blk_drew ?_ | refine blk_alloc ?_ _)); refine blk_far ?_ NB175_188.out _; (with_reducible repeat (first | refine blk_drewN ?_ _ | refine blk_drew ?_ | refine blk_alloc ?_ _)); refine blk_far ?_ NB175_188.out _; (with_reducible repeat (first | refine blk_drewN ?_ _ | refine blk_drew ?_ | refine blk_alloc ?_ _)); exact BK175.out) hb); have n2_ := Aside0.mk (blk_below (g := gb182) (o := .cells #[.int .u64 t180, .int .u64 t181] 26 (0, 0)) (by (with_reducible repeat (first | refine blk_drewN ?_ _ | refine blk_drew ?_ | refine blk_alloc ?_ _)); refine blk_far ?_ NB182_188.out _; (with_reducible repeat (first | refine blk_drewN ?_ _ | refine blk_drew ?_ | refine blk_alloc ?_ _)); refine blk_far ?_ NB182_188.out _; (with_reducible repeat (first | refine blk_drewN ?_ _ | refine blk_drew ?_ | refine blk_alloc ?_ _)); exact BK182.out) hb); have n3_ := Aside0.mk (blk_below (g := gb188) (o := .cells #[.int .u64 t186, .int .u64 t187] 26 (0, 0)) (by (with_reducible repeat (first | refine blk_drewN ?_ _ | refine blk_drew ?_ | refine blk_alloc ?_ _)); refine blk_put (cs := #[.int .u64 t186, .int .u64 0]) ?_ 1 _ rfl; (with_reducible repeat (first | refine blk_drewN ?_ _ | refine blk_drew ?_ | refine blk_alloc ?_ _)); refine blk_put (cs := #[.int .u64 0, .int .u64 0]) ?_ 0 _ rfl; (with_reducible repeat (first | refine blk_drewN ?_ _ | refine blk_drew ?_ | refine blk_alloc ?_ _)); exact BK188.out) hb); have n4_ := Aside0.mk (below_step Slim.vB hb); clear BK173; clear BK175; clear BK182; clear BK188; clear HB; have BK173 := n0_; have BK175 := n1_; have BK182 := n2_; have BK188 := n3_; have HB := n4_; clear n0_ n1_ n2_ n3_ n4_; (try clear hb); (try clear hb2); (try clear hk); (try clear hi); have hcz96_0 := Slim.bc BK173.out 0 rfl; have hcz96_1 := Slim.bc BK173.out 1 rfl; have hfz96_0 := blk_frozen BK173.out 0; have hfz96_1 := blk_frozen BK173.out 1))
        refine bodyPost_ret (results_cell_row rfl _ _ gb173 26 #[.int .u64 t191, .int .u64 t192] (0, 0) _ rfl (by (with_reducible repeat (first | refine blk_drewN ?_ _ | refine blk_drew ?_ | refine blk_alloc ?_ _)); refine blk_put (cs := #[.int .u64 t191, .int .u64 0]) ?_ 1 _ rfl; (with_reducible repeat (first | refine blk_drewN ?_ _ | refine blk_drew ?_ | refine blk_alloc ?_ _)); refine blk_put (cs := #[.int .u64 0, .int .u64 0]) ?_ 0 _ rfl; (with_reducible repeat (first | refine blk_drewN ?_ _ | refine blk_drew ?_ | refine blk_alloc ?_ _)); exact BK173.out) Try.underlying26 rfl (by kernel_rfl)) rfl ?_
        exact ⟨Slim.vE, Slim.vB⟩
  ·rw [if_neg c6] at H
   exact absurd H (by simp)
 ·rw [if_neg c5] at H
  exact absurd H (by simp)
def spec_SpanOf.f (k : Nat) (a0 : Int) (l1 : List (S161)) (l2 : List (S26)) : Option (Int × Int × Bool) := (spec_GoodTerm.f k a0 (l2.length : Int) l1).bind fun t194 => (if t194 = true then ((spec_l18Spans.f k a0 l2).bind fun t195 => (if t195 = true then ((spec_l18Of.f k a0 l1 (wrap64 ((l1.length : Int) - 1)) l2).bind fun bt196 => (some (bt196.1, bt196.2, true))) else (some (0, 0, false)))) else (some (0, 0, false)))
set_option maxHeartbeats 8000000 in
set_option maxRecDepth 100000 in
theorem spec_SpanOf.calls (k : Nat) (a0 : Int) (A1 : Option Addr) (c1 : Nat) (l1 : List (S161)) (A2 : Option Addr) (c2 : Nat) (l2 : List (S26)) (r1 : Int) (r2 : Int) (r3 : Bool) (w : World) (hr1 : Kd.C k161 w A1 l1.length l1) (hc1 : l1.length ≤ c1) (hr2 : Kd.C k26 w A2 l2.length l2) (hc2 : l2.length ≤ c2) (h : spec_SpanOf.f k a0 l1 l2 = some (r1, r2, r3)) :
  Calls Try.prog 72 #[.int .i64 a0, .slice A1 l1.length c1, .slice A2 l2.length c2] w fun e w' => e = .returned (.tuple #[.agg #[.int .u64 r1, .int .u64 r2], .bool r3]) ∧ Below w.heap.size w w' := by
 have hu26 := Try.underlying26
 have HR1 := Aside0.mk hr1
 have HC1 := Aside0.mk hc1
 clear hr1 hc1
 have HR2 := Aside0.mk hr2
 have HC2 := Aside0.mk hc2
 clear hr2 hc2
 have HB := Aside0.mk (Below.refl w.heap.size w)
 have H : ((spec_GoodTerm.f k a0 (l2.length : Int) l1).bind fun t194 => (if t194 = true then ((spec_l18Spans.f k a0 l2).bind fun t195 => (if t195 = true then ((spec_l18Of.f k a0 l1 (wrap64 ((l1.length : Int) - 1)) l2).bind fun bt196 => (some (bt196.1, bt196.2, true))) else (some (0, 0, false)))) else (some (0, 0, false)))) = some (r1, r2, r3) := h
 clear h
 replace H := Option.bind_eq_some_iff.mp H
 obtain ⟨t194, A40, H⟩ := H
 replace H : (if t194 = true then ((spec_l18Spans.f k a0 l2).bind fun t195 => (if t195 = true then ((spec_l18Of.f k a0 l1 (wrap64 ((l1.length : Int) - 1)) l2).bind fun bt196 => (some (bt196.1, bt196.2, true))) else (some (0, 0, false)))) else (some (0, 0, false))) = some (r1, r2, r3) := H
 have A4 := Aside0.mk A40
 clear A40
 by_cases c5 : t194 = true
 ·subst c5
  have H1 : ((spec_l18Spans.f k a0 l2).bind fun t195 => (if t195 = true then ((spec_l18Of.f k a0 l1 (wrap64 ((l1.length : Int) - 1)) l2).bind fun bt196 => (some (bt196.1, bt196.2, true))) else (some (0, 0, false)))) = some (r1, r2, r3) := by rw [if_pos rfl] at H; exact H
  clear H
  have H := H1
  clear H1
  replace H := Option.bind_eq_some_iff.mp H
  obtain ⟨t195, A60, H⟩ := H
  replace H : (if t195 = true then ((spec_l18Of.f k a0 l1 (wrap64 ((l1.length : Int) - 1)) l2).bind fun bt196 => (some (bt196.1, bt196.2, true))) else (some (0, 0, false))) = some (r1, r2, r3) := H
  have A6 := Aside0.mk A60
  clear A60
  by_cases c7 : t195 = true
  ·subst c7
   have H1 : ((spec_l18Of.f k a0 l1 (wrap64 ((l1.length : Int) - 1)) l2).bind fun bt196 => (some (bt196.1, bt196.2, true))) = some (r1, r2, r3) := by rw [if_pos rfl] at H; exact H
   clear H
   have H := H1
   clear H1
   replace H := Option.bind_eq_some_iff.mp H
   obtain ⟨⟨t196, t197⟩, A80, H⟩ := H
   replace H : (some (t196, t197, true)) = some (r1, r2, r3) := H
   have A8 := Aside0.mk A80
   clear A80
   simp only [Option.some.injEq, Prod.mk.injEq] at H
   obtain ⟨rfl, rfl, rfl⟩ := H
   go_enter Try.func72, Try.ntmps72
   go_wp2_with (first | ((with_reducible refine gate_dst (N := 6) rfl ?_); refine Slim.boxE 6 (#[.int .u64 0, .int .u64 0]) 26 ?_; intro gb193 hg w9 hbox hb; have GW193 := Aside0.mk (Slim.vS : w.heap.size ≤ gb193); have GE193 := GW193; replace HB := Aside0.mk (below_step Slim.vB hb); have BK193 := Aside0.mk hbox; clear hb hbox hg) | ((with_reducible refine gate_callee (f := 139) rfl ?_); refine goesL_ (some 12) rfl rfl Try.func139 (by kernel_rfl) rfl #[.int .i64 a0, .int .i64 (l2.length : Int), .slice A1 l1.length c1] rfl Slim.vA ?_; (with_reducible refine (spec_GoodTerm.calls k a0 (l2.length : Int) _ _ l1 true _ ?side1 ?side2 A4.out).mono ?_); (case side1 => repeat (first | exact (Kd.C_below HR1.out HB.out) | (with_reducible refine Kd.C_alloc ?_ _) | (with_reducible refine Kd.C_drewN ?_ _) | (with_reducible refine Kd.C_drew ?_))); (case side2 => exact HC1.out); rintro e w10 ⟨rfl, hb⟩; refine ⟨_, rfl, ?_⟩; replace BK193 := Aside0.mk (Slim.bB BK193.out hb); replace HB := Aside0.mk (below_step Slim.vB hb); (try clear hb); (try clear hb2); (try clear hk); (try clear hi)) | (go_at_call 94; (with_reducible refine (spec_l18Spans.calls k a0 _ _ l2 true _ ?side1 ?side2 A6.out).mono ?_); (case side1 => repeat (first | exact (Kd.C_below HR2.out HB.out) | (with_reducible refine Kd.C_alloc ?_ _) | (with_reducible refine Kd.C_drewN ?_ _) | (with_reducible refine Kd.C_drew ?_))); (case side2 => exact HC2.out); rintro e w11 ⟨rfl, hb⟩; replace BK193 := Aside0.mk (Slim.bB BK193.out hb); replace HB := Aside0.mk (below_step Slim.vB hb); (try clear hb); (try clear hb2); (try clear hk); (try clear hi)) | ((with_reducible refine gate_callee (f := 140) rfl ?_); refine goesL_ (some 27) rfl rfl Try.func140 (by kernel_rfl) rfl #[.int .i64 a0, .slice A1 l1.length c1, .int .i64 (wrap64 ((l1.length : Int) - 1)), .slice A2 l2.length c2] rfl Slim.vA ?_; (with_reducible refine (spec_l18Of.calls k a0 _ _ l1 (wrap64 ((l1.length : Int) - 1)) _ _ l2 t196 t197 _ ?side1 ?side2 ?side3 ?side4 A8.out).mono ?_); (case side1 => repeat (first | exact (Kd.C_below HR1.out HB.out) | (with_reducible refine Kd.C_alloc ?_ _) | (with_reducible refine Kd.C_drewN ?_ _) | (with_reducible refine Kd.C_drew ?_))); (case side2 => exact HC1.out); (case side3 => repeat (first | exact (Kd.C_below HR2.out HB.out) | (with_reducible refine Kd.C_alloc ?_ _) | (with_reducible refine Kd.C_drewN ?_ _) | (with_reducible refine Kd.C_drew ?_))); (case side4 => exact HC2.out); rintro e w12 ⟨rfl, hb⟩; refine ⟨_, rfl, ?_⟩; replace BK193 := Aside0.mk (Slim.bB BK193.out hb); replace HB := Aside0.mk (below_step Slim.vB hb); (try clear hb); (try clear hb2); (try clear hk); (try clear hi); have hcz13_0 := Slim.bc BK193.out 0 rfl; have hcz13_1 := Slim.bc BK193.out 1 rfl; have hfz13_0 := blk_frozen BK193.out 0; have hfz13_1 := blk_frozen BK193.out 1))
   refine bodyPost_ret (results_ct rfl _ _ gb193 26 #[.int .u64 t196, .int .u64 t197] (0, 0) _ rfl (by (with_reducible repeat (first | refine blk_drewN ?_ _ | refine blk_drew ?_ | refine blk_alloc ?_ _)); refine blk_put (cs := #[.int .u64 t196, .int .u64 0]) ?_ 1 _ rfl; (with_reducible repeat (first | refine blk_drewN ?_ _ | refine blk_drew ?_ | refine blk_alloc ?_ _)); refine blk_put (cs := #[.int .u64 0, .int .u64 0]) ?_ 0 _ rfl; (with_reducible repeat (first | refine blk_drewN ?_ _ | refine blk_drew ?_ | refine blk_alloc ?_ _)); exact BK193.out) Try.underlying26 rfl (by kernel_rfl)) rfl ?_
   exact ⟨Slim.vE, Slim.vB⟩
  ·replace c7 := Bool.eq_false_iff.mpr c7
   subst c7
   have H1 : (some (0, 0, false)) = some (r1, r2, r3) := by rw [if_neg (show ¬ (false = true) by decide)] at H; exact H
   clear H
   have H := H1
   clear H1
   simp only [Option.some.injEq, Prod.mk.injEq] at H
   obtain ⟨rfl, rfl, rfl⟩ := H
   go_enter Try.func72, Try.ntmps72
   go_wp2_with (first | ((with_reducible refine gate_dst (N := 6) rfl ?_); refine Slim.boxE 6 (#[.int .u64 0, .int .u64 0]) 26 ?_; intro gb193 hg w14 hbox hb; have GW193 := Aside0.mk (Slim.vS : w.heap.size ≤ gb193); have GE193 := GW193; replace HB := Aside0.mk (below_step Slim.vB hb); have BK193 := Aside0.mk hbox; clear hb hbox hg) | ((with_reducible refine gate_callee (f := 139) rfl ?_); refine goesL_ (some 12) rfl rfl Try.func139 (by kernel_rfl) rfl #[.int .i64 a0, .int .i64 (l2.length : Int), .slice A1 l1.length c1] rfl Slim.vA ?_; (with_reducible refine (spec_GoodTerm.calls k a0 (l2.length : Int) _ _ l1 true _ ?side1 ?side2 A4.out).mono ?_); (case side1 => repeat (first | exact (Kd.C_below HR1.out HB.out) | (with_reducible refine Kd.C_alloc ?_ _) | (with_reducible refine Kd.C_drewN ?_ _) | (with_reducible refine Kd.C_drew ?_))); (case side2 => exact HC1.out); rintro e w15 ⟨rfl, hb⟩; refine ⟨_, rfl, ?_⟩; replace BK193 := Aside0.mk (Slim.bB BK193.out hb); replace HB := Aside0.mk (below_step Slim.vB hb); (try clear hb); (try clear hb2); (try clear hk); (try clear hi)) | (go_at_call 94; (with_reducible refine (spec_l18Spans.calls k a0 _ _ l2 false _ ?side1 ?side2 A6.out).mono ?_); (case side1 => repeat (first | exact (Kd.C_below HR2.out HB.out) | (with_reducible refine Kd.C_alloc ?_ _) | (with_reducible refine Kd.C_drewN ?_ _) | (with_reducible refine Kd.C_drew ?_))); (case side2 => exact HC2.out); rintro e w16 ⟨rfl, hb⟩; replace BK193 := Aside0.mk (Slim.bB BK193.out hb); replace HB := Aside0.mk (below_step Slim.vB hb); (try clear hb); (try clear hb2); (try clear hk); (try clear hi); have hcz17_0 := Slim.bc BK193.out 0 rfl; have hcz17_1 := Slim.bc BK193.out 1 rfl; have hfz17_0 := blk_frozen BK193.out 0; have hfz17_1 := blk_frozen BK193.out 1))
   refine bodyPost_ret (results_ct rfl _ _ gb193 26 #[.int .u64 0, .int .u64 0] (0, 0) _ rfl (by (with_reducible repeat (first | refine blk_drewN ?_ _ | refine blk_drew ?_ | refine blk_alloc ?_ _)); refine blk_put (cs := #[.int .u64 0, .int .u64 0]) ?_ 1 _ rfl; (with_reducible repeat (first | refine blk_drewN ?_ _ | refine blk_drew ?_ | refine blk_alloc ?_ _)); refine blk_put (cs := #[.int .u64 0, .int .u64 0]) ?_ 0 _ rfl; (with_reducible repeat (first | refine blk_drewN ?_ _ | refine blk_drew ?_ | refine blk_alloc ?_ _)); exact BK193.out) Try.underlying26 rfl (by kernel_rfl)) rfl ?_
   exact ⟨Slim.vE, Slim.vB⟩
 ·replace c5 := Bool.eq_false_iff.mpr c5
  subst c5
  have H1 : (some (0, 0, false)) = some (r1, r2, r3) := by rw [if_neg (show ¬ (false = true) by decide)] at H; exact H
  clear H
  have H := H1
  clear H1
  simp only [Option.some.injEq, Prod.mk.injEq] at H
  obtain ⟨rfl, rfl, rfl⟩ := H
  go_enter Try.func72, Try.ntmps72
  go_wp2_with (first | ((with_reducible refine gate_dst (N := 6) rfl ?_); refine Slim.boxE 6 (#[.int .u64 0, .int .u64 0]) 26 ?_; intro gb193 hg w18 hbox hb; have GW193 := Aside0.mk (Slim.vS : w.heap.size ≤ gb193); have GE193 := GW193; replace HB := Aside0.mk (below_step Slim.vB hb); have BK193 := Aside0.mk hbox; clear hb hbox hg) | ((with_reducible refine gate_callee (f := 139) rfl ?_); refine goesL_ (some 12) rfl rfl Try.func139 (by kernel_rfl) rfl #[.int .i64 a0, .int .i64 (l2.length : Int), .slice A1 l1.length c1] rfl Slim.vA ?_; (with_reducible refine (spec_GoodTerm.calls k a0 (l2.length : Int) _ _ l1 false _ ?side1 ?side2 A4.out).mono ?_); (case side1 => repeat (first | exact (Kd.C_below HR1.out HB.out) | (with_reducible refine Kd.C_alloc ?_ _) | (with_reducible refine Kd.C_drewN ?_ _) | (with_reducible refine Kd.C_drew ?_))); (case side2 => exact HC1.out); rintro e w19 ⟨rfl, hb⟩; refine ⟨_, rfl, ?_⟩; replace BK193 := Aside0.mk (Slim.bB BK193.out hb); replace HB := Aside0.mk (below_step Slim.vB hb); (try clear hb); (try clear hb2); (try clear hk); (try clear hi); have hcz20_0 := Slim.bc BK193.out 0 rfl; have hcz20_1 := Slim.bc BK193.out 1 rfl; have hfz20_0 := blk_frozen BK193.out 0; have hfz20_1 := blk_frozen BK193.out 1))
  refine bodyPost_ret (results_ct rfl _ _ gb193 26 #[.int .u64 0, .int .u64 0] (0, 0) _ rfl (by (with_reducible repeat (first | refine blk_drewN ?_ _ | refine blk_drew ?_ | refine blk_alloc ?_ _)); refine blk_put (cs := #[.int .u64 0, .int .u64 0]) ?_ 1 _ rfl; (with_reducible repeat (first | refine blk_drewN ?_ _ | refine blk_drew ?_ | refine blk_alloc ?_ _)); refine blk_put (cs := #[.int .u64 0, .int .u64 0]) ?_ 0 _ rfl; (with_reducible repeat (first | refine blk_drewN ?_ _ | refine blk_drew ?_ | refine blk_alloc ?_ _)); exact BK193.out) Try.underlying26 rfl (by kernel_rfl)) rfl ?_
  exact ⟨Slim.vE, Slim.vB⟩
def laws_toNode.f (a0_0 : Int) (a0_1 : Int) : Option (Int × Int) := some (a0_0, a0_1)
set_option maxHeartbeats 8000000 in
set_option maxRecDepth 100000 in
theorem laws_toNode.calls (a0_0 : Int) (a0_1 : Int) (r1 : Int) (r2 : Int) (w : World) (h : laws_toNode.f a0_0 a0_1 = some (r1, r2)) :
  Calls Try.prog 141 #[.agg #[.int .i64 a0_0, .int .u64 a0_1]] w fun e w' => e = .returned (.agg #[.int .i64 r1, .int .u64 r2]) ∧ Below w.heap.size w w' := by
 have hu163 := Try.underlying163
 have hu161 := Try.underlying161
 have HB := Aside0.mk (Below.refl w.heap.size w)
 have H : (some (a0_0, a0_1)) = some (r1, r2) := h
 clear h
 simp only [Option.some.injEq, Prod.mk.injEq] at H
 obtain ⟨rfl, rfl⟩ := H
 go_enter Try.func141, Try.ntmps141
 go_wp2_with (first | ((with_reducible refine gate_dst (N := 1) rfl ?_); refine Slim.boxE 1 (#[.int .i64 a0_0, .int .u64 a0_1]) 163 ?_; intro gb198 hg w2 hbox hb; have GW198 := Aside0.mk (Slim.vS : w.heap.size ≤ gb198); have GE198 := GW198; replace HB := Aside0.mk (below_step Slim.vB hb); have BK198 := Aside0.mk hbox; clear hb hbox hg) | ((with_reducible refine gate_dst (N := 2) rfl ?_); refine Slim.boxE 2 (#[.int .i64 0, .int .u64 0]) 161 ?_; intro gb199 hg w3 hbox hb; have GW199 := Aside0.mk (Slim.vS : w.heap.size ≤ gb199); have GE199 := GW199; have NB198_199 := Aside0.mk (Slim.nL hg BK198.out : gb198 ≠ gb199); have NB199_198 := Aside0.mk (Slim.nG hg BK198.out : gb199 ≠ gb198); replace BK198 := Aside0.mk (Slim.bB BK198.out hb); replace HB := Aside0.mk (below_step Slim.vB hb); have BK199 := Aside0.mk hbox; clear hb hbox hg) | ((with_reducible refine gate_dst (N := 3) rfl ?_); refine Slim.boxE 3 (#[.int .i64 0, .int .u64 0]) 161 ?_; intro gb200 hg w4 hbox hb; have GW200 := Aside0.mk (Slim.vS : w.heap.size ≤ gb200); have GE200 := GW200; have NB198_200 := Aside0.mk (Slim.nL hg BK198.out : gb198 ≠ gb200); have NB200_198 := Aside0.mk (Slim.nG hg BK198.out : gb200 ≠ gb198); have NB199_200 := Aside0.mk (Slim.nL hg BK199.out : gb199 ≠ gb200); have NB200_199 := Aside0.mk (Slim.nG hg BK199.out : gb200 ≠ gb199); replace BK198 := Aside0.mk (Slim.bB BK198.out hb); replace BK199 := Aside0.mk (Slim.bB BK199.out hb); replace HB := Aside0.mk (below_step Slim.vB hb); have BK200 := Aside0.mk hbox; clear hb hbox hg; have hnb5 := NB198_199.out; have hnc5 := NB199_198.out; have hnb6 := NB198_200.out; have hnc6 := NB200_198.out; have hcz7_0 := Slim.bc BK198.out 0 rfl; have hcz7_1 := Slim.bc BK198.out 1 rfl; have hfz7_0 := blk_frozen BK198.out 0; have hfz7_1 := blk_frozen BK198.out 1; have hnb8 := NB200_199.out; have hnc8 := NB199_200.out; have hcz9_0 := Slim.bc BK200.out 0 rfl; have hcz9_1 := Slim.bc BK200.out 1 rfl; have hfz9_0 := blk_frozen BK200.out 0; have hfz9_1 := blk_frozen BK200.out 1; have hcz10_0 := Slim.bc BK199.out 0 rfl; have hcz10_1 := Slim.bc BK199.out 1 rfl; have hfz10_0 := blk_frozen BK199.out 0; have hfz10_1 := blk_frozen BK199.out 1))
 refine bodyPost_ret (results_cell_row rfl _ _ gb199 161 #[.int .i64 a0_0, .int .u64 a0_1] (0, 0) _ rfl (by (with_reducible repeat (first | refine blk_drewN ?_ _ | refine blk_drew ?_ | refine blk_alloc ?_ _)); refine blk_put (cs := #[.int .i64 a0_0, .int .u64 0]) ?_ 1 _ rfl; (with_reducible repeat (first | refine blk_drewN ?_ _ | refine blk_drew ?_ | refine blk_alloc ?_ _)); refine blk_put (cs := #[.int .i64 0, .int .u64 0]) ?_ 0 _ rfl; (with_reducible repeat (first | refine blk_drewN ?_ _ | refine blk_drew ?_ | refine blk_alloc ?_ _)); refine blk_far ?_ NB199_200.out _; (with_reducible repeat (first | refine blk_drewN ?_ _ | refine blk_drew ?_ | refine blk_alloc ?_ _)); refine blk_far ?_ NB199_200.out _; (with_reducible repeat (first | refine blk_drewN ?_ _ | refine blk_drew ?_ | refine blk_alloc ?_ _)); exact BK199.out) Try.underlying161 rfl (by kernel_rfl)) rfl ?_
 exact ⟨Slim.vE, Slim.vB⟩
def laws_toNodeS.l0 : Nat → List (S163) → List (S161) → Int → Option ((List (S161)))
 | 0, _, _, _ => none
 | k + 1, x0, x3, x4 => if x4 < (x0.length : Int) then (if 0 ≤ x4 then ((laws_toNode.f ((rd_T163 x0 x4).f0) ((rd_T163 x0 x4).f1)).bind fun bt205 => (if x4 < (x3.length : Int) then (laws_toNodeS.l0 k x0 (x3.set (x4 : Int).toNat (⟨bt205.1, bt205.2⟩ : S161)) (wrap64 (x4 + 1))) else (none))) else (none)) else (some x3)
def laws_toNodeS.f (k : Nat) (l0 : List (S163)) : Option ((List (S161))) := if 0 ≤ (l0.length : Int) then (if ((l0.length : Int) : Int).toNat ≤ 17592186044416 then (laws_toNodeS.l0 k l0 (List.replicate ((l0.length : Int) : Int).toNat z161) 0) else (none)) else (none)
set_option maxHeartbeats 8000000 in
set_option maxRecDepth 100000 in
theorem laws_toNodeS.calls (k : Nat) (A0 : Option Addr) (c0 : Nat) (l0 : List (S163)) (r : List (S161)) (w : World) (hr0 : Kd.C k163 w A0 l0.length l0) (hc0 : l0.length ≤ c0) (h : laws_toNodeS.f k l0 = some r) :
  Calls Try.prog 73 #[.slice A0 l0.length c0] w fun e w' => ∃ v0_ : Value, e = .returned (v0_) ∧ Kd.R k161 161 w' w.heap.size (fun _ => True) v0_ r ∧ Below w.heap.size w w' := by
 have hu163 := Try.underlying163
 have hu161 := Try.underlying161
 have HR0 := Aside0.mk hr0
 have HC0 := Aside0.mk hc0
 clear hr0 hc0
 have HB := Aside0.mk (Below.refl w.heap.size w)
 have H : (if 0 ≤ (l0.length : Int) then (if ((l0.length : Int) : Int).toNat ≤ 17592186044416 then (laws_toNodeS.l0 k l0 (List.replicate ((l0.length : Int) : Int).toNat z161) 0) else (none)) else (none)) = some r := h
 clear h
 by_cases c2 : 0 ≤ (l0.length : Int)
 ·rw [if_pos c2] at H
  have c2b0 := eq_true c2
  have c2b1 : decide (0 ≤ (l0.length : Int)) = true := decide_eq_true c2
  clear c2
  by_cases c3 : ((l0.length : Int) : Int).toNat ≤ 17592186044416
  ·rw [if_pos c3] at H
   have c3b0 := eq_true c3
   have c3b1 : decide (((l0.length : Int) : Int).toNat ≤ 17592186044416) = true := decide_eq_true c3
   clear c3
   obtain ⟨y201, hy201⟩ : ∃ y_ : List (S161), y_ = (List.replicate ((l0.length : Int) : Int).toNat z161) := ⟨_, rfl⟩
   replace H : (laws_toNodeS.l0 k l0 y201 0) = some r := by first | (rw [hy201]; with_reducible exact H) | (have H2_ := (Option.bind_some _ _).symm.trans H; rw [hy201]; with_reducible exact H2_) | (have H2_ := (Option.bind_some _ _).symm.trans H; with_reducible exact H2_) | with_reducible exact H | (rw [hy201]; exact H) | exact H
   have Ny201 := Aside0.mk hy201
   clear hy201
   have H' := Aside0.mk H
   clear H
   go_enter Try.func73, Try.ntmps73
   go_wp2_with (first | ((with_reducible refine gate_dst (N := 7) rfl ?_); refine Kd.R_make k161 _ 161 rfl (N := 7) rfl 74 _ _ rfl (l0.length : Int) rfl rfl Try.underlying74 (.agg #[(.int .i64 0), (.int .u64 0)]) 16 info161 rfl (by decide) (by omega) z161 (ok := fun _ => True) (okp := fun _ => True) (k161_mkM _ _ _ z161 ) (fun _ hk => hk) trivial (of_decide_eq_true (by first | (with_reducible assumption) | assumption)) (Nat.le_trans (Nat.mul_le_mul_right _ (of_decide_eq_true (by first | (with_reducible assumption) | assumption) : (l0.length : Int).toNat ≤ 17592186044416)) (by omega)) (Below.refl _ _) (Nat.le_refl _) ?_; intro v202 w4 ho5 hb hg_ hnew_; clear hg_ hnew_; (first | rw [← Ny201.out] at ho5 | (simp only [Int.reduceToNat] at ho5; rw [← Ny201.out] at ho5)); have n0_ := Aside0.mk (Kd.R_lower ho5 (below_size Slim.vB)); have n1_ := Aside0.mk (below_step Slim.vB hb); clear HB; have HO203 := n0_; have HB := n1_; clear n0_ n1_; clear hb ho5))
   go_loopg [4] k (fun kq v4 w' => ∃ (x3_1 : List (S161)) (x4_1 : Int), v4 = .int .i64 x4_1 ∧ Aside0 (laws_toNodeS.l0 kq l0 x3_1 x4_1 = some r) ∧ Aside0 (kq ≤ k) ∧ Aside0 (Kd.R k161 161 w' w.heap.size (fun _ => True) v202 x3_1) ∧ Aside0 (Below w.heap.size w w'))
   case atStart => exact ⟨(y201), (0), (by first | rfl | (simp; done) | (simp [*]; done)), H', ⟨Nat.le_refl _⟩, ⟨by (with_reducible repeat (first | apply Kd.R_alloc | apply Kd.R_drewN | apply Kd.R_drew)); exact HO203.out⟩, ⟨Slim.vB⟩⟩
   case round =>
    clear H'
    try clear c2
    try clear c2b0
    try clear c2b1
    try clear p2
    try clear c3
    try clear c3b0
    try clear c3b1
    obtain ⟨x3_1, x4_1, rfl, HA, HK1, HO_3, HB⟩ := hrel
    cases gk with
    | zero => exact absurd HA.out (by simp [laws_toNodeS.l0])
    | succ k1 =>
     have H := HA.out
     clear HA
     simp only [laws_toNodeS.l0] at H
     by_cases c6 : x4_1 < (l0.length : Int)
     ·rw [if_pos c6] at H
      have c6b0 : decide (x4_1 < (l0.length : Int)) = true := decide_eq_true c6
      clear c6
      by_cases c7 : 0 ≤ x4_1
      ·rw [if_pos c7] at H
       have c7b0 : decide (0 ≤ x4_1) = true := decide_eq_true c7
       clear c7
       replace H := Option.bind_eq_some_iff.mp H
       obtain ⟨⟨t205, t206⟩, A80, H⟩ := H
       replace H : (if x4_1 < (x3_1.length : Int) then (laws_toNodeS.l0 k1 l0 (x3_1.set (x4_1 : Int).toNat (⟨t205, t206⟩ : S161)) (wrap64 (x4_1 + 1))) else (none)) = some r := H
       have A8 := Aside0.mk A80
       clear A80
       by_cases c9 : x4_1 < (x3_1.length : Int)
       ·rw [if_pos c9] at H
        have c9b0 : decide (x4_1 < (x3_1.length : Int)) = true := decide_eq_true c9
        clear c9
        obtain ⟨y207, hy207⟩ : ∃ y_ : List (S161), y_ = (x3_1.set (x4_1 : Int).toNat (⟨t205, t206⟩ : S161)) := ⟨_, rfl⟩
        replace H : (laws_toNodeS.l0 k1 l0 y207 (wrap64 (x4_1 + 1))) = some r := by first | (rw [hy207]; with_reducible exact H) | (have H2_ := (Option.bind_some _ _).symm.trans H; rw [hy207]; with_reducible exact H2_) | (have H2_ := (Option.bind_some _ _).symm.trans H; with_reducible exact H2_) | with_reducible exact H | (rw [hy207]; exact H) | exact H
        have Ny207 := Aside0.mk hy207
        clear hy207
        have H' := Aside0.mk H
        clear H
        have p204 : 0 ≤ (x4_1 : Int) := of_decide_eq_true (by first | (with_reducible assumption) | assumption)
        have q204 : x4_1 < (l0.length : Int) := of_decide_eq_true (by first | (with_reducible assumption) | assumption)
        obtain ⟨ad204, e204, hx204_0, hx204_1⟩ := at_T163 HR0.out x4_1 p204 q204
        cases e204
        replace hx204_0 := (HB.out.cell (World.block_lt_of_cell? w _ hx204_0)).trans hx204_0
        replace hx204_1 := (HB.out.cell (World.block_lt_of_cell? w _ hx204_1)).trans hx204_1
        replace p204 := eq_true p204
        replace q204 := eq_true q204
        go_wp2_with (first | ((with_reducible refine gate_callee (f := 141) rfl ?_); refine goesL_ (some 20) rfl rfl Try.func141 (by kernel_rfl) rfl #[.agg #[.int .i64 ((rd_T163 l0 x4_1).f0), .int .u64 ((rd_T163 l0 x4_1).f1)]] rfl Slim.vA ?_; (with_reducible refine (laws_toNode.calls ((rd_T163 l0 x4_1).f0) ((rd_T163 l0 x4_1).f1) t205 t206 _ A8.out).mono ?_); rintro e w11 ⟨rfl, hb⟩; refine ⟨_, rfl, ?_⟩; replace HO_3 := Aside0.mk (Kd.R_below (Slim.vR HO_3.out) hb); replace HB := Aside0.mk (below_step Slim.vB hb); (try clear hb); (try clear hb2); (try clear hk); (try clear hi); have p10 : 0 ≤ (x4_1 : Int) := of_decide_eq_true (by first | (with_reducible assumption) | assumption); have q10 : (x4_1 : Int) < ((x3_1.length : Int) : Int) := of_decide_eq_true (by first | (with_reducible assumption) | assumption); obtain ⟨go10, co10, eo10, gb10, gl10, cl10, HG10⟩ := Kd.R_form HO_3.out (by omega); (first | cases eo10 | (injection eo10 with ea_ en_ ec_; (first | subst ea_ | (injection ea_ with ea_; subst ea_)); subst ec_; clear en_)); have GB10 := Aside0.mk gb10; have GG10 := Aside0.mk HG10; clear gb10 gl10 HG10; obtain ⟨ce10, hcl10, hM10, hcc10, hfr10⟩ := Kd.R_elem HO_3.out z161 (x4_1 : Int) p10 q10; obtain rfl := k161_openM hM10; have hx10_0 : w11.cell? ⟨go10, (x4_1 : Int).toNat * 2, none⟩ = some (.int .i64 ((rd_T161 x3_1 x4_1).f0)) := hcc10 0 _ rfl; have hx10_1 : w11.cell? ⟨go10, (x4_1 : Int).toNat * 2 + 1, none⟩ = some (.int .u64 ((rd_T161 x3_1 x4_1).f1)) := hcc10 1 _ rfl; have hf10_0 : w11.frozen? ⟨go10, (x4_1 : Int).toNat * 2, none⟩ = false := hfr10 0; have hf10_1 : w11.frozen? ⟨go10, (x4_1 : Int).toNat * 2 + 1, none⟩ = false := hfr10 1; clear hcl10 hcc10 hfr10 hM10; replace p10 := eq_true p10; replace q10 := eq_true q10; have HX12 := Aside0.mk (show Kd.R k161 161 w11 w.heap.size (fun _ => True) (.slice (some ⟨go10, 0, none⟩) x3_1.length co10) x3_1 from (Slim.vR HO_3.out)); obtain ⟨ce12, hcl12, hM12, hcc12, hfr12⟩ := Kd.R_elem HX12.out z161 (x4_1 : Int) (of_decide_eq_true (by first | (with_reducible assumption) | assumption)) (by have h_ : (x4_1 : Int) < ((x3_1.length : Int) : Int) := of_decide_eq_true (by first | (with_reducible assumption) | assumption); first | exact h_ | (have e_ := (Kd.R_reads' HO_3.out).1; omega) | simpa using h_); obtain rfl := k161_openM hM12; have HP12 := Kd.R_seg HX12.out (x4_1 : Int) (of_decide_eq_true (by first | (with_reducible assumption) | assumption)) (by have h_ : (x4_1 : Int) < ((x3_1.length : Int) : Int) := of_decide_eq_true (by first | (with_reducible assumption) | assumption); first | exact h_ | (have e_ := (Kd.R_reads' HO_3.out).1; omega) | simpa using h_) (seg := [.int .i64 t205, .int .u64 t206]) (j := 0) hcl12 hcc12 (show 2 ≤ 2 from by decide) (x' := (⟨t205, t206⟩ : S161)) (k161_mkM _ _ _ (⟨t205, t206⟩ : S161) ) (fun _ hk => hk); have hx12_0 := hcc12 0 _ rfl; (try simp only [show (k161).sz = 2 from rfl, Nat.mul_one, Nat.add_zero] at hx12_0); have hf12_0 := hfr12 0; (try simp only [show (k161).sz = 2 from rfl, Nat.mul_one, Nat.add_zero] at hf12_0); have hx12_1 := hcc12 1 _ rfl; (try simp only [show (k161).sz = 2 from rfl, Nat.mul_one, Nat.add_zero] at hx12_1); have hf12_1 := hfr12 1; (try simp only [show (k161).sz = 2 from rfl, Nat.mul_one, Nat.add_zero] at hf12_1); clear hcl12 hcc12 hfr12 hM12) | ((with_reducible refine gate_store (t := 161) (p := 21) rfl ?_); refine store_event (t := 161) (p := 21) (v := ?vo_w13) (w1 := ((w11.setCell ⟨go10, (x4_1 : Int).toNat * 2, none⟩ (.int .i64 t205)).setCell ⟨go10, (x4_1 : Int).toNat * 2 + 1, none⟩ (.int .u64 t206))) ?hg ?ho ?hn ?hr ?_; (case ho => rfl); (case hg => rfl); (case hn => rfl); (case hr => first | (go_simp; done) | (go_simp; rfl)); intro w13 hw; have hg : w11.grownBy w13 (some go10) := (by rw [hw]; exact HP12.2); have hp_ : Kd.R k161 161 w13 w.heap.size (fun _ => True) (.slice (some ⟨go10, 0, none⟩) x3_1.length co10) y207 := (by rw [hw, Ny207.out]; exact HP12.1); clear HP12; have n0_ := Aside0.mk (hp_); have n1_ := Aside0.mk ((by rw [hw]; exact below_set (below_set (HB.out) GB10.out) GB10.out : Below w.heap.size w w13)); clear HO_3; clear HB; have HO_3 := n0_; have HB := n1_; clear n0_ n1_; clear hg hw hp_))
        go_roundg k1
        case measure => have := HK1.out; omega
        case rel => exact ⟨(y207), (wrap64 (x4_1 + 1)), (by first | rfl | (simp; done) | (simp [*]; done)), H', ⟨by have := HK1.out; omega⟩, ⟨by (with_reducible repeat (first | apply Kd.R_alloc | apply Kd.R_drewN | apply Kd.R_drew)); exact HO_3.out⟩, ⟨Slim.vB⟩⟩
       ·rw [if_neg c9] at H
        exact absurd H (by simp)
      ·rw [if_neg c7] at H
       exact absurd H (by simp)
     ·rw [if_neg c6] at H
      have c6b0 : decide (x4_1 < (l0.length : Int)) = false := decide_eq_false c6
      clear c6
      obtain rfl := Option.some.inj H
      go_wp2
      go_ret
      exact ⟨_, Slim.vE, by (with_reducible repeat (first | apply Kd.R_alloc | apply Kd.R_drewN | apply Kd.R_drew)); exact HO_3.out, Slim.vB⟩
  ·rw [if_neg c3] at H
   exact absurd H (by simp)
 ·rw [if_neg c2] at H
  exact absurd H (by simp)
def impl_isVars.f (a0 : Int) : Option (Bool) := if a0 ≥ 1 then (some (decide (a0 ≤ 4))) else (some false)
set_option maxHeartbeats 8000000 in
set_option maxRecDepth 100000 in
theorem impl_isVars.calls (a0 : Int) (r : Bool) (w : World) (h : impl_isVars.f a0 = some r) :
  Calls Try.prog 153 #[.int .i64 a0] w fun e w' => e = .returned (.bool r) ∧ Drawn0 w w' := by
 have H : (if a0 ≥ 1 then (some (decide (a0 ≤ 4))) else (some false)) = some r := h
 clear h
 by_cases c2 : a0 ≥ 1
 ·rw [if_pos c2] at H
  have c2b0 : decide (1 ≤ a0) = true := decide_eq_true c2
  clear c2
  obtain rfl := Option.some.inj H
  go_enter Try.func153, Try.ntmps153
  go_wp2
  go_ret
  exact ⟨by first | rfl | (simp; done) | (simp [*]; done), by repeat (first | exact Drawn0.refl _ | apply Drawn0.step)⟩
 ·rw [if_neg c2] at H
  have c2b0 : decide (1 ≤ a0) = false := decide_eq_false c2
  clear c2
  obtain rfl := Option.some.inj H
  go_enter Try.func153, Try.ntmps153
  go_wp2
  go_ret
  exact ⟨by first | rfl | (simp; done) | (simp [*]; done), by repeat (first | exact Drawn0.refl _ | apply Drawn0.step)⟩
-- NOT PRINTED: function 201 (impl_Span_201)
-- NOT PRINTED: function 154 (impl_Span_154)
def impl_isWide.f (a0 : Int) : Option (Bool) := if a0 ≥ 1 then (some (decide (a0 ≤ 64))) else (some false)
set_option maxHeartbeats 8000000 in
set_option maxRecDepth 100000 in
theorem impl_isWide.calls (a0 : Int) (r : Bool) (w : World) (h : impl_isWide.f a0 = some r) :
  Calls Try.prog 151 #[.int .i64 a0] w fun e w' => e = .returned (.bool r) ∧ Drawn0 w w' := by
 have H : (if a0 ≥ 1 then (some (decide (a0 ≤ 64))) else (some false)) = some r := h
 clear h
 by_cases c2 : a0 ≥ 1
 ·rw [if_pos c2] at H
  have c2b0 : decide (1 ≤ a0) = true := decide_eq_true c2
  clear c2
  obtain rfl := Option.some.inj H
  go_enter Try.func151, Try.ntmps151
  go_wp2
  go_ret
  exact ⟨by first | rfl | (simp; done) | (simp [*]; done), by repeat (first | exact Drawn0.refl _ | apply Drawn0.step)⟩
 ·rw [if_neg c2] at H
  have c2b0 : decide (1 ≤ a0) = false := decide_eq_false c2
  clear c2
  obtain rfl := Option.some.inj H
  go_enter Try.func151, Try.ntmps151
  go_wp2
  go_ret
  exact ⟨by first | rfl | (simp; done) | (simp [*]; done), by repeat (first | exact Drawn0.refl _ | apply Drawn0.step)⟩
def impl_mask.f (a0 : Int) : Option (Int) := if 0 ≤ (wrap64 (64 - a0)) then (some (shr .u64 18446744073709551615 (wrap64 (64 - a0)))) else (none)
set_option maxHeartbeats 8000000 in
set_option maxRecDepth 100000 in
theorem impl_mask.calls (a0 : Int) (r : Int) (w : World) (h : impl_mask.f a0 = some r) :
  Calls Try.prog 152 #[.int .i64 a0] w fun e w' => e = .returned (.int .u64 r) ∧ Drawn0 w w' := by
 have H : (if 0 ≤ (wrap64 (64 - a0)) then (some (shr .u64 18446744073709551615 (wrap64 (64 - a0)))) else (none)) = some r := h
 clear h
 obtain ⟨ji2, hji2⟩ : ∃ j_ : Int, (wrap64 (64 - a0)) = j_ := ⟨_, rfl⟩
 replace H : (if 0 ≤ (ji2) then (some (shr .u64 18446744073709551615 (ji2))) else (none)) = some r := by first | (rw [hji2] at H; exact H) | (simp only [hji2] at H ⊢; exact H)
 have hji2w : (IntKind.i64.wrap (64 - a0)) = ji2 := (i64_w _).trans hji2
 by_cases c3 : 0 ≤ (ji2)
 ·rw [if_pos c3] at H
  have c3b0 := eq_true c3
  have c3b1 : decide (0 ≤ (ji2)) = true := decide_eq_true c3
  clear c3
  obtain ⟨ji4, hji4⟩ : ∃ j_ : Int, (shr .u64 18446744073709551615 (ji2)) = j_ := ⟨_, rfl⟩
  replace H : (some ji4) = some r := by first | (rw [hji4] at H; exact H) | (simp only [hji4] at H ⊢; exact H)
  have hji4_ : (18446744073709551615 / 2 ^ min (ji2).toNat 64) = ji4 := hji4
  have hji4z : (ji2) ≤ 64 → (18446744073709551615 / 2 ^ (ji2).toNat) = ji4 := shr_small hji4
  obtain rfl := Option.some.inj H
  go_enter Try.func152, Try.ntmps152
  go_wp2
  go_ret
  exact ⟨by first | rfl | (simp; done) | (simp only [← hji2, ← hji4] <;> (first | rfl | simp)) | (simp [*]; done), by repeat (first | exact Drawn0.refl _ | apply Drawn0.step)⟩
 ·rw [if_neg c3] at H
  exact absurd H (by simp)
def impl_GoodWord.f (a0 : Int) (a1 : Int) : Option (Bool) := (impl_isWide.f a0).bind fun t208 => (if t208 = true then ((impl_mask.f a0).bind fun t209 => (some (decide (a1 ≤ t209)))) else (some false))
set_option maxHeartbeats 8000000 in
set_option maxRecDepth 100000 in
theorem impl_GoodWord.calls (a0 : Int) (a1 : Int) (r : Bool) (w : World) (h : impl_GoodWord.f a0 a1 = some r) :
  Calls Try.prog 88 #[.int .i64 a0, .int .u64 a1] w fun e w' => e = .returned (.bool r) ∧ Drawn0 w w' := by
 have H : ((impl_isWide.f a0).bind fun t208 => (if t208 = true then ((impl_mask.f a0).bind fun t209 => (some (decide (a1 ≤ t209)))) else (some false))) = some r := h
 clear h
 replace H := Option.bind_eq_some_iff.mp H
 obtain ⟨t208, A30, H⟩ := H
 replace H : (if t208 = true then ((impl_mask.f a0).bind fun t209 => (some (decide (a1 ≤ t209)))) else (some false)) = some r := H
 have A3 := Aside0.mk A30
 clear A30
 by_cases c4 : t208 = true
 ·subst c4
  have H1 : ((impl_mask.f a0).bind fun t209 => (some (decide (a1 ≤ t209)))) = some r := by rw [if_pos rfl] at H; exact H
  clear H
  have H := H1
  clear H1
  replace H := Option.bind_eq_some_iff.mp H
  obtain ⟨t209, A50, H⟩ := H
  replace H : (some (decide (a1 ≤ t209))) = some r := H
  have A5 := Aside0.mk A50
  clear A50
  obtain rfl := Option.some.inj H
  go_enter Try.func88, Try.ntmps88
  go_wp2_with (first | ((with_reducible refine gate_callee (f := 151) rfl ?_); refine goesL_ (some 6) rfl rfl Try.func151 (by kernel_rfl) rfl #[.int .i64 a0] rfl Slim.vA ?_; (with_reducible refine (impl_isWide.calls a0 true _ A3.out).mono ?_); rintro e w' ⟨rfl, ⟨nd, rfl⟩⟩; refine ⟨_, rfl, ?_⟩) | (go_at_call 152; (with_reducible refine (impl_mask.calls a0 t209 _ A5.out).mono ?_); rintro e w' ⟨rfl, ⟨nd, rfl⟩⟩))
  go_ret
  exact ⟨by first | rfl | (simp; done) | (simp [*]; done), by repeat (first | exact Drawn0.refl _ | apply Drawn0.step)⟩
 ·replace c4 := Bool.eq_false_iff.mpr c4
  subst c4
  have H1 : (some false) = some r := by rw [if_neg (show ¬ (false = true) by decide)] at H; exact H
  clear H
  have H := H1
  clear H1
  obtain rfl := Option.some.inj H
  go_enter Try.func88, Try.ntmps88
  go_wp2_with (first | ((with_reducible refine gate_callee (f := 151) rfl ?_); refine goesL_ (some 6) rfl rfl Try.func151 (by kernel_rfl) rfl #[.int .i64 a0] rfl Slim.vA ?_; (with_reducible refine (impl_isWide.calls a0 false _ A3.out).mono ?_); rintro e w' ⟨rfl, ⟨nd, rfl⟩⟩; refine ⟨_, rfl, ?_⟩))
  go_ret
  exact ⟨by first | rfl | (simp; done) | (simp [*]; done), by repeat (first | exact Drawn0.refl _ | apply Drawn0.step)⟩
def impl_GoodSpan.f (a0 : Int) (a1_0 : Int) (a1_1 : Int) : Option (Bool) := (impl_GoodWord.f a0 a1_1).bind fun t211 => (if t211 = true then (some (decide (a1_0 ≤ a1_1))) else (some false))
set_option maxHeartbeats 8000000 in
set_option maxRecDepth 100000 in
theorem impl_GoodSpan.calls (a0 : Int) (a1_0 : Int) (a1_1 : Int) (r : Bool) (w : World) (h : impl_GoodSpan.f a0 a1_0 a1_1 = some r) :
  Calls Try.prog 16 #[.int .i64 a0, .agg #[.int .u64 a1_0, .int .u64 a1_1]] w fun e w' => e = .returned (.bool r) ∧ Below w.heap.size w w' := by
 have hu26 := Try.underlying26
 have HB := Aside0.mk (Below.refl w.heap.size w)
 have H : ((impl_GoodWord.f a0 a1_1).bind fun t211 => (if t211 = true then (some (decide (a1_0 ≤ a1_1))) else (some false))) = some r := h
 clear h
 replace H := Option.bind_eq_some_iff.mp H
 obtain ⟨t211, A30, H⟩ := H
 replace H : (if t211 = true then (some (decide (a1_0 ≤ a1_1))) else (some false)) = some r := H
 have A3 := Aside0.mk A30
 clear A30
 by_cases c4 : t211 = true
 ·subst c4
  have H1 : (some (decide (a1_0 ≤ a1_1))) = some r := by rw [if_pos rfl] at H; exact H
  clear H
  have H := H1
  clear H1
  obtain rfl := Option.some.inj H
  go_enter Try.func16, Try.ntmps16
  go_wp2_with (first | ((with_reducible refine gate_dst (N := 3) rfl ?_); refine Slim.boxE 3 (#[.int .u64 a1_0, .int .u64 a1_1]) 26 ?_; intro gb210 hg w5 hbox hb; have GW210 := Aside0.mk (Slim.vS : w.heap.size ≤ gb210); have GE210 := GW210; replace HB := Aside0.mk (below_step Slim.vB hb); have BK210 := Aside0.mk hbox; clear hb hbox hg; have hcz6_0 := Slim.bc BK210.out 0 rfl; have hcz6_1 := Slim.bc BK210.out 1 rfl; have hfz6_0 := blk_frozen BK210.out 0; have hfz6_1 := blk_frozen BK210.out 1) | ((with_reducible refine gate_callee (f := 88) rfl ?_); refine goesL_ (some 8) rfl rfl Try.func88 (by kernel_rfl) rfl #[.int .i64 a0, .int .u64 a1_1] rfl Slim.vA ?_; (with_reducible refine (impl_GoodWord.calls a0 a1_1 true _ A3.out).mono ?_); rintro e w' ⟨rfl, ⟨nd, rfl⟩⟩; refine ⟨_, rfl, ?_⟩))
  go_ret
  exact ⟨Slim.vE, Slim.vB⟩
 ·replace c4 := Bool.eq_false_iff.mpr c4
  subst c4
  have H1 : (some false) = some r := by rw [if_neg (show ¬ (false = true) by decide)] at H; exact H
  clear H
  have H := H1
  clear H1
  obtain rfl := Option.some.inj H
  go_enter Try.func16, Try.ntmps16
  go_wp2_with (first | ((with_reducible refine gate_dst (N := 3) rfl ?_); refine Slim.boxE 3 (#[.int .u64 a1_0, .int .u64 a1_1]) 26 ?_; intro gb210 hg w7 hbox hb; have GW210 := Aside0.mk (Slim.vS : w.heap.size ≤ gb210); have GE210 := GW210; replace HB := Aside0.mk (below_step Slim.vB hb); have BK210 := Aside0.mk hbox; clear hb hbox hg; have hcz8_0 := Slim.bc BK210.out 0 rfl; have hcz8_1 := Slim.bc BK210.out 1 rfl; have hfz8_0 := blk_frozen BK210.out 0; have hfz8_1 := blk_frozen BK210.out 1) | ((with_reducible refine gate_callee (f := 88) rfl ?_); refine goesL_ (some 8) rfl rfl Try.func88 (by kernel_rfl) rfl #[.int .i64 a0, .int .u64 a1_1] rfl Slim.vA ?_; (with_reducible refine (impl_GoodWord.calls a0 a1_1 false _ A3.out).mono ?_); rintro e w' ⟨rfl, ⟨nd, rfl⟩⟩; refine ⟨_, rfl, ?_⟩))
  go_ret
  exact ⟨Slim.vE, Slim.vB⟩
def impl_areSpans_1.f (a0_0 : Int) (a0_1 : Int) (a1_0 : Int) : Option (Bool) := (impl_GoodSpan.f a1_0 a0_0 a0_1).bind fun t213 => (some (!t213))
set_option maxHeartbeats 8000000 in
set_option maxRecDepth 100000 in
theorem impl_areSpans_1.calls (a0_0 : Int) (a0_1 : Int) (B1_0 : Nat) (a1_0 : Int) (r : Bool) (w : World) (hk1_0 : w.heap[B1_0]? = some (.cells #[.int .i64 a1_0] 3 (0, 0))) (h : impl_areSpans_1.f a0_0 a0_1 a1_0 = some r) :
  Calls Try.prog 155 #[.agg #[.int .u64 a0_0, .int .u64 a0_1], .pointer (some ⟨B1_0, 0, none⟩)] w fun e w' => e = .returned (.bool r) ∧ Below w.heap.size w w' := by
 have hu26 := Try.underlying26
 have BK420 := Aside0.mk hk1_0
 clear hk1_0
 have HB := Aside0.mk (Below.refl w.heap.size w)
 have H : ((impl_GoodSpan.f a1_0 a0_0 a0_1).bind fun t213 => (some (!t213))) = some r := h
 clear h
 replace H := Option.bind_eq_some_iff.mp H
 obtain ⟨t213, A30, H⟩ := H
 replace H : (some (!t213)) = some r := H
 have A3 := Aside0.mk A30
 clear A30
 obtain rfl := Option.some.inj H
 go_enter Try.func155, Try.ntmps155
 go_wp2_with (first | ((with_reducible refine gate_dst (N := 2) rfl ?_); refine Slim.boxE 2 (#[.int .u64 a0_0, .int .u64 a0_1]) 26 ?_; intro gb212 hg w4 hbox hb; have GW212 := Aside0.mk (Slim.vS : w.heap.size ≤ gb212); have GE212 := GW212; have NB420_212 := Aside0.mk (Slim.nL hg BK420.out : B1_0 ≠ gb212); have NB212_420 := Aside0.mk (Slim.nG hg BK420.out : gb212 ≠ B1_0); replace BK420 := Aside0.mk (Slim.bB BK420.out hb); replace HB := Aside0.mk (below_step Slim.vB hb); have BK212 := Aside0.mk hbox; clear hb hbox hg; have hnb5 := NB420_212.out; have hnc5 := NB212_420.out; have hcz6_0 := Slim.bc BK420.out 0 rfl; have hfz6_0 := blk_frozen BK420.out 0; have hcz7_0 := Slim.bc BK212.out 0 rfl; have hcz7_1 := Slim.bc BK212.out 1 rfl; have hfz7_0 := blk_frozen BK212.out 0; have hfz7_1 := blk_frozen BK212.out 1) | ((with_reducible refine gate_callee (f := 16) rfl ?_); refine goesL_ (some 6) rfl rfl Try.func16 (by kernel_rfl) rfl #[.int .i64 a1_0, .agg #[.int .u64 a0_0, .int .u64 a0_1]] rfl Slim.vA ?_; (with_reducible refine (impl_GoodSpan.calls a1_0 a0_0 a0_1 t213 _ A3.out).mono ?_); rintro e w8 ⟨rfl, hb⟩; refine ⟨_, rfl, ?_⟩; replace BK420 := Aside0.mk (Slim.bB BK420.out hb); replace BK212 := Aside0.mk (Slim.bB BK212.out hb); replace HB := Aside0.mk (below_step Slim.vB hb); (try clear hb); (try clear hb2); (try clear hk); (try clear hi)))
 go_ret
 exact ⟨Slim.vE, Slim.vB⟩
def slices_IndexFunc_of_impl_areSpans_1.l0 : Nat → List (S26) → Int → Int → Int → Option (Int)
 | 0, _, _, _, _ => none
 | k + 1, x0, x7, x8, x421000 => if x8 < x7 then (if 0 ≤ x8 then (if x8 < (x0.length : Int) then ((impl_areSpans_1.f ((rd_T26 x0 x8).f0) ((rd_T26 x0 x8).f1) x421000).bind fun t215 => (if t215 = true then (some x8) else (slices_IndexFunc_of_impl_areSpans_1.l0 k x0 x7 (wrap64 (x8 + 1)) x421000))) else (none)) else (none)) else (some (-1))
def slices_IndexFunc_of_impl_areSpans_1.f (k : Nat) (l0 : List (S26)) (a1_0 : Int) : Option (Int) := slices_IndexFunc_of_impl_areSpans_1.l0 k l0 (l0.length : Int) 0 a1_0
set_option maxHeartbeats 8000000 in
set_option maxRecDepth 100000 in
theorem slices_IndexFunc_of_impl_areSpans_1.calls (k : Nat) (A0 : Option Addr) (c0 : Nat) (l0 : List (S26)) (B1_0 : Nat) (a1_0 : Int) (r : Int) (w : World) (hr0 : Kd.C k26 w A0 l0.length l0) (hc0 : l0.length ≤ c0) (hk1_0 : w.heap[B1_0]? = some (.cells #[.int .i64 a1_0] 3 (0, 0))) (h : slices_IndexFunc_of_impl_areSpans_1.f k l0 a1_0 = some r) :
  Calls Try.prog 201 #[.slice A0 l0.length c0, .func (.func 155) #[] #[.pointer (some ⟨B1_0, 0, none⟩)]] w fun e w' => e = .returned (.int .i64 r) ∧ Below w.heap.size w w' := by
 have hu26 := Try.underlying26
 have HR0 := Aside0.mk hr0
 have HC0 := Aside0.mk hc0
 clear hr0 hc0
 have BK420 := Aside0.mk hk1_0
 clear hk1_0
 have HB := Aside0.mk (Below.refl w.heap.size w)
 have H : (slices_IndexFunc_of_impl_areSpans_1.l0 k l0 (l0.length : Int) 0 a1_0) = some r := h
 clear h
 have H' := Aside0.mk H
 clear H
 go_enter Try.func201, Try.ntmps201
 go_wp2
 go_loopg [8] k (fun kq v8 w' => ∃ (x8_1 : Int), v8 = .int .i64 x8_1 ∧ Aside0 (slices_IndexFunc_of_impl_areSpans_1.l0 kq l0 (l0.length : Int) x8_1 a1_0 = some r) ∧ Aside0 (kq ≤ k) ∧ Aside0 (w'.heap[B1_0]? = some (.cells #[.int .i64 a1_0] 3 (0, 0))) ∧ Aside0 (Below w.heap.size w w'))
 case atStart => exact ⟨(0), (by first | rfl | (simp; done) | (simp [*]; done)), H', ⟨Nat.le_refl _⟩, ⟨by (with_reducible repeat (first | refine blk_drewN ?_ _ | refine blk_drew ?_ | refine blk_alloc ?_ _)); exact BK420.out⟩, ⟨Slim.vB⟩⟩
 case round =>
  clear H'
  try clear p2
  obtain ⟨x8_1, rfl, HA, HK1, BK420, HB⟩ := hrel
  cases gk with
  | zero => exact absurd HA.out (by simp [slices_IndexFunc_of_impl_areSpans_1.l0])
  | succ k1 =>
   have H := HA.out
   clear HA
   simp only [slices_IndexFunc_of_impl_areSpans_1.l0] at H
   by_cases c3 : x8_1 < (l0.length : Int)
   ·rw [if_pos c3] at H
    have c3b0 : decide (x8_1 < (l0.length : Int)) = true := decide_eq_true c3
    clear c3
    by_cases c4 : 0 ≤ x8_1
    ·rw [if_pos c4] at H
     have c4b0 : decide (0 ≤ x8_1) = true := decide_eq_true c4
     clear c4
     by_cases c5 : x8_1 < (l0.length : Int)
     ·rw [if_pos c5] at H
      have c5b0 : decide (x8_1 < (l0.length : Int)) = true := decide_eq_true c5
      clear c5
      replace H := Option.bind_eq_some_iff.mp H
      obtain ⟨t215, A60, H⟩ := H
      replace H : (if t215 = true then (some x8_1) else (slices_IndexFunc_of_impl_areSpans_1.l0 k1 l0 (l0.length : Int) (wrap64 (x8_1 + 1)) a1_0)) = some r := H
      have A6 := Aside0.mk A60
      clear A60
      by_cases c7 : t215 = true
      ·subst c7
       have H1 : (some x8_1) = some r := by rw [if_pos rfl] at H; exact H
       clear H
       have H := H1
       clear H1
       obtain rfl := Option.some.inj H
       have p214 : 0 ≤ (x8_1 : Int) := of_decide_eq_true (by first | (with_reducible assumption) | assumption)
       have q214 : x8_1 < (l0.length : Int) := of_decide_eq_true (by first | (with_reducible assumption) | assumption)
       obtain ⟨ad214, e214, hx214_0, hx214_1⟩ := at_T26 HR0.out x8_1 p214 q214
       cases e214
       replace hx214_0 := (HB.out.cell (World.block_lt_of_cell? w _ hx214_0)).trans hx214_0
       replace hx214_1 := (HB.out.cell (World.block_lt_of_cell? w _ hx214_1)).trans hx214_1
       replace p214 := eq_true p214
       replace q214 := eq_true q214
       go_wp2_with (first | (go_at_call 155; (with_reducible refine (impl_areSpans_1.calls ((rd_T26 l0 x8_1).f0) ((rd_T26 l0 x8_1).f1) B1_0 a1_0 true _ ?side1 A6.out).mono ?_); (case side1 => (with_reducible repeat (first | refine blk_drewN ?_ _ | refine blk_drew ?_ | refine blk_alloc ?_ _)); exact BK420.out); rintro e w8 ⟨rfl, hb⟩; replace BK420 := Aside0.mk (Slim.bB BK420.out hb); replace HB := Aside0.mk (below_step Slim.vB hb); (try clear hb); (try clear hb2); (try clear hk); (try clear hi)))
       go_ret
       exact ⟨Slim.vE, Slim.vB⟩
      ·replace c7 := Bool.eq_false_iff.mpr c7
       subst c7
       have H1 : (slices_IndexFunc_of_impl_areSpans_1.l0 k1 l0 (l0.length : Int) (wrap64 (x8_1 + 1)) a1_0) = some r := by rw [if_neg (show ¬ (false = true) by decide)] at H; exact H
       clear H
       have H := H1
       clear H1
       have H' := Aside0.mk H
       clear H
       have p214 : 0 ≤ (x8_1 : Int) := of_decide_eq_true (by first | (with_reducible assumption) | assumption)
       have q214 : x8_1 < (l0.length : Int) := of_decide_eq_true (by first | (with_reducible assumption) | assumption)
       obtain ⟨ad214, e214, hx214_0, hx214_1⟩ := at_T26 HR0.out x8_1 p214 q214
       cases e214
       replace hx214_0 := (HB.out.cell (World.block_lt_of_cell? w _ hx214_0)).trans hx214_0
       replace hx214_1 := (HB.out.cell (World.block_lt_of_cell? w _ hx214_1)).trans hx214_1
       replace p214 := eq_true p214
       replace q214 := eq_true q214
       go_wp2_with (first | (go_at_call 155; (with_reducible refine (impl_areSpans_1.calls ((rd_T26 l0 x8_1).f0) ((rd_T26 l0 x8_1).f1) B1_0 a1_0 false _ ?side1 A6.out).mono ?_); (case side1 => (with_reducible repeat (first | refine blk_drewN ?_ _ | refine blk_drew ?_ | refine blk_alloc ?_ _)); exact BK420.out); rintro e w9 ⟨rfl, hb⟩; replace BK420 := Aside0.mk (Slim.bB BK420.out hb); replace HB := Aside0.mk (below_step Slim.vB hb); (try clear hb); (try clear hb2); (try clear hk); (try clear hi)))
       go_roundg k1
       case measure => have := HK1.out; omega
       case rel => exact ⟨(wrap64 (x8_1 + 1)), (by first | rfl | (simp; done) | (simp [*]; done)), H', ⟨by have := HK1.out; omega⟩, ⟨by (with_reducible repeat (first | refine blk_drewN ?_ _ | refine blk_drew ?_ | refine blk_alloc ?_ _)); exact BK420.out⟩, ⟨Slim.vB⟩⟩
     ·rw [if_neg c5] at H
      exact absurd H (by simp)
    ·rw [if_neg c4] at H
     exact absurd H (by simp)
   ·rw [if_neg c3] at H
    have c3b0 : decide (x8_1 < (l0.length : Int)) = false := decide_eq_false c3
    clear c3
    obtain rfl := Option.some.inj H
    go_wp2
    go_ret
    exact ⟨Slim.vE, Slim.vB⟩
end Go.Proofs.Ytimoiblediffpaa.QFnExactSpanOf
end
section
namespace Go.Proofs.Ytimoiblediffpaa.QFnExactSpanOf
open Go.RowKit Go.Proofs.YtimoiblediffpaaW.PrintWords Go.Proofs.YtimoiblediffpaaW.PrintLast Go.Proofs.YtimoiblediffpaaW.PrintMore
attribute [local go_sem] max2_int min2_int max_two min_two
set_option linter.unusedVariables false
set_option linter.unusedSimpArgs false
def slices_ContainsFunc_of_impl_areSpans_1.f (k : Nat) (l0 : List (S26)) (a1_0 : Int) : Option (Bool) := (slices_IndexFunc_of_impl_areSpans_1.f k l0 a1_0).bind fun t216 => (some (decide (t216 ≥ 0)))
set_option maxHeartbeats 8000000 in
set_option maxRecDepth 100000 in
theorem slices_ContainsFunc_of_impl_areSpans_1.calls (k : Nat) (A0 : Option Addr) (c0 : Nat) (l0 : List (S26)) (B1_0 : Nat) (a1_0 : Int) (r : Bool) (w : World) (hr0 : Kd.C k26 w A0 l0.length l0) (hc0 : l0.length ≤ c0) (hk1_0 : w.heap[B1_0]? = some (.cells #[.int .i64 a1_0] 3 (0, 0))) (h : slices_ContainsFunc_of_impl_areSpans_1.f k l0 a1_0 = some r) :
  Calls Try.prog 154 #[.slice A0 l0.length c0, .func (.func 155) #[] #[.pointer (some ⟨B1_0, 0, none⟩)]] w fun e w' => e = .returned (.bool r) ∧ Below w.heap.size w w' := by
 have HR0 := Aside0.mk hr0
 have HC0 := Aside0.mk hc0
 clear hr0 hc0
 have BK420 := Aside0.mk hk1_0
 clear hk1_0
 have HB := Aside0.mk (Below.refl w.heap.size w)
 have H : ((slices_IndexFunc_of_impl_areSpans_1.f k l0 a1_0).bind fun t216 => (some (decide (t216 ≥ 0)))) = some r := h
 clear h
 replace H := Option.bind_eq_some_iff.mp H
 obtain ⟨t216, A30, H⟩ := H
 replace H : (some (decide (t216 ≥ 0))) = some r := H
 have A3 := Aside0.mk A30
 clear A30
 obtain rfl := Option.some.inj H
 go_enter Try.func154, Try.ntmps154
 go_wp2_with (first | ((with_reducible refine gate_callee (f := 201) rfl ?_); refine goesL_ (some 7) rfl rfl Try.func201 (by kernel_rfl) rfl #[.slice A0 l0.length c0, .func (.func 155) #[] #[.pointer (some ⟨B1_0, 0, none⟩)]] rfl Slim.vA ?_; (with_reducible refine (slices_IndexFunc_of_impl_areSpans_1.calls k _ _ l0 B1_0 a1_0 t216 _ ?side1 ?side2 ?side3 A3.out).mono ?_); (case side1 => repeat (first | exact HR0.out | (with_reducible refine Kd.C_alloc ?_ _) | (with_reducible refine Kd.C_drewN ?_ _) | (with_reducible refine Kd.C_drew ?_))); (case side2 => exact HC0.out); (case side3 => (with_reducible repeat (first | refine blk_drewN ?_ _ | refine blk_drew ?_ | refine blk_alloc ?_ _)); exact BK420.out); rintro e w4 ⟨rfl, hb⟩; refine ⟨_, rfl, ?_⟩; replace BK420 := Aside0.mk (Slim.bB BK420.out hb); replace HB := Aside0.mk (below_step Slim.vB hb); (try clear hb); (try clear hb2); (try clear hk); (try clear hi)))
 go_ret
 exact ⟨Slim.vE, Slim.vB⟩
def impl_areSpans.f (k : Nat) (a0 : Int) (l1 : List (S26)) : Option (Bool) := (impl_isVars.f (l1.length : Int)).bind fun t218 => (if t218 = true then ((slices_ContainsFunc_of_impl_areSpans_1.f k l1 a0).bind fun t219 => (some (!t219))) else (some false))
set_option maxHeartbeats 8000000 in
set_option maxRecDepth 100000 in
theorem impl_areSpans.calls (k : Nat) (a0 : Int) (A1 : Option Addr) (c1 : Nat) (l1 : List (S26)) (r : Bool) (w : World) (hr1 : Kd.C k26 w A1 l1.length l1) (hc1 : l1.length ≤ c1) (h : impl_areSpans.f k a0 l1 = some r) :
  Calls Try.prog 96 #[.int .i64 a0, .slice A1 l1.length c1] w fun e w' => e = .returned (.bool r) ∧ Below w.heap.size w w' := by
 have HR1 := Aside0.mk hr1
 have HC1 := Aside0.mk hc1
 clear hr1 hc1
 have HB := Aside0.mk (Below.refl w.heap.size w)
 have H : ((impl_isVars.f (l1.length : Int)).bind fun t218 => (if t218 = true then ((slices_ContainsFunc_of_impl_areSpans_1.f k l1 a0).bind fun t219 => (some (!t219))) else (some false))) = some r := h
 clear h
 replace H := Option.bind_eq_some_iff.mp H
 obtain ⟨t218, A30, H⟩ := H
 replace H : (if t218 = true then ((slices_ContainsFunc_of_impl_areSpans_1.f k l1 a0).bind fun t219 => (some (!t219))) else (some false)) = some r := H
 have A3 := Aside0.mk A30
 clear A30
 by_cases c4 : t218 = true
 ·subst c4
  have H1 : ((slices_ContainsFunc_of_impl_areSpans_1.f k l1 a0).bind fun t219 => (some (!t219))) = some r := by rw [if_pos rfl] at H; exact H
  clear H
  have H := H1
  clear H1
  replace H := Option.bind_eq_some_iff.mp H
  obtain ⟨t219, A50, H⟩ := H
  replace H : (some (!t219)) = some r := H
  have A5 := Aside0.mk A50
  clear A50
  obtain rfl := Option.some.inj H
  go_enter Try.func96, Try.ntmps96
  go_wp2_with (first | ((with_reducible refine gate_dst (N := 2) rfl ?_); refine Slim.boxE 2 (#[.int .i64 a0]) 3 ?_; intro gb217 hg w6 hbox hb; have GW217 := Aside0.mk (Slim.vS : w.heap.size ≤ gb217); have GE217 := GW217; replace HB := Aside0.mk (below_step Slim.vB hb); have BK217 := Aside0.mk hbox; clear hb hbox hg) | ((with_reducible refine gate_callee (f := 153) rfl ?_); refine goesL_ (some 7) rfl rfl Try.func153 (by kernel_rfl) rfl #[.int .i64 (l1.length : Int)] rfl Slim.vA ?_; (with_reducible refine (impl_isVars.calls (l1.length : Int) true _ A3.out).mono ?_); rintro e w' ⟨rfl, ⟨nd, rfl⟩⟩; refine ⟨_, rfl, ?_⟩) | (go_at_call 154; (with_reducible refine (slices_ContainsFunc_of_impl_areSpans_1.calls k _ _ l1 gb217 a0 t219 _ ?side1 ?side2 ?side3 A5.out).mono ?_); (case side1 => repeat (first | exact (Kd.C_below HR1.out Slim.vB) | (with_reducible refine Kd.C_alloc ?_ _) | (with_reducible refine Kd.C_drewN ?_ _) | (with_reducible refine Kd.C_drew ?_))); (case side2 => exact HC1.out); (case side3 => (with_reducible repeat (first | refine blk_drewN ?_ _ | refine blk_drew ?_ | refine blk_alloc ?_ _)); exact BK217.out); rintro e w7 ⟨rfl, hb⟩; replace BK217 := Aside0.mk (Slim.bB BK217.out hb); replace HB := Aside0.mk (below_step Slim.vB hb); (try clear hb); (try clear hb2); (try clear hk); (try clear hi)))
  go_ret
  exact ⟨Slim.vE, Slim.vB⟩
 ·replace c4 := Bool.eq_false_iff.mpr c4
  subst c4
  have H1 : (some false) = some r := by rw [if_neg (show ¬ (false = true) by decide)] at H; exact H
  clear H
  have H := H1
  clear H1
  obtain rfl := Option.some.inj H
  go_enter Try.func96, Try.ntmps96
  go_wp2_with (first | ((with_reducible refine gate_dst (N := 2) rfl ?_); refine Slim.boxE 2 (#[.int .i64 a0]) 3 ?_; intro gb217 hg w8 hbox hb; have GW217 := Aside0.mk (Slim.vS : w.heap.size ≤ gb217); have GE217 := GW217; replace HB := Aside0.mk (below_step Slim.vB hb); have BK217 := Aside0.mk hbox; clear hb hbox hg) | ((with_reducible refine gate_callee (f := 153) rfl ?_); refine goesL_ (some 7) rfl rfl Try.func153 (by kernel_rfl) rfl #[.int .i64 (l1.length : Int)] rfl Slim.vA ?_; (with_reducible refine (impl_isVars.calls (l1.length : Int) false _ A3.out).mono ?_); rintro e w' ⟨rfl, ⟨nd, rfl⟩⟩; refine ⟨_, rfl, ?_⟩))
  go_ret
  exact ⟨Slim.vE, Slim.vB⟩
-- NOT PRINTED: function 163 (slices_IndexFunc_int_int)
-- NOT PRINTED: function 186 (slices_ContainsFunc_int_int)
mutual
def impl_operandsOf.j0 : Nat → Int → Bool → Option (Int × Int × Int)
 | 0, _, _ => none
 | k + 1, x0, x5 => if x5 = true then (some (0, 0, 1)) else (if x0 = 20 then (some (0, 0, 2)) else (if x0 = 13 then (some (1, 1, 1)) else (if x0 = 19 then (some (1, 2, 2)) else (if x0 ≥ 3 then (impl_operandsOf.j1 k x0 (decide (x0 ≤ 12))) else (impl_operandsOf.j1 k x0 false)))))
def impl_operandsOf.j1 : Nat → Int → Bool → Option (Int × Int × Int)
 | 0, _, _ => none
 | k + 1, x0, x21 => if x21 = true then (some (2, 1, 1)) else (if x0 ≥ 14 then (impl_operandsOf.j2 k x0 (decide (x0 ≤ 16))) else (impl_operandsOf.j2 k x0 false))
def impl_operandsOf.j2 : Nat → Int → Bool → Option (Int × Int × Int)
 | 0, _, _ => none
 | k + 1, x0, x28 => if x28 = true then (some (2, 1, 2)) else (if x0 = 17 then (some (2, 2, 2)) else (if x0 = 18 then (some (2, 2, 2)) else (some (0, 0, 0))))
end
def impl_operandsOf.f (k : Nat) (a0 : Int) : Option (Int × Int × Int) := if a0 = 1 then (impl_operandsOf.j0 k a0 true) else (impl_operandsOf.j0 k a0 (a0 == 2))
set_option maxHeartbeats 8000000 in
set_option maxRecDepth 100000 in
theorem impl_operandsOf.calls (k : Nat) (a0 : Int) (r1 : Int) (r2 : Int) (r3 : Int) (w : World) (h : impl_operandsOf.f k a0 = some (r1, r2, r3)) :
  Calls Try.prog 194 #[.int .i64 a0] w fun e w' => e = .returned (.tuple #[.int .i64 r1, .int .i64 r2, .int .i64 r3]) ∧ Drawn0 w w' := by
 have H : (if a0 = 1 then (impl_operandsOf.j0 k a0 true) else (impl_operandsOf.j0 k a0 (a0 == 2))) = some (r1, r2, r3) := h
 clear h
 have HC2 := Aside0.mk H
 clear H
 go_enter Try.func194, Try.ntmps194
 go_upto_region 1 with (fail)
 go_cut [5] (fun v5 wc => ∃ (kq : Nat) (x5_1 : Bool), v5 = .bool x5_1 ∧ Aside0 (impl_operandsOf.j0 kq a0 x5_1 = some (r1, r2, r3)) ∧ Aside0 (kq ≤ k) ∧ Drawn0 w wc)
 case first =>
  have H := HC2.out
  clear HC2
  by_cases c3 : a0 = 1
  ·rw [if_pos c3] at H
   have c3b0 : (a0 == 1) = true := beq_iff_eq.mpr c3
   have c3b1 : (a0 != 1) = false := bne_eq_false_iff_eq.mpr c3
   clear c3
   (first | rw [c3b0] | (simp only [i64_w, i32_w]; rw [c3b0]) | skip)
   have H' := Aside0.mk H
   clear H
   go_wp2
   go_meet
   case rel => exact ⟨_, (true), (by first | rfl | (simp; done) | (simp [*]; done)), H', ⟨by first | omega | exact Nat.le_refl _⟩, by repeat (first | exact Drawn0.refl _ | apply Drawn0.step)⟩
  ·rw [if_neg c3] at H
   have c3b0 : (a0 == 1) = false := beq_eq_false_iff_ne.mpr c3
   have c3b1 : (a0 != 1) = true := bne_iff_ne.mpr c3
   (first | rw [c3b0] | (simp only [i64_w, i32_w]; rw [c3b0]) | skip)
   have H' := Aside0.mk H
   clear H
   go_wp2
   go_meet
   case rel => exact ⟨_, ((a0 == 2)), (by first | rfl | (simp; done) | (simp [*]; done)), H', ⟨by first | omega | exact Nat.le_refl _⟩, by repeat (first | exact Drawn0.refl _ | apply Drawn0.step)⟩
 case rest =>
  clear HC2
  try clear c1
  try clear p2
  try clear c3
  try clear c3b0
  try clear c3b1
  obtain ⟨kq, x5_1, rfl, HA, HJ1, ⟨mc1, rfl⟩⟩ := hcut
  cases kq with
  | zero => exact absurd HA.out (by simp [impl_operandsOf.j0])
  | succ kj1 =>
   have H := HA.out
   clear HA
   simp only [impl_operandsOf.j0] at H
   by_cases c4 : x5_1 = true
   ·subst c4
    have H1 : (some (0, 0, 1)) = some (r1, r2, r3) := by rw [if_pos rfl] at H; exact H
    clear H
    have H := H1
    clear H1
    simp only [Option.some.injEq, Prod.mk.injEq] at H
    obtain ⟨rfl, rfl, rfl⟩ := H
    go_wp2
    go_ret3
    exact ⟨by first | rfl | (simp; done) | (simp [*]; done), by repeat (first | exact Drawn0.refl _ | apply Drawn0.step)⟩
   ·replace c4 := Bool.eq_false_iff.mpr c4
    subst c4
    have H1 : (if a0 = 20 then (some (0, 0, 2)) else (if a0 = 13 then (some (1, 1, 1)) else (if a0 = 19 then (some (1, 2, 2)) else (if a0 ≥ 3 then (impl_operandsOf.j1 kj1 a0 (decide (a0 ≤ 12))) else (impl_operandsOf.j1 kj1 a0 false))))) = some (r1, r2, r3) := by rw [if_neg (show ¬ (false = true) by decide)] at H; exact H
    clear H
    have H := H1
    clear H1
    by_cases c5 : a0 = 20
    ·rw [if_pos c5] at H
     have c5b0 : (a0 == 20) = true := beq_iff_eq.mpr c5
     have c5b1 : (a0 != 20) = false := bne_eq_false_iff_eq.mpr c5
     clear c5
     simp only [Option.some.injEq, Prod.mk.injEq] at H
     obtain ⟨rfl, rfl, rfl⟩ := H
     go_wp2
     go_ret3
     exact ⟨by first | rfl | (simp; done) | (simp [*]; done), by repeat (first | exact Drawn0.refl _ | apply Drawn0.step)⟩
    ·rw [if_neg c5] at H
     have c5b0 : (a0 == 20) = false := beq_eq_false_iff_ne.mpr c5
     have c5b1 : (a0 != 20) = true := bne_iff_ne.mpr c5
     by_cases c6 : a0 = 13
     ·rw [if_pos c6] at H
      have c6b0 : (a0 == 13) = true := beq_iff_eq.mpr c6
      have c6b1 : (a0 != 13) = false := bne_eq_false_iff_eq.mpr c6
      clear c6
      simp only [Option.some.injEq, Prod.mk.injEq] at H
      obtain ⟨rfl, rfl, rfl⟩ := H
      go_wp2
      go_ret3
      exact ⟨by first | rfl | (simp; done) | (simp [*]; done), by repeat (first | exact Drawn0.refl _ | apply Drawn0.step)⟩
     ·rw [if_neg c6] at H
      have c6b0 : (a0 == 13) = false := beq_eq_false_iff_ne.mpr c6
      have c6b1 : (a0 != 13) = true := bne_iff_ne.mpr c6
      by_cases c7 : a0 = 19
      ·rw [if_pos c7] at H
       have c7b0 : (a0 == 19) = true := beq_iff_eq.mpr c7
       have c7b1 : (a0 != 19) = false := bne_eq_false_iff_eq.mpr c7
       clear c7
       simp only [Option.some.injEq, Prod.mk.injEq] at H
       obtain ⟨rfl, rfl, rfl⟩ := H
       go_wp2
       go_ret3
       exact ⟨by first | rfl | (simp; done) | (simp [*]; done), by repeat (first | exact Drawn0.refl _ | apply Drawn0.step)⟩
      ·rw [if_neg c7] at H
       have c7b0 : (a0 == 19) = false := beq_eq_false_iff_ne.mpr c7
       have c7b1 : (a0 != 19) = true := bne_iff_ne.mpr c7
       have HC8 := Aside0.mk H
       clear H
       go_upto_region 9 with (fail)
       go_cut [21] (fun v21 wc => ∃ (kq : Nat) (x21_7 : Bool), v21 = .bool x21_7 ∧ Aside0 (impl_operandsOf.j1 kq a0 x21_7 = some (r1, r2, r3)) ∧ Aside0 (kq ≤ kj1) ∧ Drawn0 w wc)
       case first =>
        have H := HC8.out
        clear HC8
        by_cases c9 : a0 ≥ 3
        ·rw [if_pos c9] at H
         have c9b0 : decide (3 ≤ a0) = true := decide_eq_true c9
         clear c9
         (first | rw [c9b0] | (simp only [i64_w, i32_w]; rw [c9b0]) | skip)
         have H' := Aside0.mk H
         clear H
         go_wp2
         go_meet
         case rel => exact ⟨_, (decide (a0 ≤ 12)), (by first | rfl | (simp; done) | (simp [*]; done)), H', ⟨by have := HJ1.out; first | omega | exact Nat.le_refl _⟩, by repeat (first | exact Drawn0.refl _ | apply Drawn0.step)⟩
        ·rw [if_neg c9] at H
         have c9b0 : decide (3 ≤ a0) = false := decide_eq_false c9
         clear c9
         (first | rw [c9b0] | (simp only [i64_w, i32_w]; rw [c9b0]) | skip)
         have H' := Aside0.mk H
         clear H
         go_wp2
         go_meet
         case rel => exact ⟨_, (false), (by first | rfl | (simp; done) | (simp [*]; done)), H', ⟨by have := HJ1.out; first | omega | exact Nat.le_refl _⟩, by repeat (first | exact Drawn0.refl _ | apply Drawn0.step)⟩
       case rest =>
        clear HC8
        try clear c1
        try clear p2
        try clear c3
        try clear c3b0
        try clear c3b1
        try clear c4
        try clear c5
        try clear c5b0
        try clear c5b1
        try clear c6
        try clear c6b0
        try clear c6b1
        try clear c7
        try clear c7b0
        try clear c7b1
        try clear c9
        try clear c9b0
        try clear p2
        obtain ⟨kq, x21_7, rfl, HA, HJ7, ⟨mc7, rfl⟩⟩ := hcut
        cases kq with
        | zero => exact absurd HA.out (by simp [impl_operandsOf.j1])
        | succ kj7 =>
         have H := HA.out
         clear HA
         simp only [impl_operandsOf.j1] at H
         by_cases c10 : x21_7 = true
         ·subst c10
          have H1 : (some (2, 1, 1)) = some (r1, r2, r3) := by rw [if_pos rfl] at H; exact H
          clear H
          have H := H1
          clear H1
          simp only [Option.some.injEq, Prod.mk.injEq] at H
          obtain ⟨rfl, rfl, rfl⟩ := H
          go_wp2
          go_ret3
          exact ⟨by first | rfl | (simp; done) | (simp [*]; done), by repeat (first | exact Drawn0.refl _ | apply Drawn0.step)⟩
         ·replace c10 := Bool.eq_false_iff.mpr c10
          subst c10
          have H1 : (if a0 ≥ 14 then (impl_operandsOf.j2 kj7 a0 (decide (a0 ≤ 16))) else (impl_operandsOf.j2 kj7 a0 false)) = some (r1, r2, r3) := by rw [if_neg (show ¬ (false = true) by decide)] at H; exact H
          clear H
          have H := H1
          clear H1
          have HC11 := Aside0.mk H
          clear H
          go_upto_region 11 with (fail)
          go_cut [28] (fun v28 wc => ∃ (kq : Nat) (x28_10 : Bool), v28 = .bool x28_10 ∧ Aside0 (impl_operandsOf.j2 kq a0 x28_10 = some (r1, r2, r3)) ∧ Aside0 (kq ≤ kj7) ∧ Drawn0 w wc)
          case first =>
           have H := HC11.out
           clear HC11
           by_cases c12 : a0 ≥ 14
           ·rw [if_pos c12] at H
            have c12b0 : decide (14 ≤ a0) = true := decide_eq_true c12
            clear c12
            (first | rw [c12b0] | (simp only [i64_w, i32_w]; rw [c12b0]) | skip)
            have H' := Aside0.mk H
            clear H
            go_wp2
            go_meet
            case rel => exact ⟨_, (decide (a0 ≤ 16)), (by first | rfl | (simp; done) | (simp [*]; done)), H', ⟨by have := HJ1.out; have := HJ7.out; first | omega | exact Nat.le_refl _⟩, by repeat (first | exact Drawn0.refl _ | apply Drawn0.step)⟩
           ·rw [if_neg c12] at H
            have c12b0 : decide (14 ≤ a0) = false := decide_eq_false c12
            clear c12
            (first | rw [c12b0] | (simp only [i64_w, i32_w]; rw [c12b0]) | skip)
            have H' := Aside0.mk H
            clear H
            go_wp2
            go_meet
            case rel => exact ⟨_, (false), (by first | rfl | (simp; done) | (simp [*]; done)), H', ⟨by have := HJ1.out; have := HJ7.out; first | omega | exact Nat.le_refl _⟩, by repeat (first | exact Drawn0.refl _ | apply Drawn0.step)⟩
          case rest =>
           clear HC11
           try clear c1
           try clear p2
           try clear c3
           try clear c3b0
           try clear c3b1
           try clear c4
           try clear c5
           try clear c5b0
           try clear c5b1
           try clear c6
           try clear c6b0
           try clear c6b1
           try clear c7
           try clear c7b0
           try clear c7b1
           try clear c9
           try clear c9b0
           try clear c10
           try clear c12
           try clear c12b0
           try clear p2
           obtain ⟨kq, x28_10, rfl, HA, HJ10, ⟨mc10, rfl⟩⟩ := hcut
           cases kq with
           | zero => exact absurd HA.out (by simp [impl_operandsOf.j2])
           | succ kj10 =>
            have H := HA.out
            clear HA
            simp only [impl_operandsOf.j2] at H
            by_cases c13 : x28_10 = true
            ·subst c13
             have H1 : (some (2, 1, 2)) = some (r1, r2, r3) := by rw [if_pos rfl] at H; exact H
             clear H
             have H := H1
             clear H1
             simp only [Option.some.injEq, Prod.mk.injEq] at H
             obtain ⟨rfl, rfl, rfl⟩ := H
             go_wp2
             go_ret3
             exact ⟨by first | rfl | (simp; done) | (simp [*]; done), by repeat (first | exact Drawn0.refl _ | apply Drawn0.step)⟩
            ·replace c13 := Bool.eq_false_iff.mpr c13
             subst c13
             have H1 : (if a0 = 17 then (some (2, 2, 2)) else (if a0 = 18 then (some (2, 2, 2)) else (some (0, 0, 0)))) = some (r1, r2, r3) := by rw [if_neg (show ¬ (false = true) by decide)] at H; exact H
             clear H
             have H := H1
             clear H1
             by_cases c14 : a0 = 17
             ·rw [if_pos c14] at H
              have c14b0 : (a0 == 17) = true := beq_iff_eq.mpr c14
              have c14b1 : (a0 != 17) = false := bne_eq_false_iff_eq.mpr c14
              clear c14
              simp only [Option.some.injEq, Prod.mk.injEq] at H
              obtain ⟨rfl, rfl, rfl⟩ := H
              go_wp2
              go_ret3
              exact ⟨by first | rfl | (simp; done) | (simp [*]; done), by repeat (first | exact Drawn0.refl _ | apply Drawn0.step)⟩
             ·rw [if_neg c14] at H
              have c14b0 : (a0 == 17) = false := beq_eq_false_iff_ne.mpr c14
              have c14b1 : (a0 != 17) = true := bne_iff_ne.mpr c14
              by_cases c15 : a0 = 18
              ·rw [if_pos c15] at H
               have c15b0 : (a0 == 18) = true := beq_iff_eq.mpr c15
               have c15b1 : (a0 != 18) = false := bne_eq_false_iff_eq.mpr c15
               clear c15
               simp only [Option.some.injEq, Prod.mk.injEq] at H
               obtain ⟨rfl, rfl, rfl⟩ := H
               go_wp2
               go_ret3
               exact ⟨by first | rfl | (simp; done) | (simp [*]; done), by repeat (first | exact Drawn0.refl _ | apply Drawn0.step)⟩
              ·rw [if_neg c15] at H
               have c15b0 : (a0 == 18) = false := beq_eq_false_iff_ne.mpr c15
               have c15b1 : (a0 != 18) = true := bne_iff_ne.mpr c15
               simp only [Option.some.injEq, Prod.mk.injEq] at H
               obtain ⟨rfl, rfl, rfl⟩ := H
               go_wp2
               go_ret3
               exact ⟨by first | rfl | (simp; done) | (simp [*]; done), by repeat (first | exact Drawn0.refl _ | apply Drawn0.step)⟩
def impl_isLeafRight.f (a0 : Int) (a1 : Int) (a2_0 : Int) (a2_1 : Int) : Option (Bool) := if a2_0 = 1 then ((impl_GoodWord.f a0 a2_1).bind fun t221 => (some t221)) else (if a2_0 = 2 then (some (decide (a2_1 < (IntKind.u64.wrap (a1))))) else (if a2_0 = 20 then (some (decide (a2_1 ≤ 1))) else (some (a2_1 == 0))))
set_option maxHeartbeats 8000000 in
set_option maxRecDepth 100000 in
theorem impl_isLeafRight.calls (a0 : Int) (a1 : Int) (a2_0 : Int) (a2_1 : Int) (r : Bool) (w : World) (h : impl_isLeafRight.f a0 a1 a2_0 a2_1 = some r) :
  Calls Try.prog 195 #[.int .i64 a0, .int .i64 a1, .agg #[.int .i64 a2_0, .int .u64 a2_1]] w fun e w' => e = .returned (.bool r) ∧ Below w.heap.size w w' := by
 have hu161 := Try.underlying161
 have HB := Aside0.mk (Below.refl w.heap.size w)
 have H : (if a2_0 = 1 then ((impl_GoodWord.f a0 a2_1).bind fun t221 => (some t221)) else (if a2_0 = 2 then (some (decide (a2_1 < (IntKind.u64.wrap (a1))))) else (if a2_0 = 20 then (some (decide (a2_1 ≤ 1))) else (some (a2_1 == 0))))) = some r := h
 clear h
 by_cases c4 : a2_0 = 1
 ·rw [if_pos c4] at H
  have c4b0 : (a2_0 == 1) = true := beq_iff_eq.mpr c4
  have c4b1 : (a2_0 != 1) = false := bne_eq_false_iff_eq.mpr c4
  clear c4
  replace H := Option.bind_eq_some_iff.mp H
  obtain ⟨t221, A50, H⟩ := H
  replace H : (some t221) = some r := H
  have A5 := Aside0.mk A50
  clear A50
  obtain rfl := Option.some.inj H
  go_enter Try.func195, Try.ntmps195
  go_wp2_with (first | ((with_reducible refine gate_dst (N := 5) rfl ?_); refine Slim.boxE 5 (#[.int .i64 a2_0, .int .u64 a2_1]) 161 ?_; intro gb220 hg w6 hbox hb; have GW220 := Aside0.mk (Slim.vS : w.heap.size ≤ gb220); have GE220 := GW220; replace HB := Aside0.mk (below_step Slim.vB hb); have BK220 := Aside0.mk hbox; clear hb hbox hg; have hcz7_0 := Slim.bc BK220.out 0 rfl; have hcz7_1 := Slim.bc BK220.out 1 rfl; have hfz7_0 := blk_frozen BK220.out 0; have hfz7_1 := blk_frozen BK220.out 1) | ((with_reducible refine gate_callee (f := 88) rfl ?_); refine goesL_ (some 14) rfl rfl Try.func88 (by kernel_rfl) rfl #[.int .i64 a0, .int .u64 a2_1] rfl Slim.vA ?_; (with_reducible refine (impl_GoodWord.calls a0 a2_1 t221 _ A5.out).mono ?_); rintro e w' ⟨rfl, ⟨nd, rfl⟩⟩; refine ⟨_, rfl, ?_⟩))
  go_ret
  exact ⟨Slim.vE, Slim.vB⟩
 ·rw [if_neg c4] at H
  have c4b0 : (a2_0 == 1) = false := beq_eq_false_iff_ne.mpr c4
  have c4b1 : (a2_0 != 1) = true := bne_iff_ne.mpr c4
  by_cases c8 : a2_0 = 2
  ·rw [if_pos c8] at H
   have c8b0 : (a2_0 == 2) = true := beq_iff_eq.mpr c8
   have c8b1 : (a2_0 != 2) = false := bne_eq_false_iff_eq.mpr c8
   clear c8
   obtain rfl := Option.some.inj H
   go_enter Try.func195, Try.ntmps195
   go_wp2_with (first | ((with_reducible refine gate_dst (N := 5) rfl ?_); refine Slim.boxE 5 (#[.int .i64 a2_0, .int .u64 a2_1]) 161 ?_; intro gb220 hg w9 hbox hb; have GW220 := Aside0.mk (Slim.vS : w.heap.size ≤ gb220); have GE220 := GW220; replace HB := Aside0.mk (below_step Slim.vB hb); have BK220 := Aside0.mk hbox; clear hb hbox hg; have hcz10_0 := Slim.bc BK220.out 0 rfl; have hcz10_1 := Slim.bc BK220.out 1 rfl; have hfz10_0 := blk_frozen BK220.out 0; have hfz10_1 := blk_frozen BK220.out 1))
   go_ret
   exact ⟨Slim.vE, Slim.vB⟩
  ·rw [if_neg c8] at H
   have c8b0 : (a2_0 == 2) = false := beq_eq_false_iff_ne.mpr c8
   have c8b1 : (a2_0 != 2) = true := bne_iff_ne.mpr c8
   by_cases c11 : a2_0 = 20
   ·rw [if_pos c11] at H
    have c11b0 : (a2_0 == 20) = true := beq_iff_eq.mpr c11
    have c11b1 : (a2_0 != 20) = false := bne_eq_false_iff_eq.mpr c11
    clear c11
    obtain rfl := Option.some.inj H
    go_enter Try.func195, Try.ntmps195
    go_wp2_with (first | ((with_reducible refine gate_dst (N := 5) rfl ?_); refine Slim.boxE 5 (#[.int .i64 a2_0, .int .u64 a2_1]) 161 ?_; intro gb220 hg w12 hbox hb; have GW220 := Aside0.mk (Slim.vS : w.heap.size ≤ gb220); have GE220 := GW220; replace HB := Aside0.mk (below_step Slim.vB hb); have BK220 := Aside0.mk hbox; clear hb hbox hg; have hcz13_0 := Slim.bc BK220.out 0 rfl; have hcz13_1 := Slim.bc BK220.out 1 rfl; have hfz13_0 := blk_frozen BK220.out 0; have hfz13_1 := blk_frozen BK220.out 1))
    go_ret
    exact ⟨Slim.vE, Slim.vB⟩
   ·rw [if_neg c11] at H
    have c11b0 : (a2_0 == 20) = false := beq_eq_false_iff_ne.mpr c11
    have c11b1 : (a2_0 != 20) = true := bne_iff_ne.mpr c11
    obtain rfl := Option.some.inj H
    go_enter Try.func195, Try.ntmps195
    go_wp2_with (first | ((with_reducible refine gate_dst (N := 5) rfl ?_); refine Slim.boxE 5 (#[.int .i64 a2_0, .int .u64 a2_1]) 161 ?_; intro gb220 hg w14 hbox hb; have GW220 := Aside0.mk (Slim.vS : w.heap.size ≤ gb220); have GE220 := GW220; replace HB := Aside0.mk (below_step Slim.vB hb); have BK220 := Aside0.mk hbox; clear hb hbox hg; have hcz15_0 := Slim.bc BK220.out 0 rfl; have hcz15_1 := Slim.bc BK220.out 1 rfl; have hfz15_0 := blk_frozen BK220.out 0; have hfz15_1 := blk_frozen BK220.out 1))
    go_ret
    exact ⟨Slim.vE, Slim.vB⟩
def impl_GoodTerm_1.f (a0 : Int) (a1_0 : Int) : Option (Bool) := some (a0 != a1_0)
set_option maxHeartbeats 8000000 in
set_option maxRecDepth 100000 in
theorem impl_GoodTerm_1.calls (a0 : Int) (B1_0 : Nat) (a1_0 : Int) (r : Bool) (w : World) (hk1_0 : w.heap[B1_0]? = some (.cells #[.int .i64 a1_0] 3 (0, 0))) (h : impl_GoodTerm_1.f a0 a1_0 = some r) :
  Calls Try.prog 196 #[.int .i64 a0, .pointer (some ⟨B1_0, 0, none⟩)] w fun e w' => e = .returned (.bool r) ∧ Below w.heap.size w w' := by
 have BK420 := Aside0.mk hk1_0
 clear hk1_0
 have HB := Aside0.mk (Below.refl w.heap.size w)
 have H : (some (a0 != a1_0)) = some r := h
 clear h
 obtain rfl := Option.some.inj H
 have hcz3_0 := Slim.bc BK420.out 0 rfl
 have hfz3_0 := blk_frozen BK420.out 0
 go_enter Try.func196, Try.ntmps196
 go_wp2
 go_ret
 exact ⟨Slim.vE, Slim.vB⟩
def slices_IndexFunc_of_impl_GoodTerm_1.l0 : Nat → List Int → Int → Int → Int → Option (Int)
 | 0, _, _, _, _ => none
 | k + 1, x0, x7, x8, x421000 => if x8 < x7 then (if 0 ≤ x8 then (if x8 < (x0.length : Int) then ((impl_GoodTerm_1.f (rd x0 x8) x421000).bind fun t223 => (if t223 = true then (some x8) else (slices_IndexFunc_of_impl_GoodTerm_1.l0 k x0 x7 (wrap64 (x8 + 1)) x421000))) else (none)) else (none)) else (some (-1))
def slices_IndexFunc_of_impl_GoodTerm_1.f (k : Nat) (l0 : List Int) (a1_0 : Int) : Option (Int) := slices_IndexFunc_of_impl_GoodTerm_1.l0 k l0 (l0.length : Int) 0 a1_0
set_option maxHeartbeats 8000000 in
set_option maxRecDepth 100000 in
theorem slices_IndexFunc_of_impl_GoodTerm_1.calls (k : Nat) (A0 : Option Addr) (c0 : Nat) (l0 : List Int) (B1_0 : Nat) (a1_0 : Int) (r : Int) (w : World) (hr0 : Kd.C (Kd.int .i64) w A0 l0.length l0) (hc0 : l0.length ≤ c0) (hk1_0 : w.heap[B1_0]? = some (.cells #[.int .i64 a1_0] 3 (0, 0))) (h : slices_IndexFunc_of_impl_GoodTerm_1.f k l0 a1_0 = some r) :
  Calls Try.prog 163 #[.slice A0 l0.length c0, .func (.func 196) #[] #[.pointer (some ⟨B1_0, 0, none⟩)]] w fun e w' => e = .returned (.int .i64 r) ∧ Below w.heap.size w w' := by
 have HR0 := Aside0.mk hr0
 have HC0 := Aside0.mk hc0
 clear hr0 hc0
 have BK420 := Aside0.mk hk1_0
 clear hk1_0
 have HB := Aside0.mk (Below.refl w.heap.size w)
 have H : (slices_IndexFunc_of_impl_GoodTerm_1.l0 k l0 (l0.length : Int) 0 a1_0) = some r := h
 clear h
 have H' := Aside0.mk H
 clear H
 go_enter Try.func163, Try.ntmps163
 go_wp2
 go_loopg [8] k (fun kq v8 w' => ∃ (x8_1 : Int), v8 = .int .i64 x8_1 ∧ Aside0 (slices_IndexFunc_of_impl_GoodTerm_1.l0 kq l0 (l0.length : Int) x8_1 a1_0 = some r) ∧ Aside0 (kq ≤ k) ∧ Aside0 (w'.heap[B1_0]? = some (.cells #[.int .i64 a1_0] 3 (0, 0))) ∧ Aside0 (Below w.heap.size w w'))
 case atStart => exact ⟨(0), (by first | rfl | (simp; done) | (simp [*]; done)), H', ⟨Nat.le_refl _⟩, ⟨by (with_reducible repeat (first | refine blk_drewN ?_ _ | refine blk_drew ?_ | refine blk_alloc ?_ _)); exact BK420.out⟩, ⟨Slim.vB⟩⟩
 case round =>
  clear H'
  try clear p2
  obtain ⟨x8_1, rfl, HA, HK1, BK420, HB⟩ := hrel
  cases gk with
  | zero => exact absurd HA.out (by simp [slices_IndexFunc_of_impl_GoodTerm_1.l0])
  | succ k1 =>
   have H := HA.out
   clear HA
   simp only [slices_IndexFunc_of_impl_GoodTerm_1.l0] at H
   by_cases c3 : x8_1 < (l0.length : Int)
   ·rw [if_pos c3] at H
    have c3b0 : decide (x8_1 < (l0.length : Int)) = true := decide_eq_true c3
    clear c3
    by_cases c4 : 0 ≤ x8_1
    ·rw [if_pos c4] at H
     have c4b0 : decide (0 ≤ x8_1) = true := decide_eq_true c4
     clear c4
     by_cases c5 : x8_1 < (l0.length : Int)
     ·rw [if_pos c5] at H
      have c5b0 : decide (x8_1 < (l0.length : Int)) = true := decide_eq_true c5
      clear c5
      replace H := Option.bind_eq_some_iff.mp H
      obtain ⟨t223, A60, H⟩ := H
      replace H : (if t223 = true then (some x8_1) else (slices_IndexFunc_of_impl_GoodTerm_1.l0 k1 l0 (l0.length : Int) (wrap64 (x8_1 + 1)) a1_0)) = some r := H
      have A6 := Aside0.mk A60
      clear A60
      by_cases c7 : t223 = true
      ·subst c7
       have H1 : (some x8_1) = some r := by rw [if_pos rfl] at H; exact H
       clear H
       have H := H1
       clear H1
       obtain rfl := Option.some.inj H
       have p222 : 0 ≤ (x8_1 : Int) := of_decide_eq_true (by first | (with_reducible assumption) | assumption)
       have q222 : x8_1 < (l0.length : Int) := of_decide_eq_true (by first | (with_reducible assumption) | assumption)
       obtain ⟨ad222, e222, hx222_0⟩ := Kd.at_int HR0.out x8_1 p222 q222
       cases e222
       replace hx222_0 := (HB.out.cell (World.block_lt_of_cell? w _ hx222_0)).trans hx222_0
       replace p222 := eq_true p222
       replace q222 := eq_true q222
       go_wp2_with (first | (go_at_call 196; (with_reducible refine (impl_GoodTerm_1.calls (rd l0 x8_1) B1_0 a1_0 true _ ?side1 A6.out).mono ?_); (case side1 => (with_reducible repeat (first | refine blk_drewN ?_ _ | refine blk_drew ?_ | refine blk_alloc ?_ _)); exact BK420.out); rintro e w8 ⟨rfl, hb⟩; replace BK420 := Aside0.mk (Slim.bB BK420.out hb); replace HB := Aside0.mk (below_step Slim.vB hb); (try clear hb); (try clear hb2); (try clear hk); (try clear hi)))
       go_ret
       exact ⟨Slim.vE, Slim.vB⟩
      ·replace c7 := Bool.eq_false_iff.mpr c7
       subst c7
       have H1 : (slices_IndexFunc_of_impl_GoodTerm_1.l0 k1 l0 (l0.length : Int) (wrap64 (x8_1 + 1)) a1_0) = some r := by rw [if_neg (show ¬ (false = true) by decide)] at H; exact H
       clear H
       have H := H1
       clear H1
       have H' := Aside0.mk H
       clear H
       have p222 : 0 ≤ (x8_1 : Int) := of_decide_eq_true (by first | (with_reducible assumption) | assumption)
       have q222 : x8_1 < (l0.length : Int) := of_decide_eq_true (by first | (with_reducible assumption) | assumption)
       obtain ⟨ad222, e222, hx222_0⟩ := Kd.at_int HR0.out x8_1 p222 q222
       cases e222
       replace hx222_0 := (HB.out.cell (World.block_lt_of_cell? w _ hx222_0)).trans hx222_0
       replace p222 := eq_true p222
       replace q222 := eq_true q222
       go_wp2_with (first | (go_at_call 196; (with_reducible refine (impl_GoodTerm_1.calls (rd l0 x8_1) B1_0 a1_0 false _ ?side1 A6.out).mono ?_); (case side1 => (with_reducible repeat (first | refine blk_drewN ?_ _ | refine blk_drew ?_ | refine blk_alloc ?_ _)); exact BK420.out); rintro e w9 ⟨rfl, hb⟩; replace BK420 := Aside0.mk (Slim.bB BK420.out hb); replace HB := Aside0.mk (below_step Slim.vB hb); (try clear hb); (try clear hb2); (try clear hk); (try clear hi)))
       go_roundg k1
       case measure => have := HK1.out; omega
       case rel => exact ⟨(wrap64 (x8_1 + 1)), (by first | rfl | (simp; done) | (simp [*]; done)), H', ⟨by have := HK1.out; omega⟩, ⟨by (with_reducible repeat (first | refine blk_drewN ?_ _ | refine blk_drew ?_ | refine blk_alloc ?_ _)); exact BK420.out⟩, ⟨Slim.vB⟩⟩
     ·rw [if_neg c5] at H
      exact absurd H (by simp)
    ·rw [if_neg c4] at H
     exact absurd H (by simp)
   ·rw [if_neg c3] at H
    have c3b0 : decide (x8_1 < (l0.length : Int)) = false := decide_eq_false c3
    clear c3
    obtain rfl := Option.some.inj H
    go_wp2
    go_ret
    exact ⟨Slim.vE, Slim.vB⟩
def slices_ContainsFunc_of_impl_GoodTerm_1.f (k : Nat) (l0 : List Int) (a1_0 : Int) : Option (Bool) := (slices_IndexFunc_of_impl_GoodTerm_1.f k l0 a1_0).bind fun t224 => (some (decide (t224 ≥ 0)))
set_option maxHeartbeats 8000000 in
set_option maxRecDepth 100000 in
theorem slices_ContainsFunc_of_impl_GoodTerm_1.calls (k : Nat) (A0 : Option Addr) (c0 : Nat) (l0 : List Int) (B1_0 : Nat) (a1_0 : Int) (r : Bool) (w : World) (hr0 : Kd.C (Kd.int .i64) w A0 l0.length l0) (hc0 : l0.length ≤ c0) (hk1_0 : w.heap[B1_0]? = some (.cells #[.int .i64 a1_0] 3 (0, 0))) (h : slices_ContainsFunc_of_impl_GoodTerm_1.f k l0 a1_0 = some r) :
  Calls Try.prog 186 #[.slice A0 l0.length c0, .func (.func 196) #[] #[.pointer (some ⟨B1_0, 0, none⟩)]] w fun e w' => e = .returned (.bool r) ∧ Below w.heap.size w w' := by
 have HR0 := Aside0.mk hr0
 have HC0 := Aside0.mk hc0
 clear hr0 hc0
 have BK420 := Aside0.mk hk1_0
 clear hk1_0
 have HB := Aside0.mk (Below.refl w.heap.size w)
 have H : ((slices_IndexFunc_of_impl_GoodTerm_1.f k l0 a1_0).bind fun t224 => (some (decide (t224 ≥ 0)))) = some r := h
 clear h
 replace H := Option.bind_eq_some_iff.mp H
 obtain ⟨t224, A30, H⟩ := H
 replace H : (some (decide (t224 ≥ 0))) = some r := H
 have A3 := Aside0.mk A30
 clear A30
 obtain rfl := Option.some.inj H
 go_enter Try.func186, Try.ntmps186
 go_wp2_with (first | ((with_reducible refine gate_callee (f := 163) rfl ?_); refine goesL_ (some 7) rfl rfl Try.func163 (by kernel_rfl) rfl #[.slice A0 l0.length c0, .func (.func 196) #[] #[.pointer (some ⟨B1_0, 0, none⟩)]] rfl Slim.vA ?_; (with_reducible refine (slices_IndexFunc_of_impl_GoodTerm_1.calls k _ _ l0 B1_0 a1_0 t224 _ ?side1 ?side2 ?side3 A3.out).mono ?_); (case side1 => repeat (first | exact HR0.out | (with_reducible refine Kd.C_alloc ?_ _) | (with_reducible refine Kd.C_drewN ?_ _) | (with_reducible refine Kd.C_drew ?_))); (case side2 => exact HC0.out); (case side3 => (with_reducible repeat (first | refine blk_drewN ?_ _ | refine blk_drew ?_ | refine blk_alloc ?_ _)); exact BK420.out); rintro e w4 ⟨rfl, hb⟩; refine ⟨_, rfl, ?_⟩; replace BK420 := Aside0.mk (Slim.bB BK420.out hb); replace HB := Aside0.mk (below_step Slim.vB hb); (try clear hb); (try clear hb2); (try clear hk); (try clear hi)))
 go_ret
 exact ⟨Slim.vE, Slim.vB⟩
end Go.Proofs.Ytimoiblediffpaa.QFnExactSpanOf
end
