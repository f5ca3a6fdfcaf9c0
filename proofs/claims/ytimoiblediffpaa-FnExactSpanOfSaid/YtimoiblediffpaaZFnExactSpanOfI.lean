/- What the proof of the law FnExactSpanOf leans on, part 9: words, printed walks of the Go functions, plain lemmas. -/
import Derived.Test.YtimoiblediffpaaZFnExactSpanOfH
section
namespace Go.Proofs.Ytimoiblediffpaa.QFnExactSpanOf
open Go.RowKit Go.Proofs.YtimoiblediffpaaW.PrintWords Go.Proofs.YtimoiblediffpaaW.PrintLast Go.Proofs.YtimoiblediffpaaW.PrintMore
attribute [local go_sem] max2_int min2_int max_two min_two
set_option linter.unusedVariables false
set_option linter.unusedSimpArgs false
mutual
def impl_spanOf.l0 : Nat → List (S26) → List (S26) → List (S161) → Int → Int → Int → Int → Option (Int × Int)
 | 0, _, _, _, _, _, _, _ => none
 | k + 1, x2, x8, x16, x17, x18, x289000, x289001 => if x18 < x17 then (if 0 ≤ x18 then (if x18 < (x16.length : Int) then (if ((rd_T161 x16 x18).f0) = 1 then (impl_spanOf.j1 k x2 x8 (wrap64 ((x8.length : Int) - 1)) x16 x17 x18 ((rd_T161 x16 x18).f0) (((rd_T161 x16 x18).f0) == 1) x289000 x289001 ((rd_T161 x16 x18).f0) ((rd_T161 x16 x18).f1)) else (impl_spanOf.j1 k x2 x8 (wrap64 ((x8.length : Int) - 1)) x16 x17 x18 ((rd_T161 x16 x18).f0) (((rd_T161 x16 x18).f0) == 20) x289000 x289001 ((rd_T161 x16 x18).f0) ((rd_T161 x16 x18).f1))) else (none)) else (none)) else (if 0 < (x8.length : Int) then (some ((rd_T26 x8 0).f0, (rd_T26 x8 0).f1)) else (none))
def impl_spanOf.j1 : Nat → List (S26) → List (S26) → Int → List (S161) → Int → Int → Int → Bool → Int → Int → Int → Int → Option (Int × Int)
 | 0, _, _, _, _, _, _, _, _, _, _, _, _ => none
 | k + 1, x2, x8, x11, x16, x17, x18, x26, x46, x289000, x289001, x292000, x292001 => if x46 = true then (if x8.length < 8796093022208 then (impl_spanOf.l0 k x2 (x8 ++ [(⟨x292001, x292001⟩ : S26)]) x16 x17 (wrap64 (x18 + 1)) x289000 x289001) else (none)) else (if x26 = 2 then (if 0 ≤ x292001 then (if x292001 < (x2.length : Int) then (if x8.length < 8796093022208 then (impl_spanOf.l0 k x2 (x8 ++ [(⟨(rd_T26 x2 x292001).f0, (rd_T26 x2 x292001).f1⟩ : S26)]) x16 x17 (wrap64 (x18 + 1)) x289000 x289001) else (none)) else (none)) else (none)) else (if x26 = 13 then (if 0 ≤ x11 then (if x11 < (x8.length : Int) then (impl_spanOf.l0 k x2 (x8.set (x11 : Int).toNat (⟨IntKind.u64.wrap (x289001 - ((rd_T26 x8 x11).f1)), IntKind.u64.wrap (x289001 - ((rd_T26 x8 x11).f0))⟩ : S26)) x16 x17 (wrap64 (x18 + 1)) x289000 x289001) else (none)) else (none)) else (if x26 = 19 then (if 0 ≤ x11 then (if x11 < (x8.length : Int) then (impl_spanOf.l0 k x2 (x8.set (x11 : Int).toNat (⟨IntKind.u64.wrap (1 - ((rd_T26 x8 x11).f1)), IntKind.u64.wrap (1 - ((rd_T26 x8 x11).f0))⟩ : S26)) x16 x17 (wrap64 (x18 + 1)) x289000 x289001) else (none)) else (none)) else (if 0 ≤ (wrap64 (x11 - 1)) then (if (wrap64 (x11 - 1)) < (x8.length : Int) then (if 0 ≤ x11 then (if x11 < (x8.length : Int) then ((impl_spanOfTwo.f x292000 x289000 x289001 ((rd_T26 x8 (wrap64 (x11 - 1))).f0) ((rd_T26 x8 (wrap64 (x11 - 1))).f1) ((rd_T26 x8 x11).f0) ((rd_T26 x8 x11).f1)).bind fun bt307 => (if (wrap64 (x11 - 1)) ≤ (x8.length : Int) then ((some (x8.take ((wrap64 (x11 - 1)) : Int).toNat : List (S26))).bind fun y309 => (if y309.length < 8796093022208 then (impl_spanOf.l0 k x2 (y309 ++ [(⟨bt307.1, bt307.2⟩ : S26)]) x16 x17 (wrap64 (x18 + 1)) x289000 x289001) else (none))) else (none))) else (none)) else (none)) else (none)) else (none)))))
end
def impl_spanOf.f (k : Nat) (a0 : Int) (l1 : List (S161)) (l2 : List (S26)) : Option (Int × Int) := (impl_mask.f a0).bind fun t284 => (impl_spanOf.l0 k l2 (([] : List (S26))) l1 (l1.length : Int) 0 0 t284)
def impl_spanOf.T7 : Bool × List (List Nat × List Nat) := (true, [([], []), ([], []), ([1], [1]), ([0, 2], [0, 2]), ([], []), ([4], [4]), ([], []), ([], []), ([], []), ([8], [8]), ([7, 9], [7, 9]), ([10], [10]), ([], []), ([], []), ([12, 13], [12, 13]), ([14], [14]), ([5, 6, 11, 15], [5, 6, 11, 15]), ([16], [16]), ([3, 17, 16], [3, 17]), ([18, 18, 0, 1, 2, 3, 4, 5, 6, 7, 8, 9, 10, 11, 12, 13, 14, 15, 16, 17, 18], [0, 7, 12, 18])])
def impl_spanOf.B7 : List Nat := [0, 0, 2, 7, 0, 16, 0, 0, 0, 256, 896, 1920, 0, 0, 12288, 28672, 65520, 131056, 262143, 524287]
theorem impl_spanOf.tab7 : rtab .any (opsOf Try.f143 7) = impl_spanOf.T7 := by kernel_rfl
theorem impl_spanOf.bits7 : waitsOk impl_spanOf.T7.2 impl_spanOf.B7 = true := by kernel_rfl
def impl_spanOf.T14 : Bool × List (List Nat × List Nat) := (true, [([], []), ([], []), ([], []), ([2], [2]), ([], []), ([], []), ([4, 5], [4, 5]), ([6], [6]), ([7], [7]), ([3, 8], [3, 8]), ([], []), ([10], [10]), ([], []), ([], []), ([12, 13], [12, 13]), ([14], [14]), ([15], [15]), ([11, 16], [11, 16]), ([9, 17], [9, 17]), ([0, 1, 0, 1, 2, 3, 4, 5, 6, 7, 8, 9, 10, 11, 12, 13, 14, 15, 16, 17, 18], [0, 1]), ([19, 18, 0, 1, 2, 3, 4, 5, 6, 7, 8, 9, 10, 11, 12, 13, 14, 15, 16, 17, 18], [18, 19])])
def impl_spanOf.B14 : List Nat := [0, 0, 0, 4, 0, 0, 48, 112, 240, 508, 0, 1024, 0, 0, 12288, 28672, 61440, 130048, 262140, 524287, 1048575]
theorem impl_spanOf.tab14 : rtab .any (opsOf Try.f143 14) = impl_spanOf.T14 := by kernel_rfl
theorem impl_spanOf.bits14 : waitsOk impl_spanOf.T14.2 impl_spanOf.B14 = true := by kernel_rfl
def impl_spanOf.T16 : Bool × List (List Nat × List Nat) := (true, [([], []), ([], []), ([], []), ([], []), ([2, 3], [2, 3]), ([4], [4]), ([5], [5]), ([6], [6]), ([], []), ([], []), ([8, 9], [8, 9]), ([10], [10]), ([11], [11]), ([12], [12]), ([7, 13], [7, 13]), ([0, 1, 0, 1, 2, 3, 4, 5, 6, 7, 8, 9, 10, 11, 12, 13, 14], [0, 1]), ([15, 14, 0, 1, 2, 3, 4, 5, 6, 7, 8, 9, 10, 11, 12, 13, 14], [14, 15])])
def impl_spanOf.B16 : List Nat := [0, 0, 0, 0, 12, 28, 60, 124, 0, 0, 768, 1792, 3840, 7936, 16380, 32767, 65535]
theorem impl_spanOf.tab16 : rtab .any (opsOf Try.f143 16) = impl_spanOf.T16 := by kernel_rfl
theorem impl_spanOf.bits16 : waitsOk impl_spanOf.T16.2 impl_spanOf.B16 = true := by kernel_rfl
set_option maxHeartbeats 8000000 in
set_option maxRecDepth 100000 in
theorem impl_spanOf.calls (k : Nat) (a0 : Int) (A1 : Option Addr) (c1 : Nat) (l1 : List (S161)) (A2 : Option Addr) (c2 : Nat) (l2 : List (S26)) (r1 : Int) (r2 : Int) (w : World) (hr1 : Kd.C k161 w A1 l1.length l1) (hc1 : l1.length ≤ c1) (hr2 : Kd.C k26 w A2 l2.length l2) (hc2 : l2.length ≤ c2) (h : impl_spanOf.f k a0 l1 l2 = some (r1, r2)) :
  Calls Try.prog 143 #[.int .i64 a0, .slice A1 l1.length c1, .slice A2 l2.length c2] w fun e w' => e = .returned (.agg #[.int .u64 r1, .int .u64 r2]) ∧ Below w.heap.size w w' := by
 have hu26 := Try.underlying26
 have hu161 := Try.underlying161
 have HR1 := Aside0.mk hr1
 have HC1 := Aside0.mk hc1
 clear hr1 hc1
 have HR2 := Aside0.mk hr2
 have HC2 := Aside0.mk hc2
 clear hr2 hc2
 have HB := Aside0.mk (Below.refl w.heap.size w)
 have H : ((impl_mask.f a0).bind fun t284 => (impl_spanOf.l0 k l2 (([] : List (S26))) l1 (l1.length : Int) 0 0 t284)) = some (r1, r2) := h
 clear h
 replace H := Option.bind_eq_some_iff.mp H
 obtain ⟨t284, A40, H⟩ := H
 replace H : (impl_spanOf.l0 k l2 (([] : List (S26))) l1 (l1.length : Int) 0 0 t284) = some (r1, r2) := H
 have A4 := Aside0.mk A40
 clear A40
 obtain ⟨y285, hy285⟩ : ∃ y_ : List (S26), y_ = (([] : List (S26))) := ⟨_, rfl⟩
 replace H : (impl_spanOf.l0 k l2 y285 l1 (l1.length : Int) 0 0 t284) = some (r1, r2) := by first | (rw [hy285]; with_reducible exact H) | (have H2_ := (Option.bind_some _ _).symm.trans H; rw [hy285]; with_reducible exact H2_) | (have H2_ := (Option.bind_some _ _).symm.trans H; with_reducible exact H2_) | with_reducible exact H | (rw [hy285]; exact H) | exact H
 have Ny285 := Aside0.mk hy285
 clear hy285
 have H' := Aside0.mk H
 clear H
 go_enter Try.func143, Try.ntmps143
 go_wp2_with (first | ((with_reducible refine gate_dst (N := 6) rfl ?_); refine Slim.boxE 6 (#[.int .u64 0, .int .u64 0]) 26 ?_; intro gb283 hg w5 hbox hb; have GW283 := Aside0.mk (Slim.vS : w.heap.size ≤ gb283); have GE283 := GW283; replace HB := Aside0.mk (below_step Slim.vB hb); have BK283 := Aside0.mk hbox; clear hb hbox hg) | ((with_reducible refine gate_callee (f := 152) rfl ?_); refine goesL_ (some 13) rfl rfl Try.func152 (by kernel_rfl) rfl #[.int .i64 a0] rfl Slim.vA ?_; (with_reducible refine (impl_mask.calls a0 t284 _ A4.out).mono ?_); rintro e w' ⟨rfl, ⟨nd, rfl⟩⟩; refine ⟨_, rfl, ?_⟩; (try (rw [drewN_self w5]; generalize hq_ : World.drewN w5 _ = w5; have n0_ : Aside0 (w5.heap[gb283]? = some (.cells #[.int .u64 0, .int .u64 0] 26 (0, 0))) := ⟨by rw [← hq_]; exact (Slim.vK BK283.out)⟩; have n1_ : Aside0 (Below w.heap.size w w5) := ⟨by rw [← hq_]; exact Slim.vB⟩; clear BK283 HB hq_; have BK283 := n0_; have HB := n1_; clear n0_ n1_))) | ((with_reducible refine gate_dst (N := 15) rfl ?_); refine Kd.R_lit k26 _ 26 ?hg (N := 15) ?hd (xs := ([] : List (S26))) (inner := []) (ok := fun _ => True) (okp := fun _ => True) ?hr ?hp (fun _ hk => hk) trivial (Below.refl _ _) (Nat.le_refl _) (by simp) ?_; (case hd => rfl); (case hg => rfl); (case hr => first | (go_simp; done) | (go_simp; rfl)); (case hp => exact (Reps.none _ _)); intro v286 w6 ho7 hb hg_ hnew_; clear hg_ hnew_; (first | rw [← Ny285.out] at ho7 | (simp only [Int.reduceToNat] at ho7; rw [← Ny285.out] at ho7)); have n0_ := Aside0.mk (Kd.R_lower (Kd.R_newB ho7 (g := gb283) (o := .cells #[.int .u64 0, .int .u64 0] 26 (0, 0)) (Slim.vK BK283.out)) (below_size Slim.vB)); have n1_ := Aside0.mk (Slim.bB BK283.out hb); have n2_ := Aside0.mk (below_step Slim.vB hb); clear BK283; clear HB; have HO287 := n0_; have BK283 := n1_; have HB := n2_; clear n0_ n1_ n2_; clear hb ho7) | ((with_reducible refine gate_dst (N := 7) rfl ?_); refine Slim.boxE 7 (#[.int .u64 0, .int .u64 0]) 26 ?_; intro gb288 hg w8 hbox hb; have n0_ := Aside0.mk (Kd.R_below (Kd.R_elderB (Slim.vR HO287.out) gb288 (Nat.le_of_eq hg.symm)) hb); have n1_ := Aside0.mk (Slim.bB BK283.out hb); have n2_ := Aside0.mk (below_step Slim.vB hb); have n3_ := Aside0.mk (hbox); have n4_ := Aside0.mk (Slim.vS : w.heap.size ≤ gb288); have n5_ := n4_; have n6_ := Aside0.mk ((Slim.nL hg BK283.out : gb283 ≠ gb288)); have n7_ := Aside0.mk ((Slim.nG hg BK283.out : gb288 ≠ gb283)); clear HO287; clear BK283; clear HB; have HO287 := n0_; have BK283 := n1_; have HB := n2_; have BK288 := n3_; have GW288 := n4_; have GE288 := n5_; have NB283_288 := n6_; have NB288_283 := n7_; clear n0_ n1_ n2_ n3_ n4_ n5_ n6_ n7_; clear hb hbox hg; have hnb9 := NB288_283.out; have hnc9 := NB283_288.out; have hcz10_0 := Slim.bc BK288.out 0 rfl; have hcz10_1 := Slim.bc BK288.out 1 rfl; have hfz10_0 := blk_frozen BK288.out 0; have hfz10_1 := blk_frozen BK288.out 1))
 go_loopg [8, 18] k (fun kq v8 v18 w' => ∃ (x8_1 : List (S26)) (x18_1 : Int) (x284000_1 : Int) (x284001_1 : Int) (x289000_1 : Int) (x289001_1 : Int), v18 = .int .i64 x18_1 ∧ Aside0 (impl_spanOf.l0 kq l2 x8_1 l1 (l1.length : Int) x18_1 x289000_1 x289001_1 = some (r1, r2)) ∧ Aside0 (kq ≤ k) ∧ Aside0 (Kd.R k26 26 w' w.heap.size (fun k_ => k_ ≠ gb283 ∧ k_ ≠ gb288) v8 x8_1) ∧ Aside0 (w'.heap[gb283]? = some (.cells #[.int .u64 x284000_1, .int .u64 x284001_1] 26 (0, 0))) ∧ Aside0 (w'.heap[gb288]? = some (.cells #[.int .u64 x289000_1, .int .u64 x289001_1] 26 (0, 0))) ∧ Aside0 (Below w.heap.size w w'))
 case atStart => exact ⟨(y285), (0), (0), (0), (0), (t284), (by first | rfl | (simp; done) | (simp [*]; done)), H', ⟨Nat.le_refl _⟩, ⟨by (with_reducible repeat (first | apply Kd.R_alloc | apply Kd.R_drewN | apply Kd.R_drew)); exact Kd.R_mono (Kd.R_far (p := ⟨gb288, 1, none⟩) (Kd.R_far (p := ⟨gb288, 0, none⟩) (Kd.R_mono HO287.out (fun k_ hk => (⟨hk, hk.2⟩ : _ ∧ k_ ≠ gb288))) (fun _ hk => hk.2) (.int .u64 0)) (fun _ hk => hk.2) (.int .u64 t284)) (fun _ hk => ⟨hk.1.1.2, hk.1.2⟩)⟩, ⟨by (with_reducible repeat (first | refine blk_drewN ?_ _ | refine blk_drew ?_ | refine blk_alloc ?_ _)); refine blk_far ?_ NB283_288.out _; (with_reducible repeat (first | refine blk_drewN ?_ _ | refine blk_drew ?_ | refine blk_alloc ?_ _)); refine blk_far ?_ NB283_288.out _; (with_reducible repeat (first | refine blk_drewN ?_ _ | refine blk_drew ?_ | refine blk_alloc ?_ _)); exact BK283.out⟩, ⟨by (with_reducible repeat (first | refine blk_drewN ?_ _ | refine blk_drew ?_ | refine blk_alloc ?_ _)); refine blk_put (cs := #[.int .u64 0, .int .u64 0]) ?_ 1 _ rfl; (with_reducible repeat (first | refine blk_drewN ?_ _ | refine blk_drew ?_ | refine blk_alloc ?_ _)); refine blk_put (cs := #[.int .u64 0, .int .u64 0]) ?_ 0 _ rfl; (with_reducible repeat (first | refine blk_drewN ?_ _ | refine blk_drew ?_ | refine blk_alloc ?_ _)); exact BK288.out⟩, ⟨Slim.vB⟩⟩
 case round =>
  clear H'
  try clear c1
  try clear c2
  try clear p2
  try clear c9
  try clear hcz10_0
  try clear hcz10_1
  try clear hfz10_0
  try clear hfz10_1
  obtain ⟨x8_1, x18_1, x284000_1, x284001_1, x289000_1, x289001_1, rfl, HA, HK1, HO_8, BK283, BK288, HB⟩ := hrel
  cases gk with
  | zero => exact absurd HA.out (by simp [impl_spanOf.l0])
  | succ k1 =>
   have H := HA.out
   clear HA
   simp only [impl_spanOf.l0] at H
   by_cases c11 : x18_1 < (l1.length : Int)
   ·rw [if_pos c11] at H
    have c11b0 : decide (x18_1 < (l1.length : Int)) = true := decide_eq_true c11
    clear c11
    by_cases c12 : 0 ≤ x18_1
    ·rw [if_pos c12] at H
     have c12b0 : decide (0 ≤ x18_1) = true := decide_eq_true c12
     clear c12
     by_cases c13 : x18_1 < (l1.length : Int)
     ·rw [if_pos c13] at H
      have c13b0 : decide (x18_1 < (l1.length : Int)) = true := decide_eq_true c13
      clear c13
      have HC14 := Aside0.mk H
      clear H
      have p290 : 0 ≤ (x18_1 : Int) := of_decide_eq_true (by first | (with_reducible assumption) | assumption)
      have q290 : x18_1 < (l1.length : Int) := of_decide_eq_true (by first | (with_reducible assumption) | assumption)
      obtain ⟨ad290, e290, hx290_0, hx290_1⟩ := at_T161 HR1.out x18_1 p290 q290
      cases e290
      replace hx290_0 := (HB.out.cell (World.block_lt_of_cell? w _ hx290_0)).trans hx290_0
      replace hx290_1 := (HB.out.cell (World.block_lt_of_cell? w _ hx290_1)).trans hx290_1
      replace p290 := eq_true p290
      replace q290 := eq_true q290
      go_upto_if 46 with (first | ((with_reducible refine gate_dst (N := 10) rfl ?_); refine Slim.boxE 10 (#[.int .i64 0, .int .u64 0]) 161 ?_; intro gb291 hg w15 hbox hb; have GW291 := Aside0.mk (Slim.vS : w.heap.size ≤ gb291); have GE291 := GW291; have NB283_291 := Aside0.mk (Slim.nL hg BK283.out : gb283 ≠ gb291); have NB291_283 := Aside0.mk (Slim.nG hg BK283.out : gb291 ≠ gb283); have NB288_291 := Aside0.mk (Slim.nL hg BK288.out : gb288 ≠ gb291); have NB291_288 := Aside0.mk (Slim.nG hg BK288.out : gb291 ≠ gb288); replace HO_8 := Aside0.mk (Kd.R_below (Slim.vR HO_8.out) hb); replace BK283 := Aside0.mk (Slim.bB BK283.out hb); replace BK288 := Aside0.mk (Slim.bB BK288.out hb); replace HB := Aside0.mk (below_step Slim.vB hb); have BK291 := Aside0.mk hbox; clear hb hbox hg; have hnb16 := NB291_283.out; have hnc16 := NB283_291.out; have hnb17 := NB291_288.out; have hnc17 := NB288_291.out; have hcz18_0 := Slim.bc BK291.out 0 rfl; have hcz18_1 := Slim.bc BK291.out 1 rfl; have hfz18_0 := blk_frozen BK291.out 0; have hfz18_1 := blk_frozen BK291.out 1; obtain ⟨Ao19, co19, eo19⟩ := Kd.R_slice HO_8.out; subst eo19))
      (try simp only [Act.put, List.setIfInBounds_toArray, List.set_cons_zero, List.set_cons_succ])
      go_cut [46] (fun v46 wc => ∃ (kq : Nat) (x46_13 : Bool), v46 = .bool x46_13 ∧ Aside0 (impl_spanOf.j1 kq l2 x8_1 (wrap64 ((x8_1.length : Int) - 1)) l1 (l1.length : Int) x18_1 ((rd_T161 l1 x18_1).f0) x46_13 x289000_1 x289001_1 ((rd_T161 l1 x18_1).f0) ((rd_T161 l1 x18_1).f1) = some (r1, r2)) ∧ Aside0 (kq ≤ k1) ∧ Aside0 (Kd.R k26 26 wc w.heap.size (fun k_ => k_ ≠ gb283 ∧ k_ ≠ gb288) (.slice Ao19 x8_1.length co19) x8_1) ∧ Aside0 (wc.heap[gb283]? = some (.cells #[.int .u64 x284000_1, .int .u64 x284001_1] 26 (0, 0))) ∧ Aside0 (wc.heap[gb288]? = some (.cells #[.int .u64 x289000_1, .int .u64 x289001_1] 26 (0, 0))) ∧ Aside0 (wc.heap[gb291]? = some (.cells #[.int .i64 ((rd_T161 l1 x18_1).f0), .int .u64 ((rd_T161 l1 x18_1).f1)] 161 (0, 0))) ∧ Aside0 (Below w.heap.size w wc))
      case first =>
       have H := HC14.out
       clear HC14
       by_cases c20 : ((rd_T161 l1 x18_1).f0) = 1
       ·rw [if_pos c20] at H
        have c20b0 : (((rd_T161 l1 x18_1).f0) == 1) = true := beq_iff_eq.mpr c20
        have c20b1 : (((rd_T161 l1 x18_1).f0) != 1) = false := bne_eq_false_iff_eq.mpr c20
        clear c20
        (first | rw [c20b0] | (simp only [i64_w, i32_w]; rw [c20b0]) | skip)
        have H' := Aside0.mk H
        clear H
        go_wp2
        go_meet
        case rel => exact ⟨_, ((((rd_T161 l1 x18_1).f0) == 1)), (by first | rfl | (simp; done) | (simp [*]; done)), H', ⟨by have := HK1.out; first | omega | exact Nat.le_refl _⟩, ⟨by (with_reducible repeat (first | apply Kd.R_alloc | apply Kd.R_drewN | apply Kd.R_drew)); exact Kd.R_mono (Kd.R_far (p := ⟨gb291, 1, none⟩) (Kd.R_far (p := ⟨gb291, 0, none⟩) (Kd.R_types HO_8.out BK291.out (by decide)) (fun _ hk => hk.2) (.int .i64 ((rd_T161 l1 x18_1).f0))) (fun _ hk => hk.2) (.int .u64 ((rd_T161 l1 x18_1).f1))) (fun _ hk => ⟨hk.1.1, hk.1.2⟩)⟩, ⟨by (with_reducible repeat (first | refine blk_drewN ?_ _ | refine blk_drew ?_ | refine blk_alloc ?_ _)); refine blk_far ?_ NB283_291.out _; (with_reducible repeat (first | refine blk_drewN ?_ _ | refine blk_drew ?_ | refine blk_alloc ?_ _)); refine blk_far ?_ NB283_291.out _; (with_reducible repeat (first | refine blk_drewN ?_ _ | refine blk_drew ?_ | refine blk_alloc ?_ _)); exact BK283.out⟩, ⟨by (with_reducible repeat (first | refine blk_drewN ?_ _ | refine blk_drew ?_ | refine blk_alloc ?_ _)); refine blk_far ?_ NB288_291.out _; (with_reducible repeat (first | refine blk_drewN ?_ _ | refine blk_drew ?_ | refine blk_alloc ?_ _)); refine blk_far ?_ NB288_291.out _; (with_reducible repeat (first | refine blk_drewN ?_ _ | refine blk_drew ?_ | refine blk_alloc ?_ _)); exact BK288.out⟩, ⟨by (with_reducible repeat (first | refine blk_drewN ?_ _ | refine blk_drew ?_ | refine blk_alloc ?_ _)); refine blk_put (cs := #[.int .i64 ((rd_T161 l1 x18_1).f0), .int .u64 0]) ?_ 1 _ rfl; (with_reducible repeat (first | refine blk_drewN ?_ _ | refine blk_drew ?_ | refine blk_alloc ?_ _)); refine blk_put (cs := #[.int .i64 0, .int .u64 0]) ?_ 0 _ rfl; (with_reducible repeat (first | refine blk_drewN ?_ _ | refine blk_drew ?_ | refine blk_alloc ?_ _)); exact BK291.out⟩, ⟨Slim.vB⟩⟩
       ·rw [if_neg c20] at H
        have c20b0 : (((rd_T161 l1 x18_1).f0) == 1) = false := beq_eq_false_iff_ne.mpr c20
        have c20b1 : (((rd_T161 l1 x18_1).f0) != 1) = true := bne_iff_ne.mpr c20
        (first | rw [c20b0] | (simp only [i64_w, i32_w]; rw [c20b0]) | skip)
        have H' := Aside0.mk H
        clear H
        go_wp2
        go_meet
        case rel => exact ⟨_, ((((rd_T161 l1 x18_1).f0) == 20)), (by first | rfl | (simp; done) | (simp [*]; done)), H', ⟨by have := HK1.out; first | omega | exact Nat.le_refl _⟩, ⟨by (with_reducible repeat (first | apply Kd.R_alloc | apply Kd.R_drewN | apply Kd.R_drew)); exact Kd.R_mono (Kd.R_far (p := ⟨gb291, 1, none⟩) (Kd.R_far (p := ⟨gb291, 0, none⟩) (Kd.R_types HO_8.out BK291.out (by decide)) (fun _ hk => hk.2) (.int .i64 ((rd_T161 l1 x18_1).f0))) (fun _ hk => hk.2) (.int .u64 ((rd_T161 l1 x18_1).f1))) (fun _ hk => ⟨hk.1.1, hk.1.2⟩)⟩, ⟨by (with_reducible repeat (first | refine blk_drewN ?_ _ | refine blk_drew ?_ | refine blk_alloc ?_ _)); refine blk_far ?_ NB283_291.out _; (with_reducible repeat (first | refine blk_drewN ?_ _ | refine blk_drew ?_ | refine blk_alloc ?_ _)); refine blk_far ?_ NB283_291.out _; (with_reducible repeat (first | refine blk_drewN ?_ _ | refine blk_drew ?_ | refine blk_alloc ?_ _)); exact BK283.out⟩, ⟨by (with_reducible repeat (first | refine blk_drewN ?_ _ | refine blk_drew ?_ | refine blk_alloc ?_ _)); refine blk_far ?_ NB288_291.out _; (with_reducible repeat (first | refine blk_drewN ?_ _ | refine blk_drew ?_ | refine blk_alloc ?_ _)); refine blk_far ?_ NB288_291.out _; (with_reducible repeat (first | refine blk_drewN ?_ _ | refine blk_drew ?_ | refine blk_alloc ?_ _)); exact BK288.out⟩, ⟨by (with_reducible repeat (first | refine blk_drewN ?_ _ | refine blk_drew ?_ | refine blk_alloc ?_ _)); refine blk_put (cs := #[.int .i64 ((rd_T161 l1 x18_1).f0), .int .u64 0]) ?_ 1 _ rfl; (with_reducible repeat (first | refine blk_drewN ?_ _ | refine blk_drew ?_ | refine blk_alloc ?_ _)); refine blk_put (cs := #[.int .i64 0, .int .u64 0]) ?_ 0 _ rfl; (with_reducible repeat (first | refine blk_drewN ?_ _ | refine blk_drew ?_ | refine blk_alloc ?_ _)); exact BK291.out⟩, ⟨Slim.vB⟩⟩
      case rest =>
       clear HC14
       try clear c1
       try clear c2
       try clear p2
       try clear q2
       try clear hx2
       try clear p6
       try clear c9
       try clear c11
       try clear c11b0
       try clear c12
       try clear c12b0
       try clear c13
       try clear c13b0
       try clear c14
       try clear c15
       try clear c16
       try clear c17
       try clear c20
       try clear c20b0
       try clear c20b1
       try clear hcz10_0
       try clear hcz10_1
       try clear hcz18_0
       try clear hcz18_1
       try clear hfz10_0
       try clear hfz10_1
       try clear hfz18_0
       try clear hfz18_1
       try clear hx290_0
       try clear hx290_1
       try clear p2
       try clear p290
       try clear q290
       obtain ⟨kq, x46_13, rfl, HA, HJ13, HO_8, BK283, BK288, BK291, HB⟩ := hcut
       cases kq with
       | zero => exact absurd HA.out (by simp [impl_spanOf.j1])
       | succ kj13 =>
        have H := HA.out
        clear HA
        simp only [impl_spanOf.j1] at H
        by_cases c21 : x46_13 = true
        ·subst c21
         have H1 : (if x8_1.length < 8796093022208 then (impl_spanOf.l0 kj13 l2 (x8_1 ++ [(⟨((rd_T161 l1 x18_1).f1), ((rd_T161 l1 x18_1).f1)⟩ : S26)]) l1 (l1.length : Int) (wrap64 (x18_1 + 1)) x289000_1 x289001_1) else (none)) = some (r1, r2) := by rw [if_pos rfl] at H; exact H
         clear H
         have H := H1
         clear H1
         by_cases c22 : x8_1.length < 8796093022208
         ·rw [if_pos c22] at H
          have LMc22 := Aside0.mk c22
          clear c22
          obtain ⟨y292, hy292⟩ : ∃ y_ : List (S26), y_ = (x8_1 ++ [(⟨((rd_T161 l1 x18_1).f1), ((rd_T161 l1 x18_1).f1)⟩ : S26)]) := ⟨_, rfl⟩
          replace H : (impl_spanOf.l0 kj13 l2 y292 l1 (l1.length : Int) (wrap64 (x18_1 + 1)) x289000_1 x289001_1) = some (r1, r2) := by first | (rw [hy292]; with_reducible exact H) | (have H2_ := (Option.bind_some _ _).symm.trans H; rw [hy292]; with_reducible exact H2_) | (have H2_ := (Option.bind_some _ _).symm.trans H; with_reducible exact H2_) | with_reducible exact H | (rw [hy292]; exact H) | exact H
          have Ny292 := Aside0.mk hy292
          clear hy292
          have H' := Aside0.mk H
          clear H
          have hnb23 := NB291_283.out
          have hnc23 := NB283_291.out
          have hnb24 := NB291_288.out
          have hnc24 := NB288_291.out
          have hcz25_0 := Slim.bc BK291.out 0 rfl
          have hcz25_1 := Slim.bc BK291.out 1 rfl
          have hfz25_0 := blk_frozen BK291.out 0
          have hfz25_1 := blk_frozen BK291.out 1
          go_wp2_with (first | ((with_reducible refine gate_builtin (b := .append) (xs := #[.tmp 49, .tmp 55]) rfl ?_); at_builtin; refine Kd.R_append k26 (w0 := w) w.heap.size rfl (.tmp 49) (.tmp 55) 38 26 (.agg #[(.int .u64 0), (.int .u64 0)]) 16 rfl Try.underlying38 info26 rfl (by decide) (by omega) (.slice Ao19 x8_1.length co19) x8_1 (⟨((rd_T161 l1 x18_1).f1), ((rd_T161 l1 x18_1).f1)⟩ : S26) [.int .u64 ((rd_T161 l1 x18_1).f1), .int .u64 ((rd_T161 l1 x18_1).f1)] (fun k_ => k_ ≠ gb283 ∧ k_ ≠ gb288) (fun _ => False) rfl rfl ?aP (fun _ hk => hk.elim) ?aF ?aO ?aB ?aS ?aL ?_; (case aP => exact k26_mkM _ _ _ (⟨((rd_T161 l1 x18_1).f1), ((rd_T161 l1 x18_1).f1)⟩ : S26)); (case aB => exact Slim.vB); (case aF => exact (fun k_ hk => ⟨Kd.freshB (g := gb283) (o := .cells #[.int .u64 x284000_1, .int .u64 x284001_1] 26 (0, 0)) (Slim.vK BK283.out) k_ hk, Kd.freshB (g := gb288) (o := .cells #[.int .u64 x289000_1, .int .u64 x289001_1] 26 (0, 0)) (Slim.vK BK288.out) k_ hk⟩)); (case aO => exact (Slim.vR HO_8.out)); (case aS => exact (below_size Slim.vB)); (case aL => have := LMc22.out; omega); intro v293 w26 ho hb hg hat; rw [← Ny292.out] at ho; have n0_ := Aside0.mk (blk_grown (g := gb283) (o := .cells #[.int .u64 x284000_1, .int .u64 x284001_1] 26 (0, 0)) (Slim.vK BK283.out) hg (Kd.R_away HO_8.out (fun _ hk => hk.1))); have n1_ := Aside0.mk (blk_grown (g := gb288) (o := .cells #[.int .u64 x289000_1, .int .u64 x289001_1] 26 (0, 0)) (Slim.vK BK288.out) hg (Kd.R_away HO_8.out (fun _ hk => hk.2))); have n2_ := Aside0.mk (blk_grown (g := gb291) (o := .cells #[.int .i64 ((rd_T161 l1 x18_1).f0), .int .u64 ((rd_T161 l1 x18_1).f1)] 161 (0, 0)) (Slim.vK BK291.out) hg (Kd.R_ne HO_8.out BK291.out (by decide))); have n3_ := Aside0.mk (hb); have n4_ := Aside0.mk (ho); clear BK283; clear BK288; clear BK291; clear HB; clear HO_8; have BK283 := n0_; have BK288 := n1_; have BK291 := n2_; have HB := n3_; have HO294 := n4_; clear n0_ n1_ n2_ n3_ n4_; clear ho hb hg hat))
          go_roundg kj13
          case measure => have := HK1.out; have := HJ13.out; omega
          case rel => exact ⟨(y292), (wrap64 (x18_1 + 1)), (x284000_1), (x284001_1), (x289000_1), (x289001_1), (by first | rfl | (simp; done) | (simp [*]; done)), H', ⟨by have := HK1.out; have := HJ13.out; omega⟩, ⟨by (with_reducible repeat (first | apply Kd.R_alloc | apply Kd.R_drewN | apply Kd.R_drew)); exact HO294.out⟩, ⟨by (with_reducible repeat (first | refine blk_drewN ?_ _ | refine blk_drew ?_ | refine blk_alloc ?_ _)); exact BK283.out⟩, ⟨by (with_reducible repeat (first | refine blk_drewN ?_ _ | refine blk_drew ?_ | refine blk_alloc ?_ _)); exact BK288.out⟩, ⟨Slim.vB⟩⟩
         ·rw [if_neg c22] at H
          exact absurd H (by simp)
        ·replace c21 := Bool.eq_false_iff.mpr c21
         subst c21
         have H1 : (if ((rd_T161 l1 x18_1).f0) = 2 then (if 0 ≤ ((rd_T161 l1 x18_1).f1) then (if ((rd_T161 l1 x18_1).f1) < (l2.length : Int) then (if x8_1.length < 8796093022208 then (impl_spanOf.l0 kj13 l2 (x8_1 ++ [(⟨(rd_T26 l2 ((rd_T161 l1 x18_1).f1)).f0, (rd_T26 l2 ((rd_T161 l1 x18_1).f1)).f1⟩ : S26)]) l1 (l1.length : Int) (wrap64 (x18_1 + 1)) x289000_1 x289001_1) else (none)) else (none)) else (none)) else (if ((rd_T161 l1 x18_1).f0) = 13 then (if 0 ≤ (wrap64 ((x8_1.length : Int) - 1)) then (if (wrap64 ((x8_1.length : Int) - 1)) < (x8_1.length : Int) then (impl_spanOf.l0 kj13 l2 (x8_1.set ((wrap64 ((x8_1.length : Int) - 1)) : Int).toNat (⟨IntKind.u64.wrap (x289001_1 - ((rd_T26 x8_1 (wrap64 ((x8_1.length : Int) - 1))).f1)), IntKind.u64.wrap (x289001_1 - ((rd_T26 x8_1 (wrap64 ((x8_1.length : Int) - 1))).f0))⟩ : S26)) l1 (l1.length : Int) (wrap64 (x18_1 + 1)) x289000_1 x289001_1) else (none)) else (none)) else (if ((rd_T161 l1 x18_1).f0) = 19 then (if 0 ≤ (wrap64 ((x8_1.length : Int) - 1)) then (if (wrap64 ((x8_1.length : Int) - 1)) < (x8_1.length : Int) then (impl_spanOf.l0 kj13 l2 (x8_1.set ((wrap64 ((x8_1.length : Int) - 1)) : Int).toNat (⟨IntKind.u64.wrap (1 - ((rd_T26 x8_1 (wrap64 ((x8_1.length : Int) - 1))).f1)), IntKind.u64.wrap (1 - ((rd_T26 x8_1 (wrap64 ((x8_1.length : Int) - 1))).f0))⟩ : S26)) l1 (l1.length : Int) (wrap64 (x18_1 + 1)) x289000_1 x289001_1) else (none)) else (none)) else (if 0 ≤ (wrap64 ((wrap64 ((x8_1.length : Int) - 1)) - 1)) then (if (wrap64 ((wrap64 ((x8_1.length : Int) - 1)) - 1)) < (x8_1.length : Int) then (if 0 ≤ (wrap64 ((x8_1.length : Int) - 1)) then (if (wrap64 ((x8_1.length : Int) - 1)) < (x8_1.length : Int) then ((impl_spanOfTwo.f ((rd_T161 l1 x18_1).f0) x289000_1 x289001_1 ((rd_T26 x8_1 (wrap64 ((wrap64 ((x8_1.length : Int) - 1)) - 1))).f0) ((rd_T26 x8_1 (wrap64 ((wrap64 ((x8_1.length : Int) - 1)) - 1))).f1) ((rd_T26 x8_1 (wrap64 ((x8_1.length : Int) - 1))).f0) ((rd_T26 x8_1 (wrap64 ((x8_1.length : Int) - 1))).f1)).bind fun bt307 => (if (wrap64 ((wrap64 ((x8_1.length : Int) - 1)) - 1)) ≤ (x8_1.length : Int) then ((some (x8_1.take ((wrap64 ((wrap64 ((x8_1.length : Int) - 1)) - 1)) : Int).toNat : List (S26))).bind fun y309 => (if y309.length < 8796093022208 then (impl_spanOf.l0 kj13 l2 (y309 ++ [(⟨bt307.1, bt307.2⟩ : S26)]) l1 (l1.length : Int) (wrap64 (x18_1 + 1)) x289000_1 x289001_1) else (none))) else (none))) else (none)) else (none)) else (none)) else (none))))) = some (r1, r2) := by rw [if_neg (show ¬ (false = true) by decide)] at H; exact H
         clear H
         have H := H1
         clear H1
         by_cases c27 : ((rd_T161 l1 x18_1).f0) = 2
         ·rw [if_pos c27] at H
          have c27b0 : (((rd_T161 l1 x18_1).f0) == 2) = true := beq_iff_eq.mpr c27
          have c27b1 : (((rd_T161 l1 x18_1).f0) != 2) = false := bne_eq_false_iff_eq.mpr c27
          clear c27
          by_cases c28 : 0 ≤ ((rd_T161 l1 x18_1).f1)
          ·rw [if_pos c28] at H
           have c28b0 : decide (0 ≤ ((rd_T161 l1 x18_1).f1)) = true := decide_eq_true c28
           clear c28
           by_cases c29 : ((rd_T161 l1 x18_1).f1) < (l2.length : Int)
           ·rw [if_pos c29] at H
            have c29b0 : decide (((rd_T161 l1 x18_1).f1) < (l2.length : Int)) = true := decide_eq_true c29
            clear c29
            by_cases c30 : x8_1.length < 8796093022208
            ·rw [if_pos c30] at H
             have LMc30 := Aside0.mk c30
             clear c30
             obtain ⟨y296, hy296⟩ : ∃ y_ : List (S26), y_ = (x8_1 ++ [(⟨(rd_T26 l2 ((rd_T161 l1 x18_1).f1)).f0, (rd_T26 l2 ((rd_T161 l1 x18_1).f1)).f1⟩ : S26)]) := ⟨_, rfl⟩
             replace H : (impl_spanOf.l0 kj13 l2 y296 l1 (l1.length : Int) (wrap64 (x18_1 + 1)) x289000_1 x289001_1) = some (r1, r2) := by first | (rw [hy296]; with_reducible exact H) | (have H2_ := (Option.bind_some _ _).symm.trans H; rw [hy296]; with_reducible exact H2_) | (have H2_ := (Option.bind_some _ _).symm.trans H; with_reducible exact H2_) | with_reducible exact H | (rw [hy296]; exact H) | exact H
             have Ny296 := Aside0.mk hy296
             clear hy296
             have H' := Aside0.mk H
             clear H
             have hnb31 := NB291_283.out
             have hnc31 := NB283_291.out
             have hnb32 := NB291_288.out
             have hnc32 := NB288_291.out
             have hcz33_0 := Slim.bc BK291.out 0 rfl
             have hcz33_1 := Slim.bc BK291.out 1 rfl
             have hfz33_0 := blk_frozen BK291.out 0
             have hfz33_1 := blk_frozen BK291.out 1
             have p295 : 0 ≤ (((rd_T161 l1 x18_1).f1) : Int) := of_decide_eq_true (by first | (with_reducible assumption) | assumption)
             have q295 : ((rd_T161 l1 x18_1).f1) < (l2.length : Int) := of_decide_eq_true (by first | (with_reducible assumption) | assumption)
             obtain ⟨ad295, e295, hx295_0, hx295_1⟩ := at_T26 HR2.out ((rd_T161 l1 x18_1).f1) p295 q295
             cases e295
             replace hx295_0 := (HB.out.cell (World.block_lt_of_cell? w _ hx295_0)).trans hx295_0
             replace hx295_1 := (HB.out.cell (World.block_lt_of_cell? w _ hx295_1)).trans hx295_1
             replace p295 := eq_true p295
             replace q295 := eq_true q295
             go_wp2_with (first | ((with_reducible refine gate_builtin (b := .append) (xs := #[.tmp 59, .tmp 65]) rfl ?_); at_builtin; refine Kd.R_append k26 (w0 := w) w.heap.size rfl (.tmp 59) (.tmp 65) 38 26 (.agg #[(.int .u64 0), (.int .u64 0)]) 16 rfl Try.underlying38 info26 rfl (by decide) (by omega) (.slice Ao19 x8_1.length co19) x8_1 (⟨(rd_T26 l2 ((rd_T161 l1 x18_1).f1)).f0, (rd_T26 l2 ((rd_T161 l1 x18_1).f1)).f1⟩ : S26) [.int .u64 ((rd_T26 l2 ((rd_T161 l1 x18_1).f1)).f0), .int .u64 ((rd_T26 l2 ((rd_T161 l1 x18_1).f1)).f1)] (fun k_ => k_ ≠ gb283 ∧ k_ ≠ gb288) (fun _ => False) rfl rfl ?aP (fun _ hk => hk.elim) ?aF ?aO ?aB ?aS ?aL ?_; (case aP => exact k26_mkM _ _ _ (⟨(rd_T26 l2 ((rd_T161 l1 x18_1).f1)).f0, (rd_T26 l2 ((rd_T161 l1 x18_1).f1)).f1⟩ : S26)); (case aB => exact Slim.vB); (case aF => exact (fun k_ hk => ⟨Kd.freshB (g := gb283) (o := .cells #[.int .u64 x284000_1, .int .u64 x284001_1] 26 (0, 0)) (Slim.vK BK283.out) k_ hk, Kd.freshB (g := gb288) (o := .cells #[.int .u64 x289000_1, .int .u64 x289001_1] 26 (0, 0)) (Slim.vK BK288.out) k_ hk⟩)); (case aO => exact (Slim.vR HO_8.out)); (case aS => exact (below_size Slim.vB)); (case aL => have := LMc30.out; omega); intro v297 w34 ho hb hg hat; rw [← Ny296.out] at ho; have n0_ := Aside0.mk (blk_grown (g := gb283) (o := .cells #[.int .u64 x284000_1, .int .u64 x284001_1] 26 (0, 0)) (Slim.vK BK283.out) hg (Kd.R_away HO_8.out (fun _ hk => hk.1))); have n1_ := Aside0.mk (blk_grown (g := gb288) (o := .cells #[.int .u64 x289000_1, .int .u64 x289001_1] 26 (0, 0)) (Slim.vK BK288.out) hg (Kd.R_away HO_8.out (fun _ hk => hk.2))); have n2_ := Aside0.mk (blk_grown (g := gb291) (o := .cells #[.int .i64 ((rd_T161 l1 x18_1).f0), .int .u64 ((rd_T161 l1 x18_1).f1)] 161 (0, 0)) (Slim.vK BK291.out) hg (Kd.R_ne HO_8.out BK291.out (by decide))); have n3_ := Aside0.mk (hb); have n4_ := Aside0.mk (ho); clear BK283; clear BK288; clear BK291; clear HB; clear HO_8; have BK283 := n0_; have BK288 := n1_; have BK291 := n2_; have HB := n3_; have HO298 := n4_; clear n0_ n1_ n2_ n3_ n4_; clear ho hb hg hat))
             go_roundg kj13
             case measure => have := HK1.out; have := HJ13.out; omega
             case rel => exact ⟨(y296), (wrap64 (x18_1 + 1)), (x284000_1), (x284001_1), (x289000_1), (x289001_1), (by first | rfl | (simp; done) | (simp [*]; done)), H', ⟨by have := HK1.out; have := HJ13.out; omega⟩, ⟨by (with_reducible repeat (first | apply Kd.R_alloc | apply Kd.R_drewN | apply Kd.R_drew)); exact HO298.out⟩, ⟨by (with_reducible repeat (first | refine blk_drewN ?_ _ | refine blk_drew ?_ | refine blk_alloc ?_ _)); exact BK283.out⟩, ⟨by (with_reducible repeat (first | refine blk_drewN ?_ _ | refine blk_drew ?_ | refine blk_alloc ?_ _)); exact BK288.out⟩, ⟨Slim.vB⟩⟩
            ·rw [if_neg c30] at H
             exact absurd H (by simp)
           ·rw [if_neg c29] at H
            exact absurd H (by simp)
          ·rw [if_neg c28] at H
           exact absurd H (by simp)
         ·rw [if_neg c27] at H
          have c27b0 : (((rd_T161 l1 x18_1).f0) == 2) = false := beq_eq_false_iff_ne.mpr c27
          have c27b1 : (((rd_T161 l1 x18_1).f0) != 2) = true := bne_iff_ne.mpr c27
          by_cases c35 : ((rd_T161 l1 x18_1).f0) = 13
          ·rw [if_pos c35] at H
           have c35b0 : (((rd_T161 l1 x18_1).f0) == 13) = true := beq_iff_eq.mpr c35
           have c35b1 : (((rd_T161 l1 x18_1).f0) != 13) = false := bne_eq_false_iff_eq.mpr c35
           clear c35
           obtain ⟨ji36, hji36⟩ : ∃ j_ : Int, (wrap64 ((x8_1.length : Int) - 1)) = j_ := ⟨_, rfl⟩
           replace H : (if 0 ≤ (ji36) then (if (ji36) < (x8_1.length : Int) then (impl_spanOf.l0 kj13 l2 (x8_1.set ((ji36) : Int).toNat (⟨IntKind.u64.wrap (x289001_1 - ((rd_T26 x8_1 (ji36)).f1)), IntKind.u64.wrap (x289001_1 - ((rd_T26 x8_1 (ji36)).f0))⟩ : S26)) l1 (l1.length : Int) (wrap64 (x18_1 + 1)) x289000_1 x289001_1) else (none)) else (none)) = some (r1, r2) := by first | (rw [hji36] at H; exact H) | (simp only [hji36] at H ⊢; exact H)
           have hji36w : (IntKind.i64.wrap ((x8_1.length : Int) - 1)) = ji36 := (i64_w _).trans hji36
           by_cases c37 : 0 ≤ (ji36)
           ·rw [if_pos c37] at H
            have c37b0 : decide (0 ≤ (ji36)) = true := decide_eq_true c37
            clear c37
            by_cases c38 : (ji36) < (x8_1.length : Int)
            ·rw [if_pos c38] at H
             have c38b0 : decide ((ji36) < (x8_1.length : Int)) = true := decide_eq_true c38
             clear c38
             obtain ⟨y301, hy301⟩ : ∃ y_ : List (S26), y_ = (x8_1.set ((ji36) : Int).toNat (⟨IntKind.u64.wrap (x289001_1 - ((rd_T26 x8_1 (ji36)).f1)), IntKind.u64.wrap (x289001_1 - ((rd_T26 x8_1 (ji36)).f0))⟩ : S26)) := ⟨_, rfl⟩
             replace H : (impl_spanOf.l0 kj13 l2 y301 l1 (l1.length : Int) (wrap64 (x18_1 + 1)) x289000_1 x289001_1) = some (r1, r2) := by first | (rw [hy301]; with_reducible exact H) | (have H2_ := (Option.bind_some _ _).symm.trans H; rw [hy301]; with_reducible exact H2_) | (have H2_ := (Option.bind_some _ _).symm.trans H; with_reducible exact H2_) | with_reducible exact H | (rw [hy301]; exact H) | exact H
             have Ny301 := Aside0.mk hy301
             clear hy301
             have H' := Aside0.mk H
             clear H
             try go_wp2
             have n0_ := Aside0.mk (Kd.R_drew HO_8.out)
             have n1_ := Aside0.mk (blk_drew BK283.out)
             have n2_ := Aside0.mk (blk_drew BK288.out)
             have n3_ := Aside0.mk (blk_drew BK291.out)
             have n4_ := Aside0.mk (below_drew1 HB.out)
             clear HO_8
             clear BK283
             clear BK288
             clear BK291
             clear HB
             have HO_8 := n0_
             have BK283 := n1_
             have BK288 := n2_
             have BK291 := n3_
             have HB := n4_
             clear n0_ n1_ n2_ n3_ n4_
             have p299 : 0 ≤ ((ji36) : Int) := of_decide_eq_true (by first | (with_reducible assumption) | assumption)
             have q299 : (ji36) < (x8_1.length : Int) := of_decide_eq_true (by first | (with_reducible assumption) | assumption)
             obtain ⟨ad299, e299, hx299_0, hx299_1⟩ := at_T26 (Kd.R_reads' HO_8.out).2.2 (ji36) p299 q299
             cases e299
             replace p299 := eq_true p299
             replace q299 := eq_true q299
             have p300 : 0 ≤ ((ji36) : Int) := of_decide_eq_true (by first | (with_reducible assumption) | assumption)
             have q300 : (ji36) < (x8_1.length : Int) := of_decide_eq_true (by first | (with_reducible assumption) | assumption)
             obtain ⟨ad300, e300, hx300_0, hx300_1⟩ := at_T26 (Kd.R_reads' HO_8.out).2.2 (ji36) p300 q300
             obtain rfl : ad299 = ad300 := (by injection e300)
             replace p300 := eq_true p300
             replace q300 := eq_true q300
             have p39 : 0 ≤ ((ji36) : Int) := of_decide_eq_true (by first | (with_reducible assumption) | assumption)
             have q39 : ((ji36) : Int) < ((x8_1.length : Int) : Int) := of_decide_eq_true (by first | (with_reducible assumption) | assumption)
             obtain ⟨go39, co39, eo39, gb39, gl39, cl39, HG39⟩ := Kd.R_form HO_8.out (by omega)
             (first | cases eo39 | (injection eo39 with ea_ en_ ec_; (first | subst ea_ | (injection ea_ with ea_; subst ea_)); subst ec_; clear en_))
             have GB39 := Aside0.mk gb39
             have GG39 := Aside0.mk HG39
             clear gb39 gl39 HG39
             (first | simp only [add_plain] at hx299_0 | skip)
             (first | simp only [add_plain] at hx299_1 | skip)
             (first | simp only [add_plain] at hx300_0 | skip)
             (first | simp only [add_plain] at hx300_1 | skip)
             obtain ⟨ce39, hcl39, hM39, hcc39, hfr39⟩ := Kd.R_elem HO_8.out z26 ((ji36) : Int) p39 q39
             obtain rfl := k26_openM hM39
             have hx39_0 : World.cell? _ ⟨go39, ((ji36) : Int).toNat * 2, none⟩ = some (.int .u64 ((rd_T26 x8_1 (ji36)).f0)) := hcc39 0 _ rfl
             have hx39_1 : World.cell? _ ⟨go39, ((ji36) : Int).toNat * 2 + 1, none⟩ = some (.int .u64 ((rd_T26 x8_1 (ji36)).f1)) := hcc39 1 _ rfl
             have hf39_0 : World.frozen? _ ⟨go39, ((ji36) : Int).toNat * 2, none⟩ = false := hfr39 0
             have hf39_1 : World.frozen? _ ⟨go39, ((ji36) : Int).toNat * 2 + 1, none⟩ = false := hfr39 1
             clear hcl39 hcc39 hfr39 hM39
             replace p39 := eq_true p39
             replace q39 := eq_true q39
             obtain ⟨ce41, hcl41, hM41, hcc41, hfr41⟩ := Kd.R_elem HO_8.out z26 ((ji36) : Int) (of_decide_eq_true (by first | (with_reducible assumption) | assumption)) (by have h_ : ((ji36) : Int) < ((x8_1.length : Int) : Int) := of_decide_eq_true (by first | (with_reducible assumption) | assumption); first | exact h_ | (have e_ := (Kd.R_reads' HO_8.out).1; omega) | simpa using h_)
             obtain rfl := k26_openM hM41
             have HP41 := (Kd.R_seg HO_8.out ((ji36) : Int) (of_decide_eq_true (by first | (with_reducible assumption) | assumption)) (by have h_ : ((ji36) : Int) < ((x8_1.length : Int) : Int) := of_decide_eq_true (by first | (with_reducible assumption) | assumption); first | exact h_ | (have e_ := (Kd.R_reads' HO_8.out).1; omega) | simpa using h_) (seg := [.int .u64 (IntKind.u64.wrap (x289001_1 - ((rd_T26 x8_1 (ji36)).f1))), .int .u64 (IntKind.u64.wrap (x289001_1 - ((rd_T26 x8_1 (ji36)).f0)))]) (j := 0) hcl41 hcc41 (show 2 ≤ 2 from by decide) (x' := (⟨IntKind.u64.wrap (x289001_1 - ((rd_T26 x8_1 (ji36)).f1)), IntKind.u64.wrap (x289001_1 - ((rd_T26 x8_1 (ji36)).f0))⟩ : S26)) (k26_mkM _ _ _ (⟨IntKind.u64.wrap (x289001_1 - ((rd_T26 x8_1 (ji36)).f1)), IntKind.u64.wrap (x289001_1 - ((rd_T26 x8_1 (ji36)).f0))⟩ : S26) ) (fun _ hk => hk)).1
             rw [← Ny301.out] at HP41
             have HQ41 := Aside0.mk HP41
             clear hcl41 hcc41 hfr41 hM41 HP41
             refine start_ (n := 21) (S := fun w' => w'.cell? ⟨gb288, 0, none⟩ = some (.int .u64 x289000_1) ∧ w'.cell? ⟨gb288, 1, none⟩ = some (.int .u64 x289001_1) ∧ w'.cell? ⟨go39, (((ji36)).toNat * 2), none⟩ = some (.int .u64 ((rd_T26 x8_1 (ji36)).f0)) ∧ w'.cell? ⟨go39, (((ji36)).toNat * 2) + 1, none⟩ = some (.int .u64 ((rd_T26 x8_1 (ji36)).f1)) ∧ w'.cell? ⟨go39, (((ji36)).toNat * 2), none⟩ = some (.int .u64 ((rd_T26 x8_1 (ji36)).f0)) ∧ w'.cell? ⟨go39, (((ji36)).toNat * 2) + 1, none⟩ = some (.int .u64 ((rd_T26 x8_1 (ji36)).f1))) (ds := [20]) (Slim.ba 21 0) (by kernel_rfl) rfl rfl ⟨(blk_cell BK288.out 0).trans rfl, (blk_cell BK288.out 1).trans rfl, hx299_0, hx299_1, hx300_0, hx300_1⟩ (fun hHeld => ?_); refine with_tabW impl_spanOf.tab14 impl_spanOf.bits14 (fun HT_ HW_ => ?_)
             generalize wc.drew = w40 at HO_8 BK283 BK288 BK291 HB GG39 HQ41 hf39_0 hf39_1 hx299_0 hx299_1 hx300_0 hx300_1 hx39_0 hx39_1 hHeld ⊢
             refine Slim.pure1 HT_ 0 (some 69) (Slim.ba 21 1) rfl ?_
             refine Slim.pure1 HT_ 1 (some 70) (Slim.ba 21 3) rfl ?_
             refine Slim.pure1 HT_ 2 (some 71) (Slim.ba 21 7) rfl ?_
             refine Slim.pure1 HT_ 4 (some 73) (Slim.ba 21 23) rfl ?_
             refine Slim.pure1 HT_ 5 (some 74) (Slim.ba 21 55) rfl ?_
             refine Slim.pure1 HT_ 6 (some 75) (Slim.ba 21 119) rfl ?_
             refine Slim.pure1 HT_ 7 (some 76) (Slim.ba 21 247) rfl ?_
             refine Slim.pure1 HT_ 10 (some 79) (Slim.ba 21 1271) rfl ?_
             refine Slim.pure1 HT_ 12 (some 81) (Slim.ba 21 5367) rfl ?_
             refine Slim.pure1 HT_ 13 (some 82) (Slim.ba 21 13559) rfl ?_
             refine Slim.pure1 HT_ 14 (some 83) (Slim.ba 21 29943) rfl ?_
             refine Slim.pure1 HT_ 15 (some 84) (Slim.ba 21 62711) rfl ?_
             refine Slim.take1 HT_ HW_ hHeld 3 (some 72) (Slim.ba 21 62719) rfl (by rintro w' ⟨s0, s1, s2, s3, s4, s5⟩; go_simp; with_reducible rfl) ?_
             refine Slim.take1 HT_ HW_ hHeld 8 (some 77) (Slim.ba 21 62975) rfl (by rintro w' ⟨s0, s1, s2, s3, s4, s5⟩; go_simp; with_reducible rfl) ?_
             refine Slim.pure1 HT_ 9 (some 78) (Slim.ba 21 63487) rfl ?_
             refine Slim.take1 HT_ HW_ hHeld 11 (some 80) (Slim.ba 21 65535) rfl (by rintro w' ⟨s0, s1, s2, s3, s4, s5⟩; go_simp; with_reducible rfl) ?_
             refine Slim.take1 HT_ HW_ hHeld 16 (some 85) (Slim.ba 21 131071) rfl (by rintro w' ⟨s0, s1, s2, s3, s4, s5⟩; go_simp; with_reducible rfl) ?_
             refine Slim.pure1 HT_ 17 (some 86) (Slim.ba 21 262143) rfl ?_
             refine Slim.pure1 HT_ 18 (some 87) (Slim.ba 21 524287) rfl ?_
             refine Slim.pure1 HT_ 19 (some 88) (Slim.ba 21 1048575) rfl ?_
             refine last_ (i := 20) (N := none) (Slim.ba 21 2097151) rfl rfl (one_of HT_.out (by kernel_rfl)) (by decide) (fun K hK => ?_)
             refine skip_ (w1 := ?_) (by rfl) rfl ?_ ?_
             rotate_left
             ·go_simp
              rfl
             refine hK.out _ _ ?_
             clear hK K
             refine done_ (done_of HT_.out (by kernel_rfl)) ?_
             try go_wp2
             go_roundg kj13
             case measure => have := HK1.out; have := HJ13.out; omega
             case rel => exact ⟨(y301), (wrap64 (x18_1 + 1)), (x284000_1), (x284001_1), (x289000_1), (x289001_1), (by first | rfl | (simp; done) | (simp [*]; done)), H', ⟨by have := HK1.out; have := HJ13.out; omega⟩, ⟨by (with_reducible repeat (first | apply Kd.R_alloc | apply Kd.R_drewN | apply Kd.R_drew)); exact HQ41.out⟩, ⟨by (with_reducible repeat (first | refine blk_drewN ?_ _ | refine blk_drew ?_ | refine blk_alloc ?_ _)); refine blk_far ?_ (by have h_ := Kd.R_away HO_8.out (fun _ hk => hk.1); intro e_; exact h_ (by rw [e_]; rfl)) _; (with_reducible repeat (first | refine blk_drewN ?_ _ | refine blk_drew ?_ | refine blk_alloc ?_ _)); refine blk_far ?_ (by have h_ := Kd.R_away HO_8.out (fun _ hk => hk.1); intro e_; exact h_ (by rw [e_]; rfl)) _; (with_reducible repeat (first | refine blk_drewN ?_ _ | refine blk_drew ?_ | refine blk_alloc ?_ _)); exact BK283.out⟩, ⟨by (with_reducible repeat (first | refine blk_drewN ?_ _ | refine blk_drew ?_ | refine blk_alloc ?_ _)); refine blk_far ?_ (by have h_ := Kd.R_away HO_8.out (fun _ hk => hk.2); intro e_; exact h_ (by rw [e_]; rfl)) _; (with_reducible repeat (first | refine blk_drewN ?_ _ | refine blk_drew ?_ | refine blk_alloc ?_ _)); refine blk_far ?_ (by have h_ := Kd.R_away HO_8.out (fun _ hk => hk.2); intro e_; exact h_ (by rw [e_]; rfl)) _; (with_reducible repeat (first | refine blk_drewN ?_ _ | refine blk_drew ?_ | refine blk_alloc ?_ _)); exact BK288.out⟩, ⟨by repeat (first | (with_reducible first | exact HB.out | apply below_alloc | apply pw_below_drewN | apply below_drew1 | refine below_set ?_ GB39.out | refine below_set ?_ GB39.out | refine below_set ?_ GE283.out | refine below_set ?_ GE288.out | refine below_set ?_ GE291.out) | exact HB.out)⟩⟩
            ·rw [if_neg c38] at H
             exact absurd H (by simp)
           ·rw [if_neg c37] at H
            exact absurd H (by simp)
          ·rw [if_neg c35] at H
           have c35b0 : (((rd_T161 l1 x18_1).f0) == 13) = false := beq_eq_false_iff_ne.mpr c35
           have c35b1 : (((rd_T161 l1 x18_1).f0) != 13) = true := bne_iff_ne.mpr c35
           by_cases c42 : ((rd_T161 l1 x18_1).f0) = 19
           ·rw [if_pos c42] at H
            have c42b0 : (((rd_T161 l1 x18_1).f0) == 19) = true := beq_iff_eq.mpr c42
            have c42b1 : (((rd_T161 l1 x18_1).f0) != 19) = false := bne_eq_false_iff_eq.mpr c42
            clear c42
            obtain ⟨ji43, hji43⟩ : ∃ j_ : Int, (wrap64 ((x8_1.length : Int) - 1)) = j_ := ⟨_, rfl⟩
            replace H : (if 0 ≤ (ji43) then (if (ji43) < (x8_1.length : Int) then (impl_spanOf.l0 kj13 l2 (x8_1.set ((ji43) : Int).toNat (⟨IntKind.u64.wrap (1 - ((rd_T26 x8_1 (ji43)).f1)), IntKind.u64.wrap (1 - ((rd_T26 x8_1 (ji43)).f0))⟩ : S26)) l1 (l1.length : Int) (wrap64 (x18_1 + 1)) x289000_1 x289001_1) else (none)) else (none)) = some (r1, r2) := by first | (rw [hji43] at H; exact H) | (simp only [hji43] at H ⊢; exact H)
            (try rw [hji43] at hji36 hji36w)
            have hji43w : (IntKind.i64.wrap ((x8_1.length : Int) - 1)) = ji43 := (i64_w _).trans hji43
            by_cases c44 : 0 ≤ (ji43)
            ·rw [if_pos c44] at H
             have c44b0 : decide (0 ≤ (ji43)) = true := decide_eq_true c44
             clear c44
             by_cases c45 : (ji43) < (x8_1.length : Int)
             ·rw [if_pos c45] at H
              have c45b0 : decide ((ji43) < (x8_1.length : Int)) = true := decide_eq_true c45
              clear c45
              obtain ⟨y304, hy304⟩ : ∃ y_ : List (S26), y_ = (x8_1.set ((ji43) : Int).toNat (⟨IntKind.u64.wrap (1 - ((rd_T26 x8_1 (ji43)).f1)), IntKind.u64.wrap (1 - ((rd_T26 x8_1 (ji43)).f0))⟩ : S26)) := ⟨_, rfl⟩
              replace H : (impl_spanOf.l0 kj13 l2 y304 l1 (l1.length : Int) (wrap64 (x18_1 + 1)) x289000_1 x289001_1) = some (r1, r2) := by first | (rw [hy304]; with_reducible exact H) | (have H2_ := (Option.bind_some _ _).symm.trans H; rw [hy304]; with_reducible exact H2_) | (have H2_ := (Option.bind_some _ _).symm.trans H; with_reducible exact H2_) | with_reducible exact H | (rw [hy304]; exact H) | exact H
              have Ny304 := Aside0.mk hy304
              clear hy304
              have H' := Aside0.mk H
              clear H
              try go_wp2
              have n0_ := Aside0.mk (Kd.R_drew HO_8.out)
              have n1_ := Aside0.mk (blk_drew BK283.out)
              have n2_ := Aside0.mk (blk_drew BK288.out)
              have n3_ := Aside0.mk (blk_drew BK291.out)
              have n4_ := Aside0.mk (below_drew1 HB.out)
              clear HO_8
              clear BK283
              clear BK288
              clear BK291
              clear HB
              have HO_8 := n0_
              have BK283 := n1_
              have BK288 := n2_
              have BK291 := n3_
              have HB := n4_
              clear n0_ n1_ n2_ n3_ n4_
              have p302 : 0 ≤ ((ji43) : Int) := of_decide_eq_true (by first | (with_reducible assumption) | assumption)
              have q302 : (ji43) < (x8_1.length : Int) := of_decide_eq_true (by first | (with_reducible assumption) | assumption)
              obtain ⟨ad302, e302, hx302_0, hx302_1⟩ := at_T26 (Kd.R_reads' HO_8.out).2.2 (ji43) p302 q302
              cases e302
              replace p302 := eq_true p302
              replace q302 := eq_true q302
              have p303 : 0 ≤ ((ji43) : Int) := of_decide_eq_true (by first | (with_reducible assumption) | assumption)
              have q303 : (ji43) < (x8_1.length : Int) := of_decide_eq_true (by first | (with_reducible assumption) | assumption)
              obtain ⟨ad303, e303, hx303_0, hx303_1⟩ := at_T26 (Kd.R_reads' HO_8.out).2.2 (ji43) p303 q303
              obtain rfl : ad302 = ad303 := (by injection e303)
              replace p303 := eq_true p303
              replace q303 := eq_true q303
              have p46 : 0 ≤ ((ji43) : Int) := of_decide_eq_true (by first | (with_reducible assumption) | assumption)
              have q46 : ((ji43) : Int) < ((x8_1.length : Int) : Int) := of_decide_eq_true (by first | (with_reducible assumption) | assumption)
              obtain ⟨go46, co46, eo46, gb46, gl46, cl46, HG46⟩ := Kd.R_form HO_8.out (by omega)
              (first | cases eo46 | (injection eo46 with ea_ en_ ec_; (first | subst ea_ | (injection ea_ with ea_; subst ea_)); subst ec_; clear en_))
              have GB46 := Aside0.mk gb46
              have GG46 := Aside0.mk HG46
              clear gb46 gl46 HG46
              (first | simp only [add_plain] at hx302_0 | skip)
              (first | simp only [add_plain] at hx302_1 | skip)
              (first | simp only [add_plain] at hx303_0 | skip)
              (first | simp only [add_plain] at hx303_1 | skip)
              obtain ⟨ce46, hcl46, hM46, hcc46, hfr46⟩ := Kd.R_elem HO_8.out z26 ((ji43) : Int) p46 q46
              obtain rfl := k26_openM hM46
              have hx46_0 : World.cell? _ ⟨go46, ((ji43) : Int).toNat * 2, none⟩ = some (.int .u64 ((rd_T26 x8_1 (ji43)).f0)) := hcc46 0 _ rfl
              have hx46_1 : World.cell? _ ⟨go46, ((ji43) : Int).toNat * 2 + 1, none⟩ = some (.int .u64 ((rd_T26 x8_1 (ji43)).f1)) := hcc46 1 _ rfl
              have hf46_0 : World.frozen? _ ⟨go46, ((ji43) : Int).toNat * 2, none⟩ = false := hfr46 0
              have hf46_1 : World.frozen? _ ⟨go46, ((ji43) : Int).toNat * 2 + 1, none⟩ = false := hfr46 1
              clear hcl46 hcc46 hfr46 hM46
              replace p46 := eq_true p46
              replace q46 := eq_true q46
              obtain ⟨ce48, hcl48, hM48, hcc48, hfr48⟩ := Kd.R_elem HO_8.out z26 ((ji43) : Int) (of_decide_eq_true (by first | (with_reducible assumption) | assumption)) (by have h_ : ((ji43) : Int) < ((x8_1.length : Int) : Int) := of_decide_eq_true (by first | (with_reducible assumption) | assumption); first | exact h_ | (have e_ := (Kd.R_reads' HO_8.out).1; omega) | simpa using h_)
              obtain rfl := k26_openM hM48
              have HP48 := (Kd.R_seg HO_8.out ((ji43) : Int) (of_decide_eq_true (by first | (with_reducible assumption) | assumption)) (by have h_ : ((ji43) : Int) < ((x8_1.length : Int) : Int) := of_decide_eq_true (by first | (with_reducible assumption) | assumption); first | exact h_ | (have e_ := (Kd.R_reads' HO_8.out).1; omega) | simpa using h_) (seg := [.int .u64 (IntKind.u64.wrap (1 - ((rd_T26 x8_1 (ji43)).f1))), .int .u64 (IntKind.u64.wrap (1 - ((rd_T26 x8_1 (ji43)).f0)))]) (j := 0) hcl48 hcc48 (show 2 ≤ 2 from by decide) (x' := (⟨IntKind.u64.wrap (1 - ((rd_T26 x8_1 (ji43)).f1)), IntKind.u64.wrap (1 - ((rd_T26 x8_1 (ji43)).f0))⟩ : S26)) (k26_mkM _ _ _ (⟨IntKind.u64.wrap (1 - ((rd_T26 x8_1 (ji43)).f1)), IntKind.u64.wrap (1 - ((rd_T26 x8_1 (ji43)).f0))⟩ : S26) ) (fun _ hk => hk)).1
              rw [← Ny304.out] at HP48
              have HQ48 := Aside0.mk HP48
              clear hcl48 hcc48 hfr48 hM48 HP48
              refine start_ (n := 17) (S := fun w' => w'.cell? ⟨go46, (((ji43)).toNat * 2), none⟩ = some (.int .u64 ((rd_T26 x8_1 (ji43)).f0)) ∧ w'.cell? ⟨go46, (((ji43)).toNat * 2) + 1, none⟩ = some (.int .u64 ((rd_T26 x8_1 (ji43)).f1)) ∧ w'.cell? ⟨go46, (((ji43)).toNat * 2), none⟩ = some (.int .u64 ((rd_T26 x8_1 (ji43)).f0)) ∧ w'.cell? ⟨go46, (((ji43)).toNat * 2) + 1, none⟩ = some (.int .u64 ((rd_T26 x8_1 (ji43)).f1))) (ds := [16]) (Slim.ba 17 0) (by kernel_rfl) rfl rfl ⟨hx302_0, hx302_1, hx303_0, hx303_1⟩ (fun hHeld => ?_); refine with_tabW impl_spanOf.tab16 impl_spanOf.bits16 (fun HT_ HW_ => ?_)
              generalize wc.drew = w47 at HO_8 BK283 BK288 BK291 HB GG46 HQ48 hf46_0 hf46_1 hx302_0 hx302_1 hx303_0 hx303_1 hx46_0 hx46_1 hHeld ⊢
              refine Slim.pure1 HT_ 0 (some 91) (Slim.ba 17 1) rfl ?_
              refine Slim.pure1 HT_ 1 (some 92) (Slim.ba 17 3) rfl ?_
              refine Slim.pure1 HT_ 2 (some 93) (Slim.ba 17 7) rfl ?_
              refine Slim.pure1 HT_ 3 (some 94) (Slim.ba 17 15) rfl ?_
              refine Slim.pure1 HT_ 4 (some 95) (Slim.ba 17 31) rfl ?_
              refine Slim.pure1 HT_ 5 (some 96) (Slim.ba 17 63) rfl ?_
              refine Slim.pure1 HT_ 8 (some 99) (Slim.ba 17 319) rfl ?_
              refine Slim.pure1 HT_ 9 (some 100) (Slim.ba 17 831) rfl ?_
              refine Slim.pure1 HT_ 10 (some 101) (Slim.ba 17 1855) rfl ?_
              refine Slim.pure1 HT_ 11 (some 102) (Slim.ba 17 3903) rfl ?_
              refine Slim.take1 HT_ HW_ hHeld 6 (some 97) (Slim.ba 17 3967) rfl (by rintro w' ⟨s0, s1, s2, s3⟩; go_simp; with_reducible rfl) ?_
              refine Slim.pure1 HT_ 7 (some 98) (Slim.ba 17 4095) rfl ?_
              refine Slim.take1 HT_ HW_ hHeld 12 (some 103) (Slim.ba 17 8191) rfl (by rintro w' ⟨s0, s1, s2, s3⟩; go_simp; with_reducible rfl) ?_
              refine Slim.pure1 HT_ 13 (some 104) (Slim.ba 17 16383) rfl ?_
              refine Slim.pure1 HT_ 14 (some 105) (Slim.ba 17 32767) rfl ?_
              refine Slim.pure1 HT_ 15 (some 106) (Slim.ba 17 65535) rfl ?_
              refine last_ (i := 16) (N := none) (Slim.ba 17 131071) rfl rfl (one_of HT_.out (by kernel_rfl)) (by decide) (fun K hK => ?_)
              refine skip_ (w1 := ?_) (by rfl) rfl ?_ ?_
              rotate_left
              ·go_simp
               rfl
              refine hK.out _ _ ?_
              clear hK K
              refine done_ (done_of HT_.out (by kernel_rfl)) ?_
              try go_wp2
              go_roundg kj13
              case measure => have := HK1.out; have := HJ13.out; omega
              case rel => exact ⟨(y304), (wrap64 (x18_1 + 1)), (x284000_1), (x284001_1), (x289000_1), (x289001_1), (by first | rfl | (simp; done) | (simp [*]; done)), H', ⟨by have := HK1.out; have := HJ13.out; omega⟩, ⟨by (with_reducible repeat (first | apply Kd.R_alloc | apply Kd.R_drewN | apply Kd.R_drew)); exact HQ48.out⟩, ⟨by (with_reducible repeat (first | refine blk_drewN ?_ _ | refine blk_drew ?_ | refine blk_alloc ?_ _)); refine blk_far ?_ (by have h_ := Kd.R_away HO_8.out (fun _ hk => hk.1); intro e_; exact h_ (by rw [e_]; rfl)) _; (with_reducible repeat (first | refine blk_drewN ?_ _ | refine blk_drew ?_ | refine blk_alloc ?_ _)); refine blk_far ?_ (by have h_ := Kd.R_away HO_8.out (fun _ hk => hk.1); intro e_; exact h_ (by rw [e_]; rfl)) _; (with_reducible repeat (first | refine blk_drewN ?_ _ | refine blk_drew ?_ | refine blk_alloc ?_ _)); exact BK283.out⟩, ⟨by (with_reducible repeat (first | refine blk_drewN ?_ _ | refine blk_drew ?_ | refine blk_alloc ?_ _)); refine blk_far ?_ (by have h_ := Kd.R_away HO_8.out (fun _ hk => hk.2); intro e_; exact h_ (by rw [e_]; rfl)) _; (with_reducible repeat (first | refine blk_drewN ?_ _ | refine blk_drew ?_ | refine blk_alloc ?_ _)); refine blk_far ?_ (by have h_ := Kd.R_away HO_8.out (fun _ hk => hk.2); intro e_; exact h_ (by rw [e_]; rfl)) _; (with_reducible repeat (first | refine blk_drewN ?_ _ | refine blk_drew ?_ | refine blk_alloc ?_ _)); exact BK288.out⟩, ⟨by repeat (first | (with_reducible first | exact HB.out | apply below_alloc | apply pw_below_drewN | apply below_drew1 | refine below_set ?_ GB46.out | refine below_set ?_ GB46.out | refine below_set ?_ GE283.out | refine below_set ?_ GE288.out | refine below_set ?_ GE291.out) | exact HB.out)⟩⟩
             ·rw [if_neg c45] at H
              exact absurd H (by simp)
            ·rw [if_neg c44] at H
             exact absurd H (by simp)
           ·rw [if_neg c42] at H
            have c42b0 : (((rd_T161 l1 x18_1).f0) == 19) = false := beq_eq_false_iff_ne.mpr c42
            have c42b1 : (((rd_T161 l1 x18_1).f0) != 19) = true := bne_iff_ne.mpr c42
            obtain ⟨ji49, hji49⟩ : ∃ j_ : Int, (wrap64 ((wrap64 ((x8_1.length : Int) - 1)) - 1)) = j_ := ⟨_, rfl⟩
            replace H : (if 0 ≤ (ji49) then (if (ji49) < (x8_1.length : Int) then (if 0 ≤ (wrap64 ((x8_1.length : Int) - 1)) then (if (wrap64 ((x8_1.length : Int) - 1)) < (x8_1.length : Int) then ((impl_spanOfTwo.f ((rd_T161 l1 x18_1).f0) x289000_1 x289001_1 ((rd_T26 x8_1 (ji49)).f0) ((rd_T26 x8_1 (ji49)).f1) ((rd_T26 x8_1 (wrap64 ((x8_1.length : Int) - 1))).f0) ((rd_T26 x8_1 (wrap64 ((x8_1.length : Int) - 1))).f1)).bind fun bt307 => (if (ji49) ≤ (x8_1.length : Int) then ((some (x8_1.take ((ji49) : Int).toNat : List (S26))).bind fun y309 => (if y309.length < 8796093022208 then (impl_spanOf.l0 kj13 l2 (y309 ++ [(⟨bt307.1, bt307.2⟩ : S26)]) l1 (l1.length : Int) (wrap64 (x18_1 + 1)) x289000_1 x289001_1) else (none))) else (none))) else (none)) else (none)) else (none)) else (none)) = some (r1, r2) := by first | (rw [hji49] at H; exact H) | (simp only [hji49] at H ⊢; exact H)
            have hji49w : (IntKind.i64.wrap ((wrap64 ((x8_1.length : Int) - 1)) - 1)) = ji49 := (i64_w _).trans hji49
            by_cases c50 : 0 ≤ (ji49)
            ·rw [if_pos c50] at H
             have c50b0 : decide (0 ≤ (ji49)) = true := decide_eq_true c50
             clear c50
             by_cases c51 : (ji49) < (x8_1.length : Int)
             ·rw [if_pos c51] at H
              have c51b0 : decide ((ji49) < (x8_1.length : Int)) = true := decide_eq_true c51
              clear c51
              obtain ⟨ji52, hji52⟩ : ∃ j_ : Int, (wrap64 ((x8_1.length : Int) - 1)) = j_ := ⟨_, rfl⟩
              replace H : (if 0 ≤ (ji52) then (if (ji52) < (x8_1.length : Int) then ((impl_spanOfTwo.f ((rd_T161 l1 x18_1).f0) x289000_1 x289001_1 ((rd_T26 x8_1 (ji49)).f0) ((rd_T26 x8_1 (ji49)).f1) ((rd_T26 x8_1 (ji52)).f0) ((rd_T26 x8_1 (ji52)).f1)).bind fun bt307 => (if (ji49) ≤ (x8_1.length : Int) then ((some (x8_1.take ((ji49) : Int).toNat : List (S26))).bind fun y309 => (if y309.length < 8796093022208 then (impl_spanOf.l0 kj13 l2 (y309 ++ [(⟨bt307.1, bt307.2⟩ : S26)]) l1 (l1.length : Int) (wrap64 (x18_1 + 1)) x289000_1 x289001_1) else (none))) else (none))) else (none)) else (none)) = some (r1, r2) := by first | (rw [hji52] at H; exact H) | (simp only [hji52] at H ⊢; exact H)
              (try rw [hji52] at hji36 hji36w)
              (try rw [hji52] at hji43 hji43w)
              (try rw [hji52] at hji49 hji49w)
              have hji52w : (IntKind.i64.wrap ((x8_1.length : Int) - 1)) = ji52 := (i64_w _).trans hji52
              by_cases c53 : 0 ≤ (ji52)
              ·rw [if_pos c53] at H
               have c53b0 : decide (0 ≤ (ji52)) = true := decide_eq_true c53
               clear c53
               by_cases c54 : (ji52) < (x8_1.length : Int)
               ·rw [if_pos c54] at H
                have c54b0 : decide ((ji52) < (x8_1.length : Int)) = true := decide_eq_true c54
                clear c54
                replace H := Option.bind_eq_some_iff.mp H
                obtain ⟨⟨t307, t308⟩, A550, H⟩ := H
                replace H : (if (ji49) ≤ (x8_1.length : Int) then ((some (x8_1.take ((ji49) : Int).toNat : List (S26))).bind fun y309 => (if y309.length < 8796093022208 then (impl_spanOf.l0 kj13 l2 (y309 ++ [(⟨t307, t308⟩ : S26)]) l1 (l1.length : Int) (wrap64 (x18_1 + 1)) x289000_1 x289001_1) else (none))) else (none)) = some (r1, r2) := H
                have A55 := Aside0.mk A550
                clear A550
                by_cases c56 : (ji49) ≤ (x8_1.length : Int)
                ·rw [if_pos c56] at H
                 have c56b0 := eq_true c56
                 have c56b1 : decide ((ji49) ≤ (x8_1.length : Int)) = true := decide_eq_true c56
                 clear c56
                 obtain ⟨y309, hy309⟩ : ∃ y_ : List (S26), y_ = (x8_1.take ((ji49) : Int).toNat) := ⟨_, rfl⟩
                 replace H : (if y309.length < 8796093022208 then (impl_spanOf.l0 kj13 l2 (y309 ++ [(⟨t307, t308⟩ : S26)]) l1 (l1.length : Int) (wrap64 (x18_1 + 1)) x289000_1 x289001_1) else (none)) = some (r1, r2) := by first | (rw [hy309]; with_reducible exact H) | (have H2_ := (Option.bind_some _ _).symm.trans H; rw [hy309]; with_reducible exact H2_) | (have H2_ := (Option.bind_some _ _).symm.trans H; with_reducible exact H2_) | with_reducible exact H | (rw [hy309]; exact H) | exact H
                 have Ny309 := Aside0.mk hy309
                 clear hy309
                 by_cases c57 : y309.length < 8796093022208
                 ·rw [if_pos c57] at H
                  have LMc57 := Aside0.mk c57
                  clear c57
                  obtain ⟨y312, hy312⟩ : ∃ y_ : List (S26), y_ = (y309 ++ [(⟨t307, t308⟩ : S26)]) := ⟨_, rfl⟩
                  replace H : (impl_spanOf.l0 kj13 l2 y312 l1 (l1.length : Int) (wrap64 (x18_1 + 1)) x289000_1 x289001_1) = some (r1, r2) := by first | (rw [hy312]; with_reducible exact H) | (have H2_ := (Option.bind_some _ _).symm.trans H; rw [hy312]; with_reducible exact H2_) | (have H2_ := (Option.bind_some _ _).symm.trans H; with_reducible exact H2_) | with_reducible exact H | (rw [hy312]; exact H) | exact H
                  have Ny312 := Aside0.mk hy312
                  clear hy312
                  have H' := Aside0.mk H
                  clear H
                  try go_wp2
                  have n0_ := Aside0.mk (Kd.R_drew HO_8.out)
                  have n1_ := Aside0.mk (blk_drew BK283.out)
                  have n2_ := Aside0.mk (blk_drew BK288.out)
                  have n3_ := Aside0.mk (blk_drew BK291.out)
                  have n4_ := Aside0.mk (below_drew1 HB.out)
                  clear HO_8
                  clear BK283
                  clear BK288
                  clear BK291
                  clear HB
                  have HO_8 := n0_
                  have BK283 := n1_
                  have BK288 := n2_
                  have BK291 := n3_
                  have HB := n4_
                  clear n0_ n1_ n2_ n3_ n4_
                  have p305 : 0 ≤ ((ji49) : Int) := of_decide_eq_true (by first | (with_reducible assumption) | assumption)
                  have q305 : (ji49) < (x8_1.length : Int) := of_decide_eq_true (by first | (with_reducible assumption) | assumption)
                  obtain ⟨ad305, e305, hx305_0, hx305_1⟩ := at_T26 (Kd.R_reads' HO_8.out).2.2 (ji49) p305 q305
                  cases e305
                  replace p305 := eq_true p305
                  replace q305 := eq_true q305
                  have p306 : 0 ≤ ((ji52) : Int) := of_decide_eq_true (by first | (with_reducible assumption) | assumption)
                  have q306 : (ji52) < (x8_1.length : Int) := of_decide_eq_true (by first | (with_reducible assumption) | assumption)
                  obtain ⟨ad306, e306, hx306_0, hx306_1⟩ := at_T26 (Kd.R_reads' HO_8.out).2.2 (ji52) p306 q306
                  obtain rfl : ad305 = ad306 := (by injection e306)
                  replace p306 := eq_true p306
                  replace q306 := eq_true q306
                  have q59 : ((ji49) : Int) ≤ ((x8_1.length : Int) : Int) := of_decide_eq_true (by first | (with_reducible assumption) | assumption)
                  obtain ⟨i059, hi059, _, hsz59, _⟩ := info_parts info26
                  have hcut59 := cut_to (P := Try.prog) 38 26 .i64 Try.underlying38 hi059 (some ad305) x8_1.length co19 (ji49) (of_decide_eq_true (by first | (with_reducible assumption) | assumption)) q59 (Kd.R_reads' HO_8.out).2.1
                  have hr59 := Kd.R_take (m := ((ji49) : Int).toNat) HO_8.out (by omega)
                  have hy59 : y309.length = ((ji49) : Int).toNat := (by rw [Ny309.out, List.length_take]; omega)
                  rw [← Ny309.out] at hr59
                  rw [← hy59] at hr59 hcut59
                  clear hy59 hi059 hsz59 HO_8
                  have HO311 := Aside0.mk hr59
                  clear hr59
                  replace q59 := eq_true q59
                  refine start_ (n := 20) (S := fun w' => w'.cell? ⟨gb291, 0, none⟩ = some (.int .i64 ((rd_T161 l1 x18_1).f0)) ∧ w'.cell? ⟨gb291, 1, none⟩ = some (.int .u64 ((rd_T161 l1 x18_1).f1)) ∧ w'.cell? ⟨gb288, 0, none⟩ = some (.int .u64 x289000_1) ∧ w'.cell? ⟨gb288, 1, none⟩ = some (.int .u64 x289001_1) ∧ w'.cell? (ad305.add (((ji49)).toNat * 2)) = some (.int .u64 ((rd_T26 x8_1 (ji49)).f0)) ∧ w'.cell? ⟨(ad305.add (((ji49)).toNat * 2)).block, (ad305.add (((ji49)).toNat * 2)).off + 1, none⟩ = some (.int .u64 ((rd_T26 x8_1 (ji49)).f1)) ∧ w'.cell? (ad305.add (((ji52)).toNat * 2)) = some (.int .u64 ((rd_T26 x8_1 (ji52)).f0)) ∧ w'.cell? ⟨(ad305.add (((ji52)).toNat * 2)).block, (ad305.add (((ji52)).toNat * 2)).off + 1, none⟩ = some (.int .u64 ((rd_T26 x8_1 (ji52)).f1))) (ds := [17, 18]) (Slim.ba 20 0) (by kernel_rfl) rfl rfl ⟨(blk_cell BK291.out 0).trans rfl, (blk_cell BK291.out 1).trans rfl, (blk_cell BK288.out 0).trans rfl, (blk_cell BK288.out 1).trans rfl, hx305_0, hx305_1, hx306_0, hx306_1⟩ (fun hHeld => ?_); refine with_tabW impl_spanOf.tab7 impl_spanOf.bits7 (fun HT_ HW_ => ?_)
                  generalize wc.drew = w58 at HO_8 BK283 BK288 BK291 HB HO311 hx305_0 hx305_1 hx306_0 hx306_1 hHeld ⊢
                  refine Slim.pure1 HT_ 0 (some 27) (Slim.ba 20 1) rfl ?_
                  refine Slim.pure1 HT_ 1 (some 28) (Slim.ba 20 3) rfl ?_
                  refine Slim.pure1 HT_ 2 (some 29) (Slim.ba 20 7) rfl ?_
                  refine Slim.pure1 HT_ 3 (some 30) (Slim.ba 20 15) rfl ?_
                  refine Slim.pure1 HT_ 4 (some 31) (Slim.ba 20 31) rfl ?_
                  refine Slim.pure1 HT_ 7 (some 34) (Slim.ba 20 159) rfl ?_
                  refine Slim.pure1 HT_ 8 (some 35) (Slim.ba 20 415) rfl ?_
                  refine Slim.pure1 HT_ 9 (some 36) (Slim.ba 20 927) rfl ?_
                  refine Slim.pure1 HT_ 10 (some 37) (Slim.ba 20 1951) rfl ?_
                  refine Slim.pure1 HT_ 12 (some 39) (Slim.ba 20 6047) rfl ?_
                  refine Slim.pure1 HT_ 13 (some 40) (Slim.ba 20 14239) rfl ?_
                  refine Slim.pure1 HT_ 14 (some 41) (Slim.ba 20 30623) rfl ?_
                  refine Slim.take1 HT_ HW_ hHeld 5 (some 32) (Slim.ba 20 30655) rfl (by rintro w' ⟨s0, s1, s2, s3, s4, s5, s6, s7⟩; go_simp; with_reducible rfl) ?_
                  refine Slim.take1 HT_ HW_ hHeld 6 (some 33) (Slim.ba 20 30719) rfl (by rintro w' ⟨s0, s1, s2, s3, s4, s5, s6, s7⟩; go_simp; with_reducible rfl) ?_
                  refine Slim.take1 HT_ HW_ hHeld 11 (some 38) (Slim.ba 20 32767) rfl (by rintro w' ⟨s0, s1, s2, s3, s4, s5, s6, s7⟩; go_simp; with_reducible rfl) ?_
                  refine Slim.take1 HT_ HW_ hHeld 15 (some 42) (Slim.ba 20 65535) rfl (by rintro w' ⟨s0, s1, s2, s3, s4, s5, s6, s7⟩; go_simp; with_reducible rfl) ?_
                  refine one_ (i := 16) (N := some 43) (Slim.ba 20 131071) rfl rfl (one_of HT_.out (by kernel_rfl)) (by decide) (fun K hK => ?_)
                  refine goes_ Try.func197 (by kernel_rfl) rfl #[.int .i64 ((rd_T161 l1 x18_1).f0), .agg #[.int .u64 x289000_1, .int .u64 x289001_1], .agg #[.int .u64 ((rd_T26 x8_1 (ji49)).f0), .int .u64 ((rd_T26 x8_1 (ji49)).f1)], .agg #[.int .u64 ((rd_T26 x8_1 (ji52)).f0), .int .u64 ((rd_T26 x8_1 (ji52)).f1)]] (by rfl) rfl rfl (by (try simp only [List.map_toArray, List.map_cons, List.map_nil]); first | done | (simp only [hji49, hji52]; rfl) | rfl | (simp only [List.length_drop, List.length_take]; rfl)) ?_
                  with_reducible refine (impl_spanOfTwo.calls ((rd_T161 l1 x18_1).f0) x289000_1 x289001_1 ((rd_T26 x8_1 (ji49)).f0) ((rd_T26 x8_1 (ji49)).f1) ((rd_T26 x8_1 (ji52)).f0) ((rd_T26 x8_1 (ji52)).f1) t307 t308 _ A55.out).mono ?_
                  rintro e w60 ⟨rfl, hb⟩
                  have HS4_ := (hb.cell (World.block_lt_of_cell? _ _ (hHeld.2.2.2.2.1))).trans (hHeld.2.2.2.2.1)
                  have HS5_ := (hb.cell (World.block_lt_of_cell? _ _ (hHeld.2.2.2.2.2.1))).trans (hHeld.2.2.2.2.2.1)
                  have HS6_ := (hb.cell (World.block_lt_of_cell? _ _ (hHeld.2.2.2.2.2.2.1))).trans (hHeld.2.2.2.2.2.2.1)
                  have HS7_ := (hb.cell (World.block_lt_of_cell? _ _ (hHeld.2.2.2.2.2.2.2))).trans (hHeld.2.2.2.2.2.2.2)
                  refine ⟨_, rfl, ?_⟩
                  have n0_ := Aside0.mk (Kd.R_below (Slim.vR HO311.out) hb)
                  have n1_ := Aside0.mk (Slim.bB BK283.out hb)
                  have n2_ := Aside0.mk (Slim.bB BK288.out hb)
                  have n3_ := Aside0.mk (Slim.bB BK291.out hb)
                  have n4_ := Aside0.mk (below_step Slim.vB hb)
                  clear HO311
                  clear BK283
                  clear BK288
                  clear BK291
                  clear HB
                  have HO311 := n0_
                  have BK283 := n1_
                  have BK288 := n2_
                  have BK291 := n3_
                  have HB := n4_
                  clear n0_ n1_ n2_ n3_ n4_
                  (try clear hb)
                  (try clear hb2)
                  (try clear hk)
                  (try clear hi)
                  refine hK.out _ _ ⟨(blk_cell BK291.out 0).trans rfl, (blk_cell BK291.out 1).trans rfl, (blk_cell BK288.out 0).trans rfl, (blk_cell BK288.out 1).trans rfl, HS4_, HS5_, HS6_, HS7_⟩ (fun hHeld => ?_)
                  clear hK K
                  refine norm_ (a' := ?_) ?_ ?_
                  rotate_left
                  ·show Act.put _ (some 43) _ = _
                   simp only [Act.put, List.setIfInBounds_toArray, List.set_cons_zero, List.set_cons_succ, i64_w, i32_w]
                   rfl
                  refine last_ (i := 17) (N := some 44) (Slim.ba 20 262143) rfl rfl (one_of HT_.out (by kernel_rfl)) (by decide) (fun K hK => ?_)
                  refine value_ (w1 := ?_) (v := ?_) (by rfl) rfl ?_ ?_
                  rotate_left 2
                  ·go_simp
                   constructor
                   ·rfl
                   ·rfl
                  refine hK.out _ _ ?_
                  clear hK K
                  refine norm_ (a' := ?_) ?_ ?_
                  rotate_left
                  ·show Act.put _ (some 44) _ = _
                   simp only [Act.put, List.setIfInBounds_toArray, List.set_cons_zero, List.set_cons_succ, i64_w, i32_w]
                   rfl
                  refine last_ (i := 18) (N := some 45) (Slim.ba 20 524287) rfl rfl (one_of HT_.out (by kernel_rfl)) (by decide) (fun K hK => ?_)
                  refine Kd.R_append_step k26 (w0 := w) w.heap.size (by rfl) (.tmp 30) (.tmp 44) 38 26 (.agg #[(.int .u64 0), (.int .u64 0)]) 16 rfl Try.underlying38 info26 rfl (by decide) (by omega) (.slice (some ad305) y309.length co19) y309 (⟨t307, t308⟩ : S26) [.int .u64 t307, .int .u64 t308] (fun k_ => k_ ≠ gb283 ∧ k_ ≠ gb288) (fun _ => False) rfl rfl ?aP (fun _ hk => hk.elim) ?aF ?aO ?aB ?aS ?aL ?_
                  (case aP => exact k26_mkM _ _ _ (⟨t307, t308⟩ : S26))
                  (case aB => exact Slim.vB)
                  (case aF => exact (fun k_ hk => ⟨Kd.freshB (g := gb283) (o := .cells #[.int .u64 x284000_1, .int .u64 x284001_1] 26 (0, 0)) (Slim.vK BK283.out) k_ hk, Kd.freshB (g := gb288) (o := .cells #[.int .u64 x289000_1, .int .u64 x289001_1] 26 (0, 0)) (Slim.vK BK288.out) k_ hk⟩))
                  (case aO => exact (Slim.vR HO311.out))
                  (case aS => exact (below_size Slim.vB))
                  (case aL => have := LMc57.out; omega)
                  intro v313 w61 ho hb hg hat
                  rw [← Ny312.out] at ho
                  have n0_ := Aside0.mk (blk_grown (g := gb283) (o := .cells #[.int .u64 x284000_1, .int .u64 x284001_1] 26 (0, 0)) (Slim.vK BK283.out) hg (Kd.R_away HO311.out (fun _ hk => hk.1)))
                  have n1_ := Aside0.mk (blk_grown (g := gb288) (o := .cells #[.int .u64 x289000_1, .int .u64 x289001_1] 26 (0, 0)) (Slim.vK BK288.out) hg (Kd.R_away HO311.out (fun _ hk => hk.2)))
                  have n2_ := Aside0.mk (blk_grown (g := gb291) (o := .cells #[.int .i64 ((rd_T161 l1 x18_1).f0), .int .u64 ((rd_T161 l1 x18_1).f1)] 161 (0, 0)) (Slim.vK BK291.out) hg (Kd.R_ne HO311.out BK291.out (by decide)))
                  have n3_ := Aside0.mk (hb)
                  have n4_ := Aside0.mk (ho)
                  clear BK283
                  clear BK288
                  clear BK291
                  clear HB
                  clear HO311
                  have BK283 := n0_
                  have BK288 := n1_
                  have BK291 := n2_
                  have HB := n3_
                  have HO314 := n4_
                  clear n0_ n1_ n2_ n3_ n4_
                  clear ho hb hg hat
                  refine hK.out _ _ ?_
                  clear hK K
                  refine norm_ (a' := ?_) ?_ ?_
                  rotate_left
                  ·show Act.put _ (some 45) _ = _
                   simp only [Act.put, List.setIfInBounds_toArray, List.set_cons_zero, List.set_cons_succ, i64_w, i32_w]
                   rfl
                  refine Slim.pure1 HT_ 19 (some 8) (Slim.ba 20 1048575) rfl ?_
                  refine done_ (done_of HT_.out (by kernel_rfl)) ?_
                  try go_wp2
                  go_roundg kj13
                  case measure => have := HK1.out; have := HJ13.out; omega
                  case rel => exact ⟨(y312), (wrap64 (x18_1 + 1)), (x284000_1), (x284001_1), (x289000_1), (x289001_1), (by first | rfl | (simp; done) | (simp [*]; done)), H', ⟨by have := HK1.out; have := HJ13.out; omega⟩, ⟨by (with_reducible repeat (first | apply Kd.R_alloc | apply Kd.R_drewN | apply Kd.R_drew)); exact HO314.out⟩, ⟨by (with_reducible repeat (first | refine blk_drewN ?_ _ | refine blk_drew ?_ | refine blk_alloc ?_ _)); exact BK283.out⟩, ⟨by (with_reducible repeat (first | refine blk_drewN ?_ _ | refine blk_drew ?_ | refine blk_alloc ?_ _)); exact BK288.out⟩, ⟨Slim.vB⟩⟩
                 ·rw [if_neg c57] at H
                  exact absurd H (by simp)
                ·rw [if_neg c56] at H
                 exact absurd H (by simp)
               ·rw [if_neg c54] at H
                exact absurd H (by simp)
              ·rw [if_neg c53] at H
               exact absurd H (by simp)
             ·rw [if_neg c51] at H
              exact absurd H (by simp)
            ·rw [if_neg c50] at H
             exact absurd H (by simp)
     ·rw [if_neg c13] at H
      exact absurd H (by simp)
    ·rw [if_neg c12] at H
     exact absurd H (by simp)
   ·rw [if_neg c11] at H
    have c11b0 : decide (x18_1 < (l1.length : Int)) = false := decide_eq_false c11
    clear c11
    by_cases c62 : 0 < (x8_1.length : Int)
    ·rw [if_pos c62] at H
     have c62b0 : decide (0 < (x8_1.length : Int)) = true := decide_eq_true c62
     have c62b1 : decide (0 < x8_1.length) = true := decide_eq_true (by omega)
     clear c62
     simp only [Option.some.injEq, Prod.mk.injEq] at H
     obtain ⟨rfl, rfl⟩ := H
     obtain ⟨Ao63, co63, eo63⟩ := Kd.R_slice HO_8.out
     subst eo63
     have p289 : 0 ≤ (0 : Int) := (by omega)
     have q289 : 0 < (x8_1.length : Int) := of_decide_eq_true (by first | (with_reducible assumption) | assumption)
     obtain ⟨ad289, e289, hx289_0, hx289_1⟩ := at_T26 (Kd.R_reads' HO_8.out).2.2 0 p289 q289
     cases e289
     have qi289 : (0 < x8_1.length) = True := eq_true (by omega)
     (try rw [show ((0 : Int)).toNat = 0 from rfl] at hx289_0)
     (try rw [show 0 * 2 = 0 from rfl] at hx289_0)
     (try rw [Addr.add_zero'] at hx289_0)
     (try rw [show ((0 : Int)).toNat = 0 from rfl] at hx289_1)
     (try rw [show 0 * 2 = 0 from rfl] at hx289_1)
     (try rw [Addr.add_zero'] at hx289_1)
     replace p289 := eq_true p289
     replace q289 := eq_true q289
     have hnb64 := NB283_288.out
     have hnc64 := NB288_283.out
     have hcz65_0 := Slim.bc BK283.out 0 rfl
     have hcz65_1 := Slim.bc BK283.out 1 rfl
     have hfz65_0 := blk_frozen BK283.out 0
     have hfz65_1 := blk_frozen BK283.out 1
     go_wp2
     refine bodyPost_ret (results_cell_row rfl _ _ gb283 26 #[.int .u64 ((rd_T26 x8_1 0).f0), .int .u64 ((rd_T26 x8_1 0).f1)] (0, 0) _ rfl (by (with_reducible repeat (first | refine blk_drewN ?_ _ | refine blk_drew ?_ | refine blk_alloc ?_ _)); refine blk_put (cs := #[.int .u64 ((rd_T26 x8_1 0).f0), .int .u64 x284001_1]) ?_ 1 _ rfl; (with_reducible repeat (first | refine blk_drewN ?_ _ | refine blk_drew ?_ | refine blk_alloc ?_ _)); refine blk_put (cs := #[.int .u64 x284000_1, .int .u64 x284001_1]) ?_ 0 _ rfl; (with_reducible repeat (first | refine blk_drewN ?_ _ | refine blk_drew ?_ | refine blk_alloc ?_ _)); exact BK283.out) Try.underlying26 rfl (by kernel_rfl)) rfl ?_
     exact ⟨Slim.vE, Slim.vB⟩
    ·rw [if_neg c62] at H
     exact absurd H (by simp)
end Go.Proofs.Ytimoiblediffpaa.QFnExactSpanOf
end
section
namespace Go.Proofs.Ytimoiblediffpaa.QFnExactSpanOf
open Go.RowKit Go.Proofs.YtimoiblediffpaaW.PrintWords Go.Proofs.YtimoiblediffpaaW.PrintLast Go.Proofs.YtimoiblediffpaaW.PrintMore
attribute [local go_sem] max2_int min2_int max_two min_two
set_option linter.unusedVariables false
set_option linter.unusedSimpArgs false
def impl_SpanOf.f (k : Nat) (a0 : Int) (l1 : List (S161)) (l2 : List (S26)) : Option (Int × Int × Bool) := (impl_areSpans.f k a0 l2).bind fun t316 => (if t316 = true then ((impl_GoodTerm.f k a0 (l2.length : Int) l1).bind fun t317 => (if t317 = true then ((impl_spanOf.f k a0 l1 l2).bind fun bt318 => (some (bt318.1, bt318.2, true))) else (some (0, 0, false)))) else (some (0, 0, false)))
set_option maxHeartbeats 8000000 in
set_option maxRecDepth 100000 in
theorem impl_SpanOf.calls (k : Nat) (a0 : Int) (A1 : Option Addr) (c1 : Nat) (l1 : List (S161)) (A2 : Option Addr) (c2 : Nat) (l2 : List (S26)) (r1 : Int) (r2 : Int) (r3 : Bool) (w : World) (hr1 : Kd.C k161 w A1 l1.length l1) (hc1 : l1.length ≤ c1) (hr2 : Kd.C k26 w A2 l2.length l2) (hc2 : l2.length ≤ c2) (h : impl_SpanOf.f k a0 l1 l2 = some (r1, r2, r3)) :
  Calls Try.prog 74 #[.int .i64 a0, .slice A1 l1.length c1, .slice A2 l2.length c2] w fun e w' => e = .returned (.tuple #[.agg #[.int .u64 r1, .int .u64 r2], .bool r3]) ∧ Below w.heap.size w w' := by
 have hu26 := Try.underlying26
 have HR1 := Aside0.mk hr1
 have HC1 := Aside0.mk hc1
 clear hr1 hc1
 have HR2 := Aside0.mk hr2
 have HC2 := Aside0.mk hc2
 clear hr2 hc2
 have HB := Aside0.mk (Below.refl w.heap.size w)
 have H : ((impl_areSpans.f k a0 l2).bind fun t316 => (if t316 = true then ((impl_GoodTerm.f k a0 (l2.length : Int) l1).bind fun t317 => (if t317 = true then ((impl_spanOf.f k a0 l1 l2).bind fun bt318 => (some (bt318.1, bt318.2, true))) else (some (0, 0, false)))) else (some (0, 0, false)))) = some (r1, r2, r3) := h
 clear h
 replace H := Option.bind_eq_some_iff.mp H
 obtain ⟨t316, A40, H⟩ := H
 replace H : (if t316 = true then ((impl_GoodTerm.f k a0 (l2.length : Int) l1).bind fun t317 => (if t317 = true then ((impl_spanOf.f k a0 l1 l2).bind fun bt318 => (some (bt318.1, bt318.2, true))) else (some (0, 0, false)))) else (some (0, 0, false))) = some (r1, r2, r3) := H
 have A4 := Aside0.mk A40
 clear A40
 by_cases c5 : t316 = true
 ·subst c5
  have H1 : ((impl_GoodTerm.f k a0 (l2.length : Int) l1).bind fun t317 => (if t317 = true then ((impl_spanOf.f k a0 l1 l2).bind fun bt318 => (some (bt318.1, bt318.2, true))) else (some (0, 0, false)))) = some (r1, r2, r3) := by rw [if_pos rfl] at H; exact H
  clear H
  have H := H1
  clear H1
  replace H := Option.bind_eq_some_iff.mp H
  obtain ⟨t317, A60, H⟩ := H
  replace H : (if t317 = true then ((impl_spanOf.f k a0 l1 l2).bind fun bt318 => (some (bt318.1, bt318.2, true))) else (some (0, 0, false))) = some (r1, r2, r3) := H
  have A6 := Aside0.mk A60
  clear A60
  by_cases c7 : t317 = true
  ·subst c7
   have H1 : ((impl_spanOf.f k a0 l1 l2).bind fun bt318 => (some (bt318.1, bt318.2, true))) = some (r1, r2, r3) := by rw [if_pos rfl] at H; exact H
   clear H
   have H := H1
   clear H1
   replace H := Option.bind_eq_some_iff.mp H
   obtain ⟨⟨t318, t319⟩, A80, H⟩ := H
   replace H : (some (t318, t319, true)) = some (r1, r2, r3) := H
   have A8 := Aside0.mk A80
   clear A80
   simp only [Option.some.injEq, Prod.mk.injEq] at H
   obtain ⟨rfl, rfl, rfl⟩ := H
   go_enter Try.func74, Try.ntmps74
   go_wp2_with (first | ((with_reducible refine gate_dst (N := 6) rfl ?_); (try (refine gate_guard (by rfl) ?_; dsimp only)); refine Slim.boxE 6 (#[.int .u64 0, .int .u64 0]) 26 ?_; intro gb315 hg w9 hbox hb; have GW315 := Aside0.mk (Slim.vS : w.heap.size ≤ gb315); have GE315 := GW315; replace HB := Aside0.mk (below_step Slim.vB hb); have BK315 := Aside0.mk hbox; clear hb hbox hg) | ((with_reducible refine gate_callee (f := 96) rfl ?_); refine goesL_ (some 10) rfl rfl Try.func96 (by kernel_rfl) rfl #[.int .i64 a0, .slice A2 l2.length c2] rfl Slim.vA ?_; (with_reducible refine (impl_areSpans.calls k a0 _ _ l2 true _ ?side1 ?side2 A4.out).mono ?_); (case side1 => repeat (first | exact (Kd.C_below HR2.out HB.out) | (with_reducible refine Kd.C_alloc ?_ _) | (with_reducible refine Kd.C_drewN ?_ _) | (with_reducible refine Kd.C_drew ?_))); (case side2 => exact HC2.out); rintro e w10 ⟨rfl, hb⟩; refine ⟨_, rfl, ?_⟩; replace BK315 := Aside0.mk (Slim.bB BK315.out hb); replace HB := Aside0.mk (below_step Slim.vB hb); (try clear hb); (try clear hb2); (try clear hk); (try clear hi)) | (go_at_call 142; (with_reducible refine (impl_GoodTerm.calls k a0 (l2.length : Int) _ _ l1 true _ ?side1 ?side2 A6.out).mono ?_); (case side1 => repeat (first | exact (Kd.C_below HR1.out HB.out) | (with_reducible refine Kd.C_alloc ?_ _) | (with_reducible refine Kd.C_drewN ?_ _) | (with_reducible refine Kd.C_drew ?_))); (case side2 => exact HC1.out); rintro e w11 ⟨rfl, hb⟩; replace BK315 := Aside0.mk (Slim.bB BK315.out hb); replace HB := Aside0.mk (below_step Slim.vB hb); (try clear hb); (try clear hb2); (try clear hk); (try clear hi)) | ((with_reducible refine gate_callee (f := 143) rfl ?_); refine goesL_ (some 24) rfl rfl Try.func143 (by kernel_rfl) rfl #[.int .i64 a0, .slice A1 l1.length c1, .slice A2 l2.length c2] rfl Slim.vA ?_; (with_reducible refine (impl_spanOf.calls k a0 _ _ l1 _ _ l2 t318 t319 _ ?side1 ?side2 ?side3 ?side4 A8.out).mono ?_); (case side1 => repeat (first | exact (Kd.C_below HR1.out HB.out) | (with_reducible refine Kd.C_alloc ?_ _) | (with_reducible refine Kd.C_drewN ?_ _) | (with_reducible refine Kd.C_drew ?_))); (case side2 => exact HC1.out); (case side3 => repeat (first | exact (Kd.C_below HR2.out HB.out) | (with_reducible refine Kd.C_alloc ?_ _) | (with_reducible refine Kd.C_drewN ?_ _) | (with_reducible refine Kd.C_drew ?_))); (case side4 => exact HC2.out); rintro e w12 ⟨rfl, hb⟩; refine ⟨_, rfl, ?_⟩; replace BK315 := Aside0.mk (Slim.bB BK315.out hb); replace HB := Aside0.mk (below_step Slim.vB hb); (try clear hb); (try clear hb2); (try clear hk); (try clear hi); have hcz13_0 := Slim.bc BK315.out 0 rfl; have hcz13_1 := Slim.bc BK315.out 1 rfl; have hfz13_0 := blk_frozen BK315.out 0; have hfz13_1 := blk_frozen BK315.out 1))
   refine bodyPost_ret (results_ct rfl _ _ gb315 26 #[.int .u64 t318, .int .u64 t319] (0, 0) _ rfl (by (with_reducible repeat (first | refine blk_drewN ?_ _ | refine blk_drew ?_ | refine blk_alloc ?_ _)); refine blk_put (cs := #[.int .u64 t318, .int .u64 0]) ?_ 1 _ rfl; (with_reducible repeat (first | refine blk_drewN ?_ _ | refine blk_drew ?_ | refine blk_alloc ?_ _)); refine blk_put (cs := #[.int .u64 0, .int .u64 0]) ?_ 0 _ rfl; (with_reducible repeat (first | refine blk_drewN ?_ _ | refine blk_drew ?_ | refine blk_alloc ?_ _)); exact BK315.out) Try.underlying26 rfl (by kernel_rfl)) rfl ?_
   exact ⟨Slim.vE, Slim.vB⟩
  ·replace c7 := Bool.eq_false_iff.mpr c7
   subst c7
   have H1 : (some (0, 0, false)) = some (r1, r2, r3) := by rw [if_neg (show ¬ (false = true) by decide)] at H; exact H
   clear H
   have H := H1
   clear H1
   simp only [Option.some.injEq, Prod.mk.injEq] at H
   obtain ⟨rfl, rfl, rfl⟩ := H
   go_enter Try.func74, Try.ntmps74
   go_wp2_with (first | ((with_reducible refine gate_dst (N := 6) rfl ?_); (try (refine gate_guard (by rfl) ?_; dsimp only)); refine Slim.boxE 6 (#[.int .u64 0, .int .u64 0]) 26 ?_; intro gb315 hg w14 hbox hb; have GW315 := Aside0.mk (Slim.vS : w.heap.size ≤ gb315); have GE315 := GW315; replace HB := Aside0.mk (below_step Slim.vB hb); have BK315 := Aside0.mk hbox; clear hb hbox hg) | ((with_reducible refine gate_callee (f := 96) rfl ?_); refine goesL_ (some 10) rfl rfl Try.func96 (by kernel_rfl) rfl #[.int .i64 a0, .slice A2 l2.length c2] rfl Slim.vA ?_; (with_reducible refine (impl_areSpans.calls k a0 _ _ l2 true _ ?side1 ?side2 A4.out).mono ?_); (case side1 => repeat (first | exact (Kd.C_below HR2.out HB.out) | (with_reducible refine Kd.C_alloc ?_ _) | (with_reducible refine Kd.C_drewN ?_ _) | (with_reducible refine Kd.C_drew ?_))); (case side2 => exact HC2.out); rintro e w15 ⟨rfl, hb⟩; refine ⟨_, rfl, ?_⟩; replace BK315 := Aside0.mk (Slim.bB BK315.out hb); replace HB := Aside0.mk (below_step Slim.vB hb); (try clear hb); (try clear hb2); (try clear hk); (try clear hi)) | (go_at_call 142; (with_reducible refine (impl_GoodTerm.calls k a0 (l2.length : Int) _ _ l1 false _ ?side1 ?side2 A6.out).mono ?_); (case side1 => repeat (first | exact (Kd.C_below HR1.out HB.out) | (with_reducible refine Kd.C_alloc ?_ _) | (with_reducible refine Kd.C_drewN ?_ _) | (with_reducible refine Kd.C_drew ?_))); (case side2 => exact HC1.out); rintro e w16 ⟨rfl, hb⟩; replace BK315 := Aside0.mk (Slim.bB BK315.out hb); replace HB := Aside0.mk (below_step Slim.vB hb); (try clear hb); (try clear hb2); (try clear hk); (try clear hi); have hcz17_0 := Slim.bc BK315.out 0 rfl; have hcz17_1 := Slim.bc BK315.out 1 rfl; have hfz17_0 := blk_frozen BK315.out 0; have hfz17_1 := blk_frozen BK315.out 1))
   refine bodyPost_ret (results_ct rfl _ _ gb315 26 #[.int .u64 0, .int .u64 0] (0, 0) _ rfl (by (with_reducible repeat (first | refine blk_drewN ?_ _ | refine blk_drew ?_ | refine blk_alloc ?_ _)); refine blk_put (cs := #[.int .u64 0, .int .u64 0]) ?_ 1 _ rfl; (with_reducible repeat (first | refine blk_drewN ?_ _ | refine blk_drew ?_ | refine blk_alloc ?_ _)); refine blk_put (cs := #[.int .u64 0, .int .u64 0]) ?_ 0 _ rfl; (with_reducible repeat (first | refine blk_drewN ?_ _ | refine blk_drew ?_ | refine blk_alloc ?_ _)); exact BK315.out) Try.underlying26 rfl (by kernel_rfl)) rfl ?_
   exact ⟨Slim.vE, Slim.vB⟩
 ·replace c5 := Bool.eq_false_iff.mpr c5
  subst c5
  have H1 : (some (0, 0, false)) = some (r1, r2, r3) := by rw [if_neg (show ¬ (false = true) by decide)] at H; exact H
  clear H
  have H := H1
  clear H1
  simp only [Option.some.injEq, Prod.mk.injEq] at H
  obtain ⟨rfl, rfl, rfl⟩ := H
  go_enter Try.func74, Try.ntmps74
  go_wp2_with (first | ((with_reducible refine gate_dst (N := 6) rfl ?_); (try (refine gate_guard (by rfl) ?_; dsimp only)); refine Slim.boxE 6 (#[.int .u64 0, .int .u64 0]) 26 ?_; intro gb315 hg w18 hbox hb; have GW315 := Aside0.mk (Slim.vS : w.heap.size ≤ gb315); have GE315 := GW315; replace HB := Aside0.mk (below_step Slim.vB hb); have BK315 := Aside0.mk hbox; clear hb hbox hg) | ((with_reducible refine gate_callee (f := 96) rfl ?_); refine goesL_ (some 10) rfl rfl Try.func96 (by kernel_rfl) rfl #[.int .i64 a0, .slice A2 l2.length c2] rfl Slim.vA ?_; (with_reducible refine (impl_areSpans.calls k a0 _ _ l2 false _ ?side1 ?side2 A4.out).mono ?_); (case side1 => repeat (first | exact (Kd.C_below HR2.out HB.out) | (with_reducible refine Kd.C_alloc ?_ _) | (with_reducible refine Kd.C_drewN ?_ _) | (with_reducible refine Kd.C_drew ?_))); (case side2 => exact HC2.out); rintro e w19 ⟨rfl, hb⟩; refine ⟨_, rfl, ?_⟩; replace BK315 := Aside0.mk (Slim.bB BK315.out hb); replace HB := Aside0.mk (below_step Slim.vB hb); (try clear hb); (try clear hb2); (try clear hk); (try clear hi); have hcz20_0 := Slim.bc BK315.out 0 rfl; have hcz20_1 := Slim.bc BK315.out 1 rfl; have hfz20_0 := blk_frozen BK315.out 0; have hfz20_1 := blk_frozen BK315.out 1))
  refine bodyPost_ret (results_ct rfl _ _ gb315 26 #[.int .u64 0, .int .u64 0] (0, 0) _ rfl (by (with_reducible repeat (first | refine blk_drewN ?_ _ | refine blk_drew ?_ | refine blk_alloc ?_ _)); refine blk_put (cs := #[.int .u64 0, .int .u64 0]) ?_ 1 _ rfl; (with_reducible repeat (first | refine blk_drewN ?_ _ | refine blk_drew ?_ | refine blk_alloc ?_ _)); refine blk_put (cs := #[.int .u64 0, .int .u64 0]) ?_ 0 _ rfl; (with_reducible repeat (first | refine blk_drewN ?_ _ | refine blk_drew ?_ | refine blk_alloc ?_ _)); exact BK315.out) Try.underlying26 rfl (by kernel_rfl)) rfl ?_
  exact ⟨Slim.vE, Slim.vB⟩
def laws_eqNode.f (a0_0 : Int) (a0_1 : Int) (a1_0 : Int) (a1_1 : Int) : Option (Bool) := if a0_0 = a1_0 then (if a0_1 = a1_1 then (some true) else (some false)) else (some false)
set_option maxHeartbeats 8000000 in
set_option maxRecDepth 100000 in
theorem laws_eqNode.calls (a0_0 : Int) (a0_1 : Int) (a1_0 : Int) (a1_1 : Int) (r : Bool) (w : World) (h : laws_eqNode.f a0_0 a0_1 a1_0 a1_1 = some r) :
  Calls Try.prog 144 #[.agg #[.int .i64 a0_0, .int .u64 a0_1], .agg #[.int .i64 a1_0, .int .u64 a1_1]] w fun e w' => e = .returned (.bool r) ∧ Below w.heap.size w w' := by
 have hu161 := Try.underlying161
 have HB := Aside0.mk (Below.refl w.heap.size w)
 have H : (if a0_0 = a1_0 then (if a0_1 = a1_1 then (some true) else (some false)) else (some false)) = some r := h
 clear h
 by_cases c3 : a0_0 = a1_0
 ·rw [if_pos c3] at H
  have c3b0 : (a0_0 == a1_0) = true := beq_iff_eq.mpr c3
  have c3b1 : (a0_0 != a1_0) = false := bne_eq_false_iff_eq.mpr c3
  clear c3
  by_cases c4 : a0_1 = a1_1
  ·rw [if_pos c4] at H
   have c4b0 : (a0_1 == a1_1) = true := beq_iff_eq.mpr c4
   have c4b1 : (a0_1 != a1_1) = false := bne_eq_false_iff_eq.mpr c4
   clear c4
   obtain rfl := Option.some.inj H
   go_enter Try.func144, Try.ntmps144
   go_wp2_with (first | ((with_reducible refine gate_dst (N := 2) rfl ?_); refine Slim.boxE 2 (#[.int .i64 a0_0, .int .u64 a0_1]) 161 ?_; intro gb320 hg w5 hbox hb; have GW320 := Aside0.mk (Slim.vS : w.heap.size ≤ gb320); have GE320 := GW320; replace HB := Aside0.mk (below_step Slim.vB hb); have BK320 := Aside0.mk hbox; clear hb hbox hg) | ((with_reducible refine gate_dst (N := 3) rfl ?_); refine Slim.boxE 3 (#[.int .i64 a1_0, .int .u64 a1_1]) 161 ?_; intro gb321 hg w6 hbox hb; have GW321 := Aside0.mk (Slim.vS : w.heap.size ≤ gb321); have GE321 := GW321; have NB320_321 := Aside0.mk (Slim.nL hg BK320.out : gb320 ≠ gb321); have NB321_320 := Aside0.mk (Slim.nG hg BK320.out : gb321 ≠ gb320); replace BK320 := Aside0.mk (Slim.bB BK320.out hb); replace HB := Aside0.mk (below_step Slim.vB hb); have BK321 := Aside0.mk hbox; clear hb hbox hg; have hnb7 := NB320_321.out; have hnc7 := NB321_320.out; have hcz8_0 := Slim.bc BK320.out 0 rfl; have hcz8_1 := Slim.bc BK320.out 1 rfl; have hfz8_0 := blk_frozen BK320.out 0; have hfz8_1 := blk_frozen BK320.out 1; have hcz9_0 := Slim.bc BK321.out 0 rfl; have hcz9_1 := Slim.bc BK321.out 1 rfl; have hfz9_0 := blk_frozen BK321.out 0; have hfz9_1 := blk_frozen BK321.out 1))
   go_ret
   exact ⟨Slim.vE, Slim.vB⟩
  ·rw [if_neg c4] at H
   have c4b0 : (a0_1 == a1_1) = false := beq_eq_false_iff_ne.mpr c4
   have c4b1 : (a0_1 != a1_1) = true := bne_iff_ne.mpr c4
   obtain rfl := Option.some.inj H
   go_enter Try.func144, Try.ntmps144
   go_wp2_with (first | ((with_reducible refine gate_dst (N := 2) rfl ?_); refine Slim.boxE 2 (#[.int .i64 a0_0, .int .u64 a0_1]) 161 ?_; intro gb320 hg w10 hbox hb; have GW320 := Aside0.mk (Slim.vS : w.heap.size ≤ gb320); have GE320 := GW320; replace HB := Aside0.mk (below_step Slim.vB hb); have BK320 := Aside0.mk hbox; clear hb hbox hg) | ((with_reducible refine gate_dst (N := 3) rfl ?_); refine Slim.boxE 3 (#[.int .i64 a1_0, .int .u64 a1_1]) 161 ?_; intro gb321 hg w11 hbox hb; have GW321 := Aside0.mk (Slim.vS : w.heap.size ≤ gb321); have GE321 := GW321; have NB320_321 := Aside0.mk (Slim.nL hg BK320.out : gb320 ≠ gb321); have NB321_320 := Aside0.mk (Slim.nG hg BK320.out : gb321 ≠ gb320); replace BK320 := Aside0.mk (Slim.bB BK320.out hb); replace HB := Aside0.mk (below_step Slim.vB hb); have BK321 := Aside0.mk hbox; clear hb hbox hg; have hnb12 := NB320_321.out; have hnc12 := NB321_320.out; have hcz13_0 := Slim.bc BK320.out 0 rfl; have hcz13_1 := Slim.bc BK320.out 1 rfl; have hfz13_0 := blk_frozen BK320.out 0; have hfz13_1 := blk_frozen BK320.out 1; have hcz14_0 := Slim.bc BK321.out 0 rfl; have hcz14_1 := Slim.bc BK321.out 1 rfl; have hfz14_0 := blk_frozen BK321.out 0; have hfz14_1 := blk_frozen BK321.out 1))
   go_ret
   exact ⟨Slim.vE, Slim.vB⟩
 ·rw [if_neg c3] at H
  have c3b0 : (a0_0 == a1_0) = false := beq_eq_false_iff_ne.mpr c3
  have c3b1 : (a0_0 != a1_0) = true := bne_iff_ne.mpr c3
  obtain rfl := Option.some.inj H
  go_enter Try.func144, Try.ntmps144
  go_wp2_with (first | ((with_reducible refine gate_dst (N := 2) rfl ?_); refine Slim.boxE 2 (#[.int .i64 a0_0, .int .u64 a0_1]) 161 ?_; intro gb320 hg w15 hbox hb; have GW320 := Aside0.mk (Slim.vS : w.heap.size ≤ gb320); have GE320 := GW320; replace HB := Aside0.mk (below_step Slim.vB hb); have BK320 := Aside0.mk hbox; clear hb hbox hg) | ((with_reducible refine gate_dst (N := 3) rfl ?_); refine Slim.boxE 3 (#[.int .i64 a1_0, .int .u64 a1_1]) 161 ?_; intro gb321 hg w16 hbox hb; have GW321 := Aside0.mk (Slim.vS : w.heap.size ≤ gb321); have GE321 := GW321; have NB320_321 := Aside0.mk (Slim.nL hg BK320.out : gb320 ≠ gb321); have NB321_320 := Aside0.mk (Slim.nG hg BK320.out : gb321 ≠ gb320); replace BK320 := Aside0.mk (Slim.bB BK320.out hb); replace HB := Aside0.mk (below_step Slim.vB hb); have BK321 := Aside0.mk hbox; clear hb hbox hg; have hnb17 := NB320_321.out; have hnc17 := NB321_320.out; have hcz18_0 := Slim.bc BK320.out 0 rfl; have hcz18_1 := Slim.bc BK320.out 1 rfl; have hfz18_0 := blk_frozen BK320.out 0; have hfz18_1 := blk_frozen BK320.out 1; have hcz19_0 := Slim.bc BK321.out 0 rfl; have hcz19_1 := Slim.bc BK321.out 1 rfl; have hfz19_0 := blk_frozen BK321.out 0; have hfz19_1 := blk_frozen BK321.out 1))
  go_ret
  exact ⟨Slim.vE, Slim.vB⟩
def laws_eqNodeS.l0 : Nat → List (S161) → List (S161) → Int → Option (Bool)
 | 0, _, _, _ => none
 | k + 1, x0, x1, x5 => if x5 < (x0.length : Int) then (if 0 ≤ x5 then (if x5 < (x1.length : Int) then ((laws_eqNode.f ((rd_T161 x0 x5).f0) ((rd_T161 x0 x5).f1) ((rd_T161 x1 x5).f0) ((rd_T161 x1 x5).f1)).bind fun t324 => (if t324 = true then (laws_eqNodeS.l0 k x0 x1 (wrap64 (x5 + 1))) else (some false))) else (none)) else (none)) else (some true)
def laws_eqNodeS.f (k : Nat) (l0 : List (S161)) (l1 : List (S161)) : Option (Bool) := if (l0.length : Int) = (l1.length : Int) then (laws_eqNodeS.l0 k l0 l1 0) else (some false)
def laws_eqNodeS.T6 : Bool × List (List Nat × List Nat) := (true, [([], []), ([], []), ([0, 1], [0, 1]), ([2], [2]), ([], []), ([], []), ([4, 5], [4, 5]), ([6], [6]), ([3, 7], [3, 7]), ([8], [8])])
def laws_eqNodeS.B6 : List Nat := [0, 0, 3, 7, 0, 0, 48, 112, 255, 511]
theorem laws_eqNodeS.tab6 : rtab .any (opsOf Try.f75 6) = laws_eqNodeS.T6 := by kernel_rfl
theorem laws_eqNodeS.bits6 : waitsOk laws_eqNodeS.T6.2 laws_eqNodeS.B6 = true := by kernel_rfl
set_option maxHeartbeats 8000000 in
set_option maxRecDepth 100000 in
theorem laws_eqNodeS.calls (k : Nat) (A0 : Option Addr) (c0 : Nat) (l0 : List (S161)) (A1 : Option Addr) (c1 : Nat) (l1 : List (S161)) (r : Bool) (w : World) (hr0 : Kd.C k161 w A0 l0.length l0) (hc0 : l0.length ≤ c0) (hr1 : Kd.C k161 w A1 l1.length l1) (hc1 : l1.length ≤ c1) (h : laws_eqNodeS.f k l0 l1 = some r) :
  Calls Try.prog 75 #[.slice A0 l0.length c0, .slice A1 l1.length c1] w fun e w' => e = .returned (.bool r) ∧ Below w.heap.size w w' := by
 have hu161 := Try.underlying161
 have HR0 := Aside0.mk hr0
 have HC0 := Aside0.mk hc0
 clear hr0 hc0
 have HR1 := Aside0.mk hr1
 have HC1 := Aside0.mk hc1
 clear hr1 hc1
 have HB := Aside0.mk (Below.refl w.heap.size w)
 have H : (if (l0.length : Int) = (l1.length : Int) then (laws_eqNodeS.l0 k l0 l1 0) else (some false)) = some r := h
 clear h
 by_cases c3 : (l0.length : Int) = (l1.length : Int)
 ·rw [if_pos c3] at H
  have c3b0 : ((l0.length : Int) == (l1.length : Int)) = true := beq_iff_eq.mpr c3
  have c3b1 : ((l0.length : Int) != (l1.length : Int)) = false := bne_eq_false_iff_eq.mpr c3
  have c3b2 : (l0.length == l1.length) = true := by first | simpa using c3 | (simp at c3 ⊢; omega)
  clear c3
  have H' := Aside0.mk H
  clear H
  go_enter Try.func75, Try.ntmps75
  go_wp2
  go_loopg [5] k (fun kq v5 w' => ∃ (x5_1 : Int), v5 = .int .i64 x5_1 ∧ Aside0 (laws_eqNodeS.l0 kq l0 l1 x5_1 = some r) ∧ Aside0 (kq ≤ k) ∧ Aside0 (Below w.heap.size w w'))
  case atStart => exact ⟨(0), (by first | rfl | (simp; done) | (simp [*]; done)), H', ⟨Nat.le_refl _⟩, ⟨Slim.vB⟩⟩
  case round =>
   clear H'
   try clear c1
   try clear p2
   try clear c3
   try clear c3b0
   try clear c3b1
   try clear c3b2
   obtain ⟨x5_1, rfl, HA, HK1, HB⟩ := hrel
   cases gk with
   | zero => exact absurd HA.out (by simp [laws_eqNodeS.l0])
   | succ k1 =>
    have H := HA.out
    clear HA
    simp only [laws_eqNodeS.l0] at H
    by_cases c4 : x5_1 < (l0.length : Int)
    ·rw [if_pos c4] at H
     have c4b0 : decide (x5_1 < (l0.length : Int)) = true := decide_eq_true c4
     clear c4
     by_cases c5 : 0 ≤ x5_1
     ·rw [if_pos c5] at H
      have c5b0 : decide (0 ≤ x5_1) = true := decide_eq_true c5
      clear c5
      by_cases c6 : x5_1 < (l1.length : Int)
      ·rw [if_pos c6] at H
       have c6b0 : decide (x5_1 < (l1.length : Int)) = true := decide_eq_true c6
       clear c6
       replace H := Option.bind_eq_some_iff.mp H
       obtain ⟨t324, A70, H⟩ := H
       replace H : (if t324 = true then (laws_eqNodeS.l0 k1 l0 l1 (wrap64 (x5_1 + 1))) else (some false)) = some r := H
       have A7 := Aside0.mk A70
       clear A70
       by_cases c8 : t324 = true
       ·subst c8
        have H1 : (laws_eqNodeS.l0 k1 l0 l1 (wrap64 (x5_1 + 1))) = some r := by rw [if_pos rfl] at H; exact H
        clear H
        have H := H1
        clear H1
        have H' := Aside0.mk H
        clear H
        try go_wp2
        have n0_ := Aside0.mk (below_drew1 HB.out)
        clear HB
        have HB := n0_
        clear n0_
        have p322 : 0 ≤ (x5_1 : Int) := of_decide_eq_true (by first | (with_reducible assumption) | assumption)
        have q322 : x5_1 < (l0.length : Int) := of_decide_eq_true (by first | (with_reducible assumption) | assumption)
        obtain ⟨ad322, e322, hx322_0, hx322_1⟩ := at_T161 HR0.out x5_1 p322 q322
        have hw322_1 := hx322_1
        have hw322_0 := hx322_0
        cases e322
        replace hx322_0 := (HB.out.cell (World.block_lt_of_cell? w _ hx322_0)).trans hx322_0
        replace hx322_1 := (HB.out.cell (World.block_lt_of_cell? w _ hx322_1)).trans hx322_1
        replace p322 := eq_true p322
        replace q322 := eq_true q322
        have p323 : 0 ≤ (x5_1 : Int) := of_decide_eq_true (by first | (with_reducible assumption) | assumption)
        have q323 : x5_1 < (l1.length : Int) := of_decide_eq_true (by first | (with_reducible assumption) | assumption)
        obtain ⟨ad323, e323, hx323_0, hx323_1⟩ := at_T161 HR1.out x5_1 p323 q323
        have hw323_1 := hx323_1
        have hw323_0 := hx323_0
        cases e323
        replace hx323_0 := (HB.out.cell (World.block_lt_of_cell? w _ hx323_0)).trans hx323_0
        replace hx323_1 := (HB.out.cell (World.block_lt_of_cell? w _ hx323_1)).trans hx323_1
        replace p323 := eq_true p323
        replace q323 := eq_true q323
        refine start_ (n := 10) (S := fun w' => w'.cell? (ad322.add ((x5_1).toNat * 2)) = some (.int .i64 ((rd_T161 l0 x5_1).f0)) ∧ w'.cell? ⟨(ad322.add ((x5_1).toNat * 2)).block, (ad322.add ((x5_1).toNat * 2)).off + 1, none⟩ = some (.int .u64 ((rd_T161 l0 x5_1).f1)) ∧ w'.cell? (ad323.add ((x5_1).toNat * 2)) = some (.int .i64 ((rd_T161 l1 x5_1).f0)) ∧ w'.cell? ⟨(ad323.add ((x5_1).toNat * 2)).block, (ad323.add ((x5_1).toNat * 2)).off + 1, none⟩ = some (.int .u64 ((rd_T161 l1 x5_1).f1))) (ds := []) (Slim.ba 10 0) (by kernel_rfl) rfl rfl ⟨((HB.out.cell (World.block_lt_of_cell? w _ hw322_0)).trans hw322_0), ((HB.out.cell (World.block_lt_of_cell? w _ hw322_1)).trans hw322_1), ((HB.out.cell (World.block_lt_of_cell? w _ hw323_0)).trans hw323_0), ((HB.out.cell (World.block_lt_of_cell? w _ hw323_1)).trans hw323_1)⟩ (fun hHeld => ?_); refine with_tabW laws_eqNodeS.tab6 laws_eqNodeS.bits6 (fun HT_ HW_ => ?_)
        generalize wr.drew = w9 at HB hx322_0 hx322_1 hx323_0 hx323_1 hHeld ⊢
        refine Slim.pure1 HT_ 0 (some 17) (Slim.ba 10 1) rfl ?_
        refine Slim.pure1 HT_ 1 (some 18) (Slim.ba 10 3) rfl ?_
        refine Slim.pure1 HT_ 2 (some 19) (Slim.ba 10 7) rfl ?_
        refine Slim.pure1 HT_ 4 (some 21) (Slim.ba 10 23) rfl ?_
        refine Slim.pure1 HT_ 5 (some 22) (Slim.ba 10 55) rfl ?_
        refine Slim.pure1 HT_ 6 (some 23) (Slim.ba 10 119) rfl ?_
        refine Slim.take1 HT_ HW_ hHeld 3 (some 20) (Slim.ba 10 127) rfl (by rintro w' ⟨s0, s1, s2, s3⟩; go_simp; with_reducible rfl) ?_
        refine Slim.take1 HT_ HW_ hHeld 7 (some 24) (Slim.ba 10 255) rfl (by rintro w' ⟨s0, s1, s2, s3⟩; go_simp; with_reducible rfl) ?_
        refine one_ (i := 8) (N := some 25) (Slim.ba 10 511) rfl rfl (one_of HT_.out (by kernel_rfl)) (by decide) (fun K hK => ?_)
        refine goes_ Try.func144 (by kernel_rfl) rfl #[.agg #[.int .i64 ((rd_T161 l0 x5_1).f0), .int .u64 ((rd_T161 l0 x5_1).f1)], .agg #[.int .i64 ((rd_T161 l1 x5_1).f0), .int .u64 ((rd_T161 l1 x5_1).f1)]] (by rfl) rfl rfl Slim.vA ?_
        with_reducible refine (laws_eqNode.calls ((rd_T161 l0 x5_1).f0) ((rd_T161 l0 x5_1).f1) ((rd_T161 l1 x5_1).f0) ((rd_T161 l1 x5_1).f1) true _ A7.out).mono ?_
        rintro e w10 ⟨rfl, hb⟩
        refine ⟨_, rfl, ?_⟩
        have n0_ := Aside0.mk (below_step Slim.vB hb)
        clear HB
        have HB := n0_
        clear n0_
        (try clear hb)
        (try clear hb2)
        (try clear hk)
        (try clear hi)
        refine hK.out _ _ ⟨((HB.out.cell (World.block_lt_of_cell? w _ hw322_0)).trans hw322_0), ((HB.out.cell (World.block_lt_of_cell? w _ hw322_1)).trans hw322_1), ((HB.out.cell (World.block_lt_of_cell? w _ hw323_0)).trans hw323_0), ((HB.out.cell (World.block_lt_of_cell? w _ hw323_1)).trans hw323_1)⟩ (fun hHeld => ?_)
        clear hK K
        refine norm_ (a' := ?_) ?_ ?_
        rotate_left
        ·show Act.put _ (some 25) _ = _
         simp only [Act.put, List.setIfInBounds_toArray, List.set_cons_zero, List.set_cons_succ, i64_w, i32_w]
         rfl
        refine Slim.pure1 HT_ 9 (some 26) (Slim.ba 10 1023) rfl ?_
        refine done_ (done_of HT_.out (by kernel_rfl)) ?_
        try go_wp2
        go_roundg k1
        case measure => have := HK1.out; omega
        case rel => exact ⟨(wrap64 (x5_1 + 1)), (by first | rfl | (simp; done) | (simp [*]; done)), H', ⟨by have := HK1.out; omega⟩, ⟨Slim.vB⟩⟩
       ·replace c8 := Bool.eq_false_iff.mpr c8
        subst c8
        have H1 : (some false) = some r := by rw [if_neg (show ¬ (false = true) by decide)] at H; exact H
        clear H
        have H := H1
        clear H1
        obtain rfl := Option.some.inj H
        try go_wp2
        have n0_ := Aside0.mk (below_drew1 HB.out)
        clear HB
        have HB := n0_
        clear n0_
        have p322 : 0 ≤ (x5_1 : Int) := of_decide_eq_true (by first | (with_reducible assumption) | assumption)
        have q322 : x5_1 < (l0.length : Int) := of_decide_eq_true (by first | (with_reducible assumption) | assumption)
        obtain ⟨ad322, e322, hx322_0, hx322_1⟩ := at_T161 HR0.out x5_1 p322 q322
        have hw322_1 := hx322_1
        have hw322_0 := hx322_0
        cases e322
        replace hx322_0 := (HB.out.cell (World.block_lt_of_cell? w _ hx322_0)).trans hx322_0
        replace hx322_1 := (HB.out.cell (World.block_lt_of_cell? w _ hx322_1)).trans hx322_1
        replace p322 := eq_true p322
        replace q322 := eq_true q322
        have p323 : 0 ≤ (x5_1 : Int) := of_decide_eq_true (by first | (with_reducible assumption) | assumption)
        have q323 : x5_1 < (l1.length : Int) := of_decide_eq_true (by first | (with_reducible assumption) | assumption)
        obtain ⟨ad323, e323, hx323_0, hx323_1⟩ := at_T161 HR1.out x5_1 p323 q323
        have hw323_1 := hx323_1
        have hw323_0 := hx323_0
        cases e323
        replace hx323_0 := (HB.out.cell (World.block_lt_of_cell? w _ hx323_0)).trans hx323_0
        replace hx323_1 := (HB.out.cell (World.block_lt_of_cell? w _ hx323_1)).trans hx323_1
        replace p323 := eq_true p323
        replace q323 := eq_true q323
        refine start_ (n := 10) (S := fun w' => w'.cell? (ad322.add ((x5_1).toNat * 2)) = some (.int .i64 ((rd_T161 l0 x5_1).f0)) ∧ w'.cell? ⟨(ad322.add ((x5_1).toNat * 2)).block, (ad322.add ((x5_1).toNat * 2)).off + 1, none⟩ = some (.int .u64 ((rd_T161 l0 x5_1).f1)) ∧ w'.cell? (ad323.add ((x5_1).toNat * 2)) = some (.int .i64 ((rd_T161 l1 x5_1).f0)) ∧ w'.cell? ⟨(ad323.add ((x5_1).toNat * 2)).block, (ad323.add ((x5_1).toNat * 2)).off + 1, none⟩ = some (.int .u64 ((rd_T161 l1 x5_1).f1))) (ds := []) (Slim.ba 10 0) (by kernel_rfl) rfl rfl ⟨((HB.out.cell (World.block_lt_of_cell? w _ hw322_0)).trans hw322_0), ((HB.out.cell (World.block_lt_of_cell? w _ hw322_1)).trans hw322_1), ((HB.out.cell (World.block_lt_of_cell? w _ hw323_0)).trans hw323_0), ((HB.out.cell (World.block_lt_of_cell? w _ hw323_1)).trans hw323_1)⟩ (fun hHeld => ?_); refine with_tabW laws_eqNodeS.tab6 laws_eqNodeS.bits6 (fun HT_ HW_ => ?_)
        generalize wr.drew = w11 at HB hx322_0 hx322_1 hx323_0 hx323_1 hHeld ⊢
        refine Slim.pure1 HT_ 0 (some 17) (Slim.ba 10 1) rfl ?_
        refine Slim.pure1 HT_ 1 (some 18) (Slim.ba 10 3) rfl ?_
        refine Slim.pure1 HT_ 2 (some 19) (Slim.ba 10 7) rfl ?_
        refine Slim.pure1 HT_ 4 (some 21) (Slim.ba 10 23) rfl ?_
        refine Slim.pure1 HT_ 5 (some 22) (Slim.ba 10 55) rfl ?_
        refine Slim.pure1 HT_ 6 (some 23) (Slim.ba 10 119) rfl ?_
        refine Slim.take1 HT_ HW_ hHeld 3 (some 20) (Slim.ba 10 127) rfl (by rintro w' ⟨s0, s1, s2, s3⟩; go_simp; with_reducible rfl) ?_
        refine Slim.take1 HT_ HW_ hHeld 7 (some 24) (Slim.ba 10 255) rfl (by rintro w' ⟨s0, s1, s2, s3⟩; go_simp; with_reducible rfl) ?_
        refine one_ (i := 8) (N := some 25) (Slim.ba 10 511) rfl rfl (one_of HT_.out (by kernel_rfl)) (by decide) (fun K hK => ?_)
        refine goes_ Try.func144 (by kernel_rfl) rfl #[.agg #[.int .i64 ((rd_T161 l0 x5_1).f0), .int .u64 ((rd_T161 l0 x5_1).f1)], .agg #[.int .i64 ((rd_T161 l1 x5_1).f0), .int .u64 ((rd_T161 l1 x5_1).f1)]] (by rfl) rfl rfl Slim.vA ?_
        with_reducible refine (laws_eqNode.calls ((rd_T161 l0 x5_1).f0) ((rd_T161 l0 x5_1).f1) ((rd_T161 l1 x5_1).f0) ((rd_T161 l1 x5_1).f1) false _ A7.out).mono ?_
        rintro e w12 ⟨rfl, hb⟩
        refine ⟨_, rfl, ?_⟩
        have n0_ := Aside0.mk (below_step Slim.vB hb)
        clear HB
        have HB := n0_
        clear n0_
        (try clear hb)
        (try clear hb2)
        (try clear hk)
        (try clear hi)
        refine hK.out _ _ ⟨((HB.out.cell (World.block_lt_of_cell? w _ hw322_0)).trans hw322_0), ((HB.out.cell (World.block_lt_of_cell? w _ hw322_1)).trans hw322_1), ((HB.out.cell (World.block_lt_of_cell? w _ hw323_0)).trans hw323_0), ((HB.out.cell (World.block_lt_of_cell? w _ hw323_1)).trans hw323_1)⟩ (fun hHeld => ?_)
        clear hK K
        refine norm_ (a' := ?_) ?_ ?_
        rotate_left
        ·show Act.put _ (some 25) _ = _
         simp only [Act.put, List.setIfInBounds_toArray, List.set_cons_zero, List.set_cons_succ, i64_w, i32_w]
         rfl
        refine Slim.pure1 HT_ 9 (some 26) (Slim.ba 10 1023) rfl ?_
        refine done_ (done_of HT_.out (by kernel_rfl)) ?_
        try go_wp2
        go_ret
        exact ⟨Slim.vE, Slim.vB⟩
      ·rw [if_neg c6] at H
       exact absurd H (by simp)
     ·rw [if_neg c5] at H
      exact absurd H (by simp)
    ·rw [if_neg c4] at H
     have c4b0 : decide (x5_1 < (l0.length : Int)) = false := decide_eq_false c4
     clear c4
     obtain rfl := Option.some.inj H
     go_wp2
     go_ret
     exact ⟨Slim.vE, Slim.vB⟩
 ·rw [if_neg c3] at H
  have c3b0 : ((l0.length : Int) == (l1.length : Int)) = false := beq_eq_false_iff_ne.mpr c3
  have c3b1 : ((l0.length : Int) != (l1.length : Int)) = true := bne_iff_ne.mpr c3
  have c3b2 : (l0.length == l1.length) = false := by first | simpa using c3 | (simp at c3 ⊢; omega)
  obtain rfl := Option.some.inj H
  go_enter Try.func75, Try.ntmps75
  go_wp2
  go_ret
  exact ⟨Slim.vE, Slim.vB⟩
def laws_FnExactSpanOf.j0 : Nat → List (S163) → List (S24) → List (S161) → List (S26) → Bool → Option (Bool)
 | 0, _, _, _, _, _ => none
 | k + 1, x1, x2, x10, x11, x52 => if x52 = true then (some false) else ((laws_toNodeS.f k x1).bind fun t348 => ((laws_eqNodeS.f k x10 t348).bind fun t351 => (if t351 = true then ((laws_toSpanS.f k x2).bind fun t352 => ((laws_eqSpanS.f k x11 t352).bind fun t355 => (if t355 = true then (some true) else (some false)))) else (some false))))
def laws_FnExactSpanOf.f (k : Nat) (a0 : Int) (l1 : List (S163)) (l2 : List (S24)) : Option (Bool) := (laws_szNodeS.f l1 1048576).bind fun t325 => (if t325 < 0 then (some true) else ((laws_szSpanS.f l2 t325).bind fun t326 => (if t326 < 0 then (some true) else ((laws_toNodeS.f k l1).bind fun t327 => ((laws_toSpanS.f k l2).bind fun t330 => ((spec_SpanOf.f k a0 t327 t330).bind fun bt333 => ((laws_toNodeS.f k l1).bind fun t337 => ((laws_toSpanS.f k l2).bind fun t340 => ((impl_SpanOf.f k a0 t337 t340).bind fun bt343 => ((laws_eqSpan.f bt343.1 bt343.2.1 bt333.1 bt333.2.1).bind fun t347 => (if t347 = true then (laws_FnExactSpanOf.j0 k l1 l2 t337 t340 (bt343.2.2 != bt333.2.2)) else (laws_FnExactSpanOf.j0 k l1 l2 t337 t340 true))))))))))))
set_option maxHeartbeats 8000000 in
set_option maxRecDepth 100000 in
theorem laws_FnExactSpanOf.calls (k : Nat) (a0 : Int) (A1 : Option Addr) (c1 : Nat) (l1 : List (S163)) (A2 : Option Addr) (c2 : Nat) (l2 : List (S24)) (r : Bool) (w : World) (hr1 : Kd.C k163 w A1 l1.length l1) (hc1 : l1.length ≤ c1) (hr2 : Kd.C k24 w A2 l2.length l2) (hc2 : l2.length ≤ c2) (h : laws_FnExactSpanOf.f k a0 l1 l2 = some r) :
  Calls Try.prog 12 #[.int .i64 a0, .slice A1 l1.length c1, .slice A2 l2.length c2] w fun e w' => e = .returned (.bool r) ∧ Below w.heap.size w w' := by
 have hu26 := Try.underlying26
 have HR1 := Aside0.mk hr1
 have HC1 := Aside0.mk hc1
 clear hr1 hc1
 have HR2 := Aside0.mk hr2
 have HC2 := Aside0.mk hc2
 clear hr2 hc2
 have HB := Aside0.mk (Below.refl w.heap.size w)
 have H : ((laws_szNodeS.f l1 1048576).bind fun t325 => (if t325 < 0 then (some true) else ((laws_szSpanS.f l2 t325).bind fun t326 => (if t326 < 0 then (some true) else ((laws_toNodeS.f k l1).bind fun t327 => ((laws_toSpanS.f k l2).bind fun t330 => ((spec_SpanOf.f k a0 t327 t330).bind fun bt333 => ((laws_toNodeS.f k l1).bind fun t337 => ((laws_toSpanS.f k l2).bind fun t340 => ((impl_SpanOf.f k a0 t337 t340).bind fun bt343 => ((laws_eqSpan.f bt343.1 bt343.2.1 bt333.1 bt333.2.1).bind fun t347 => (if t347 = true then (laws_FnExactSpanOf.j0 k l1 l2 t337 t340 (bt343.2.2 != bt333.2.2)) else (laws_FnExactSpanOf.j0 k l1 l2 t337 t340 true))))))))))))) = some r := h
 clear h
 replace H := Option.bind_eq_some_iff.mp H
 obtain ⟨t325, A40, H⟩ := H
 replace H : (if t325 < 0 then (some true) else ((laws_szSpanS.f l2 t325).bind fun t326 => (if t326 < 0 then (some true) else ((laws_toNodeS.f k l1).bind fun t327 => ((laws_toSpanS.f k l2).bind fun t330 => ((spec_SpanOf.f k a0 t327 t330).bind fun bt333 => ((laws_toNodeS.f k l1).bind fun t337 => ((laws_toSpanS.f k l2).bind fun t340 => ((impl_SpanOf.f k a0 t337 t340).bind fun bt343 => ((laws_eqSpan.f bt343.1 bt343.2.1 bt333.1 bt333.2.1).bind fun t347 => (if t347 = true then (laws_FnExactSpanOf.j0 k l1 l2 t337 t340 (bt343.2.2 != bt333.2.2)) else (laws_FnExactSpanOf.j0 k l1 l2 t337 t340 true)))))))))))) = some r := H
 have A4 := Aside0.mk A40
 clear A40
 by_cases c5 : t325 < 0
 ·rw [if_pos c5] at H
  have c5b0 : decide (t325 < 0) = true := decide_eq_true c5
  clear c5
  obtain rfl := Option.some.inj H
  go_enter Try.func12, Try.ntmps12
  go_wp2_with (first | ((with_reducible refine gate_callee (f := 71) rfl ?_); refine goesL_ (some 16) rfl rfl Try.func71 (by kernel_rfl) rfl #[.slice A1 l1.length c1, .int .i64 1048576] rfl Slim.vA ?_; (with_reducible refine (laws_szNodeS.calls _ _ l1 1048576 t325 _ ?side1 ?side2 A4.out).mono ?_); (case side1 => repeat (first | exact HR1.out | (with_reducible refine Kd.C_alloc ?_ _) | (with_reducible refine Kd.C_drewN ?_ _) | (with_reducible refine Kd.C_drew ?_))); (case side2 => exact HC1.out); rintro e w' ⟨rfl, ⟨nd, rfl⟩⟩; refine ⟨_, rfl, ?_⟩))
  go_ret
  exact ⟨Slim.vE, Slim.vB⟩
 ·rw [if_neg c5] at H
  have c5b0 : decide (t325 < 0) = false := decide_eq_false c5
  clear c5
  replace H := Option.bind_eq_some_iff.mp H
  obtain ⟨t326, A60, H⟩ := H
  replace H : (if t326 < 0 then (some true) else ((laws_toNodeS.f k l1).bind fun t327 => ((laws_toSpanS.f k l2).bind fun t330 => ((spec_SpanOf.f k a0 t327 t330).bind fun bt333 => ((laws_toNodeS.f k l1).bind fun t337 => ((laws_toSpanS.f k l2).bind fun t340 => ((impl_SpanOf.f k a0 t337 t340).bind fun bt343 => ((laws_eqSpan.f bt343.1 bt343.2.1 bt333.1 bt333.2.1).bind fun t347 => (if t347 = true then (laws_FnExactSpanOf.j0 k l1 l2 t337 t340 (bt343.2.2 != bt333.2.2)) else (laws_FnExactSpanOf.j0 k l1 l2 t337 t340 true)))))))))) = some r := H
  have A6 := Aside0.mk A60
  clear A60
  by_cases c7 : t326 < 0
  ·rw [if_pos c7] at H
   have c7b0 : decide (t326 < 0) = true := decide_eq_true c7
   clear c7
   obtain rfl := Option.some.inj H
   go_enter Try.func12, Try.ntmps12
   go_wp2_with (first | ((with_reducible refine gate_callee (f := 71) rfl ?_); refine goesL_ (some 16) rfl rfl Try.func71 (by kernel_rfl) rfl #[.slice A1 l1.length c1, .int .i64 1048576] rfl Slim.vA ?_; (with_reducible refine (laws_szNodeS.calls _ _ l1 1048576 t325 _ ?side1 ?side2 A4.out).mono ?_); (case side1 => repeat (first | exact HR1.out | (with_reducible refine Kd.C_alloc ?_ _) | (with_reducible refine Kd.C_drewN ?_ _) | (with_reducible refine Kd.C_drew ?_))); (case side2 => exact HC1.out); rintro e w' ⟨rfl, ⟨nd, rfl⟩⟩; refine ⟨_, rfl, ?_⟩) | ((with_reducible refine gate_callee (f := 22) rfl ?_); refine goesL_ (some 21) rfl rfl Try.func22 (by kernel_rfl) rfl #[.slice A2 l2.length c2, .int .i64 t325] rfl Slim.vA ?_; (with_reducible refine (laws_szSpanS.calls _ _ l2 t325 t326 _ ?side1 ?side2 A6.out).mono ?_); (case side1 => repeat (first | exact HR2.out | (with_reducible refine Kd.C_alloc ?_ _) | (with_reducible refine Kd.C_drewN ?_ _) | (with_reducible refine Kd.C_drew ?_))); (case side2 => exact HC2.out); rintro e w' ⟨rfl, ⟨nd, rfl⟩⟩; refine ⟨_, rfl, ?_⟩))
   go_ret
   exact ⟨Slim.vE, Slim.vB⟩
  ·rw [if_neg c7] at H
   have c7b0 : decide (t326 < 0) = false := decide_eq_false c7
   clear c7
   replace H := Option.bind_eq_some_iff.mp H
   obtain ⟨t327, A80, H⟩ := H
   replace H : ((laws_toSpanS.f k l2).bind fun t330 => ((spec_SpanOf.f k a0 t327 t330).bind fun bt333 => ((laws_toNodeS.f k l1).bind fun t337 => ((laws_toSpanS.f k l2).bind fun t340 => ((impl_SpanOf.f k a0 t337 t340).bind fun bt343 => ((laws_eqSpan.f bt343.1 bt343.2.1 bt333.1 bt333.2.1).bind fun t347 => (if t347 = true then (laws_FnExactSpanOf.j0 k l1 l2 t337 t340 (bt343.2.2 != bt333.2.2)) else (laws_FnExactSpanOf.j0 k l1 l2 t337 t340 true)))))))) = some r := H
   have A8 := Aside0.mk A80
   clear A80
   replace H := Option.bind_eq_some_iff.mp H
   obtain ⟨t330, A90, H⟩ := H
   replace H : ((spec_SpanOf.f k a0 t327 t330).bind fun bt333 => ((laws_toNodeS.f k l1).bind fun t337 => ((laws_toSpanS.f k l2).bind fun t340 => ((impl_SpanOf.f k a0 t337 t340).bind fun bt343 => ((laws_eqSpan.f bt343.1 bt343.2.1 bt333.1 bt333.2.1).bind fun t347 => (if t347 = true then (laws_FnExactSpanOf.j0 k l1 l2 t337 t340 (bt343.2.2 != bt333.2.2)) else (laws_FnExactSpanOf.j0 k l1 l2 t337 t340 true))))))) = some r := H
   have A9 := Aside0.mk A90
   clear A90
   replace H := Option.bind_eq_some_iff.mp H
   obtain ⟨⟨t333, t334, t335⟩, A100, H⟩ := H
   replace H : ((laws_toNodeS.f k l1).bind fun t337 => ((laws_toSpanS.f k l2).bind fun t340 => ((impl_SpanOf.f k a0 t337 t340).bind fun bt343 => ((laws_eqSpan.f bt343.1 bt343.2.1 t333 t334).bind fun t347 => (if t347 = true then (laws_FnExactSpanOf.j0 k l1 l2 t337 t340 (bt343.2.2 != t335)) else (laws_FnExactSpanOf.j0 k l1 l2 t337 t340 true)))))) = some r := H
   have A10 := Aside0.mk A100
   clear A100
   replace H := Option.bind_eq_some_iff.mp H
   obtain ⟨t337, A110, H⟩ := H
   replace H : ((laws_toSpanS.f k l2).bind fun t340 => ((impl_SpanOf.f k a0 t337 t340).bind fun bt343 => ((laws_eqSpan.f bt343.1 bt343.2.1 t333 t334).bind fun t347 => (if t347 = true then (laws_FnExactSpanOf.j0 k l1 l2 t337 t340 (bt343.2.2 != t335)) else (laws_FnExactSpanOf.j0 k l1 l2 t337 t340 true))))) = some r := H
   have A11 := Aside0.mk A110
   clear A110
   replace H := Option.bind_eq_some_iff.mp H
   obtain ⟨t340, A120, H⟩ := H
   replace H : ((impl_SpanOf.f k a0 t337 t340).bind fun bt343 => ((laws_eqSpan.f bt343.1 bt343.2.1 t333 t334).bind fun t347 => (if t347 = true then (laws_FnExactSpanOf.j0 k l1 l2 t337 t340 (bt343.2.2 != t335)) else (laws_FnExactSpanOf.j0 k l1 l2 t337 t340 true)))) = some r := H
   have A12 := Aside0.mk A120
   clear A120
   replace H := Option.bind_eq_some_iff.mp H
   obtain ⟨⟨t343, t344, t345⟩, A130, H⟩ := H
   replace H : ((laws_eqSpan.f t343 t344 t333 t334).bind fun t347 => (if t347 = true then (laws_FnExactSpanOf.j0 k l1 l2 t337 t340 (t345 != t335)) else (laws_FnExactSpanOf.j0 k l1 l2 t337 t340 true))) = some r := H
   have A13 := Aside0.mk A130
   clear A130
   have HC14 := Aside0.mk H
   clear H
   go_enter Try.func12, Try.ntmps12
   go_upto_region 12 with (first | ((with_reducible refine gate_callee (f := 71) rfl ?_); refine goesL_ (some 16) rfl rfl Try.func71 (by kernel_rfl) rfl #[.slice A1 l1.length c1, .int .i64 1048576] rfl Slim.vA ?_; (with_reducible refine (laws_szNodeS.calls _ _ l1 1048576 t325 _ ?side1 ?side2 A4.out).mono ?_); (case side1 => repeat (first | exact HR1.out | (with_reducible refine Kd.C_alloc ?_ _) | (with_reducible refine Kd.C_drewN ?_ _) | (with_reducible refine Kd.C_drew ?_))); (case side2 => exact HC1.out); rintro e w' ⟨rfl, ⟨nd, rfl⟩⟩; refine ⟨_, rfl, ?_⟩) | ((with_reducible refine gate_callee (f := 22) rfl ?_); refine goesL_ (some 21) rfl rfl Try.func22 (by kernel_rfl) rfl #[.slice A2 l2.length c2, .int .i64 t325] rfl Slim.vA ?_; (with_reducible refine (laws_szSpanS.calls _ _ l2 t325 t326 _ ?side1 ?side2 A6.out).mono ?_); (case side1 => repeat (first | exact HR2.out | (with_reducible refine Kd.C_alloc ?_ _) | (with_reducible refine Kd.C_drewN ?_ _) | (with_reducible refine Kd.C_drew ?_))); (case side2 => exact HC2.out); rintro e w' ⟨rfl, ⟨nd, rfl⟩⟩; refine ⟨_, rfl, ?_⟩) | ((with_reducible refine gate_callee (f := 73) rfl ?_); refine goesL_ (some 27) rfl rfl Try.func73 (by kernel_rfl) rfl #[.slice A1 l1.length c1] rfl Slim.vA ?_; (with_reducible refine (laws_toNodeS.calls k _ _ l1 t327 _ ?side1 ?side2 A8.out).mono ?_); (case side1 => repeat (first | exact HR1.out | (with_reducible refine Kd.C_alloc ?_ _) | (with_reducible refine Kd.C_drewN ?_ _) | (with_reducible refine Kd.C_drew ?_))); (case side2 => exact HC1.out); rintro e w15 ⟨v328, rfl, ho0, hb⟩; refine ⟨_, rfl, ?_⟩; have n0_ := Aside0.mk (Kd.R_lower ho0 (below_size Slim.vB)); have n1_ := Aside0.mk (below_step Slim.vB hb); clear HB; have HO329 := n0_; have HB := n1_; clear n0_ n1_; (try clear hb); (try clear hb2); (try clear hk); (try clear hi); (try clear ho0)) | ((with_reducible refine gate_callee (f := 24) rfl ?_); refine goesL_ (some 29) rfl rfl Try.func24 (by kernel_rfl) rfl #[.slice A2 l2.length c2] rfl Slim.vA ?_; (with_reducible refine (laws_toSpanS.calls k _ _ l2 t330 _ ?side1 ?side2 A9.out).mono ?_); (case side1 => repeat (first | exact (Kd.C_below HR2.out HB.out) | (with_reducible refine Kd.C_alloc ?_ _) | (with_reducible refine Kd.C_drewN ?_ _) | (with_reducible refine Kd.C_drew ?_))); (case side2 => exact HC2.out); rintro e w16 ⟨v331, rfl, ho0, hb⟩; refine ⟨_, rfl, ?_⟩; have n0_ := Aside0.mk (Kd.R_below (Slim.vR HO329.out) hb); have n1_ := Aside0.mk (Kd.R_lower ho0 (below_size Slim.vB)); have n2_ := Aside0.mk (below_step Slim.vB hb); clear HO329; clear HB; have HO329 := n0_; have HO332 := n1_; have HB := n2_; clear n0_ n1_ n2_; (try clear hb); (try clear hb2); (try clear hk); (try clear hi); (try clear ho0); obtain ⟨Ao17, co17, eo17⟩ := Kd.R_slice HO329.out; subst eo17; obtain ⟨Ao18, co18, eo18⟩ := Kd.R_slice HO332.out; subst eo18) | ((with_reducible refine gate_callee (f := 72) rfl ?_); refine goesL_ (some 30) rfl rfl Try.func72 (by kernel_rfl) rfl #[.int .i64 a0, .slice Ao17 t327.length co17, .slice Ao18 t330.length co18] rfl Slim.vA ?_; (with_reducible refine (spec_SpanOf.calls k a0 _ _ t327 _ _ t330 t333 t334 t335 _ ?side1 ?side2 ?side3 ?side4 A10.out).mono ?_); (case side1 => repeat (first | exact (Kd.R_reads' HO329.out).2.2 | (with_reducible refine Kd.C_alloc ?_ _) | (with_reducible refine Kd.C_drewN ?_ _) | (with_reducible refine Kd.C_drew ?_))); (case side2 => exact (Kd.R_reads' HO329.out).2.1); (case side3 => repeat (first | exact (Kd.R_reads' HO332.out).2.2 | (with_reducible refine Kd.C_alloc ?_ _) | (with_reducible refine Kd.C_drewN ?_ _) | (with_reducible refine Kd.C_drew ?_))); (case side4 => exact (Kd.R_reads' HO332.out).2.1); rintro e w19 ⟨rfl, hb⟩; refine ⟨_, rfl, ?_⟩; replace HO329 := Aside0.mk (Kd.R_below (Slim.vR HO329.out) hb); replace HO332 := Aside0.mk (Kd.R_below (Slim.vR HO332.out) hb); replace HB := Aside0.mk (below_step Slim.vB hb); (try clear hb); (try clear hb2); (try clear hk); (try clear hi)) | ((with_reducible refine gate_dst (N := 8) rfl ?_); refine Slim.boxE 8 (#[.int .u64 0, .int .u64 0]) 26 ?_; intro gb336 hg w20 hbox hb; have n0_ := Aside0.mk (Kd.R_below (Slim.vR HO329.out) hb); have n1_ := Aside0.mk (Kd.R_below (Kd.R_elderB (Slim.vR HO332.out) gb336 (Nat.le_of_eq hg.symm)) hb); have n2_ := Aside0.mk (below_step Slim.vB hb); have n3_ := Aside0.mk (hbox); have n4_ := Aside0.mk (Slim.vS : w.heap.size ≤ gb336); have n5_ := n4_; clear HO329; clear HO332; clear HB; have HO329 := n0_; have HO332 := n1_; have HB := n2_; have BK336 := n3_; have GW336 := n4_; have GE336 := n5_; clear n0_ n1_ n2_ n3_ n4_ n5_; clear hb hbox hg; have hcz21_0 := Slim.bc BK336.out 0 rfl; have hcz21_1 := Slim.bc BK336.out 1 rfl; have hfz21_0 := blk_frozen BK336.out 0; have hfz21_1 := blk_frozen BK336.out 1) | ((with_reducible refine gate_callee (f := 73) rfl ?_); refine goesL_ (some 34) rfl rfl Try.func73 (by kernel_rfl) rfl #[.slice A1 l1.length c1] rfl Slim.vA ?_; (with_reducible refine (laws_toNodeS.calls k _ _ l1 t337 _ ?side1 ?side2 A11.out).mono ?_); (case side1 => exact Kd.C_below HR1.out Slim.vB); (case side2 => exact HC1.out); rintro e w22 ⟨v338, rfl, ho0, hb⟩; refine ⟨_, rfl, ?_⟩; have n0_ := Aside0.mk (Kd.R_elder' (by (with_reducible repeat (first | apply Kd.R_alloc | apply Kd.R_drewN | apply Kd.R_drew)); exact (Kd.R_mono (Kd.R_far (p := ⟨gb336, 1, none⟩) (Kd.R_far (p := ⟨gb336, 0, none⟩) (Kd.R_types HO329.out BK336.out (by decide)) (fun _ hk => hk.2) (.int .u64 t333)) (fun _ hk => hk.2) (.int .u64 t334)) (fun _ h_ => h_.1))) (Kd.R_base ho0) hb); have n1_ := Aside0.mk (Kd.R_below (by (with_reducible repeat (first | apply Kd.R_alloc | apply Kd.R_drewN | apply Kd.R_drew)); exact (Kd.R_mono (Kd.R_far (p := ⟨gb336, 1, none⟩) (Kd.R_far (p := ⟨gb336, 0, none⟩) (Kd.R_mono HO332.out (fun k_ hk => (⟨hk, hk.2⟩ : _ ∧ k_ ≠ gb336))) (fun _ hk => hk.2) (.int .u64 t333)) (fun _ hk => hk.2) (.int .u64 t334)) (fun _ h_ => h_.1))) hb); have n2_ := Aside0.mk (Kd.R_lower (Kd.R_new' ho0 (Kd.R_lt (by (with_reducible repeat (first | apply Kd.R_alloc | apply Kd.R_drewN | apply Kd.R_drew)); exact (Kd.R_mono (Kd.R_far (p := ⟨gb336, 1, none⟩) (Kd.R_far (p := ⟨gb336, 0, none⟩) (Kd.R_types HO329.out BK336.out (by decide)) (fun _ hk => hk.2) (.int .u64 t333)) (fun _ hk => hk.2) (.int .u64 t334)) (fun _ h_ => h_.1))))) (below_size Slim.vB)); have n3_ := Aside0.mk (blk_below (g := gb336) (o := .cells #[.int .u64 t333, .int .u64 t334] 26 (0, 0)) (by (with_reducible repeat (first | refine blk_drewN ?_ _ | refine blk_drew ?_ | refine blk_alloc ?_ _)); refine blk_put (cs := #[.int .u64 t333, .int .u64 0]) ?_ 1 _ rfl; (with_reducible repeat (first | refine blk_drewN ?_ _ | refine blk_drew ?_ | refine blk_alloc ?_ _)); refine blk_put (cs := #[.int .u64 0, .int .u64 0]) ?_ 0 _ rfl; (with_reducible repeat (first | refine blk_drewN ?_ _ | refine blk_drew ?_ | refine blk_alloc ?_ _)); exact BK336.out) hb); have n4_ := Aside0.mk (below_step Slim.vB hb); clear HO329; clear HO332; clear BK336; clear HB; have HO329 := n0_; have HO332 := n1_; have HO339 := n2_; have BK336 := n3_; have HB := n4_; clear n0_ n1_ n2_ n3_ n4_; (try clear hb); (try clear hb2); (try clear hk); (try clear hi); (try clear ho0)) | ((with_reducible refine gate_callee (f := 24) rfl ?_); refine goesL_ (some 36) rfl rfl Try.func24 (by kernel_rfl) rfl #[.slice A2 l2.length c2] rfl Slim.vA ?_; (with_reducible refine (laws_toSpanS.calls k _ _ l2 t340 _ ?side1 ?side2 A12.out).mono ?_); (case side1 => repeat (first | exact (Kd.C_below HR2.out HB.out) | (with_reducible refine Kd.C_alloc ?_ _) | (with_reducible refine Kd.C_drewN ?_ _) | (with_reducible refine Kd.C_drew ?_))); (case side2 => exact HC2.out); rintro e w23 ⟨v341, rfl, ho0, hb⟩; refine ⟨_, rfl, ?_⟩; have n0_ := Aside0.mk (Kd.R_below (Slim.vR HO329.out) hb); have n1_ := Aside0.mk (Kd.R_elder' (Slim.vR HO332.out) (Kd.R_base ho0) hb); have n2_ := Aside0.mk (Kd.R_below (Slim.vR HO339.out) hb); have n3_ := Aside0.mk (Kd.R_lower (Kd.R_newB (Kd.R_new' ho0 (Kd.R_lt (Slim.vR HO332.out))) (g := gb336) (o := .cells #[.int .u64 t333, .int .u64 t334] 26 (0, 0)) (Slim.vK BK336.out)) (below_size Slim.vB)); have n4_ := Aside0.mk (Slim.bB BK336.out hb); have n5_ := Aside0.mk (below_step Slim.vB hb); clear HO329; clear HO332; clear HO339; clear BK336; clear HB; have HO329 := n0_; have HO332 := n1_; have HO339 := n2_; have HO342 := n3_; have BK336 := n4_; have HB := n5_; clear n0_ n1_ n2_ n3_ n4_ n5_; (try clear hb); (try clear hb2); (try clear hk); (try clear hi); (try clear ho0); obtain ⟨Ao24, co24, eo24⟩ := Kd.R_slice HO339.out; subst eo24; obtain ⟨Ao25, co25, eo25⟩ := Kd.R_slice HO342.out; subst eo25) | ((with_reducible refine gate_callee (f := 74) rfl ?_); refine goesL_ (some 41) rfl rfl Try.func74 (by kernel_rfl) rfl #[.int .i64 a0, .slice Ao24 t337.length co24, .slice Ao25 t340.length co25] rfl Slim.vA ?_; (with_reducible refine (impl_SpanOf.calls k a0 _ _ t337 _ _ t340 t343 t344 t345 _ ?side1 ?side2 ?side3 ?side4 A13.out).mono ?_); (case side1 => repeat (first | exact (Kd.R_reads' HO339.out).2.2 | (with_reducible refine Kd.C_alloc ?_ _) | (with_reducible refine Kd.C_drewN ?_ _) | (with_reducible refine Kd.C_drew ?_))); (case side2 => exact (Kd.R_reads' HO339.out).2.1); (case side3 => repeat (first | exact (Kd.R_reads' HO342.out).2.2 | (with_reducible refine Kd.C_alloc ?_ _) | (with_reducible refine Kd.C_drewN ?_ _) | (with_reducible refine Kd.C_drew ?_))); (case side4 => exact (Kd.R_reads' HO342.out).2.1); rintro e w26 ⟨rfl, hb⟩; refine ⟨_, rfl, ?_⟩; replace HO329 := Aside0.mk (Kd.R_below (Slim.vR HO329.out) hb); replace HO332 := Aside0.mk (Kd.R_below (Slim.vR HO332.out) hb); replace HO339 := Aside0.mk (Kd.R_below (Slim.vR HO339.out) hb); replace HO342 := Aside0.mk (Kd.R_below (Slim.vR HO342.out) hb); replace BK336 := Aside0.mk (Slim.bB BK336.out hb); replace HB := Aside0.mk (below_step Slim.vB hb); (try clear hb); (try clear hb2); (try clear hk); (try clear hi)) | ((with_reducible refine gate_dst (N := 12) rfl ?_); refine Slim.boxE 12 (#[.int .u64 0, .int .u64 0]) 26 ?_; intro gb346 hg w27 hbox hb; have n0_ := Aside0.mk (Kd.R_below (Slim.vR HO329.out) hb); have n1_ := Aside0.mk (Kd.R_below (Kd.R_elderB (Slim.vR HO332.out) gb346 (Nat.le_of_eq hg.symm)) hb); have n2_ := Aside0.mk (Kd.R_below (Slim.vR HO339.out) hb); have n3_ := Aside0.mk (Kd.R_below (Kd.R_elderB (Slim.vR HO342.out) gb346 (Nat.le_of_eq hg.symm)) hb); have n4_ := Aside0.mk (Slim.bB BK336.out hb); have n5_ := Aside0.mk (below_step Slim.vB hb); have n6_ := Aside0.mk (hbox); have n7_ := Aside0.mk (Slim.vS : w.heap.size ≤ gb346); have n8_ := n7_; have n9_ := Aside0.mk ((Slim.nL hg BK336.out : gb336 ≠ gb346)); have n10_ := Aside0.mk ((Slim.nG hg BK336.out : gb346 ≠ gb336)); clear HO329; clear HO332; clear HO339; clear HO342; clear BK336; clear HB; have HO329 := n0_; have HO332 := n1_; have HO339 := n2_; have HO342 := n3_; have BK336 := n4_; have HB := n5_; have BK346 := n6_; have GW346 := n7_; have GE346 := n8_; have NB336_346 := n9_; have NB346_336 := n10_; clear n0_ n1_ n2_ n3_ n4_ n5_ n6_ n7_ n8_ n9_ n10_; clear hb hbox hg; have hnb28 := NB346_336.out; have hnc28 := NB336_346.out; have hcz29_0 := Slim.bc BK346.out 0 rfl; have hcz29_1 := Slim.bc BK346.out 1 rfl; have hfz29_0 := blk_frozen BK346.out 0; have hfz29_1 := blk_frozen BK346.out 1))
   (try simp only [Act.put, List.setIfInBounds_toArray, List.set_cons_zero, List.set_cons_succ])
   go_cut [52] (fun v52 wc => ∃ (kq : Nat) (x52_13 : Bool), v52 = .bool x52_13 ∧ Aside0 (laws_FnExactSpanOf.j0 kq l1 l2 t337 t340 x52_13 = some r) ∧ Aside0 (kq ≤ k) ∧ Aside0 (Kd.R k161 161 wc w.heap.size (fun _ => True) (.slice Ao24 t337.length co24) t337) ∧ Aside0 (Kd.R k26 26 wc w.heap.size (fun k_ => k_ ≠ gb336 ∧ k_ ≠ gb346) (.slice Ao25 t340.length co25) t340) ∧ Aside0 (wc.heap[gb336]? = some (.cells #[.int .u64 t333, .int .u64 t334] 26 (0, 0))) ∧ Aside0 (wc.heap[gb346]? = some (.cells #[.int .u64 t343, .int .u64 t344] 26 (0, 0))) ∧ Aside0 (Below w.heap.size w wc))
   case first =>
    have H := HC14.out
    clear HC14
    replace H := Option.bind_eq_some_iff.mp H
    obtain ⟨t347, A300, H⟩ := H
    replace H : (if t347 = true then (laws_FnExactSpanOf.j0 k l1 l2 t337 t340 (t345 != t335)) else (laws_FnExactSpanOf.j0 k l1 l2 t337 t340 true)) = some r := H
    have A30 := Aside0.mk A300
    clear A300
    by_cases c31 : t347 = true
    ·subst c31
     have H1 : (laws_FnExactSpanOf.j0 k l1 l2 t337 t340 (t345 != t335)) = some r := by rw [if_pos rfl] at H; exact H
     clear H
     have H := H1
     clear H1
     have H' := Aside0.mk H
     clear H
     have hnb32 := NB346_336.out
     have hnc32 := NB336_346.out
     have hcz33_0 := Slim.bc BK346.out 0 rfl
     have hcz33_1 := Slim.bc BK346.out 1 rfl
     have hfz33_0 := blk_frozen BK346.out 0
     have hfz33_1 := blk_frozen BK346.out 1
     have hcz34_0 := Slim.bc BK336.out 0 rfl
     have hcz34_1 := Slim.bc BK336.out 1 rfl
     have hfz34_0 := blk_frozen BK336.out 0
     have hfz34_1 := blk_frozen BK336.out 1
     go_wp2_with (first | ((with_reducible refine gate_callee (f := 19) rfl ?_); refine goesL_ (some 46) rfl rfl Try.func19 (by kernel_rfl) rfl #[.agg #[.int .u64 t343, .int .u64 t344], .agg #[.int .u64 t333, .int .u64 t334]] rfl Slim.vA ?_; (with_reducible refine (laws_eqSpan.calls t343 t344 t333 t334 true _ A30.out).mono ?_); rintro e w35 ⟨rfl, hb⟩; refine ⟨_, rfl, ?_⟩; have n0_ := Aside0.mk (Kd.R_below (by (with_reducible repeat (first | apply Kd.R_alloc | apply Kd.R_drewN | apply Kd.R_drew)); exact (Kd.R_mono (Kd.R_far (p := ⟨gb346, 1, none⟩) (Kd.R_far (p := ⟨gb346, 0, none⟩) (Kd.R_types HO329.out BK346.out (by decide)) (fun _ hk => hk.2) (.int .u64 t343)) (fun _ hk => hk.2) (.int .u64 t344)) (fun _ h_ => h_.1))) hb); have n1_ := Aside0.mk (Kd.R_below (by (with_reducible repeat (first | apply Kd.R_alloc | apply Kd.R_drewN | apply Kd.R_drew)); exact (Kd.R_mono (Kd.R_far (p := ⟨gb346, 1, none⟩) (Kd.R_far (p := ⟨gb346, 0, none⟩) (Kd.R_mono HO332.out (fun k_ hk => (⟨hk, hk.2⟩ : _ ∧ k_ ≠ gb346))) (fun _ hk => hk.2) (.int .u64 t343)) (fun _ hk => hk.2) (.int .u64 t344)) (fun _ h_ => h_.1))) hb); have n2_ := Aside0.mk (Kd.R_below (by (with_reducible repeat (first | apply Kd.R_alloc | apply Kd.R_drewN | apply Kd.R_drew)); exact (Kd.R_mono (Kd.R_far (p := ⟨gb346, 1, none⟩) (Kd.R_far (p := ⟨gb346, 0, none⟩) (Kd.R_types HO339.out BK346.out (by decide)) (fun _ hk => hk.2) (.int .u64 t343)) (fun _ hk => hk.2) (.int .u64 t344)) (fun _ h_ => h_.1))) hb); have n3_ := Aside0.mk (Kd.R_below (by (with_reducible repeat (first | apply Kd.R_alloc | apply Kd.R_drewN | apply Kd.R_drew)); exact (Kd.R_mono (Kd.R_far (p := ⟨gb346, 1, none⟩) (Kd.R_far (p := ⟨gb346, 0, none⟩) (Kd.R_mono HO342.out (fun k_ hk => (⟨hk, hk.2⟩ : _ ∧ k_ ≠ gb346))) (fun _ hk => hk.2) (.int .u64 t343)) (fun _ hk => hk.2) (.int .u64 t344)) (fun _ h_ => h_.1))) hb); have n4_ := Aside0.mk (blk_below (g := gb336) (o := .cells #[.int .u64 t333, .int .u64 t334] 26 (0, 0)) (by (with_reducible repeat (first | refine blk_drewN ?_ _ | refine blk_drew ?_ | refine blk_alloc ?_ _)); refine blk_far ?_ NB336_346.out _; (with_reducible repeat (first | refine blk_drewN ?_ _ | refine blk_drew ?_ | refine blk_alloc ?_ _)); refine blk_far ?_ NB336_346.out _; (with_reducible repeat (first | refine blk_drewN ?_ _ | refine blk_drew ?_ | refine blk_alloc ?_ _)); exact BK336.out) hb); have n5_ := Aside0.mk (blk_below (g := gb346) (o := .cells #[.int .u64 t343, .int .u64 t344] 26 (0, 0)) (by (with_reducible repeat (first | refine blk_drewN ?_ _ | refine blk_drew ?_ | refine blk_alloc ?_ _)); refine blk_put (cs := #[.int .u64 t343, .int .u64 0]) ?_ 1 _ rfl; (with_reducible repeat (first | refine blk_drewN ?_ _ | refine blk_drew ?_ | refine blk_alloc ?_ _)); refine blk_put (cs := #[.int .u64 0, .int .u64 0]) ?_ 0 _ rfl; (with_reducible repeat (first | refine blk_drewN ?_ _ | refine blk_drew ?_ | refine blk_alloc ?_ _)); exact BK346.out) hb); have n6_ := Aside0.mk (below_step Slim.vB hb); clear HO329; clear HO332; clear HO339; clear HO342; clear BK336; clear BK346; clear HB; have HO329 := n0_; have HO332 := n1_; have HO339 := n2_; have HO342 := n3_; have BK336 := n4_; have BK346 := n5_; have HB := n6_; clear n0_ n1_ n2_ n3_ n4_ n5_ n6_; (try clear hb); (try clear hb2); (try clear hk); (try clear hi)))
     go_meet
     case rel => exact ⟨_, ((t345 != t335)), (by first | rfl | (simp; done) | (simp [*]; done)), H', ⟨by first | omega | exact Nat.le_refl _⟩, ⟨by (with_reducible repeat (first | apply Kd.R_alloc | apply Kd.R_drewN | apply Kd.R_drew)); exact Kd.R_mono HO339.out (fun _ hk => trivial)⟩, ⟨by (with_reducible repeat (first | apply Kd.R_alloc | apply Kd.R_drewN | apply Kd.R_drew)); exact Kd.R_mono HO342.out (fun _ hk => ⟨hk.1.2, hk.2⟩)⟩, ⟨by (with_reducible repeat (first | refine blk_drewN ?_ _ | refine blk_drew ?_ | refine blk_alloc ?_ _)); exact BK336.out⟩, ⟨by (with_reducible repeat (first | refine blk_drewN ?_ _ | refine blk_drew ?_ | refine blk_alloc ?_ _)); exact BK346.out⟩, ⟨Slim.vB⟩⟩
    ·replace c31 := Bool.eq_false_iff.mpr c31
     subst c31
     have H1 : (laws_FnExactSpanOf.j0 k l1 l2 t337 t340 true) = some r := by rw [if_neg (show ¬ (false = true) by decide)] at H; exact H
     clear H
     have H := H1
     clear H1
     have H' := Aside0.mk H
     clear H
     have hnb36 := NB346_336.out
     have hnc36 := NB336_346.out
     have hcz37_0 := Slim.bc BK346.out 0 rfl
     have hcz37_1 := Slim.bc BK346.out 1 rfl
     have hfz37_0 := blk_frozen BK346.out 0
     have hfz37_1 := blk_frozen BK346.out 1
     have hcz38_0 := Slim.bc BK336.out 0 rfl
     have hcz38_1 := Slim.bc BK336.out 1 rfl
     have hfz38_0 := blk_frozen BK336.out 0
     have hfz38_1 := blk_frozen BK336.out 1
     go_wp2_with (first | ((with_reducible refine gate_callee (f := 19) rfl ?_); refine goesL_ (some 46) rfl rfl Try.func19 (by kernel_rfl) rfl #[.agg #[.int .u64 t343, .int .u64 t344], .agg #[.int .u64 t333, .int .u64 t334]] rfl Slim.vA ?_; (with_reducible refine (laws_eqSpan.calls t343 t344 t333 t334 false _ A30.out).mono ?_); rintro e w39 ⟨rfl, hb⟩; refine ⟨_, rfl, ?_⟩; have n0_ := Aside0.mk (Kd.R_below (by (with_reducible repeat (first | apply Kd.R_alloc | apply Kd.R_drewN | apply Kd.R_drew)); exact (Kd.R_mono (Kd.R_far (p := ⟨gb346, 1, none⟩) (Kd.R_far (p := ⟨gb346, 0, none⟩) (Kd.R_types HO329.out BK346.out (by decide)) (fun _ hk => hk.2) (.int .u64 t343)) (fun _ hk => hk.2) (.int .u64 t344)) (fun _ h_ => h_.1))) hb); have n1_ := Aside0.mk (Kd.R_below (by (with_reducible repeat (first | apply Kd.R_alloc | apply Kd.R_drewN | apply Kd.R_drew)); exact (Kd.R_mono (Kd.R_far (p := ⟨gb346, 1, none⟩) (Kd.R_far (p := ⟨gb346, 0, none⟩) (Kd.R_mono HO332.out (fun k_ hk => (⟨hk, hk.2⟩ : _ ∧ k_ ≠ gb346))) (fun _ hk => hk.2) (.int .u64 t343)) (fun _ hk => hk.2) (.int .u64 t344)) (fun _ h_ => h_.1))) hb); have n2_ := Aside0.mk (Kd.R_below (by (with_reducible repeat (first | apply Kd.R_alloc | apply Kd.R_drewN | apply Kd.R_drew)); exact (Kd.R_mono (Kd.R_far (p := ⟨gb346, 1, none⟩) (Kd.R_far (p := ⟨gb346, 0, none⟩) (Kd.R_types HO339.out BK346.out (by decide)) (fun _ hk => hk.2) (.int .u64 t343)) (fun _ hk => hk.2) (.int .u64 t344)) (fun _ h_ => h_.1))) hb); have n3_ := Aside0.mk (Kd.R_below (by (with_reducible repeat (first | apply Kd.R_alloc | apply Kd.R_drewN | apply Kd.R_drew)); exact (Kd.R_mono (Kd.R_far (p := ⟨gb346, 1, none⟩) (Kd.R_far (p := ⟨gb346, 0, none⟩) (Kd.R_mono HO342.out (fun k_ hk => (⟨hk, hk.2⟩ : _ ∧ k_ ≠ gb346))) (fun _ hk => hk.2) (.int .u64 t343)) (fun _ hk => hk.2) (.int .u64 t344)) (fun _ h_ => h_.1))) hb); have n4_ := Aside0.mk (blk_below (g := gb336) (o := .cells #[.int .u64 t333, .int .u64 t334] 26 (0, 0)) (by (with_reducible repeat (first | refine blk_drewN ?_ _ | refine blk_drew ?_ | refine blk_alloc ?_ _)); refine blk_far ?_ NB336_346.out _; (with_reducible repeat (first | refine blk_drewN ?_ _ | refine blk_drew ?_ | refine blk_alloc ?_ _)); refine blk_far ?_ NB336_346.out _; (with_reducible repeat (first | refine blk_drewN ?_ _ | refine blk_drew ?_ | refine blk_alloc ?_ _)); exact BK336.out) hb); have n5_ := Aside0.mk (blk_below (g := gb346) (o := .cells #[.int .u64 t343, .int .u64 t344] 26 (0, 0)) (by (with_reducible repeat (first | refine blk_drewN ?_ _ | refine blk_drew ?_ | refine blk_alloc ?_ _)); refine blk_put (cs := #[.int .u64 t343, .int .u64 0]) ?_ 1 _ rfl; (with_reducible repeat (first | refine blk_drewN ?_ _ | refine blk_drew ?_ | refine blk_alloc ?_ _)); refine blk_put (cs := #[.int .u64 0, .int .u64 0]) ?_ 0 _ rfl; (with_reducible repeat (first | refine blk_drewN ?_ _ | refine blk_drew ?_ | refine blk_alloc ?_ _)); exact BK346.out) hb); have n6_ := Aside0.mk (below_step Slim.vB hb); clear HO329; clear HO332; clear HO339; clear HO342; clear BK336; clear BK346; clear HB; have HO329 := n0_; have HO332 := n1_; have HO339 := n2_; have HO342 := n3_; have BK336 := n4_; have BK346 := n5_; have HB := n6_; clear n0_ n1_ n2_ n3_ n4_ n5_ n6_; (try clear hb); (try clear hb2); (try clear hk); (try clear hi)))
     go_meet
     case rel => exact ⟨_, (true), (by first | rfl | (simp; done) | (simp [*]; done)), H', ⟨by first | omega | exact Nat.le_refl _⟩, ⟨by (with_reducible repeat (first | apply Kd.R_alloc | apply Kd.R_drewN | apply Kd.R_drew)); exact Kd.R_mono HO339.out (fun _ hk => trivial)⟩, ⟨by (with_reducible repeat (first | apply Kd.R_alloc | apply Kd.R_drewN | apply Kd.R_drew)); exact Kd.R_mono HO342.out (fun _ hk => ⟨hk.1.2, hk.2⟩)⟩, ⟨by (with_reducible repeat (first | refine blk_drewN ?_ _ | refine blk_drew ?_ | refine blk_alloc ?_ _)); exact BK336.out⟩, ⟨by (with_reducible repeat (first | refine blk_drewN ?_ _ | refine blk_drew ?_ | refine blk_alloc ?_ _)); exact BK346.out⟩, ⟨Slim.vB⟩⟩
   case rest =>
    clear HC14
    try clear c1
    try clear c2
    try clear p2
    try clear c3
    try clear c5
    try clear c5b0
    try clear c7
    try clear c7b0
    try clear c12
    try clear c19
    try clear c22
    try clear c24
    try clear c28
    try clear c31
    try clear c32
    try clear c36
    try clear hcz21_0
    try clear hcz21_1
    try clear hcz29_0
    try clear hcz29_1
    try clear hcz33_0
    try clear hcz33_1
    try clear hcz34_0
    try clear hcz34_1
    try clear hcz37_0
    try clear hcz37_1
    try clear hcz38_0
    try clear hcz38_1
    try clear hfz21_0
    try clear hfz21_1
    try clear hfz29_0
    try clear hfz29_1
    try clear hfz33_0
    try clear hfz33_1
    try clear hfz34_0
    try clear hfz34_1
    try clear hfz37_0
    try clear hfz37_1
    try clear hfz38_0
    try clear hfz38_1
    obtain ⟨kq, x52_13, rfl, HA, HJ13, HO_10, HO_11, BK336, BK346, HB⟩ := hcut
    cases kq with
    | zero => exact absurd HA.out (by simp [laws_FnExactSpanOf.j0])
    | succ kj13 =>
     have H := HA.out
     clear HA
     simp only [laws_FnExactSpanOf.j0] at H
     by_cases c40 : x52_13 = true
     ·subst c40
      have H1 : (some false) = some r := by rw [if_pos rfl] at H; exact H
      clear H
      have H := H1
      clear H1
      obtain rfl := Option.some.inj H
      go_wp2
      go_ret
      exact ⟨Slim.vE, Slim.vB⟩
     ·replace c40 := Bool.eq_false_iff.mpr c40
      subst c40
      have H1 : ((laws_toNodeS.f kj13 l1).bind fun t348 => ((laws_eqNodeS.f kj13 t337 t348).bind fun t351 => (if t351 = true then ((laws_toSpanS.f kj13 l2).bind fun t352 => ((laws_eqSpanS.f kj13 t340 t352).bind fun t355 => (if t355 = true then (some true) else (some false)))) else (some false)))) = some r := by rw [if_neg (show ¬ (false = true) by decide)] at H; exact H
      clear H
      have H := H1
      clear H1
      replace H := Option.bind_eq_some_iff.mp H
      obtain ⟨t348, A410, H⟩ := H
      replace H : ((laws_eqNodeS.f kj13 t337 t348).bind fun t351 => (if t351 = true then ((laws_toSpanS.f kj13 l2).bind fun t352 => ((laws_eqSpanS.f kj13 t340 t352).bind fun t355 => (if t355 = true then (some true) else (some false)))) else (some false))) = some r := H
      have A41 := Aside0.mk A410
      clear A410
      replace H := Option.bind_eq_some_iff.mp H
      obtain ⟨t351, A420, H⟩ := H
      replace H : (if t351 = true then ((laws_toSpanS.f kj13 l2).bind fun t352 => ((laws_eqSpanS.f kj13 t340 t352).bind fun t355 => (if t355 = true then (some true) else (some false)))) else (some false)) = some r := H
      have A42 := Aside0.mk A420
      clear A420
      by_cases c43 : t351 = true
      ·subst c43
       have H1 : ((laws_toSpanS.f kj13 l2).bind fun t352 => ((laws_eqSpanS.f kj13 t340 t352).bind fun t355 => (if t355 = true then (some true) else (some false)))) = some r := by rw [if_pos rfl] at H; exact H
       clear H
       have H := H1
       clear H1
       replace H := Option.bind_eq_some_iff.mp H
       obtain ⟨t352, A440, H⟩ := H
       replace H : ((laws_eqSpanS.f kj13 t340 t352).bind fun t355 => (if t355 = true then (some true) else (some false))) = some r := H
       have A44 := Aside0.mk A440
       clear A440
       replace H := Option.bind_eq_some_iff.mp H
       obtain ⟨t355, A450, H⟩ := H
       replace H : (if t355 = true then (some true) else (some false)) = some r := H
       have A45 := Aside0.mk A450
       clear A450
       by_cases c46 : t355 = true
       ·subst c46
        have H1 : (some true) = some r := by rw [if_pos rfl] at H; exact H
        clear H
        have H := H1
        clear H1
        obtain rfl := Option.some.inj H
        go_wp2_with (first | ((with_reducible refine gate_callee (f := 73) rfl ?_); refine goesL_ (some 55) rfl rfl Try.func73 (by kernel_rfl) rfl #[.slice A1 l1.length c1] rfl Slim.vA ?_; (with_reducible refine (laws_toNodeS.calls kj13 _ _ l1 t348 _ ?side1 ?side2 A41.out).mono ?_); (case side1 => repeat (first | exact (Kd.C_below HR1.out HB.out) | (with_reducible refine Kd.C_alloc ?_ _) | (with_reducible refine Kd.C_drewN ?_ _) | (with_reducible refine Kd.C_drew ?_))); (case side2 => exact HC1.out); rintro e w47 ⟨v349, rfl, ho0, hb⟩; refine ⟨_, rfl, ?_⟩; have n0_ := Aside0.mk (Kd.R_elder' (Slim.vR HO_10.out) (Kd.R_base ho0) hb); have n1_ := Aside0.mk (Kd.R_below (Slim.vR HO_11.out) hb); have n2_ := Aside0.mk (Kd.R_lower (Kd.R_new' ho0 (Kd.R_lt (Slim.vR HO_10.out))) (below_size Slim.vB)); have n3_ := Aside0.mk (Slim.bB BK336.out hb); have n4_ := Aside0.mk (Slim.bB BK346.out hb); have n5_ := Aside0.mk (below_step Slim.vB hb); clear HO_10; clear HO_11; clear BK336; clear BK346; clear HB; have HO_10 := n0_; have HO_11 := n1_; have HO350 := n2_; have BK336 := n3_; have BK346 := n4_; have HB := n5_; clear n0_ n1_ n2_ n3_ n4_ n5_; (try clear hb); (try clear hb2); (try clear hk); (try clear hi); (try clear ho0); obtain ⟨Ao48, co48, eo48⟩ := Kd.R_slice HO350.out; subst eo48) | ((with_reducible refine gate_callee (f := 75) rfl ?_); refine goesL_ (some 56) rfl rfl Try.func75 (by kernel_rfl) rfl #[.slice Ao24 t337.length co24, .slice Ao48 t348.length co48] rfl Slim.vA ?_; (with_reducible refine (laws_eqNodeS.calls kj13 _ _ t337 _ _ t348 true _ ?side1 ?side2 ?side3 ?side4 A42.out).mono ?_); (case side1 => repeat (first | exact (Kd.R_reads' HO_10.out).2.2 | (with_reducible refine Kd.C_alloc ?_ _) | (with_reducible refine Kd.C_drewN ?_ _) | (with_reducible refine Kd.C_drew ?_))); (case side2 => exact (Kd.R_reads' HO_10.out).2.1); (case side3 => repeat (first | exact (Kd.R_reads' HO350.out).2.2 | (with_reducible refine Kd.C_alloc ?_ _) | (with_reducible refine Kd.C_drewN ?_ _) | (with_reducible refine Kd.C_drew ?_))); (case side4 => exact (Kd.R_reads' HO350.out).2.1); rintro e w49 ⟨rfl, hb⟩; refine ⟨_, rfl, ?_⟩; replace HO_10 := Aside0.mk (Kd.R_below (Slim.vR HO_10.out) hb); replace HO_11 := Aside0.mk (Kd.R_below (Slim.vR HO_11.out) hb); replace HO350 := Aside0.mk (Kd.R_below (Slim.vR HO350.out) hb); replace BK336 := Aside0.mk (Slim.bB BK336.out hb); replace BK346 := Aside0.mk (Slim.bB BK346.out hb); replace HB := Aside0.mk (below_step Slim.vB hb); (try clear hb); (try clear hb2); (try clear hk); (try clear hi)) | ((with_reducible refine gate_callee (f := 24) rfl ?_); refine goesL_ (some 60) rfl rfl Try.func24 (by kernel_rfl) rfl #[.slice A2 l2.length c2] rfl Slim.vA ?_; (with_reducible refine (laws_toSpanS.calls kj13 _ _ l2 t352 _ ?side1 ?side2 A44.out).mono ?_); (case side1 => repeat (first | exact (Kd.C_below HR2.out HB.out) | (with_reducible refine Kd.C_alloc ?_ _) | (with_reducible refine Kd.C_drewN ?_ _) | (with_reducible refine Kd.C_drew ?_))); (case side2 => exact HC2.out); rintro e w50 ⟨v353, rfl, ho0, hb⟩; refine ⟨_, rfl, ?_⟩; have n0_ := Aside0.mk (Kd.R_below (Slim.vR HO_10.out) hb); have n1_ := Aside0.mk (Kd.R_elder' (Slim.vR HO_11.out) (Kd.R_base ho0) hb); have n2_ := Aside0.mk (Kd.R_below (Slim.vR HO350.out) hb); have n3_ := Aside0.mk (Kd.R_lower (Kd.R_newB (Kd.R_newB (Kd.R_new' ho0 (Kd.R_lt (Slim.vR HO_11.out))) (g := gb336) (o := .cells #[.int .u64 t333, .int .u64 t334] 26 (0, 0)) (Slim.vK BK336.out)) (g := gb346) (o := .cells #[.int .u64 t343, .int .u64 t344] 26 (0, 0)) (Slim.vK BK346.out)) (below_size Slim.vB)); have n4_ := Aside0.mk (Slim.bB BK336.out hb); have n5_ := Aside0.mk (Slim.bB BK346.out hb); have n6_ := Aside0.mk (below_step Slim.vB hb); clear HO_10; clear HO_11; clear HO350; clear BK336; clear BK346; clear HB; have HO_10 := n0_; have HO_11 := n1_; have HO350 := n2_; have HO354 := n3_; have BK336 := n4_; have BK346 := n5_; have HB := n6_; clear n0_ n1_ n2_ n3_ n4_ n5_ n6_; (try clear hb); (try clear hb2); (try clear hk); (try clear hi); (try clear ho0); obtain ⟨Ao51, co51, eo51⟩ := Kd.R_slice HO354.out; subst eo51) | ((with_reducible refine gate_callee (f := 27) rfl ?_); refine goesL_ (some 61) rfl rfl Try.func27 (by kernel_rfl) rfl #[.slice Ao25 t340.length co25, .slice Ao51 t352.length co51] rfl Slim.vA ?_; (with_reducible refine (laws_eqSpanS.calls kj13 _ _ t340 _ _ t352 true _ ?side1 ?side2 ?side3 ?side4 A45.out).mono ?_); (case side1 => repeat (first | exact (Kd.R_reads' HO_11.out).2.2 | (with_reducible refine Kd.C_alloc ?_ _) | (with_reducible refine Kd.C_drewN ?_ _) | (with_reducible refine Kd.C_drew ?_))); (case side2 => exact (Kd.R_reads' HO_11.out).2.1); (case side3 => repeat (first | exact (Kd.R_reads' HO354.out).2.2 | (with_reducible refine Kd.C_alloc ?_ _) | (with_reducible refine Kd.C_drewN ?_ _) | (with_reducible refine Kd.C_drew ?_))); (case side4 => exact (Kd.R_reads' HO354.out).2.1); rintro e w52 ⟨rfl, hb⟩; refine ⟨_, rfl, ?_⟩; replace HO_10 := Aside0.mk (Kd.R_below (Slim.vR HO_10.out) hb); replace HO_11 := Aside0.mk (Kd.R_below (Slim.vR HO_11.out) hb); replace HO350 := Aside0.mk (Kd.R_below (Slim.vR HO350.out) hb); replace HO354 := Aside0.mk (Kd.R_below (Slim.vR HO354.out) hb); replace BK336 := Aside0.mk (Slim.bB BK336.out hb); replace BK346 := Aside0.mk (Slim.bB BK346.out hb); replace HB := Aside0.mk (below_step Slim.vB hb); (try clear hb); (try clear hb2); (try clear hk); (try clear hi)))
        go_ret
        exact ⟨Slim.vE, Slim.vB⟩
       ·replace c46 := Bool.eq_false_iff.mpr c46
        subst c46
        have H1 : (some false) = some r := by rw [if_neg (show ¬ (false = true) by decide)] at H; exact H
        clear H
        have H := H1
        clear H1
        obtain rfl := Option.some.inj H
        go_wp2_with (first | ((with_reducible refine gate_callee (f := 73) rfl ?_); refine goesL_ (some 55) rfl rfl Try.func73 (by kernel_rfl) rfl #[.slice A1 l1.length c1] rfl Slim.vA ?_; (with_reducible refine (laws_toNodeS.calls kj13 _ _ l1 t348 _ ?side1 ?side2 A41.out).mono ?_); (case side1 => repeat (first | exact (Kd.C_below HR1.out HB.out) | (with_reducible refine Kd.C_alloc ?_ _) | (with_reducible refine Kd.C_drewN ?_ _) | (with_reducible refine Kd.C_drew ?_))); (case side2 => exact HC1.out); rintro e w53 ⟨v349, rfl, ho0, hb⟩; refine ⟨_, rfl, ?_⟩; have n0_ := Aside0.mk (Kd.R_elder' (Slim.vR HO_10.out) (Kd.R_base ho0) hb); have n1_ := Aside0.mk (Kd.R_below (Slim.vR HO_11.out) hb); have n2_ := Aside0.mk (Kd.R_lower (Kd.R_new' ho0 (Kd.R_lt (Slim.vR HO_10.out))) (below_size Slim.vB)); have n3_ := Aside0.mk (Slim.bB BK336.out hb); have n4_ := Aside0.mk (Slim.bB BK346.out hb); have n5_ := Aside0.mk (below_step Slim.vB hb); clear HO_10; clear HO_11; clear BK336; clear BK346; clear HB; have HO_10 := n0_; have HO_11 := n1_; have HO350 := n2_; have BK336 := n3_; have BK346 := n4_; have HB := n5_; clear n0_ n1_ n2_ n3_ n4_ n5_; (try clear hb); (try clear hb2); (try clear hk); (try clear hi); (try clear ho0); obtain ⟨Ao54, co54, eo54⟩ := Kd.R_slice HO350.out; subst eo54) | ((with_reducible refine gate_callee (f := 75) rfl ?_); refine goesL_ (some 56) rfl rfl Try.func75 (by kernel_rfl) rfl #[.slice Ao24 t337.length co24, .slice Ao54 t348.length co54] rfl Slim.vA ?_; (with_reducible refine (laws_eqNodeS.calls kj13 _ _ t337 _ _ t348 true _ ?side1 ?side2 ?side3 ?side4 A42.out).mono ?_); (case side1 => repeat (first | exact (Kd.R_reads' HO_10.out).2.2 | (with_reducible refine Kd.C_alloc ?_ _) | (with_reducible refine Kd.C_drewN ?_ _) | (with_reducible refine Kd.C_drew ?_))); (case side2 => exact (Kd.R_reads' HO_10.out).2.1); (case side3 => repeat (first | exact (Kd.R_reads' HO350.out).2.2 | (with_reducible refine Kd.C_alloc ?_ _) | (with_reducible refine Kd.C_drewN ?_ _) | (with_reducible refine Kd.C_drew ?_))); (case side4 => exact (Kd.R_reads' HO350.out).2.1); rintro e w55 ⟨rfl, hb⟩; refine ⟨_, rfl, ?_⟩; replace HO_10 := Aside0.mk (Kd.R_below (Slim.vR HO_10.out) hb); replace HO_11 := Aside0.mk (Kd.R_below (Slim.vR HO_11.out) hb); replace HO350 := Aside0.mk (Kd.R_below (Slim.vR HO350.out) hb); replace BK336 := Aside0.mk (Slim.bB BK336.out hb); replace BK346 := Aside0.mk (Slim.bB BK346.out hb); replace HB := Aside0.mk (below_step Slim.vB hb); (try clear hb); (try clear hb2); (try clear hk); (try clear hi)) | ((with_reducible refine gate_callee (f := 24) rfl ?_); refine goesL_ (some 60) rfl rfl Try.func24 (by kernel_rfl) rfl #[.slice A2 l2.length c2] rfl Slim.vA ?_; (with_reducible refine (laws_toSpanS.calls kj13 _ _ l2 t352 _ ?side1 ?side2 A44.out).mono ?_); (case side1 => repeat (first | exact (Kd.C_below HR2.out HB.out) | (with_reducible refine Kd.C_alloc ?_ _) | (with_reducible refine Kd.C_drewN ?_ _) | (with_reducible refine Kd.C_drew ?_))); (case side2 => exact HC2.out); rintro e w56 ⟨v353, rfl, ho0, hb⟩; refine ⟨_, rfl, ?_⟩; have n0_ := Aside0.mk (Kd.R_below (Slim.vR HO_10.out) hb); have n1_ := Aside0.mk (Kd.R_elder' (Slim.vR HO_11.out) (Kd.R_base ho0) hb); have n2_ := Aside0.mk (Kd.R_below (Slim.vR HO350.out) hb); have n3_ := Aside0.mk (Kd.R_lower (Kd.R_newB (Kd.R_newB (Kd.R_new' ho0 (Kd.R_lt (Slim.vR HO_11.out))) (g := gb336) (o := .cells #[.int .u64 t333, .int .u64 t334] 26 (0, 0)) (Slim.vK BK336.out)) (g := gb346) (o := .cells #[.int .u64 t343, .int .u64 t344] 26 (0, 0)) (Slim.vK BK346.out)) (below_size Slim.vB)); have n4_ := Aside0.mk (Slim.bB BK336.out hb); have n5_ := Aside0.mk (Slim.bB BK346.out hb); have n6_ := Aside0.mk (below_step Slim.vB hb); clear HO_10; clear HO_11; clear HO350; clear BK336; clear BK346; clear HB; have HO_10 := n0_; have HO_11 := n1_; have HO350 := n2_; have HO354 := n3_; have BK336 := n4_; have BK346 := n5_; have HB := n6_; clear n0_ n1_ n2_ n3_ n4_ n5_ n6_; (try clear hb); (try clear hb2); (try clear hk); (try clear hi); (try clear ho0); obtain ⟨Ao57, co57, eo57⟩ := Kd.R_slice HO354.out; subst eo57) | ((with_reducible refine gate_callee (f := 27) rfl ?_); refine goesL_ (some 61) rfl rfl Try.func27 (by kernel_rfl) rfl #[.slice Ao25 t340.length co25, .slice Ao57 t352.length co57] rfl Slim.vA ?_; (with_reducible refine (laws_eqSpanS.calls kj13 _ _ t340 _ _ t352 false _ ?side1 ?side2 ?side3 ?side4 A45.out).mono ?_); (case side1 => repeat (first | exact (Kd.R_reads' HO_11.out).2.2 | (with_reducible refine Kd.C_alloc ?_ _) | (with_reducible refine Kd.C_drewN ?_ _) | (with_reducible refine Kd.C_drew ?_))); (case side2 => exact (Kd.R_reads' HO_11.out).2.1); (case side3 => repeat (first | exact (Kd.R_reads' HO354.out).2.2 | (with_reducible refine Kd.C_alloc ?_ _) | (with_reducible refine Kd.C_drewN ?_ _) | (with_reducible refine Kd.C_drew ?_))); (case side4 => exact (Kd.R_reads' HO354.out).2.1); rintro e w58 ⟨rfl, hb⟩; refine ⟨_, rfl, ?_⟩; replace HO_10 := Aside0.mk (Kd.R_below (Slim.vR HO_10.out) hb); replace HO_11 := Aside0.mk (Kd.R_below (Slim.vR HO_11.out) hb); replace HO350 := Aside0.mk (Kd.R_below (Slim.vR HO350.out) hb); replace HO354 := Aside0.mk (Kd.R_below (Slim.vR HO354.out) hb); replace BK336 := Aside0.mk (Slim.bB BK336.out hb); replace BK346 := Aside0.mk (Slim.bB BK346.out hb); replace HB := Aside0.mk (below_step Slim.vB hb); (try clear hb); (try clear hb2); (try clear hk); (try clear hi)))
        go_ret
        exact ⟨Slim.vE, Slim.vB⟩
      ·replace c43 := Bool.eq_false_iff.mpr c43
       subst c43
       have H1 : (some false) = some r := by rw [if_neg (show ¬ (false = true) by decide)] at H; exact H
       clear H
       have H := H1
       clear H1
       obtain rfl := Option.some.inj H
       go_wp2_with (first | ((with_reducible refine gate_callee (f := 73) rfl ?_); refine goesL_ (some 55) rfl rfl Try.func73 (by kernel_rfl) rfl #[.slice A1 l1.length c1] rfl Slim.vA ?_; (with_reducible refine (laws_toNodeS.calls kj13 _ _ l1 t348 _ ?side1 ?side2 A41.out).mono ?_); (case side1 => repeat (first | exact (Kd.C_below HR1.out HB.out) | (with_reducible refine Kd.C_alloc ?_ _) | (with_reducible refine Kd.C_drewN ?_ _) | (with_reducible refine Kd.C_drew ?_))); (case side2 => exact HC1.out); rintro e w59 ⟨v349, rfl, ho0, hb⟩; refine ⟨_, rfl, ?_⟩; have n0_ := Aside0.mk (Kd.R_elder' (Slim.vR HO_10.out) (Kd.R_base ho0) hb); have n1_ := Aside0.mk (Kd.R_below (Slim.vR HO_11.out) hb); have n2_ := Aside0.mk (Kd.R_lower (Kd.R_new' ho0 (Kd.R_lt (Slim.vR HO_10.out))) (below_size Slim.vB)); have n3_ := Aside0.mk (Slim.bB BK336.out hb); have n4_ := Aside0.mk (Slim.bB BK346.out hb); have n5_ := Aside0.mk (below_step Slim.vB hb); clear HO_10; clear HO_11; clear BK336; clear BK346; clear HB; have HO_10 := n0_; have HO_11 := n1_; have HO350 := n2_; have BK336 := n3_; have BK346 := n4_; have HB := n5_; clear n0_ n1_ n2_ n3_ n4_ n5_; (try clear hb); (try clear hb2); (try clear hk); (try clear hi); (try clear ho0); obtain ⟨Ao60, co60, eo60⟩ := Kd.R_slice HO350.out; subst eo60) | ((with_reducible refine gate_callee (f := 75) rfl ?_); refine goesL_ (some 56) rfl rfl Try.func75 (by kernel_rfl) rfl #[.slice Ao24 t337.length co24, .slice Ao60 t348.length co60] rfl Slim.vA ?_; (with_reducible refine (laws_eqNodeS.calls kj13 _ _ t337 _ _ t348 false _ ?side1 ?side2 ?side3 ?side4 A42.out).mono ?_); (case side1 => repeat (first | exact (Kd.R_reads' HO_10.out).2.2 | (with_reducible refine Kd.C_alloc ?_ _) | (with_reducible refine Kd.C_drewN ?_ _) | (with_reducible refine Kd.C_drew ?_))); (case side2 => exact (Kd.R_reads' HO_10.out).2.1); (case side3 => repeat (first | exact (Kd.R_reads' HO350.out).2.2 | (with_reducible refine Kd.C_alloc ?_ _) | (with_reducible refine Kd.C_drewN ?_ _) | (with_reducible refine Kd.C_drew ?_))); (case side4 => exact (Kd.R_reads' HO350.out).2.1); rintro e w61 ⟨rfl, hb⟩; refine ⟨_, rfl, ?_⟩; replace HO_10 := Aside0.mk (Kd.R_below (Slim.vR HO_10.out) hb); replace HO_11 := Aside0.mk (Kd.R_below (Slim.vR HO_11.out) hb); replace HO350 := Aside0.mk (Kd.R_below (Slim.vR HO350.out) hb); replace BK336 := Aside0.mk (Slim.bB BK336.out hb); replace BK346 := Aside0.mk (Slim.bB BK346.out hb); replace HB := Aside0.mk (below_step Slim.vB hb); (try clear hb); (try clear hb2); (try clear hk); (try clear hi)))
       go_ret
       exact ⟨Slim.vE, Slim.vB⟩
end Go.Proofs.Ytimoiblediffpaa.QFnExactSpanOf
end
