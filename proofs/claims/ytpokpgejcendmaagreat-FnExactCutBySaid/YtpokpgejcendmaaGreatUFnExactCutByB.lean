/- The plain law of FnExactCutBy: what the two functions compute is the same. -/
import Derived.Test.YtpokpgejcendmaaGreatUFnExactCutByA
import Derived.Laws.MathBits
set_option linter.all false
namespace Go.Proofs.YtpokpgejcendmaaGreat.R
open Go.Rf
theorem delete_along {p : DProgram} {v : List Int} (h : Sees p v) (f : Bool) (c : Int) (l : Bool × List Int) (hl : l.2.length ≤ 1048576) (hn : ∀ x ∈ l.2, 0 ≤ x ∧ x < (manyS p : Int)) : slices_DeleteFunc_int_by_statesAlong_1 l ((f, v), (c, ())) = some (l.1, l.2.filter fun s => v.getD s.toNat 0 == c) := by
  have hX := loop_find l.2 (fun s => !(v.getD s.toNat 0 == c)) (fun i => slices_IndexFunc_int_by_statesAlong_1_L0 l ((f, v), (c, ())) (l.2.length : Int) i) (fun i hi => by
    rw [slices_IndexFunc_int_by_statesAlong_1_L0_eq, gT (by omega), gT (by omega), gT (by omega), getD_at l.2 _ i hi, statesAlong_1 h f c _ (hn _ (List.getElem_mem hi)), some_bind, up1 i (by omega), bind_id]) (by rw [slices_IndexFunc_int_by_statesAlong_1_L0_eq, gF (by omega)])
  have e : l.2.filter (fun s => v.getD s.toNat 0 == c) = l.2.filter (fun s => !!(v.getD s.toNat 0 == c)) := by
    congr 1
    funext x
    rw [Bool.not_not]
  rw [slices_DeleteFunc_int_by_statesAlong_1_eq, slices_IndexFunc_int_by_statesAlong_1_eq, e]
  exact delete_of (f := l.1) (fun x => 0 ≤ x ∧ x < (manyS p : Int)) (fun s i j => slices_DeleteFunc_int_by_statesAlong_1_L0 s ((f, v), (c, ())) i j) hl hn (fun s i j hij hj hn2 hP => by
    rw [slices_DeleteFunc_int_by_statesAlong_1_L0_eq, gT (by simp only; omega), gT (by omega), gT (by simp only; omega), getD_at s _ j hj, statesAlong_1 h f c _ (hP _ (List.getElem_mem hj)), some_bind, gT (by omega), gT (by simp only; omega), up1 j (by omega), up1 i (by omega), bind_id, bind_id, Int.toNat_natCast]) (fun s i hn => by rw [slices_DeleteFunc_int_by_statesAlong_1_L0_eq, gF (by simp only; omega)]) hX
/-- the marked states, read off -/
theorem along_marks {p : DProgram} (h : Ok p) (now : List Int) (hn : InS p now) (t : List Bool) (h1 : t.length = manyS p) (h2 : ∀ j < manyS p, t.getD j false = decide ((j : Int) ∈ now.flatMap (nextL p))) : impl_marked (false, t) = some (false, sortL (now.flatMap (nextL p))) := by
  have hms := manyS_in h.sml
  rw [marked (false, t) (by simp only; omega)]
  congr 2
  symm
  rw [show ((false, t) : Bool × List Bool).2.length = manyS p from h1]
  refine rising_filter _ (sortL_rising _) (manyS p) (fun x hx => nextsL_in h now hn.2 x ((sortL_mem _ x).1 hx)) _ (fun i hi => ?_)
  rw [h2 i hi]
  exact decide_eq_decide.mpr (sortL_mem _ _).symm
theorem along_L0 {p : DProgram} {v : List Int} (h : Sees p v) (f : Bool) (path : Bool × List Int) (hp : path.2.length ≤ 1048576) (d : Nat) : ∀ (i : Nat) (o : List (Bool × List Int)) (now : List Int), i + d = path.2.length → o.length ≤ i → InS p now →
    impl_statesAlong_L0 p (f, v) (false, o) (false, graphP p) (false, now) path (path.2.length : Int) (i : Int) = some (false, o ++ (alongL p v (if i = 0 then now else sortL (now.flatMap (nextL p))) (path.2.drop i)).map fun l => (false, l)) := by
  have hlim := lim_eq
  have hms := manyS_in h.ok.sml
  induction d with
  | zero =>
    intro i o now hi ho hn
    rw [impl_statesAlong_L0_eq, gF (by omega), List.drop_of_length_le (by omega)]
    simp [alongL]
  | succ d ih =>
    intro i o now hi ho hn
    have hlt : i < path.2.length := by omega
    have hn1 := hn.1
    rw [impl_statesAlong_L0_eq, gT (by omega), gT (by omega), gT (by omega), getD_at path.2 _ i hlt, List.drop_eq_getElem_cons hlt, alongL, up1 i (by omega)]
    by_cases c0 : i = 0
    · have hn2 := hn.filter (fun s => v.getD s.toNat 0 == path.2[i])
      have hn3 := hn2.1
      have hd : slices_DeleteFunc_int_by_statesAlong_1 (false, now) ((f, v), (path.2[i], ())) = some (false, now.filter fun s => v.getD s.toNat 0 == path.2[i]) := delete_along h f (path.2[i]) (false, now) (by simp only; omega) hn.2
      rw [gF (by omega), if_pos c0, hd, some_bind, cloneInt_F _ (by simp only; omega), some_bind, gT (by simp; omega), bind_id, Bool.and_false, ih (i + 1) _ _ (by omega) (by simp; omega) hn2, if_neg (by omega)]
      simp
    · have hnx := hn.next h.ok
      have hn2 := hnx.filter (fun s => v.getD s.toNat 0 == path.2[i])
      have hn3 := hn2.1
      have hn4 := hnx.1
      obtain ⟨t, t1, t2, t3⟩ := along_L2 h.ok (f, v) (false, o) (path.2[i]) path (path.2.length : Int) (i : Int) (false, now) hn now.length 0 (List.replicate (manyS p) false) (by simp) (by simp)
      have t3' : impl_statesAlong_L2 p (f, v) (false, o) (false, graphP p) (path.2[i]) (false, List.replicate (manyS p) false) path (path.2.length : Int) (i : Int) (false, now) (now.length : Int) 0 = _ := t3
      have hmk := along_marks h.ok now hn t t1 (fun j hj => by
        rw [t2 j hj, List.drop_zero]
        have e : (List.replicate (manyS p) false).getD j false = false := by simp [List.getD_eq_getElem?_getD, List.getElem?_replicate, hj]
        rw [e, Bool.false_or])
      rw [gT (by omega), if_neg c0, states_many h.ok.sml, some_bind, gT (by omega), gT (by omega), gT (by omega), gT (by omega), Int.toNat_natCast]
      simp only [t3', some_bind, hmk]
      have hd : slices_DeleteFunc_int_by_statesAlong_1 (false, sortL (now.flatMap (nextL p))) ((f, v), (path.2[i], ())) = some (false, (sortL (now.flatMap (nextL p))).filter fun s => v.getD s.toNat 0 == path.2[i]) := delete_along h f (path.2[i]) (false, sortL (now.flatMap (nextL p))) (by simp only; omega) hnx.2
      rw [hd, some_bind, cloneInt_F _ (by simp only; omega), some_bind, gT (by simp; omega), bind_id, Bool.and_false, ih (i + 1) _ _ (by omega) (by simp; omega) hn2, if_neg (by omega)]
      simp
theorem statesAlong {p : DProgram} {v : List Int} (h : Sees p v) (f : Bool) (path : Bool × List Int) (hp : path.2.length ≤ 1048576) : impl_statesAlong p (f, v) path = some (false, (alongL p v (thoseL p p.2.2.1.2 0 (manyS p)) path.2).map fun l => (false, l)) := by
  have hg := h.ok.good
  have hk : kindT p.1 p.2.1 p.2.2.1.2 ≠ 0 := by
    simp only [goodProgram, Bool.and_eq_true, beq_iff_eq] at hg
    rw [hg.1]
    decide
  have e := along_L0 h f path hp path.2.length 0 [] _ (by omega) (by simp) (InS_those p.2.2.1.2)
  have e' : impl_statesAlong_L0 p (f, v) (false, []) (false, graphP p) (false, thoseL p p.2.2.1.2 0 (manyS p)) path (path.2.length : Int) 0 = _ := e
  rw [impl_statesAlong_eq, graphOf h.ok, some_bind, where_F h.ok.sml p.2.2.1 h.ok.wf.1 hk, some_bind]
  show ((impl_statesAlong_L0 p (f, v) (false, []) (false, graphP p) (false, thoseL p p.2.2.1.2 0 (manyS p)) path (path.2.length : Int) 0).bind fun r2 => some (r2.1, r2.2)) = _
  rw [e', some_bind, if_pos rfl, List.nil_append, List.drop_zero]
/-- the first place without states, -1 if there is none -/
def failI (A : List (List Int)) : Int := bif A.any (fun l => (l.length : Int) == 0) then (A.findIdx (fun l => (l.length : Int) == 0) : Int) else -1
theorem failsAt (A : List (List Int)) (g : List Int → Bool) (b : Bool) (hl : A.length ≤ 1048576) : impl_failsAt (b, A.map fun l => (g l, l)) = some (failI A) ∧ spec_l19Fails (b, A.map fun l => (g l, l)) = some (failI A) := by
  have e1 : ((A.map fun l => (g l, l)).any fun x : Bool × List Int => (x.2.length : Int) == 0) = A.any fun l => (l.length : Int) == 0 := by rw [List.any_map]; rfl
  have e2 : ((A.map fun l => (g l, l)).findIdx fun x : Bool × List Int => (x.2.length : Int) == 0) = A.findIdx fun l => (l.length : Int) == 0 := by rw [List.findIdx_map]; rfl
  constructor
  · have h := loop_find (A.map fun l => (g l, l)) (fun x => (x.2.length : Int) == 0) (fun i => slices_IndexFunc_int_by_failsAt_1_L0 (b, A.map fun l => (g l, l)) () ((A.map fun l => (g l, l)).length : Int) i) (fun i hi => by
      have hi' : i < A.length := by simpa using hi
      rw [slices_IndexFunc_int_by_failsAt_1_L0_eq, gT (by omega), gT (by omega), gT (by simp only; omega), getD_at (A.map fun l => (g l, l)) _ i hi, impl_failsAt_1_eq, some_bind, up1 i (by omega), bind_id]) (by rw [slices_IndexFunc_int_by_failsAt_1_L0_eq, gF (by omega)])
    rw [impl_failsAt_eq, slices_IndexFunc_int_by_failsAt_1_eq]
    simp only [h, some_bind, e1, e2, failI]
    cases A.any fun l => (l.length : Int) == 0 <;> rfl
  · have h := loop_find (A.map fun l => (g l, l)) (fun x => (x.2.length : Int) == 0) (fun i => spec_l19Fails_L0 (b, A.map fun l => (g l, l)) ((A.map fun l => (g l, l)).length : Int) i) (fun i hi => by
      have hi' : i < A.length := by simpa using hi
      rw [spec_l19Fails_L0_eq, gT (by omega), gT (by omega), gT (by simp only; omega), getD_at (A.map fun l => (g l, l)) _ i hi, up1 i (by omega), bind_id]) (by rw [spec_l19Fails_L0_eq, gF (by omega)])
    rw [spec_l19Fails_eq]
    simp only [h, some_bind, e1, e2, failI]
    cases A.any fun l => (l.length : Int) == 0 <;> rfl
theorem failI_in (A : List (List Int)) : -1 ≤ failI A ∧ failI A < (A.length : Int) := by
  unfold failI
  cases h : A.any fun l => (l.length : Int) == 0 with
  | false => exact ⟨by simp, by simp; omega⟩
  | true =>
    have := List.findIdx_lt_length.2 (List.any_eq_true.1 h)
    rw [cond_true]
    exact ⟨by omega, by omega⟩
theorem l19Path (p : DProgram) (hs : SmProgram p) (hw : WfP p) (v : DSight) (hv : v.2.length ≤ 1048576) (l : Bool × List Int) (hl : l.2.length ≤ 1048576) : spec_l19Path p v l = some (classPath p v.2 l.2 200) := by
  rw [spec_l19Path_eq, spec_goodSight p hs hw v hv, some_bind, classPath]
  cases h0 : goodSight p v.2 with
  | false => rfl
  | true =>
    obtain ⟨hp, hv2, hvi⟩ := goodSight_in h0
    rw [cond_true, l1In_eq, some_bind, Bool.true_and]
    by_cases c : 1 ≤ (l.2.length : Int) ∧ (l.2.length : Int) ≤ 200
    · rw [decide_eq_true c, cond_true, l19Classes v hv hvi l hl, some_bind, Bool.true_and]
    · rw [decide_eq_false c]
      rfl
theorem classPath_in {p : DProgram} {v l : List Int} {most : Int} (h : classPath p v l most = true) : goodSight p v = true ∧ 1 ≤ (l.length : Int) ∧ (l.length : Int) ≤ most ∧ ∀ x ∈ l, 0 ≤ x ∧ x ≤ manyC v - 1 := by
  simp only [classPath, Bool.and_eq_true, decide_eq_true_eq, List.all_eq_true] at h
  exact ⟨h.1, h.2.1.1, h.2.1.2, h.2.2⟩
theorem failsat_spec (p : DProgram) (hs : SmProgram p) (hw : WfP p) (v : DSight) (path : Bool × List Int) (hv : v.2.length ≤ 1048576) (hp : path.2.length ≤ 1048576) :
    spec_FailsAt p v path = some (bif classPath p v.2 path.2 200 then (if failI (alongL p v.2 (thoseL p p.2.2.1.2 0 (manyS p)) path.2) < 0 then (0, false) else (failI (alongL p v.2 (thoseL p p.2.2.1.2 0 (manyS p)) path.2), true)) else (0, false)) := by
  rw [spec_FailsAt_eq, l19Path p hs hw v hv path hp, some_bind]
  cases h0 : classPath p v.2 path.2 200 with
  | false => rfl
  | true =>
    obtain ⟨h1, _⟩ := classPath_in h0
    have h := Sees_of h1 hs hw
    obtain ⟨b, e1⟩ := l19Along h v.1 path hp
    have e1' : spec_l19Along p v path = _ := e1
    have e2 := (failsAt (alongL p v.2 (thoseL p p.2.2.1.2 0 (manyS p)) path.2) (fun l => l.isEmpty) b (by rw [alongL_length]; exact hp)).2
    rw [Bool.not_true, cond_false, e1', some_bind]
    simp only [e2, some_bind, cond_true]
    by_cases c : failI (alongL p v.2 (thoseL p p.2.2.1.2 0 (manyS p)) path.2) < 0
    · rw [gT c, if_pos c]
    · rw [gF c, if_neg c]
/-- the rows of states along a path, from the start on -/
noncomputable def rowsL (p : DProgram) (v path : List Int) : List (List Int) := alongL p v (thoseL p p.2.2.1.2 0 (manyS p)) path
theorem getD_rows (A : List (List Int)) (g : List Int → Bool) (k : Nat) (hk : k < A.length) : (A.map fun l => (g l, l)).getD k (true, []) = (g A[k], A[k]) := by
  rw [List.getD_eq_getElem?_getD, List.getElem?_map, List.getElem?_eq_getElem hk]
  rfl
/-- the states ahead of the place where a path fails -/
noncomputable def deadL (p : DProgram) (v path : List Int) : List Int := (rowsL p v path).getD ((failI (rowsL p v path)).toNat - 1) []
theorem deadEnds {p : DProgram} {v : List Int} (h : Sees p v) (f : Bool) (path : Bool × List Int) (hp : path.2.length ≤ 1048576) :
    impl_deadEnds p (f, v) path = some (if failI (rowsL p v path.2) < 1 then ((true, []), false) else ((false, deadL p v path.2), true)) := by
  have e1 := statesAlong h f path hp
  have hlen : (rowsL p v path.2).length = path.2.length := alongL_length p v path.2 _
  have e2 := (failsAt (rowsL p v path.2) (fun _ => false) false (by rw [hlen]; exact hp)).1
  have hf := failI_in (rowsL p v path.2)
  rw [impl_deadEnds_eq, e1, some_bind]
  show ((impl_failsAt (false, (rowsL p v path.2).map fun l => (false, l))).bind fun r1 => _) = _
  rw [e2, some_bind, deadL]
  generalize failI (rowsL p v path.2) = k at hf
  by_cases c : k < 1
  · rw [gT c, if_pos c]
  · obtain ⟨n, rfl⟩ : ∃ n : Nat, k = ((n + 1 : Nat) : Int) := ⟨(k - 1).toNat, by omega⟩
    have hn : n < (rowsL p v path.2).length := by omega
    have ew : IntKind.i64.wrap (((n + 1 : Nat) : Int) - 1) = (n : Int) := by rw [wr (by omega)]; omega
    rw [gF c, if_neg c]
    simp only [ew]
    rw [gT (show (0 : Int) ≤ (n : Int) by omega)]
    show (bif decide ((n : Int) < (((rowsL p v path.2).map fun l => (false, l)).length : Int)) then some ((((rowsL p v path.2).map fun l => (false, l)).getD (Int.toNat (n : Int)) (true, []) |>.1, ((rowsL p v path.2).map fun l => (false, l)).getD (Int.toNat (n : Int)) (true, []) |>.2), true) else none) = _
    rw [gT (by simp; omega), Int.toNat_natCast, getD_rows _ _ n hn, Int.toNat_natCast, Nat.add_sub_cancel]
    have e : (rowsL p v path.2).getD n [] = (rowsL p v path.2)[n] := by simp [List.getD_eq_getElem?_getD, hn]
    rw [e]
theorem specDead (p : DProgram) (hs : SmProgram p) (hw : WfP p) (v : DSight) (path : Bool × List Int) (hv : v.2.length ≤ 1048576) (hp : path.2.length ≤ 1048576) :
    ∃ b, spec_DeadEnds p v path = some (bif classPath p v.2 path.2 200 then (if failI (rowsL p v.2 path.2) < 1 then ((true, []), false) else ((b, deadL p v.2 path.2), true)) else ((true, []), false)) := by
  have ef : spec_FailsAt p v path = some (bif classPath p v.2 path.2 200 then (if failI (rowsL p v.2 path.2) < 0 then (0, false) else (failI (rowsL p v.2 path.2), true)) else (0, false)) := failsat_spec p hs hw v path hv hp
  rw [spec_DeadEnds_eq, ef, some_bind]
  cases h0 : classPath p v.2 path.2 200 with
  | false => exact ⟨true, rfl⟩
  | true =>
    obtain ⟨h1, _⟩ := classPath_in h0
    have h := Sees_of h1 hs hw
    have hlen : (rowsL p v.2 path.2).length = path.2.length := alongL_length p v.2 path.2 _
    have hf := failI_in (rowsL p v.2 path.2)
    obtain ⟨b, e1⟩ := l19Along h v.1 path hp
    have e1' : spec_l19Along p v path = some (b, (rowsL p v.2 path.2).map fun l => (l.isEmpty, l)) := e1
    rw [e1', deadL]
    simp only [cond_true]
    generalize failI (rowsL p v.2 path.2) = k at hf
    by_cases c : k < 0
    · refine ⟨true, ?_⟩
      rw [if_pos c, if_pos (show k < 1 by omega)]
      rfl
    · rw [if_neg c]
      by_cases c0 : k = 0
      · refine ⟨true, ?_⟩
        rw [if_pos (show k < 1 by omega), c0]
        rfl
      · obtain ⟨n, rfl⟩ : ∃ n : Nat, k = ((n + 1 : Nat) : Int) := ⟨(k - 1).toNat, by omega⟩
        have hn : n < (rowsL p v.2 path.2).length := by omega
        have ew : IntKind.i64.wrap (((n + 1 : Nat) : Int) - 1) = (n : Int) := by rw [wr (by omega)]; omega
        refine ⟨((rowsL p v.2 path.2)[n]).isEmpty, ?_⟩
        rw [if_neg (show ¬ (((n + 1 : Nat) : Int) < 1) by omega)]
        simp only [Bool.not_true, cond_false, some_bind, ew]
        rw [bF (beqF (show ¬ ((n + 1 : Nat) : Int) = 0 by omega)), gT (show (0 : Int) ≤ (n : Int) by omega), gT (by simp; omega), Int.toNat_natCast, getD_rows _ _ n hn, Int.toNat_natCast, Nat.add_sub_cancel]
        have e : (rowsL p v.2 path.2).getD n [] = (rowsL p v.2 path.2)[n] := by simp [List.getD_eq_getElem?_getD, hn]
        rw [e]
theorem deadL_in {p : DProgram} {v : List Int} (h : Sees p v) (path : List Int) : InS p (deadL p v path) := by
  unfold deadL
  rw [List.getD_eq_getElem?_getD]
  cases hh : (rowsL p v path)[(failI (rowsL p v path)).toNat - 1]? with
  | none => exact ⟨by simp, by simp⟩
  | some l => exact alongL_in h.ok v path _ (InS_those p.2.2.1.2) l (List.mem_of_getElem? hh)
theorem Sees.start {p : DProgram} {v : List Int} (h : Sees p v) : kindT p.1 p.2.1 p.2.2.1.2 ≠ 0 := by
  have hg := h.ok.good
  simp only [goodProgram, Bool.and_eq_true, beq_iff_eq] at hg
  rw [hg.1]
  decide
theorem rows_big {a : Bool × List (Bool × List DNode)} (w : WfD (.sl (.sl tyNode)) a) : a.2.length ≤ big ∧ (∀ x ∈ a.2, x.2.length ≤ big) ∧ ∀ t ∈ cpRows a.2, WfN t.2 := by
  refine ⟨w.2.1, fun x hx => (w.2.2 x hx).2.1, fun t ht => ?_⟩
  obtain ⟨x, hx, rfl⟩ := List.mem_map.1 ht
  exact (show WfN x.2 from WfD_nodes (w.2.2 x hx))
theorem flatMap_nil {α β : Type} (l : List α) (P : α → List β) (h : ∀ a ∈ l, P a = []) : l.flatMap P = [] := by
  induction l with
  | nil => rfl
  | cons a l ih => rw [List.flatMap_cons, h a List.mem_cons_self, ih fun b hb => h b (List.mem_cons_of_mem _ hb)]; rfl
/-- numbers by first look -/
def numF {α : Type} [BEq α] : List α → List α → List Int
  | [], _ => []
  | x :: l, K => match K.findIdx? (fun y => x == y) with
    | some i => (i : Int) :: numF l K
    | none => (K.length : Int) :: numF l (K ++ [x])
def numL {α : Type} [BEq α] (l : List α) : List Int := numF l []
theorem numF_length {α : Type} [BEq α] (l : List α) : ∀ K, (numF l K).length = l.length := by
  induction l with
  | nil => intro K; rfl
  | cons x l ih =>
    intro K
    rw [numF]
    split
    · simp [ih]
    · simp [ih]
theorem findIdx?_lt {α : Type} {K : List α} {q : α → Bool} {i : Nat} (h : K.findIdx? q = some i) : i < K.length := by
  rw [List.findIdx?_eq_some_iff_getElem] at h
  exact h.1
theorem findIdx?_more {α : Type} {K L : List α} {q : α → Bool} {i : Nat} (h : K.findIdx? q = some i) : (K ++ L).findIdx? q = some i := by
  rw [List.findIdx?_append, h]
  rfl
theorem findIdx?_new {α : Type} {K : List α} {q : α → Bool} {x : α} (h : K.findIdx? q = none) (hx : q x = true) : (K ++ [x]).findIdx? q = some K.length := by
  rw [List.findIdx?_append, h, List.findIdx?_cons, hx]
  simp
/-- the numbers are those of a good view -/
theorem numF_sight {α : Type} [BEq α] (l : List α) : ∀ K : List α, sightL (K.length : Int) (numF l K) = true := by
  induction l with
  | nil => intro K; rfl
  | cons x l ih =>
    intro K
    rw [numF]
    split
    · rename_i i hi
      have hlt := findIdx?_lt hi
      rw [sightL, decide_eq_true (by omega), Bool.true_and, if_neg (by omega)]
      exact ih K
    · rw [sightL, decide_eq_true (by omega), Bool.true_and, if_pos rfl]
      have := ih (K ++ [x])
      rw [List.length_append] at this
      exact this
/-- each number is the place of its key among the keys that were met -/
theorem numF_idx {α : Type} [BEq α] [LawfulBEq α] (l : List α) : ∀ K : List α, ∃ L, ∀ (i : Nat) (hi : i < l.length), ∃ c : Nat, (K ++ L).findIdx? (fun y => l[i] == y) = some c ∧ (numF l K)[i]? = some (c : Int) := by
  induction l with
  | nil => intro K; exact ⟨[], fun i hi => absurd hi (by simp)⟩
  | cons x l ih =>
    intro K
    rw [numF]
    split
    · rename_i k hk
      obtain ⟨L, hL⟩ := ih K
      refine ⟨L, fun i hi => ?_⟩
      cases i with
      | zero => exact ⟨k, findIdx?_more hk, rfl⟩
      | succ i =>
        obtain ⟨c, h1, h2⟩ := hL i (by simpa using hi)
        exact ⟨c, h1, h2⟩
    · rename_i hk
      obtain ⟨L, hL⟩ := ih (K ++ [x])
      refine ⟨[x] ++ L, fun i hi => ?_⟩
      cases i with
      | zero =>
        refine ⟨K.length, ?_, rfl⟩
        rw [← List.append_assoc]
        exact findIdx?_more (findIdx?_new hk (by simp))
      | succ i =>
        obtain ⟨c, h1, h2⟩ := hL i (by simpa using hi)
        exact ⟨c, by rw [← List.append_assoc]; exact h1, h2⟩
theorem findIdx?_at {α : Type} [BEq α] [LawfulBEq α] {K : List α} {x : α} {i : Nat} (h : K.findIdx? (fun y => x == y) = some i) : K[i]? = some x := by
  rw [List.findIdx?_eq_some_iff_getElem] at h
  obtain ⟨h1, h2, _⟩ := h
  rw [List.getElem?_eq_getElem h1]
  exact congrArg some (eq_of_beq h2).symm
/-- keys are alike where their numbers are -/
theorem numL_eq {α : Type} [BEq α] [LawfulBEq α] (l : List α) (i j : Nat) (hi : i < l.length) (hj : j < l.length) : (numL l).getD i 0 = (numL l).getD j 0 ↔ l[i] = l[j] := by
  obtain ⟨L, hL⟩ := numF_idx l []
  obtain ⟨c, h1, h2⟩ := hL i hi
  obtain ⟨d, h3, h4⟩ := hL j hj
  have e1 : (numL l).getD i 0 = (c : Int) := by rw [List.getD_eq_getElem?_getD]; show ((numF l [])[i]?).getD 0 = _; rw [h2]; rfl
  have e2 : (numL l).getD j 0 = (d : Int) := by rw [List.getD_eq_getElem?_getD]; show ((numF l [])[j]?).getD 0 = _; rw [h4]; rfl
  rw [e1, e2]
  constructor
  · intro h
    have : c = d := by omega
    subst this
    have a := findIdx?_at h1
    have b := findIdx?_at h3
    rw [a] at b
    exact Option.some.inj b
  · intro h
    have h1' := h1
    rw [h, h3] at h1'
    have := Option.some.inj h1'
    omega
/-- only which keys are alike matters -/
theorem numF_pat {α β : Type} [BEq α] [BEq β] (a0 : α) (b0 : β) (l : List α) (m : List β) (hlen : l.length = m.length) (hp : ∀ i j : Nat, i < l.length → j < l.length → (l.getD i a0 == l.getD j a0) = (m.getD i b0 == m.getD j b0)) (d : Nat) : ∀ (i : Nat) (js : List Nat), i + d = l.length → (∀ j ∈ js, j < l.length) →
    numF (l.drop i) (js.map fun j => l.getD j a0) = numF (m.drop i) (js.map fun j => m.getD j b0) := by
  induction d with
  | zero =>
    intro i js hi hj
    rw [List.drop_of_length_le (by omega), List.drop_of_length_le (by omega)]
    rfl
  | succ d ih =>
    intro i js hi hj
    have h1 : i < l.length := by omega
    have h2 : i < m.length := by omega
    have e1 : l.getD i a0 = l[i] := by simp [List.getD_eq_getElem?_getD, h1]
    have e2 : m.getD i b0 = m[i] := by simp [List.getD_eq_getElem?_getD, h2]
    rw [List.drop_eq_getElem_cons h1, List.drop_eq_getElem_cons h2, numF, numF, ← e1, ← e2]
    have hf : (js.map fun j => l.getD j a0).findIdx? (fun y => l.getD i a0 == y) = (js.map fun j => m.getD j b0).findIdx? (fun y => m.getD i b0 == y) := by
      rw [List.findIdx?_map, List.findIdx?_map]
      have key : ∀ js : List Nat, (∀ j ∈ js, j < l.length) → js.findIdx? ((fun y => l.getD i a0 == y) ∘ fun j => l.getD j a0) = js.findIdx? ((fun y => m.getD i b0 == y) ∘ fun j => m.getD j b0) := by
        intro js
        induction js with
        | nil => intro _; rfl
        | cons j js ih2 =>
          intro hj
          rw [List.findIdx?_cons, List.findIdx?_cons, ih2 fun k hk => hj k (List.mem_cons_of_mem _ hk)]
          have hq : ((fun y => l.getD i a0 == y) ∘ fun j => l.getD j a0) j = ((fun y => m.getD i b0 == y) ∘ fun j => m.getD j b0) j := hp i j h1 (hj j List.mem_cons_self)
          simp only [hq]
      exact key js hj
    rw [hf]
    split
    · rw [ih (i + 1) js (by omega) hj]
    · have := ih (i + 1) (js ++ [i]) (by omega) (fun j hj2 => by
        rcases List.mem_append.1 hj2 with h | h
        · exact hj j h
        · rw [List.mem_singleton] at h; omega)
      rw [List.map_append, List.map_append] at this
      simp only [List.map_cons, List.map_nil] at this
      rw [this, List.length_map, List.length_map]
theorem numL_pat {α β : Type} [BEq α] [BEq β] (a0 : α) (b0 : β) (l : List α) (m : List β) (hlen : l.length = m.length) (hp : ∀ i j : Nat, i < l.length → j < l.length → (l.getD i a0 == l.getD j a0) = (m.getD i b0 == m.getD j b0)) : numL l = numL m := by
  have := numF_pat a0 b0 l m hlen hp l.length 0 [] (by omega) (fun j hj => by cases hj)
  rw [List.drop_zero, List.drop_zero] at this
  exact this
/-! the program numbers with a map -/
def entL (K : List DSaid) : List (DSaid × Int) := K.mapIdx fun i k => (k, (i : Int))
theorem entL_snoc (K : List DSaid) (x : DSaid) : entL (K ++ [x]) = entL K ++ [(x, (K.length : Int))] := by
  simp [entL, List.mapIdx_append]
theorem eqD_said (x y : DSaid) : (eqD tySaid x y == some true) = (x == y) := by
  have : eqD tySaid x y = some (((x.1 : Int) == (y.1 : Int)) && ((x.2 : Int) == (y.2 : Int))) := rfl
  rw [this]
  have e : (x == y) = (((x.1 : Int) == (y.1 : Int)) && ((x.2 : Int) == (y.2 : Int))) := rfl
  rw [e]
  cases ((x.1 : Int) == (y.1 : Int)) <;> cases ((x.2 : Int) == (y.2 : Int)) <;> rfl
theorem find_ent (K : List DSaid) (x : DSaid) : mapFind tySaid (.int .i64) (entL K) x = K.findIdx? (fun y => x == y) := by
  have e : (fun (e : Den (.pair tySaid (.int .i64))) => eqD tySaid x e.1 == some true) = (fun y => x == y) ∘ Prod.fst := by
    funext e
    exact eqD_said x e.1
  show List.findIdx? _ (entL K) = _
  rw [e, ← List.findIdx?_map]
  congr 1
  exact List.ext_getElem (by simp [entL]) fun i h1 h2 => by simp [entL]
theorem get_ent (K : List DSaid) (x : DSaid) : mapGet tySaid (.int .i64) (entL K) x = (K.findIdx? (fun y => x == y)).map Int.ofNat := by
  have hm := find_ent K x
  cases h : K.findIdx? (fun y => x == y) with
  | none =>
    rw [h] at hm
    have e : mapGet tySaid (.int .i64) (entL K) x = none := by delta mapGet; simp only [hm]
    rw [e]; rfl
  | some i =>
    rw [h] at hm
    have e : mapGet tySaid (.int .i64) (entL K) x = some ((entL K).getD i (dflt (.pair tySaid (.int .i64)))).2 := by delta mapGet; simp only [hm]; rfl
    rw [e]
    have hlt := findIdx?_lt h
    have this : ∀ z : DSaid × Int, (entL K).getD i z = (K[i], (i : Int)) := fun z => by
      rw [List.getD_eq_getElem?_getD, List.getElem?_eq_getElem (by simpa [entL] using hlt)]
      simp [entL]
    exact congrArg (fun q : DSaid × Int => some q.2) (this _)
theorem set_ent (K : List DSaid) (x : DSaid) (h : K.findIdx? (fun y => x == y) = none) : mapSet tySaid (.int .i64) (entL K) x (K.length : Int) = entL (K ++ [x]) := by
  have hm := find_ent K x
  rw [h] at hm
  have e : mapSet tySaid (.int .i64) (entL K) x (K.length : Int) = entL K ++ [(x, (K.length : Int))] := by delta mapSet; simp only [hm]; rfl
  rw [e, entL_snoc]
theorem numbered_L0 (t2 : DSight) (l : Bool × List DSaid) (hl : l.2.length ≤ 100000) (d : Nat) : ∀ (i : Nat) (K : List DSaid) (b : Bool) (o : List Int), i + d = l.2.length → K.length ≤ i → o.length = i →
    ∃ r c, impl_numbered_L0 t2 (false, entL K) (b, o) l (l.2.length : Int) (i : Int) = some (r, (c, o ++ numF (l.2.drop i) K)) := by
  have hlim := lim_eq
  induction d with
  | zero =>
    intro i K b o hi hK ho
    exact ⟨(false, entL K), b, by rw [impl_numbered_L0_eq, gF (by omega), List.drop_of_length_le (by omega)]; simp [numF]⟩
  | succ d ih =>
    intro i K b o hi hK ho
    have hlt : i < l.2.length := by omega
    have hel : (entL K).length = K.length := by simp [entL]
    rw [impl_numbered_L0_eq, gT (by omega), gT (by omega), gT (by omega), getD_at l.2 _ i hlt, List.drop_eq_getElem_cons hlt, numF, up1 i (by omega)]
    simp only [get_ent, hel]
    cases h : K.findIdx? (fun y => l.2[i] == y) with
    | none =>
      obtain ⟨r, c, g⟩ := ih (i + 1) (K ++ [l.2[i]]) (b && false) (o ++ [(K.length : Int)]) (by omega) (by simp; omega) (by simp [ho])
      refine ⟨r, c, ?_⟩
      simp only [Option.map_none, Option.isSome_none, Bool.not_false, cond_true]
      rw [gT (by omega), gT (by simp; omega), set_ent K _ h, bind_id, g]
      simp
    | some k =>
      obtain ⟨r, c, g⟩ := ih (i + 1) K (b && false) (o ++ [(k : Int)]) (by omega) (by omega) (by simp [ho])
      refine ⟨r, c, ?_⟩
      simp only [Option.map_some, Option.isSome_some, Bool.not_true, cond_false, Option.getD_some]
      rw [gT (by simp; omega), bind_id]
      have g' : impl_numbered_L0 t2 (false, entL K) (b && false, o ++ [Int.ofNat k]) l (l.2.length : Int) ((i + 1 : Nat) : Int) = _ := g
      rw [g']
      simp
theorem numbered (l : Bool × List DSaid) (hl : l.2.length ≤ 100000) : ∃ c, impl_numbered l = some (c, numL l.2) := by
  obtain ⟨r, c, g⟩ := numbered_L0 (true, []) l hl l.2.length 0 [] true [] (by omega) (by simp) rfl
  have g' : impl_numbered_L0 (true, []) (false, []) (true, []) l (l.2.length : Int) 0 = _ := g
  exact ⟨c, by rw [impl_numbered_eq, g', some_bind, List.drop_zero, List.nil_append]; rfl⟩
/-! the reference looks back -/
theorem l15Of_L2 (l : Bool × List Int) (hl : l.2.length ≤ 100000) (t2 : DSight) (b : Bool) (o : List Int) (many : Int) (i : Nat) (hi : i < l.2.length) (ho : o.length = i) (K : List Int) (hK : ∀ j : Nat, j < i → K.findIdx? (fun y => l.2.getD j 0 == y) = some (o.getD j 0).toNat ∧ 0 ≤ o.getD j 0) (hK2 : ∀ y ∈ K, ∃ j : Nat, j < i ∧ l.2.getD j 0 = y) (t9 : Bool × List Int) (t10 t11 : Int) (d : Nat) : ∀ j : Nat, j + d = i → (∀ k : Nat, k < j → l.2.getD k 0 ≠ l.2.getD i 0) →
    spec_l15Of_L2 l t2 (b, o) many (i : Int) (l.2.getD i 0) many (j : Int) t9 t10 t11 = some (match K.findIdx? (fun y => l.2.getD i 0 == y) with
      | some c => (c : Int)
      | none => many) := by
  induction d with
  | zero =>
    intro j hj hn
    have : K.findIdx? (fun y => l.2.getD i 0 == y) = none := by
      rw [List.findIdx?_eq_none_iff]
      intro y hy
      obtain ⟨k, hk, e⟩ := hK2 y hy
      rw [beq_eq_false_iff_ne, ← e]
      exact fun h => hn k (by omega) h.symm
    rw [spec_l15Of_L2_eq, gF (by omega), this]
  | succ d ih =>
    intro j hj hn
    rw [spec_l15Of_L2_eq, gT (by omega), gT (by omega), gT (by omega), getD_nat, up1 j (by omega)]
    by_cases e : l.2.getD j 0 = l.2.getD i 0
    · obtain ⟨h1, h2⟩ := hK j (by omega)
      rw [e] at h1
      rw [bT (by rw [beq_iff_eq]; exact e), gT (by omega), gT (by simp only; omega), Int.toNat_natCast, h1]
      simp only
      rw [Int.toNat_of_nonneg h2]
    · rw [bF (beqF e), bind_id]
      exact ih (j + 1) (by omega) (fun k hk => by
        by_cases h : k = j
        · subst h; exact e
        · exact hn k (by omega))
theorem l15Of_L0 (l : Bool × List Int) (hl : l.2.length ≤ 100000) (t2 : DSight) (d : Nat) : ∀ (i : Nat) (K : List Int) (b : Bool) (o : List Int), i + d = l.2.length → K.length ≤ i → o.length = i → (∀ j : Nat, j < i → K.findIdx? (fun y => l.2.getD j 0 == y) = some (o.getD j 0).toNat ∧ 0 ≤ o.getD j 0) → (∀ y ∈ K, ∃ j : Nat, j < i ∧ l.2.getD j 0 = y) →
    ∃ c, spec_l15Of_L0 l t2 (b, o) (K.length : Int) l (l.2.length : Int) (i : Int) = some (c, o ++ numF (l.2.drop i) K) := by
  have hlim := lim_eq
  induction d with
  | zero =>
    intro i K b o hi hKl ho hK hK2
    exact ⟨b, by rw [spec_l15Of_L0_eq, gF (by omega), List.drop_of_length_le (by omega)]; simp [numF]⟩
  | succ d ih =>
    intro i K b o hi hKl ho hK hK2
    have hlt : i < l.2.length := by omega
    have e2 := l15Of_L2 l hl t2 b o (K.length : Int) i hlt ho K hK hK2 l (l.2.length : Int) (i : Int) i 0 (by omega) (fun k hk => by omega)
    have e2' : spec_l15Of_L2 l t2 (b, o) (K.length : Int) (i : Int) (l.2.getD i 0) (K.length : Int) 0 l (l.2.length : Int) (i : Int) = _ := e2
    have eg : l.2.getD i 0 = l.2[i] := by simp [List.getD_eq_getElem?_getD, hlt]
    have hog : ∀ (z : Int) (j : Nat), j < i → (o ++ [z]).getD j 0 = o.getD j 0 := fun z j hj => by rw [List.getD_eq_getElem?_getD, List.getElem?_append_left (by omega), List.getD_eq_getElem?_getD]
    have hoi : ∀ z : Int, (o ++ [z]).getD i 0 = z := fun z => by rw [List.getD_eq_getElem?_getD, ← ho, List.getElem?_concat_length]; rfl
    rw [spec_l15Of_L0_eq, gT (by omega), gT (by omega), gT (by omega), getD_nat, e2', some_bind, List.drop_eq_getElem_cons hlt, numF, up1 i (by omega), ← eg]
    cases h : K.findIdx? (fun y => l.2.getD i 0 == y) with
    | some k =>
      have hk := findIdx?_lt h
      obtain ⟨c, g⟩ := ih (i + 1) K (b && false) (o ++ [(k : Int)]) (by omega) (by omega) (by simp [ho]) (fun j hj => by
        by_cases ej : j = i
        · subst ej
          rw [hoi, h]
          exact ⟨rfl, by omega⟩
        · rw [hog _ j (by omega)]
          exact hK j (by omega)) (fun y hy => by obtain ⟨j, h1, h2⟩ := hK2 y hy; exact ⟨j, by omega, h2⟩)
      refine ⟨c, ?_⟩
      simp only
      rw [bF (beqF (by omega)), gT (by simp; omega), bind_id, g]
      simp
    | none =>
      obtain ⟨c, g⟩ := ih (i + 1) (K ++ [l.2.getD i 0]) (b && false) (o ++ [(K.length : Int)]) (by omega) (by simp; omega) (by simp [ho]) (fun j hj => by
        by_cases ej : j = i
        · subst ej
          rw [hoi, findIdx?_new h (by simp)]
          exact ⟨by simp, by omega⟩
        · rw [hog _ j (by omega)]
          obtain ⟨h1, h2⟩ := hK j (by omega)
          exact ⟨findIdx?_more h1, h2⟩) (fun y hy => by
        rcases List.mem_append.1 hy with hy | hy
        · obtain ⟨j, h1, h2⟩ := hK2 y hy
          exact ⟨j, by omega, h2⟩
        · rw [List.mem_singleton] at hy
          exact ⟨i, by omega, hy.symm⟩)
      refine ⟨c, ?_⟩
      simp only
      have e3 : IntKind.i64.wrap ((K.length : Int) + 1) = ((K ++ [l.2.getD i 0]).length : Int) := by rw [wr (by omega)]; simp
      rw [bT (by simp), gT (by simp; omega), e3, bind_id, g]
      simp
theorem l15Of (l : Bool × List Int) (hl : l.2.length ≤ 100000) : ∃ c, spec_l15Of l = some (c, numL l.2) := by
  obtain ⟨c, g⟩ := l15Of_L0 l hl (true, []) l.2.length 0 [] true [] (by omega) (by simp) rfl (fun j hj => by omega) (fun y hy => by cases hy)
  have g' : spec_l15Of_L0 l (true, []) (true, []) 0 l (l.2.length : Int) 0 = _ := g
  exact ⟨c, by rw [spec_l15Of_eq, g', some_bind, List.drop_zero, List.nil_append]; rfl⟩
/-- what tells states apart: their class, and whether they are in a list -/
def pairL (v some_ : List Int) : List DSaid := v.mapIdx fun i k => (k, if (i : Int) ∈ some_ then (1 : Int) else 0)
def cutL (v some_ : List Int) : List Int := numL (pairL v some_)
def keyS (v some_ : List Int) : List Int := v.mapIdx fun i k => 2 * k + (if (i : Int) ∈ some_ then 1 else 0)
def zipL (a b : List Int) : List DSaid := a.mapIdx fun i k => (k, b.getD i 0)
theorem pairL_length (v s : List Int) : (pairL v s).length = v.length := by simp [pairL]
theorem cutL_length (v s : List Int) : (cutL v s).length = v.length := by rw [cutL, numL, numF_length, pairL_length]
theorem numL_keyS (v s : List Int) : numL (keyS v s) = cutL v s := by
  refine numL_pat 0 (0, 0) (keyS v s) (pairL v s) (by simp [keyS, pairL]) fun i j hi hj => ?_
  have hi' : i < v.length := by simpa [keyS] using hi
  have hj' : j < v.length := by simpa [keyS] using hj
  have e1 : ∀ k : Nat, k < v.length → (keyS v s).getD k 0 = 2 * v.getD k 0 + (if (k : Int) ∈ s then 1 else 0) := fun k hk => by
    simp [keyS, List.getD_eq_getElem?_getD, hk]
  have e2 : ∀ k : Nat, k < v.length → (pairL v s).getD k (0, 0) = (v.getD k 0, if (k : Int) ∈ s then 1 else 0) := fun k hk => by
    simp [pairL, List.getD_eq_getElem?_getD, hk]
  rw [e1 i hi', e1 j hj', e2 i hi', e2 j hj', Bool.eq_iff_iff, beq_iff_eq, beq_iff_eq, Prod.mk.injEq]
  split <;> split <;> omega
theorem l15Cut_L0 (s : Bool × List Int) (hs : s.2.length ≤ 1048576) (t4 : DSight) (v : DSight) (hv : v.2.length ≤ 100000) (hin : ∀ x ∈ v.2, 0 ≤ x ∧ x ≤ 1000) (d : Nat) : ∀ (i : Nat) (b : Bool) (o : List Int), i + d = v.2.length → o = (keyS v.2 s.2).take i →
    ∃ c, spec_l15Cut_L0 s t4 (b, o) v (v.2.length : Int) (i : Int) = some (c, keyS v.2 s.2) := by
  have hlim := lim_eq
  have hkl : (keyS v.2 s.2).length = v.2.length := by simp [keyS]
  induction d with
  | zero =>
    intro i b o hi ho
    exact ⟨b, by rw [spec_l15Cut_L0_eq, gF (by omega), ho, List.take_of_length_le (by omega)]⟩
  | succ d ih =>
    intro i b o hi ho
    have hlt : i < v.2.length := by omega
    have hx := hin _ (List.getElem_mem hlt)
    have hol : o.length = i := by rw [ho, List.length_take]; omega
    have hk : (keyS v.2 s.2)[i]'(by omega) = 2 * v.2[i] + (if (i : Int) ∈ s.2 then 1 else 0) := by simp [keyS]
    have hnext : o ++ [2 * v.2[i] + (if (i : Int) ∈ s.2 then 1 else 0)] = (keyS v.2 s.2).take (i + 1) := by
      rw [List.take_succ_eq_append_getElem (by omega), hk, ho]
    obtain ⟨c, g⟩ := ih (i + 1) (b && false) _ (by omega) hnext
    refine ⟨c, ?_⟩
    rw [spec_l15Cut_L0_eq, gT (by omega), gT (by omega), gT (by omega), getD_at v.2 _ i hlt, l1Has s _ hs, some_bind, wr (n := 2 * v.2[i]) (by omega), wr (by omega), up1 i (by omega)]
    by_cases hm : (i : Int) ∈ s.2
    · have : (s.2.any fun x => x == (i : Int)) = true := by rw [has_iff]; exact hm
      rw [if_pos hm] at g
      rw [this, cond_true, gT (by simp; omega), bind_id, g]
    · have : (s.2.any fun x => x == (i : Int)) = false := by rw [← Bool.not_eq_true, has_iff]; exact hm
      rw [if_neg hm, Int.add_zero] at g
      rw [this, cond_false, gT (by simp; omega), bind_id, g]
theorem l15Cut (v : DSight) (hv : v.2.length ≤ 100000) (hin : ∀ x ∈ v.2, 0 ≤ x ∧ x ≤ 1000) (s : Bool × List Int) (hs : s.2.length ≤ 1048576) : ∃ c, spec_l15Cut v s = some (c, cutL v.2 s.2) := by
  obtain ⟨c, g⟩ := l15Cut_L0 s hs (true, []) v hv hin v.2.length 0 true [] (by omega) rfl
  have g' : spec_l15Cut_L0 s (true, []) (true, []) v (v.2.length : Int) 0 = _ := g
  obtain ⟨c2, g2⟩ := l15Of (c, keyS v.2 s.2) (by simp [keyS]; omega)
  refine ⟨c2, ?_⟩
  rw [spec_l15Cut_eq, g', some_bind]
  simp only [g2, some_bind, numL_keyS]
theorem meetOf_L0 (a b : DSight) (hb : a.2.length ≤ b.2.length) (ha : a.2.length ≤ 100000) (t4 : DSight) (d : Nat) : ∀ (i : Nat) (f : Bool) (o : List DSaid), i + d = a.2.length → o = (zipL a.2 b.2).take i →
    ∃ c, impl_meetOf_L0 b t4 (f, o) a (a.2.length : Int) (i : Int) = some (c, zipL a.2 b.2) := by
  have hlim := lim_eq
  have hkl : (zipL a.2 b.2).length = a.2.length := by simp [zipL]
  induction d with
  | zero =>
    intro i f o hi ho
    exact ⟨f, by rw [impl_meetOf_L0_eq, gF (by omega), ho, List.take_of_length_le (by omega)]⟩
  | succ d ih =>
    intro i f o hi ho
    have hlt : i < a.2.length := by omega
    have hol : o.length = i := by rw [ho, List.length_take]; omega
    have hk : (zipL a.2 b.2)[i]'(by omega) = (a.2[i], b.2.getD i 0) := by simp [zipL]
    have hnext : o ++ [(a.2[i], b.2.getD i 0)] = (zipL a.2 b.2).take (i + 1) := by
      rw [List.take_succ_eq_append_getElem (by omega), hk, ho]
    obtain ⟨c, g⟩ := ih (i + 1) (f && false) _ (by omega) hnext
    refine ⟨c, ?_⟩
    rw [impl_meetOf_L0_eq, gT (by omega), gT (by omega), gT (by omega), gT (by omega), gT (by omega), getD_at a.2 _ i hlt, getD_nat, gT (by simp; omega), up1 i (by omega), bind_id, g]
theorem meetOf (a b : DSight) (hb : a.2.length ≤ b.2.length) (ha : a.2.length ≤ 100000) : ∃ c, impl_meetOf a b = some (c, numL (zipL a.2 b.2)) := by
  obtain ⟨c, g⟩ := meetOf_L0 a b hb ha (true, []) a.2.length 0 false [] (by omega) rfl
  have g' : impl_meetOf_L0 b (true, []) (false, []) a (a.2.length : Int) 0 = _ := g
  obtain ⟨c2, g2⟩ := numbered (c, zipL a.2 b.2) (by simp [zipL]; omega)
  refine ⟨c2, ?_⟩
  rw [impl_meetOf_eq, g', some_bind]
  simp only [g2, some_bind]
theorem cutOut_L0 (v t4 : DSight) (s : Bool × List Int) (hs : s.2.length ≤ 1048576) (n : Nat) (hin : ∀ x ∈ s.2, 0 ≤ x ∧ x < (n : Int)) (d : Nat) : ∀ (i : Nat) (a : List Int), i + d = s.2.length → a.length = n →
    ∃ a', impl_cutOut_L0 v t4 (false, a) s (s.2.length : Int) (i : Int) = some (false, a') ∧ a'.length = n ∧ ∀ k : Nat, k < n → a'.getD k 0 = if (k : Int) ∈ s.2.drop i then 1 else a.getD k 0 := by
  induction d with
  | zero =>
    intro i a hi ha
    refine ⟨a, by rw [impl_cutOut_L0_eq, gF (by omega)], ha, fun k hk => ?_⟩
    rw [List.drop_of_length_le (by omega), if_neg (by simp)]
  | succ d ih =>
    intro i a hi ha
    have hlt : i < s.2.length := by omega
    have hx := hin _ (List.getElem_mem hlt)
    obtain ⟨m, hm⟩ := Int.eq_ofNat_of_zero_le hx.1
    obtain ⟨a', g1, g2, g3⟩ := ih (i + 1) (a.set m 1) (by omega) (by rw [List.length_set]; exact ha)
    refine ⟨a', ?_, g2, fun k hk => ?_⟩
    · rw [impl_cutOut_L0_eq]
      simp only [gT (show (i : Int) < (s.2.length : Int) by omega), gT (show (0 : Int) ≤ (i : Int) by omega), getD_at s.2 _ i hlt, hm, gT (show (0 : Int) ≤ (m : Int) by omega), gT (show (m : Int) < (a.length : Int) by omega), Int.toNat_natCast, up1 i (by omega), bind_id]
      have eg : s.2.getD i 0 = (m : Int) := by rw [← hm]; simp [List.getD_eq_getElem?_getD, hlt]
      simp only [eg, Int.toNat_natCast, gT (show (0 : Int) ≤ (m : Int) by omega), gT (show (m : Int) < (a.length : Int) by omega), g1]
    · rw [g3 k hk, List.drop_eq_getElem_cons hlt]
      by_cases hkm : k = m
      · subst hkm
        have : (a.set k 1).getD k 0 = 1 := by simp [List.getD_eq_getElem?_getD, ha, hk]
        rw [this, if_pos (List.mem_cons.2 (.inl hm.symm))]
        split <;> rfl
      · have e1 : (a.set m 1).getD k 0 = a.getD k 0 := by rw [List.getD_eq_getElem?_getD, List.getElem?_set_ne (by omega), List.getD_eq_getElem?_getD]
        rw [e1]
        by_cases hk2 : (k : Int) ∈ s.2.drop (i + 1)
        · rw [if_pos hk2, if_pos (List.mem_cons_of_mem _ hk2)]
        · rw [if_neg hk2, if_neg (fun h => by
            rcases List.mem_cons.1 h with h | h
            · rw [hm] at h; omega
            · exact hk2 h)]
theorem cutOut (v : DSight) (hv : v.2.length ≤ 100000) (s : Bool × List Int) (hs : s.2.length ≤ 1048576) (hin : ∀ x ∈ s.2, 0 ≤ x ∧ x < (v.2.length : Int)) : ∃ c, impl_cutOut v s = some (c, cutL v.2 s.2) := by
  have hlim := lim_eq
  obtain ⟨a, g1, g2, g3⟩ := cutOut_L0 v (true, []) s hs v.2.length hin s.2.length 0 (List.replicate v.2.length 0) (by omega) (by simp)
  have g1' : impl_cutOut_L0 v (true, []) (false, List.replicate v.2.length 0) s (s.2.length : Int) 0 = _ := g1
  obtain ⟨c, e⟩ := meetOf v (false, a) (by simp only; omega) hv
  have hz : zipL v.2 a = pairL v.2 s.2 := List.ext_getElem (by simp [zipL, pairL]) fun i h1 h2 => by
    have hi : i < v.2.length := by simpa [zipL] using h1
    have := g3 i hi
    rw [List.drop_zero] at this
    simp only [zipL, pairL, List.getElem_mapIdx, this]
    have e0 : (List.replicate v.2.length (0 : Int)).getD i 0 = 0 := by simp [List.getD_eq_getElem?_getD, hi]
    rw [e0]
  refine ⟨c, ?_⟩
  rw [impl_cutOut_eq, gT (by omega), gT (by omega), gT (by omega), gT (by omega), Int.toNat_natCast, g1', some_bind]
  simp only [e, some_bind, hz, cutL]
theorem numL_good {α : Type} [BEq α] {p : DProgram} {v : List Int} (h : goodSight p v = true) (l : List α) (hl : l.length = v.length) : goodSight p (numL l) = true := by
  obtain ⟨_, h2, _⟩ := goodSight_in h
  simp only [goodSight, Bool.and_eq_true, decide_eq_true_eq] at h ⊢
  refine ⟨h.1, ?_, numF_sight l []⟩
  rw [numL, numF_length, hl]
  exact h.2.1
theorem cutL_good {p : DProgram} {v : List Int} (h : goodSight p v = true) (s : List Int) : goodSight p (cutL v s) = true := numL_good h _ (pairL_length v s)
theorem cut_both {p : DProgram} {v : DSight} (h : Sees p v.2) (f g : Bool) (s : List Int) (hs : InS p s) : ∃ a b, spec_l15Cut v (f, s) = some (a, cutL v.2 s) ∧ impl_cutOut v (g, s) = some (b, cutL v.2 s) ∧ (cutL v.2 s).length ≤ 1048576 := by
  have hm := h.manyV
  have hms := manyS_in h.ok.sml
  have hl := hs.1
  obtain ⟨a, e1⟩ := l15Cut v (by omega) (fun x hx => by have := h.inn x hx; omega) (f, s) (by simp only; omega)
  obtain ⟨b, e2⟩ := cutOut v (by omega) (g, s) (by simp only; omega) (fun x hx => by have := hs.2 x hx; have := h.len; simp only at *; omega)
  exact ⟨a, b, e1, e2, by rw [cutL_length]; omega⟩
theorem heldSight (b : Bool) (n : Nat) (k : Int) (hl : n ≤ 1048576) (h0 : 0 ≤ k) (hk : k + n ≤ 4000000000000000000) : laws_heldSight (b, countL k n) k = some (k + n) := by
  rw [laws_heldSight_eq, heldIntS b n k hl h0 hk, some_bind, gF (by omega)]
/-- a view, split by a condition -/
noncomputable def splitL (p : DProgram) (v : List Int) (t : List DNode) : List Int := cutL v (thoseL p t 0 (manyS p))
theorem splitL_good {p : DProgram} {v : List Int} (h : goodSight p v = true) (t : List DNode) : goodSight p (splitL p v t) = true := cutL_good h _
theorem l15Split {p : DProgram} {v : List Int} (h : Sees p v) (f : Bool) (t : Bool × List DNode) (ht : WfN t.2) (hk : (kindT p.1 p.2.1 t.2 == 2) = true) : ∃ c, spec_l15Split p (f, v) t = some (c, splitL p v t.2) := by
  have hm := h.manyV
  have hl := thoseL_length p t.2 0 (manyS p)
  have hms := manyS_in h.ok.sml
  obtain ⟨b, e1⟩ := l8Those h.ok.sml t ht (kind2_ne hk)
  obtain ⟨c, e2⟩ := l15Cut (f, v) (by simp only; omega) (fun x hx => by have := h.inn x hx; omega) (b, thoseL p t.2 0 (manyS p)) (by simp only; omega)
  refine ⟨c, ?_⟩
  rw [spec_l15Split_eq, e1, some_bind]
  simp only [e2, some_bind]
  rfl
noncomputable def bitK (p : DProgram) (t : List DNode) (i : Nat) : DSaid := (if holdsB p t (i : Int) = true then 1 else 0, 0)
theorem val_bit {p : DProgram} (h : Ok p) (t : Bool × List DNode) (ht : WfN t.2) (hk : (kindT p.1 p.2.1 t.2 == 2) = true) (i : Nat) :
    impl_valueOf p.1 t (false, stateL p (i : Int)) = some (if holdsB p t.2 (i : Int) = true then 1 else 0) := by
  have h1 := h.sml.w1
  have h2 := h.sml.w2
  have h3 := h.sml.v2
  have hl := stateL_length h.sml (i : Int)
  obtain ⟨k1, k2, _, k4⟩ := value_both p.1 (by omega) (false, stateL p (i : Int)) (by simp only; omega) (stateL_words h.sml (i : Int)) t ht (by rw [show (((false, stateL p (i : Int)) : Bool × List Int).2.length : Int) = p.2.1 from hl]; exact kind2_ne hk)
  have k2' := k2 (by rw [show (((false, stateL p (i : Int)) : Bool × List Int).2.length : Int) = p.2.1 from hl]; exact eq_of_beq hk)
  have k1' := k1.1
  rw [k4]
  congr 1
  unfold holdsB holdsS
  by_cases c : valT p.1 (stateL p (i : Int)) t.2 = 1
  · rw [if_pos (by rw [beq_iff_eq]; exact c)]
    exact c
  · rw [if_neg (by rw [beq_iff_eq]; exact c)]
    show valT p.1 (stateL p (i : Int)) t.2 = 0
    have a : 0 ≤ valT p.1 (stateL p (i : Int)) t.2 := k1'
    have b : valT p.1 (stateL p (i : Int)) t.2 ≤ 1 := k2'
    omega
theorem SightBy_L2 {p : DProgram} (h : Ok p) (f : Bool) (t : Bool × List DNode) (ht : WfN t.2) (hk : (kindT p.1 p.2.1 t.2 == 2) = true) (t4 : DSight) (K : List DSaid) (i : Nat) (hi : i < K.length) (h0 : K.getD i (0, 0) = (0, 0)) (t25 t26 : Int) :
    impl_SightBy_L2 (f, [t]) p t4 (false, K) (i : Int) (false, stateL p (i : Int)) t25 t26 (f, [t]) 1 0 = some (false, K.set i (bitK p t.2 i)) := by
  have hv := val_bit h t ht hk i
  have hend : ∀ K' : List DSaid, impl_SightBy_L2 (f, [t]) p t4 (false, K') (i : Int) (false, stateL p (i : Int)) t25 t26 (f, [t]) 1 1 = some (false, K') := fun K' => by
    rw [impl_SightBy_L2_eq, gF (by omega)]
  have hbit : ∀ z : Int, z = 0 ∨ z = 1 → bOr .i64 0 (bShl .i64 (IntKind.i64.wrap z) 0) = z := fun z hz => by
    rcases hz with rfl | rfl <;> decide
  have hz : (if holdsB p t.2 (i : Int) = true then (1 : Int) else 0) = 0 ∨ (if holdsB p t.2 (i : Int) = true then (1 : Int) else 0) = 1 := by
    split
    · exact .inr rfl
    · exact .inl rfl
  have eg : ([t] : List (Bool × List DNode)).getD (Int.toNat 0) (true, []) = t := rfl
  rw [impl_SightBy_L2_eq]
  simp only [gT (show (0 : Int) < 1 by omega), gT (show (0 : Int) ≤ 0 by omega), List.length_singleton, eg, gT (show (0 : Int) ≤ (i : Int) by omega), gT (show (i : Int) < (K.length : Int) by omega), hv, some_bind, gF (show ¬ (0 : Int) < 0 by omega), Int.toNat_natCast, h0, hbit _ hz, wr (n := (0 : Int) + 1) (by omega), show (0 : Int) + 1 = 1 by omega, Int.natCast_one]
  rw [show IntKind.i64.wrap 1 = 1 from wr (by omega), hend]
  rfl
theorem SightBy_L0 {p : DProgram} (h : Ok p) (f : Bool) (t : Bool × List DNode) (ht : WfN t.2) (hk : (kindT p.1 p.2.1 t.2 == 2) = true) (t4 : DSight) (n : Nat) (hn : n = manyS p) (d : Nat) : ∀ (i : Nat) (K : List DSaid), i + d = n → K = (List.range i).map (bitK p t.2) ++ List.replicate d (0, 0) →
    impl_SightBy_L0 (f, [t]) p t4 (false, K) (n : Int) (i : Int) = some (false, (List.range n).map (bitK p t.2)) := by
  have hms := manyS_in h.sml
  induction d with
  | zero =>
    intro i K hi hK
    obtain rfl : i = n := by omega
    rw [impl_SightBy_L0_eq, gF (by omega), hK]
    simp
  | succ d ih =>
    intro i K hi hK
    have hKl : K.length = n := by rw [hK]; simp; omega
    have h0 : K.getD i (0, 0) = (0, 0) := by
      rw [hK, List.getD_eq_getElem?_getD, List.getElem?_append_right (by simp)]
      simp [List.getElem?_replicate]
    have e2 := SightBy_L2 h f t ht hk t4 K i (by omega) h0 (n : Int) (i : Int)
    have hset : K.set i (bitK p t.2 i) = (List.range (i + 1)).map (bitK p t.2) ++ List.replicate d (0, 0) := by
      rw [hK, List.range_succ, List.map_append, List.set_append_right _ _ (by simp)]
      simp [List.replicate_succ]
    rw [impl_SightBy_L0_eq, gT (by omega), stateOf h.sml _ (by omega), some_bind]
    simp only [List.length_singleton, Int.natCast_one, e2, some_bind, up1 i (by omega), bind_id]
    rw [hset]
    exact ih (i + 1) _ (by omega) rfl
theorem SightBy {p : DProgram} (h : Ok p) (hs : isSmall p = true) (f : Bool) (t : Bool × List DNode) (ht : WfN t.2) (hk : (kindT p.1 p.2.1 t.2 == 2) = true) : ∃ c, impl_SightBy p (f, [t]) = some ((c, numL ((List.range (manyS p)).map (bitK p t.2))), true) := by
  have hlim := lim_eq
  have hms := manyS_in h.sml
  have e0 : (predsOk p [t.2]) = true := by
    simp only [predsOk, List.length_singleton, List.all_cons, List.all_nil, hk, Bool.and_true]
    rfl
  have e1 := SightBy_L0 h f t ht hk (true, []) (manyS p) rfl (manyS p) 0 (List.replicate (manyS p) (0, 0)) (by omega) (by simp)
  have e1' : impl_SightBy_L0 (f, [t]) p (true, []) (false, List.replicate (manyS p) (0, 0)) (manyS p : Int) 0 = _ := e1
  obtain ⟨c, e2⟩ := numbered (false, (List.range (manyS p)).map (bitK p t.2)) (by simp; omega)
  refine ⟨c, ?_⟩
  rw [impl_SightBy_eq, small_impl p h.sm, some_bind, hs, Bool.not_true, cond_false, arePreds, some_bind]
  simp only [List.length_singleton, List.map_cons, List.map_nil, e0]
  rw [show (decide (((1 : Nat) : Int) ≥ 0) && true) = true from rfl, Bool.not_true, cond_false, states_many h.sml, some_bind, gT (by omega), gT (by omega), gT (by omega), gT (by omega), Int.toNat_natCast]
  simp only [List.length_replicate, e1', some_bind, e2]
theorem SplitBy {p : DProgram} {v : List Int} (hg : goodSight p v = true) (h : Sees p v) (hs : isSmall p = true) (f : Bool) (t : Bool × List DNode) (ht : WfN t.2) (hk : (kindT p.1 p.2.1 t.2 == 2) = true) : ∃ c, impl_SplitBy p (f, v) t = some ((c, splitL p v t.2), true) := by
  have hm := h.manyV
  obtain ⟨c1, e1⟩ := SightBy h.ok hs false t ht hk
  have e2 := impl_goodSight p h.ok.sm (f, v) (by simp only; omega)
  have hlen : (numL ((List.range (manyS p)).map (bitK p t.2))).length = v.length := by rw [numL, numF_length, h.len]; simp
  obtain ⟨c2, e3⟩ := meetOf (f, v) (c1, numL ((List.range (manyS p)).map (bitK p t.2))) (by simp only; omega) (by simp only; omega)
  refine ⟨c2, ?_⟩
  have hsame : numL (zipL v (numL ((List.range (manyS p)).map (bitK p t.2)))) = splitL p v t.2 := by
    refine numL_pat (0, 0) (0, 0) _ (pairL v (thoseL p t.2 0 (manyS p))) (by simp [zipL, pairL]) fun i j hi hj => ?_
    have hi' : i < v.length := by simpa [zipL] using hi
    have hj' : j < v.length := by simpa [zipL] using hj
    have hlv := h.len
    have a1 : ∀ k : Nat, k < v.length → (zipL v (numL ((List.range (manyS p)).map (bitK p t.2)))).getD k (0, 0) = (v.getD k 0, (numL ((List.range (manyS p)).map (bitK p t.2))).getD k 0) := fun k hk => by
      simp [zipL, List.getD_eq_getElem?_getD, hk]
    have a2 : ∀ k : Nat, k < v.length → (pairL v (thoseL p t.2 0 (manyS p))).getD k (0, 0) = (v.getD k 0, if holdsB p t.2 (k : Int) = true then 1 else 0) := fun k hk => by
      have : ((k : Int) ∈ thoseL p t.2 0 (manyS p)) = (holdsB p t.2 (k : Int) = true) := propext ⟨fun h => (mem_thoseL.1 h).2, fun h => mem_thoseL.2 ⟨⟨by omega, by omega⟩, h⟩⟩
      simp only [pairL, List.getD_eq_getElem?_getD, List.getElem?_mapIdx, List.getElem?_eq_getElem hk, Option.map_some, Option.getD_some, this]
    have a3 := numL_eq ((List.range (manyS p)).map (bitK p t.2)) i j (by simp; omega) (by simp; omega)
    simp only [List.getElem_map, List.getElem_range] at a3
    rw [a1 i hi', a1 j hj', a2 i hi', a2 j hj', Bool.eq_iff_iff, beq_iff_eq, beq_iff_eq, Prod.mk.injEq, Prod.mk.injEq, a3]
    simp only [bitK, Prod.mk.injEq, and_true]
  rw [impl_SplitBy_eq, e1, some_bind]
  simp only [Bool.not_true, cond_false, e2, some_bind, hg, e3, hsame]
theorem all_meet {p : DProgram} (hm : manyS p ≤ 32) (t : List DNode) (l : List Int) (hin : ∀ x ∈ l, 0 ≤ x ∧ x < (manyS p : Int)) :
    (l.all fun x => (thoseL p t 0 (manyS p)).any fun y => y == x) = l.all (holdsB p t) ∧ (l.any fun x => (thoseL p t 0 (manyS p)).any fun y => y == x) = l.any (holdsB p t) := by
  have key : ∀ x ∈ l, ((thoseL p t 0 (manyS p)).any fun y => y == x) = holdsB p t x := by
    intro x hx
    rw [Bool.eq_iff_iff, List.any_eq_true]
    constructor
    · rintro ⟨u, hu, e⟩
      rw [beq_iff_eq] at e
      subst e
      exact (mem_thoseL.1 hu).2
    · exact fun h => ⟨x, mem_thoseL.2 ⟨hin x hx, h⟩, by simp⟩
  constructor
  · rw [Bool.eq_iff_iff, List.all_eq_true, List.all_eq_true]
    exact ⟨fun h x hx => by rw [← key x hx]; exact h x hx, fun h x hx => by rw [key x hx]; exact h x hx⟩
  · rw [Bool.eq_iff_iff, List.any_eq_true, List.any_eq_true]
    exact ⟨fun ⟨x, hx, h⟩ => ⟨x, hx, by rw [← key x hx]; exact h⟩, fun ⟨x, hx, h⟩ => ⟨x, hx, by rw [key x hx]; exact h⟩⟩
/-- Does a condition hold on all of the one and on none of the other, or the other way round? -/
noncomputable def apart (p : DProgram) (t : List DNode) (a b : List Int) : Bool := (a.all (holdsB p t) && !b.any (holdsB p t)) || (!a.any (holdsB p t) && b.all (holdsB p t))
theorem l20Apart {p : DProgram} (hp : Sml p) (t : Bool × List DNode) (hx : WfN t.2) (hk : kindT p.1 p.2.1 t.2 ≠ 0) (a b : Bool × List Int) (ha : a.2.length ≤ 1048576) (hb : b.2.length ≤ 1048576) (hai : ∀ x ∈ a.2, 0 ≤ x ∧ x < (manyS p : Int)) (hbi : ∀ x ∈ b.2, 0 ≤ x ∧ x < (manyS p : Int)) :
    spec_l20Apart p t a b = some (apart p t.2 a.2 b.2) := by
  have hm := manyS_in hp
  obtain ⟨y, e⟩ := l8Those hp t hx hk
  have ll := thoseL_length p t.2 0 (manyS p)
  obtain ⟨a1, a2⟩ := all_meet (by omega) t.2 a.2 hai
  obtain ⟨b1, b2⟩ := all_meet (by omega) t.2 b.2 hbi
  rw [spec_l20Apart_eq, e, some_bind, l16Within _ _ ha (by simp only; omega), l7Meet _ _ hb (by simp only; omega), l7Meet _ _ ha (by simp only; omega), l16Within _ _ hb (by simp only; omega)]
  simp only [some_bind, a1, a2, b1, b2]
  unfold apart
  cases a.2.all (holdsB p t.2) <;> cases b.2.any (holdsB p t.2) <;> cases a.2.any (holdsB p t.2) <;> rfl
theorem separates {p : DProgram} (hp : Sml p) (t : Bool × List DNode) (hx : WfN t.2) (hk : kindT p.1 p.2.1 t.2 = 2) (a b : Bool × List Int) (ha : a.2.length ≤ 1048576) (hb : b.2.length ≤ 1048576) (hai : ∀ x ∈ a.2, 0 ≤ x ∧ x < 1000) (hbi : ∀ x ∈ b.2, 0 ≤ x ∧ x < 1000) :
    impl_Program_separates p t a b = some (apart p t.2 a.2 b.2) := by
  have hk0 : kindT p.1 p.2.1 t.2 ≠ 0 := by omega
  obtain ⟨_, _, _, _, hl1, hl2⟩ := kindT_in hk0
  obtain ⟨f, e⟩ := concatNode (false, [t, (false, [(19, 0)])]) (by simp; omega) (by simp)
  have e' : slices_Concat_Node (false, [t, (false, [(19, 0)])]) = some (f, t.2 ++ [(19, 0)]) := by rw [e]; simp
  have hq : ∀ no, impl_Program_holds p t (false, stateL p no) = some (holdsB p t.2 no) := fun no => (holds_at hp t hx hk0 false no).2
  have hn : ∀ no, impl_Program_holds p (f, t.2 ++ [(19, 0)]) (false, stateL p no) = some (!holdsB p t.2 no) := fun no => holds_not hp t hx hk f false _ (stateL_length hp no) (stateL_words hp no)
  rw [impl_Program_separates_eq, e', some_bind, holdsAll_of hp t _ hq a ha hai, holdsAll_of hp _ _ hn b hb hbi, holdsAll_of hp _ _ hn a ha hai, holdsAll_of hp t _ hq b hb hbi]
  simp only [some_bind]
  have ea : (a.2.all fun no => !holdsB p t.2 no) = !a.2.any (holdsB p t.2) := by rw [List.any_eq_not_all_not, Bool.not_not]
  have eb : (b.2.all fun no => !holdsB p t.2 no) = !b.2.any (holdsB p t.2) := by rw [List.any_eq_not_all_not, Bool.not_not]
  rw [ea, eb]
  unfold apart
  cases a.2.all (holdsB p t.2) <;> cases b.2.any (holdsB p t.2) <;> cases a.2.any (holdsB p t.2) <;> rfl
/-- the place of the first term that tells two lists of states apart, -1 where there is none -/
noncomputable def firstL (p : DProgram) (terms : List (Bool × List DNode)) (a b : List Int) : Int := bif terms.any fun t => apart p t.2 a b then (terms.findIdx fun t => apart p t.2 a b : Int) else -1
theorem l20First {p : DProgram} (hp : Sml p) (terms : Bool × List (Bool × List DNode)) (ht : terms.2.length ≤ 40) (hx : ∀ t ∈ terms.2, WfN t.2) (hk : ∀ t ∈ terms.2, kindT p.1 p.2.1 t.2 = 2) (a b : Bool × List Int) (ha : a.2.length ≤ 1048576) (hb : b.2.length ≤ 1048576) (hai : ∀ x ∈ a.2, 0 ≤ x ∧ x < (manyS p : Int)) (hbi : ∀ x ∈ b.2, 0 ≤ x ∧ x < (manyS p : Int)) :
    spec_l20First p terms a b = some (firstL p terms.2 a.2 b.2) := by
  have h := loop_find terms.2 (fun t => apart p t.2 a.2 b.2) (fun i => spec_l20First_L0 a b p terms (terms.2.length : Int) i) (fun i h => by
    have hm := List.getElem_mem h
    rw [spec_l20First_L0_eq, gT (by omega), gT (by omega), gT (by omega), getD_at terms.2 _ i h, l20Apart hp _ (hx _ hm) (by rw [hk _ hm]; decide) a b ha hb hai hbi, some_bind, up1 i (by omega), bind_id]) (by rw [spec_l20First_L0_eq, gF (by omega)])
  rw [spec_l20First_eq, h, firstL]
  cases terms.2.any fun t => apart p t.2 a.2 b.2 <;> rfl
theorem firstApart {p : DProgram} (hp : Sml p) (terms : Bool × List (Bool × List DNode)) (ht : terms.2.length ≤ 40) (hx : ∀ t ∈ terms.2, WfN t.2) (hk : ∀ t ∈ terms.2, kindT p.1 p.2.1 t.2 = 2) (a b : Bool × List Int) (ha : a.2.length ≤ 1048576) (hb : b.2.length ≤ 1048576) (hai : ∀ x ∈ a.2, 0 ≤ x ∧ x < (manyS p : Int)) (hbi : ∀ x ∈ b.2, 0 ≤ x ∧ x < (manyS p : Int)) :
    impl_Program_firstApart p terms a b = some (firstL p terms.2 a.2 b.2) := by
  have hm := manyS_in hp
  have h := loop_find terms.2 (fun t => apart p t.2 a.2 b.2) (fun i => slices_IndexFunc_Node_by_Program_firstApart_1_L0 terms (p, (a, (b, ()))) (terms.2.length : Int) i) (fun i h => by
    have hmem := List.getElem_mem h
    rw [slices_IndexFunc_Node_by_Program_firstApart_1_L0_eq, gT (by omega), gT (by omega), gT (by omega), getD_at terms.2 _ i h, impl_Program_firstApart_1_eq, separates hp _ (hx _ hmem) (hk _ hmem) a b ha hb (fun x hx => by have := hai x hx; omega) (fun x hx => by have := hbi x hx; omega), some_bind, some_bind, up1 i (by omega), bind_id]) (by rw [slices_IndexFunc_Node_by_Program_firstApart_1_L0_eq, gF (by omega)])
  rw [impl_Program_firstApart_eq, slices_IndexFunc_Node_by_Program_firstApart_1_eq, h, firstL]
  cases terms.2.any fun t => apart p t.2 a.2 b.2 <;> rfl
/-- putting numbers for the variables of a condition leaves it a condition -/
theorem kind_put {wide vars : Int} {t : List DNode} {rows : List (List DNode)} (h : kindT wide vars t = 2) (h2 : kindT wide vars (putL t rows) ≠ 0) : kindT wide vars (putL t rows) = 2 := by
  have hl := (kindT_in (show kindT wide vars t ≠ 0 by omega)).2.2.2.2.1
  have hne : t ≠ [] := by intro e; rw [e] at hl; simp at hl
  have hk := (kindT_last (show kindT wide vars t ≠ 0 by omega) hne).2
  have hop : (t.getLast hne).1 ≠ 2 := by
    intro e
    rw [e, h] at hk
    exact absurd hk (by decide)
  have e : putL t rows = putL t.dropLast rows ++ [t.getLast hne] := by
    conv => lhs; rw [← List.dropLast_concat_getLast hne]
    rw [putL, List.flatMap_append, List.flatMap_cons, List.flatMap_nil, if_neg hop]
    rfl
  have hne2 : putL t rows ≠ [] := by rw [e]; simp
  have hk2 := (kindT_last h2 hne2).2
  have hlast : (putL t rows).getLast hne2 = t.getLast hne := by
    have : (putL t rows).getLast? = some (t.getLast hne) := by rw [e, List.getLast?_concat]
    rw [List.getLast?_eq_some_getLast hne2] at this
    exact Option.some.inj this
  rw [hk2, hlast, ← hk, h]
theorem addT_all {P : List DNode → Prop} {o : List (List DNode)} {t : List DNode} (h : ∀ r ∈ o, P r) (ht : P t) : ∀ r ∈ addT o t, P r := by
  intro r hr
  unfold addT at hr
  split at hr
  · exact h r hr
  · split at hr
    · exact h r hr
    · rcases List.mem_append.1 hr with hr | hr
      · exact h r hr
      · rw [List.mem_singleton] at hr; exact hr ▸ ht
theorem foldl_keeps {α β : Type} {P : β → Prop} (f : β → α → β) (l : List α) (h : ∀ b, ∀ a ∈ l, P b → P (f b a)) : ∀ b, P b → P (l.foldl f b) := by
  induction l with
  | nil => intro b hb; exact hb
  | cons a l ih => intro b hb; exact ih (fun b x hx => h b x (List.mem_cons_of_mem _ hx)) _ (h b a List.mem_cons_self hb)
/-- all terms that are tried are conditions -/
theorem termsL_all {p : DProgram} (hg : goodProgram p = true) (hw : WfP p) (preds : List (List DNode)) (hp : ∀ t ∈ preds, kindT p.1 p.2.1 t = 2 ∧ WfN t) : ∀ r ∈ termsL p preds, kindT p.1 p.2.1 r = 2 ∧ WfN r := by
  obtain ⟨h1, h2, h3, h4⟩ := goodProgram_in hg
  have hv : p.2.1 ≤ 4 := by omega
  unfold termsL
  refine foldl_keeps (P := fun o => ∀ r ∈ o, kindT p.1 p.2.1 r = 2 ∧ WfN r) _ preds (fun o t ht ho => ?_) _ ?_
  · refine foldl_keeps (P := fun o => ∀ r ∈ o, kindT p.1 p.2.1 r = 2 ∧ WfN r) _ p.2.2.2.2 (fun o c hc ho => ?_) o ho
    unfold addBefore
    split
    · rename_i hb
      refine addT_all ho ?_
      unfold beforeT putAllL at hb ⊢
      split at hb
      · rename_i hcnd
        rw [if_pos hcnd]
        exact ⟨kind_put (hp t ht).1 hcnd.2.2.2, putL_mem (hp t ht).2 fun r hr => by
          obtain ⟨q, hq, rfl⟩ := List.mem_map.1 hr
          exact rowsOf_wf hv (hw.2 c hc) q hq⟩
      · exact absurd hb (by simp)
    · exact ho
  · exact foldl_keeps (P := fun o => ∀ r ∈ o, kindT p.1 p.2.1 r = 2 ∧ WfN r) _ p.2.2.2.2 (fun o c hc ho => addT_all ho ⟨(cmd_in hg c hc).1, (hw.2 c hc).1⟩) [] (by simp)
theorem first_rows (p : DProgram) {R S : List (Bool × List DNode)} (h : R.map Prod.snd = S.map Prod.snd) (a b : List Int) : firstL p R a b = firstL p S a b := by
  have e1 : ∀ R : List (Bool × List DNode), (R.any fun t => apart p t.2 a b) = (R.map Prod.snd).any fun t => apart p t a b := fun R => by rw [List.any_map]; rfl
  have e2 : ∀ R : List (Bool × List DNode), (R.findIdx fun t => apart p t.2 a b) = (R.map Prod.snd).findIdx fun t => apart p t a b := fun R => by rw [List.findIdx_map]; rfl
  unfold firstL
  rw [e1 R, e1 S, e2 R, e2 S, h]
theorem first_in (p : DProgram) (R : List (Bool × List DNode)) (a b : List Int) : firstL p R a b = -1 ∨ ∃ k : Nat, k < R.length ∧ firstL p R a b = (k : Int) := by
  unfold firstL
  cases h : R.any fun t => apart p t.2 a b with
  | false => exact .inl rfl
  | true =>
    rw [List.any_eq_true] at h
    exact .inr ⟨_, List.findIdx_lt_length_of_exists h, rfl⟩
theorem cutby_law (p : DProgram) (hs : SmProgram p) (hw : WfP p) (hnl : ∀ c ∈ p.2.2.2.2, c.1.1 = true → c.1.2 = []) (v : DSight) (preds : Bool × List (Bool × List DNode)) (hx : ∀ t ∈ preds.2, WfN t.2) (hl : preds.2.length ≤ 1048576) (path : Bool × List Int) (hv : v.2.length ≤ 1048576) (hp : path.2.length ≤ 1048576) :
    ∃ f g a k ok, spec_CutBy p v preds path = some ((f, a), (k, ok)) ∧ impl_CutBy p v preds path = some ((g, a), (k, ok)) ∧ a.length ≤ 1048576 := by
  obtain ⟨b, e0⟩ := specDead p hs hw v path hv hp
  rw [spec_CutBy_eq, e0, some_bind, impl_CutBy_eq, isClassPath p hs v hv path hp, some_bind]
  cases h0 : classPath p v.2 path.2 200 with
  | false => exact ⟨true, true, [], 0, false, rfl, rfl, by simp⟩
  | true =>
    obtain ⟨h1, _⟩ := classPath_in h0
    have h := Sees_of h1 hs hw
    have hd := deadL_in h path.2
    have e1' : impl_deadEnds p v path = _ := deadEnds h v.1 path hp
    have a1 := l15Preds p preds hx
    have a2 := arePreds p preds 0
    rw [decide_eq_true (show (preds.2.length : Int) ≥ 0 by omega), Bool.true_and] at a2
    by_cases c : failI (rowsL p v.2 path.2) < 1
    · cases hpo : predsOk p (preds.2.map Prod.snd) with
      | false =>
        rw [hpo] at a2
        simp only [if_pos c, cond_true, Bool.not_true, cond_false, a2, some_bind]
        exact ⟨true, true, [], 0, false, rfl, rfl, by simp⟩
      | true =>
        rw [hpo] at a2
        simp only [if_pos c, cond_true, Bool.not_true, cond_false, a2, impl_cutBy_eq, e1', some_bind]
        exact ⟨true, true, [], 0, false, rfl, rfl, by simp⟩
    · cases hpo : predsOk p (preds.2.map Prod.snd) with
      | false =>
        rw [hpo] at a1 a2
        simp only [if_neg c, cond_true, Bool.not_true, cond_false, a1, a2, some_bind]
        exact ⟨true, true, [], 0, false, rfl, rfl, by simp⟩
      | true =>
        rw [hpo] at a1 a2
        have hsm : isSmall p = true := by
          simp only [goodSight, Bool.and_eq_true] at h1
          exact h1.1
        have hg := (isSmall_in hsm).1
        have hpo' := hpo
        simp only [predsOk, Bool.and_eq_true, List.all_eq_true, beq_iff_eq] at hpo'
        have hall := termsL_all hg hw (preds.2.map Prod.snd) (fun t ht => ⟨hpo'.2 t ht, by
          obtain ⟨u, hu, rfl⟩ := List.mem_map.1 ht
          exact hx u hu⟩)
        obtain ⟨f1, R, q1, q2, q3⟩ := l20Terms hg hs hw preds hl hx
        obtain ⟨f2, S, r1, r2, r3⟩ := tryTerms hg hs hw hnl preds hl hx
        have hR : ∀ t ∈ R, kindT p.1 p.2.1 t.2 = 2 ∧ WfN t.2 := fun t ht => hall t.2 (by rw [← q1]; exact List.mem_map_of_mem ht)
        have hS : ∀ t ∈ S, kindT p.1 p.2.1 t.2 = 2 ∧ WfN t.2 := fun t ht => hall t.2 (by rw [← r1]; exact List.mem_map_of_mem ht)
        have hRS : R.map Prod.snd = S.map Prod.snd := by rw [q1, r1]
        have hRl : R.length ≤ 40 := by have := q2.1; rw [List.length_map] at this; exact this
        have hSl : S.length = R.length := by have := congrArg List.length hRS; simpa using this.symm
        have hrl : (rowsL p v.2 path.2).length = path.2.length := alongL_length p v.2 path.2 _
        have hf := failI_in (rowsL p v.2 path.2)
        obtain ⟨b1, g1⟩ := l19Along h v.1 path hp
        have g1' : spec_l19Along p v path = some (b1, (rowsL p v.2 path.2).map fun l => (l.isEmpty, l)) := g1
        have g2 : impl_statesAlong p v path = some (false, (rowsL p v.2 path.2).map fun l => (false, l)) := statesAlong h v.1 path hp
        have k1 := (failsAt (rowsL p v.2 path.2) (fun l => l.isEmpty) b1 (by omega)).2
        have k2 := (failsAt (rowsL p v.2 path.2) (fun _ => false) false (by omega)).1
        rw [spec_l20Cut_eq, impl_cutBy_eq]
        simp only [if_neg c, cond_true, Bool.not_true, cond_false, a1, a2, e1', g1', g2, k1, k2, q3, r3, some_bind]
        rw [deadL] at hd ⊢
        generalize failI (rowsL p v.2 path.2) = k at hf hd c ⊢
        obtain ⟨n, rfl⟩ : ∃ n : Nat, k = ((n + 1 : Nat) : Int) := ⟨(k - 1).toNat, by omega⟩
        have hn : n < (rowsL p v.2 path.2).length := by omega
        have ew : IntKind.i64.wrap (((n + 1 : Nat) : Int) - 1) = (n : Int) := by rw [wr (by omega)]; omega
        rw [Int.toNat_natCast, Nat.add_sub_cancel] at hd ⊢
        have e : (rowsL p v.2 path.2).getD n [] = (rowsL p v.2 path.2)[n] := by simp [List.getD_eq_getElem?_getD, hn]
        rw [e] at hd ⊢
        simp only [ew]
        obtain ⟨b2, u1⟩ := l19On h v.1 (path.2.getD n 0) (path.2.getD (n + 1) 0)
        have u1' : spec_l19On p v (path.2.getD n 0) (path.2.getD (n + 1) 0) = some (b2, onL p v.2 (path.2.getD n 0) (path.2.getD (n + 1) 0)) := u1
        have u2 : impl_stepsOn p v (path.2.getD n 0) (path.2.getD (n + 1) 0) = some (false, onL p v.2 (path.2.getD n 0) (path.2.getD (n + 1) 0)) := stepsOn h v.1 _ _
        have ho := onL_length h (path.2.getD n 0) (path.2.getD (n + 1) 0)
        have hoi : ∀ x ∈ onL p v.2 (path.2.getD n 0) (path.2.getD (n + 1) 0), 0 ≤ x ∧ x < (manyS p : Int) := fun x hx => h.inClass _ x (List.mem_filter.1 hx).1
        have hm := manyS_in h.ok.sml
        have hd1 := hd.1
        have w1 := l20First h.ok.sml (f1, R) hRl (fun t ht => (hR t ht).2) (fun t ht => (hR t ht).1) (((rowsL p v.2 path.2)[n]).isEmpty, (rowsL p v.2 path.2)[n]) (b2, onL p v.2 (path.2.getD n 0) (path.2.getD (n + 1) 0)) (by simp only; omega) (by simp only; omega) hd.2 hoi
        have w2 := firstApart h.ok.sml (f2, S) (by simp only; omega) (fun t ht => (hS t ht).2) (fun t ht => (hS t ht).1) (false, (rowsL p v.2 path.2)[n]) (false, onL p v.2 (path.2.getD n 0) (path.2.getD (n + 1) 0)) (by simp only; omega) (by simp only; omega) hd.2 hoi
        have w3 := first_rows p hRS (rowsL p v.2 path.2)[n] (onL p v.2 (path.2.getD n 0) (path.2.getD (n + 1) 0))
        have w4 := first_in p R (rowsL p v.2 path.2)[n] (onL p v.2 (path.2.getD n 0) (path.2.getD (n + 1) 0))
        simp only at w1 w2
        rw [← w3] at w2
        have z1 : (0 : Int) ≤ (n : Int) := by omega
        have z2 : (n : Int) < (((rowsL p v.2 path.2).map fun l => (l.isEmpty, l)).length : Int) := by simp; omega
        have z3 : (n : Int) < (path.2.length : Int) := by omega
        have z4 : (0 : Int) ≤ ((n + 1 : Nat) : Int) := by omega
        have z5 : ((n + 1 : Nat) : Int) < (path.2.length : Int) := by omega
        simp only [gT z1, gT z2, gT z3, gT z4, gT z5, Int.toNat_natCast, u1', u2, some_bind, getD_rows _ _ n hn, w1, w2]
        generalize firstL p R (rowsL p v.2 path.2)[n] (onL p v.2 (path.2.getD n 0) (path.2.getD (n + 1) 0)) = m at w4
        rcases w4 with rfl | ⟨j, hj, rfl⟩
        · obtain ⟨x, y, m1, m2, m3⟩ := cut_both h ((rowsL p v.2 path.2)[n]).isEmpty false (rowsL p v.2 path.2)[n] hd
          simp only [gT (show (-1 : Int) < 0 by omega), m1, m2, some_bind]
          exact ⟨x, y, _, -1, true, rfl, rfl, m3⟩
        · have hj2 : j < S.length := by omega
          have ej : R[j].2 = S[j].2 := by
            have := congrArg (fun l => l[j]?) hRS
            simpa [List.getElem?_map, hj, hj2] using this
          have gr : R.getD j (true, []) = R[j] := by simp [List.getD_eq_getElem?_getD, hj]
          have gs : S.getD j (true, []) = S[j] := by simp [List.getD_eq_getElem?_getD, hj2]
          obtain ⟨x, m1⟩ := l15Split h v.1 (R[j].1, R[j].2) (hR _ (List.getElem_mem hj)).2 (by rw [(hR _ (List.getElem_mem hj)).1]; rfl)
          obtain ⟨y, m2⟩ := SplitBy h1 h hsm v.1 (S[j].1, S[j].2) (hS _ (List.getElem_mem hj2)).2 (by rw [(hS _ (List.getElem_mem hj2)).1]; rfl)
          have m1' : spec_l15Split p v (R[j].1, R[j].2) = _ := m1
          have m2' : impl_SplitBy p v (S[j].1, S[j].2) = _ := m2
          rw [← ej] at m2'
          have hgd := splitL_good h1 R[j].2
          have hgl := (goodSight_in hgd).2.1
          simp only [gF (show ¬ (j : Int) < 0 by omega), gT (show (0 : Int) ≤ (j : Int) by omega), gT (show (j : Int) < (R.length : Int) by omega), gT (show (j : Int) < (S.length : Int) by omega), Int.toNat_natCast, gr, gs, m1', m2', some_bind, ← ej]
          exact ⟨x, y, _, j, true, rfl, rfl, by omega⟩
theorem flags_fine (p : DProgram) : ∀ c ∈ (cpProgram p).2.2.2.2, c.1.1 = true → c.1.2 = [] := by
  intro c hc
  obtain ⟨d, hd, rfl⟩ := List.mem_map.1 hc
  intro h
  exact absurd h (by simp [cpCommand])
theorem pure_FnExactCutBy (x0 : DProgram) (x1 : DSight) (x2 : Bool × List (Bool × List DNode)) (x3 : Bool × List Int) (w0 : WfD tyProgram x0) (w1 : WfD tySight x1) (w2 : WfD (.sl (.sl tyNode)) x2) (w3 : WfD (.sl (.int .i64)) x3) : laws_FnExactCutBy x0 x1 x2 x3 = some true := by
  have w1' : x1.2.length ≤ big := w1.2.1
  obtain ⟨v1, v2, v3⟩ := rows_big w2
  rw [laws_FnExactCutBy_eq]
  by_cases c3 : (x3.2.length : Int) > 1048576
  · rw [gT c3]
  rw [gF c3]
  obtain ⟨r0, e0, h0⟩ := szProgram x0 w0 1048576 (by omega)
  rw [e0, some_bind]
  rcases h0 with h0 | ⟨h0, h1, hs⟩
  · rw [gT h0]
  rw [gF (by omega), szSight x1 r0 (by omega) w1', some_bind]
  rcases Int.lt_or_le (r0) (x1.2.length : Int) with c1 | c1
  · rw [if_neg (by omega), gT (by omega)]
  rw [if_pos c1]
  obtain ⟨r1, e9, h9⟩ := szNodeSS x2 (r0 - x1.2.length) (by omega) v1 v2
  rw [gF (by omega), e9, some_bind]
  rcases h9 with h9 | ⟨h9, h8, hs1⟩
  · rw [gT h9]
  have hs2 := SmRows_cp hs1
  rw [gF (by omega), toProgram x0 hs, some_bind, toSight x1 (by omega), some_bind, toNodeSS x2 hs1, some_bind, toIntS x3 (by omega), some_bind]
  obtain ⟨f, g, A, m, ok, e1, e2, hA⟩ := cutby_law (cpProgram x0) (Sm_cp hs) (WfP_cp (WfD_prog w0)) (flags_fine x0) (false, x1.2) (false, cpRows x2.2) v3 hs2.1 (false, x3.2) (by simp only; omega) (by simp only; omega)
  have e1' : spec_CutBy ((cpProgram x0).1, ((cpProgram x0).2.1, (((cpProgram x0).2.2.1.1, (cpProgram x0).2.2.1.2), ((cpProgram x0).2.2.2.1, (cpProgram x0).2.2.2.2)))) (false, x1.2) (false, cpRows x2.2) (false, x3.2) = _ := e1
  have e2' : impl_CutBy ((cpProgram x0).1, ((cpProgram x0).2.1, (((cpProgram x0).2.2.1.1, (cpProgram x0).2.2.1.2), ((cpProgram x0).2.2.2.1, (cpProgram x0).2.2.2.2)))) (false, x1.2) (false, cpRows x2.2) (false, x3.2) = _ := e2
  have e3 : laws_eqProgram ((cpProgram x0).1, ((cpProgram x0).2.1, (((cpProgram x0).2.2.1.1, (cpProgram x0).2.2.1.2), ((cpProgram x0).2.2.2.1, (cpProgram x0).2.2.2.2)))) ((cpProgram x0).1, ((cpProgram x0).2.1, (((cpProgram x0).2.2.1.1, (cpProgram x0).2.2.1.2), ((cpProgram x0).2.2.2.1, (cpProgram x0).2.2.2.2)))) = some true := eqProgram_same _ (Sm_cp hs)
  obtain ⟨y, z, k, e4, e5, e6⟩ := markProgram (cpProgram x0) (Sm_cp hs) 1 (by omega) (by omega)
  have hz2 := SmRows_size hs2
  have q1 := eqSight_same g f A hA
  have q2 := eqNodeSS_same false false _ _ hs2 rfl
  have q3 := eqSight_same false false x1.2 (by omega)
  have q4 := eqIntS_same false false x3.2 (by omega)
  have m1 := markSight g A 1 hA (by omega) (by omega)
  have m2 := markSight false x1.2 k (by omega) (by omega) (by omega)
  have m3 := markNodeSS false (cpRows x2.2) (k + x1.2.length) hs2 (by omega) (by omega)
  have m4 := markIntS false x3.2 (k + x1.2.length + 2 * sizeSS (cpRows x2.2)) (by omega) (by omega) (by omega)
  have k1 := heldSight g A.length 1 hA (by omega) (by omega)
  simp only [e1', e2', some_bind, q1, q2, q3, q4, beq_self_eq_true, bne_self_eq_false, Bool.not_true, cond_false, e3, e4, m1, m2, m3, m4, k1, gF (show ¬ k + (x1.2.length : Int) + 2 * (sizeSS (cpRows x2.2) : Int) + (x3.2.length : Int) < 0 by omega), gF (show ¬ (1 + (A.length : Int)) < 0 by omega)]

end Go.Proofs.YtpokpgejcendmaaGreat.R
