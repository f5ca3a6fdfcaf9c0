/- The plain law of FnExactCheckRun: what the two functions compute is the same. -/
import Derived.Test.YtedfhboklcfanaaGreatUFnExactCheckRunA
import Derived.Laws.MathBits
set_option linter.all false
namespace Go.Proofs.YtedfhboklcfanaaGreat.R
open Go.Rf
theorem checkrun_law (q : DQuestion) (h : LawQ q) (s l : Bool × List Int) (h1 : s.2.length ≤ 1048576) (h2 : l.2.length ≤ 1048576) : ∃ r, spec_CheckRun q s l = some r ∧ impl_CheckRun q s l = some r := by
  have hlim := lim_eq
  rw [spec_CheckRun_eq, impl_CheckRun_eq, told_spec q h, told_impl q h s l h1 h2, some_bind, some_bind]
  cases ht : toldL q s.2 l.2 with
  | false => exact ⟨_, rfl, rfl⟩
  | true =>
    unfold toldL at ht
    simp only [Bool.and_eq_true, decide_eq_true_eq] at ht
    obtain ⟨hq, ⟨l1, l2, l3⟩, w1, w2⟩ := ht
    have ha := Asks_of hq h.sm.prog h.wfp h.wf
    have hm := manyS_in ha.ok.sml
    have i1 := inW_in w1
    have i2 := inW_in w2
    have hk : kindT q.1.1 q.1.2.1 q.1.2.2.1.2 ≠ 0 := by
      have hg := ha.ok.good
      simp only [goodProgram, Bool.and_eq_true, beq_iff_eq] at hg
      rw [hg.1]
      decide
    obtain ⟨cb, ec⟩ := concat2 s l h1 h2
    obtain ⟨tb, et⟩ := l8Those ha.ok.sml q.1.2.2.1 ha.ok.wf.1 hk
    have hf := first_of s.2 l.2 l2
    have hcl : (s.2 ++ l.2).length = s.2.length + l.2.length := List.length_append
    have hfirst : 0 ≤ (s.2 ++ l.2).getD 0 0 ∧ (s.2 ++ l.2).getD 0 0 < (manyS q.1 : Int) := by
      rw [List.getD_eq_getElem?_getD, List.getElem?_eq_getElem (show 0 < (s.2 ++ l.2).length by omega)]
      rcases List.mem_append.1 (List.getElem_mem (show 0 < (s.2 ++ l.2).length by omega)) with q1 | q1
      · exact i1 _ q1
      · exact i2 _ q1
    have htl := thoseL_length q.1 q.1.2.2.1.2 0 (manyS q.1)
    have hhas : ∀ x : Int, 0 ≤ x ∧ x < (manyS q.1 : Int) → spec_l1Has (tb, thoseL q.1 q.1.2.2.1.2 0 (manyS q.1)) x = some (holdsB q.1 q.1.2.2.1.2 x) := fun x hx => by
      rw [l1Has _ _ (by simp only; omega)]
      congr 1
      rw [Bool.eq_iff_iff, List.any_eq_true]
      constructor
      · rintro ⟨y, hy, e⟩
        rw [beq_iff_eq] at e
        subst e
        exact (mem_thoseL.1 hy).2
      · intro hh
        exact ⟨x, mem_thoseL.2 ⟨hx, hh⟩, by simp⟩
    have est := stateOf ha.ok.sml ((s.2 ++ l.2).getD 0 0) (by omega)
    have ehold := (holds_at ha.ok.sml q.1.2.2.1 ha.ok.wf.1 hk false ((s.2 ++ l.2).getD 0 0)).2
    -- the rest, behind the first state
    have rest : ∃ r, (bif !holdsB q.1 q.1.2.2.1.2 ((s.2 ++ l.2).getD 0 0) then some ((1 : Int), true) else (spec_l14IsRun q s l).bind fun r3 => bif !r3 then some (2, true) else (spec_l14Word q s l).bind fun r4 => (spec_l10At q.2.2 ((r4.1.1, r4.1.2), (r4.2.1, r4.2.2)) 0).bind fun r5 => bif r5 then some (3, true) else some (0, true)) = some r ∧
        (bif !holdsB q.1 q.1.2.2.1.2 ((s.2 ++ l.2).getD 0 0) then some ((1 : Int), true) else (impl_Question_isRun q s l).bind fun r4 => bif !r4 then some (2, true) else (impl_Question_letters q s).bind fun r5 => (impl_Question_letters q l).bind fun r6 => (impl_Lasso_along ((r5.1, r5.2), (r6.1, r6.2)) q.2.2).bind fun r7 => bif decide (0 < (r7.2.length : Int)) then (bif (r7.2.getD 0 false) then some (3, true) else some (0, true)) else none) = some r := by
      cases hh : holdsB q.1 q.1.2.2.1.2 ((s.2 ++ l.2).getD 0 0) with
      | false => exact ⟨_, rfl, rfl⟩
      | true =>
        rw [Bool.not_true, cond_false, cond_false]
        have hall : ((s.2 ++ l.2) ++ [l.2.getD 0 0]).length = s.2.length + l.2.length + 1 := by simp; omega
        have hl0 : l.2.getD 0 0 ∈ l.2 := by
          rw [List.getD_eq_getElem?_getD, List.getElem?_eq_getElem (show 0 < l.2.length by omega)]
          exact List.getElem_mem _
        have hin : ∀ x ∈ (s.2 ++ l.2) ++ [l.2.getD 0 0], 0 ≤ x ∧ x < (manyS q.1 : Int) := fun x hx => by
          rcases List.mem_append.1 hx with q1 | q1
          · rcases List.mem_append.1 q1 with q1 | q1
            · exact i1 x q1
            · exact i2 x q1
          · rw [List.mem_singleton] at q1
            rw [q1]
            exact i2 _ hl0
        have hfst : ((s.2 ++ l.2) ++ [l.2.getD 0 0]).getD 0 0 = (s.2 ++ l.2).getD 0 0 := by
          rw [List.getD_eq_getElem?_getD, List.getElem?_append_left (by omega), List.getD_eq_getElem?_getD]
        obtain ⟨cb3, ec3⟩ := concatInt (false, [s, l, (l.1, ((l.2.take 1).drop 0))]) (by simp; omega) (by simp)
        have htk : (l.2.take 1).drop 0 = [l.2.getD 0 0] := by
          match hl2 : l.2, l2 with
          | x :: t, _ => rfl
        have ec3' : slices_Concat_int (false, [s, l, (l.1, ((l.2.take 1).drop 0))]) = some (cb3, (s.2 ++ l.2) ++ [l.2.getD 0 0]) := by
          rw [ec3]
          simp only [List.map_cons, List.map_nil, List.flatten_cons, List.flatten_nil, List.append_nil, htk, List.append_assoc]
        obtain ⟨r1, _⟩ := arcs_L0s ha ((false && l.2.isEmpty) && false) cb3 ((s.2 ++ l.2) ++ [l.2.getD 0 0]) (by omega) hin (s.2.length + l.2.length) 1 (by omega) (by omega)
        obtain ⟨_, r2⟩ := arcs_L0s ha ((false && l.2.isEmpty) && false) cb3 ((s.2 ++ l.2) ++ [l.2.getD 0 0]) (by omega) hin (s.2.length + l.2.length) 1 (by omega) (by omega)
        have r1' : spec_l14IsRun_L0 q (((false && l.2.isEmpty) && false), ((s.2 ++ l.2) ++ [l.2.getD 0 0])) 1 = _ := r1
        have r2' : impl_Question_isRun_L0 q (cb3, (s.2 ++ l.2) ++ [l.2.getD 0 0]) (false, graphP q.1) 1 = _ := r2
        have hown : spec_l1Own s = some (false, s.2) := ownInt s.1 s.2 h1
        have gr : impl_Program_graph q.1 = some (false, graphP q.1) := graphOf ha.ok
        have sr : spec_l14IsRun q s l = some (arcsL q.1 ((s.2 ++ l.2) ++ [l.2.getD 0 0]) 1) := by
          rw [spec_l14IsRun_eq, hown, some_bind, gT (by simp only; omega), gT (by omega), gT (by simp; omega), et, some_bind]
          simp only
          rw [gT (by omega), hfst, hhas _ hfirst, some_bind, hh, Bool.not_true, cond_false, r1', some_bind]
          cases arcsL q.1 ((s.2 ++ l.2) ++ [l.2.getD 0 0]) 1 <;> rfl
        have ir : impl_Question_isRun q s l = some (arcsL q.1 ((s.2 ++ l.2) ++ [l.2.getD 0 0]) 1) := by
          rw [impl_Question_isRun_eq, gT (by omega), ec3', some_bind, gr, some_bind, r2', some_bind]
          cases arcsL q.1 ((s.2 ++ l.2) ++ [l.2.getD 0 0]) 1 with
          | false => rfl
          | true =>
            simp only [if_true]
            rw [gT (by omega), hfst, est, some_bind, ehold, some_bind, hh]
        rw [sr, ir, some_bind, some_bind]
        cases arcsL q.1 ((s.2 ++ l.2) ++ [l.2.getD 0 0]) 1 with
        | false => exact ⟨_, rfl, rfl⟩
        | true =>
          obtain ⟨b1, e1⟩ := letters_impl ha s l1 i1
          obtain ⟨b2, e2⟩ := letters_impl ha l l3 i2
          obtain ⟨a, b, ew⟩ := word_spec ha s l l1 l3 i1 i2
          have hsaid := (goodTr_in ha.tr).1
          obtain ⟨v2, r, k1, k2, k3, k4⟩ := alongS_both q.2.2 hsaid ((a, s.2.map (letter q)), (b, l.2.map (letter q))) ((b1, s.2.map (letter q)), (b2, l.2.map (letter q))) rfl rfl (by simp; omega) (by simp; omega)
          rw [Bool.not_true, cond_false, cond_false, ew, e1, some_bind, some_bind, e2, some_bind]
          simp only [k1, k2, some_bind]
          rw [gT (by omega), k4]
          cases v2 <;> exact ⟨_, rfl, rfl⟩
    obtain ⟨r, q1, q2⟩ := rest
    refine ⟨r, ?_, ?_⟩
    · rw [Bool.not_true, cond_false, gT (by omega)]
      by_cases c : (s.2.length : Int) > 0
      · rw [if_pos (by omega)] at hf
        rw [hf] at q1 hfirst
        rw [gT c, gT (by omega), et, some_bind]
        simp only [hhas _ hfirst, some_bind]
        exact q1
      · rw [if_neg (by omega)] at hf
        rw [hf] at q1 hfirst
        rw [gF c, et, some_bind]
        simp only [hhas _ hfirst, some_bind]
        exact q1
    · rw [Bool.not_true, cond_false, ec, some_bind, gT (by simp only; omega)]
      simp only [est, some_bind, ehold]
      exact q2
theorem pure_FnExactCheckRun (x0 : DQuestion) (x1 : Bool × List Int) (x2 : Bool × List Int) (w0 : WfD tyQuestion x0) (w1 : WfD (.sl (.int .i64)) x1) (w2 : WfD (.sl (.int .i64)) x2) : laws_FnExactCheckRun x0 x1 x2 = some true := by
  rw [laws_FnExactCheckRun_eq]
  by_cases c1 : (x1.2.length : Int) > 1048576
  · rw [gT c1]
  rw [gF c1]
  by_cases c2 : (x2.2.length : Int) > 1048576
  · rw [gT c2]
  rw [gF c2]
  obtain ⟨r0, e0, h0⟩ := szQuestion x0 w0 1048576 (by omega)
  rw [e0, some_bind]
  rcases h0 with h0 | ⟨h0, h1, hs⟩
  · rw [gT h0]
  rw [gF (by omega), toQuestion x0 hs, some_bind, toIntS x1 (by omega), some_bind, toIntS x2 (by omega), some_bind]
  obtain ⟨r, e1, e2⟩ := checkrun_law (cpQ x0) (LawQ_cp w0 hs) (false, x1.2) (false, x2.2) (by simp only; omega) (by simp only; omega)
  have e1' : spec_CheckRun (((cpProgram x0.1).1, (cpProgram x0.1).2.1, (false, (cpProgram x0.1).2.2.1.2), (false, (cpProgram x0.1).2.2.2.2)), (false, cpRows x0.2.1.2), (false, x0.2.2.2)) (false, x1.2) (false, x2.2) = _ := e1
  have e2' : impl_CheckRun (((cpProgram x0.1).1, (cpProgram x0.1).2.1, (false, (cpProgram x0.1).2.2.1.2), (false, (cpProgram x0.1).2.2.2.2)), (false, cpRows x0.2.1.2), (false, x0.2.2.2)) (false, x1.2) (false, x2.2) = _ := e2
  have e3 : laws_eqQuestion (((cpProgram x0.1).1, (cpProgram x0.1).2.1, (false, (cpProgram x0.1).2.2.1.2), (false, (cpProgram x0.1).2.2.2.2)), (false, cpRows x0.2.1.2), (false, x0.2.2.2)) (((cpProgram x0.1).1, (cpProgram x0.1).2.1, (false, (cpProgram x0.1).2.2.1.2), (false, (cpProgram x0.1).2.2.2.2)), (false, cpRows x0.2.1.2), (false, x0.2.2.2)) = some true := eqQuestion_same (cpQ x0) (SmQ_cp hs)
  have q1 := eqIntS_same false false x1.2 (by omega)
  have q2 := eqIntS_same false false x2.2 (by omega)
  simp only [e1', e2', some_bind, beq_self_eq_true, bne_self_eq_false, Bool.not_true, cond_false, e3, q1, q2]

end Go.Proofs.YtedfhboklcfanaaGreat.R
