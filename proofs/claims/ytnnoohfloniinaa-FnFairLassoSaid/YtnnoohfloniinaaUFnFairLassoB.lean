/- The plain law of FnFairLasso: what the two functions compute is the same. -/
import Derived.Test.YtnnoohfloniinaaUFnFairLassoA
import Derived.Laws.MathBits
set_option linter.all false
namespace Go.Proofs.Ytnnoohfloniinaa.R
open Go.Rf
/-- what is known of a loop under way -/
structure LoopOk (m : Nat) (G : List (List Int)) (P : List Int) (meet : Int) (L : List Int) : Prop where
  pos : 1 ≤ L.length
  head : L.getD 0 0 = meet
  arcs : Arcs (withinL G P) L
  inn : ∀ x ∈ L, (0 ≤ x ∧ x < (m : Int)) ∧ P.getD x.toNat 0 = P.getD meet.toNat 0
theorem LoopOk.last {m : Nat} {G : List (List Int)} {P : List Int} {meet : Int} {L : List Int} (h : LoopOk m G P meet L) : (0 ≤ lastD L ∧ lastD L < (m : Int)) ∧ P.getD (lastD L).toNat 0 = P.getD meet.toNat 0 := h.inn _ (getD_in (by have := h.pos; omega))
theorem LoopOk.step {m : Nat} {G : List (List Int)} (hG : Gr m G) (hs : ∀ l ∈ G, l.length ≤ 2000) {P : List Int} {meet : Int} {L : List Int} (h : LoopOk m G P meet L) {to : List Int} (hto : to.length ≤ 10000) (ht : ∀ x ∈ to, (0 ≤ x ∧ x < (m : Int)) ∧ P.getD x.toNat 0 = P.getD meet.toNat 0) {g : List Int} (e : leastL (withinL G P) [lastD L] to = some g) : LoopOk m G P meet (L ++ g.drop 1) ∧ 1 ≤ g.length ∧ g.length ≤ m ∧ lastD (L ++ g.drop 1) ∈ to := by
  obtain ⟨w1, w2⟩ : Gr m (withinL G P) ∧ ∀ l ∈ withinL G P, l.length ≤ 2000 := gr_filter hG hs fun v w => P.getD v 0 == P.getD w.toNat 0
  have hl := h.last
  have S := leastL_some w1 w2 [lastD L] to (fun w hw => by rw [List.mem_singleton] at hw; rw [hw]; exact hl.1) hto (fun w hw => (ht w hw).1) e
  have h0 : g.getD 0 0 = lastD L := List.mem_singleton.1 S.head
  have hlen : (withinL G P).length = m := w1.len
  have hpart : ∀ i, i < g.length → P.getD (g.getD i 0).toNat 0 = P.getD meet.toNat 0 := by
    intro i
    induction i with
    | zero => intro _; rw [h0]; exact hl.2
    | succ i ih =>
      intro hi
      have hin := S.inn i (by omega)
      rw [hlen] at hin
      have := S.arc i hi
      rw [withinL_row (by rw [hG.len]; omega), List.mem_filter, beq_iff_eq] at this
      rw [← this.2]
      exact ih (by omega)
  refine ⟨⟨by rw [List.length_append]; have := h.pos; omega, ?_, arcs_join h.arcs S.arc h.pos S.pos h0, fun x hx => ?_⟩, S.pos, by have := S.len; omega, ?_⟩
  · rw [getD_app, if_pos (by have := h.pos; omega)]
    exact h.head
  · rcases List.mem_append.1 hx with hx | hx
    · exact h.inn x hx
    · obtain ⟨i, hi, rfl⟩ := mem_getD (List.mem_of_mem_drop hx)
      have := S.inn i hi
      rw [hlen] at this
      exact ⟨this, hpart i hi⟩
  · rw [last_join h.pos S.pos h0]
    exact S.last
theorem drop_last {l : List Int} (h : 1 ≤ l.length) : (l.take l.length).drop (l.length - 1) = [lastD l] := by
  rw [List.take_of_length_le (Nat.le_refl _), List.drop_eq_getElem_cons (by omega), List.drop_of_length_le (by omega)]
  simp [lastD, List.getD_eq_getElem?_getD, show l.length - 1 < l.length by omega]
/-- the loop of a fair lasso, as the two functions make it -/
theorem lasso_loops {m : Nat} {G : List (List Int)} (h1 : 1 ≤ m) (hG : Gr m G) (hs : ∀ l ∈ G, l.length ≤ 2000) {P : List Int} (hP : PartsOf m G P) (pb pb2 : Bool) (meet : Int) (hme : 0 ≤ meet ∧ meet < (m : Int)) (stem stem2 : Bool × List Int) (ib wb : Bool) {I W : List (Bool × List Int)} (hI : I.map Prod.snd = insideL G P (P.getD meet.toNat 0)) (hW : W.map Prod.snd = withinL G P) (gb : Bool) (Q : List (Bool × List Int)) (hQ : ∀ r ∈ Q, GoalOk m r.2 ∧ r.2.length ≤ 10000 ∧ (r.1 = true → r.2 = [])) (hQl : Q.length ≤ 1000) (hit : ∀ r ∈ Q, hitB P r.2 (P.getD meet.toNat 0) = true) (d : Nat) : ∀ (i : Nat) (L : List Int), i + d = Q.length → LoopOk m G P meet L → L.length + 10000 * d ≤ 200000000 →
    ∃ L', impl_fairLasso_L0 meet stem (pb, P) (ib, I) (false, L) (gb, Q) (Q.length : Int) (i : Int) = some (false, L') ∧ spec_l11Lasso_L2 meet stem2 (pb2, P) (wb, W) (false, L) (gb, Q) (Q.length : Int) (i : Int) = some (false, L') ∧ LoopOk m G P meet L' ∧ L'.length ≤ L.length + 10000 * d ∧ (∀ x ∈ L, x ∈ L') ∧ ∀ r ∈ Q.drop i, ∃ k ∈ r.2, k ∈ L' := by
  have hlim := lim_eq
  have hsm := hG.small
  have hPo := hP.ok hG
  obtain ⟨w1, w2⟩ : Gr m (withinL G P) ∧ ∀ l ∈ withinL G P, l.length ≤ 2000 := gr_filter hG hs fun v w => P.getD v 0 == P.getD w.toNat 0
  obtain ⟨i1, i2⟩ : Gr m (insideL G P (P.getD meet.toNat 0)) ∧ ∀ l ∈ insideL G P (P.getD meet.toNat 0), l.length ≤ 2000 := gr_filter hG hs fun v w => P.getD v 0 == P.getD meet.toNat 0 && P.getD w.toNat 0 == P.getD meet.toNat 0
  induction d with
  | zero => intro i L hi hL hB; exact ⟨L, by rw [impl_fairLasso_L0_eq, gF (by omega)], by rw [spec_l11Lasso_L2_eq, gF (by omega)], hL, by omega, fun x h => h, fun r hr => by rw [List.drop_of_length_le (by omega)] at hr; cases hr⟩
  | succ d ih =>
    intro i L hi hL hB
    have hlt : i < Q.length := by omega
    have hmem := List.getElem_mem hlt
    obtain ⟨q1, q2, q3⟩ := hQ _ hmem
    have hpos := hL.pos
    have hla := hL.last
    have hto : ∀ x ∈ goalIn P (Q[i]).2 (P.getD meet.toNat 0), (0 ≤ x ∧ x < (m : Int)) ∧ P.getD x.toNat 0 = P.getD meet.toNat 0 := fun x hx => by
      rw [goalIn, List.mem_filter, beq_iff_eq] at hx
      exact ⟨q1.2 x hx.1, hx.2⟩
    have htl : (goalIn P (Q[i]).2 (P.getD meet.toNat 0)).length ≤ 10000 := Nat.le_trans (List.length_filter_le _ _) q2
    have hfr : ∀ x ∈ [lastD L], (0 ≤ x ∧ x < (m : Int)) ∧ P.getD x.toNat 0 = P.getD meet.toNat 0 := fun x hx => by rw [List.mem_singleton] at hx; rw [hx]; exact hla
    have eIW := least_inside hG hs P (P.getD meet.toNat 0) [lastD L] (goalIn P (Q[i]).2 (P.getD meet.toNat 0)) hfr hto
    have hsome : ∃ g, leastL (withinL G P) [lastD L] (goalIn P (Q[i]).2 (P.getD meet.toNat 0)) = some g := by
      cases hq : leastL (withinL G P) [lastD L] (goalIn P (Q[i]).2 (P.getD meet.toNat 0)) with
      | some g => exact ⟨g, rfl⟩
      | none =>
        exfalso
        have hh := hit _ hmem
        rw [hitB, List.any_eq_true] at hh
        obtain ⟨k, hk, hkp⟩ := hh
        rw [beq_iff_eq] at hkp
        have hkin : k ∈ goalIn P (Q[i]).2 (P.getD meet.toNat 0) := by rw [goalIn, List.mem_filter, beq_iff_eq]; exact ⟨hk, hkp⟩
        have hsc := (hP.same hla.1 (q1.2 k hk)).1 (by rw [hla.2, hkp])
        exact leastL_none w1 w2 [lastD L] _ (fun x hx => (hfr x hx).1) (fun x hx => (hto x hx).1) hq (List.mem_singleton.2 rfl) hkin (way_within hG hP hsc.1 hla.1 hsc.2)
    obtain ⟨g, hg⟩ := hsome
    obtain ⟨s1, s2, s3, s4⟩ := hL.step hG hs htl hto hg
    obtain ⟨k1, _, _⟩ := least_bothF i1 i2 h1 ib ib false false false hI hI [lastD L] (goalIn P (Q[i]).2 (P.getD meet.toNat 0)) (by simp) (fun x hx => (hfr x hx).1) htl (fun x hx => (hto x hx).1) (Q[i]).1 (fun h => by rw [goalIn, q3 h]; rfl)
    obtain ⟨b4, e4⟩ := lasso_L4 hsm pb2 hPo meet hme stem2 (wb, W) (false, L) (gb, Q) (Q.length : Int) (i : Int) Q[i] q1 (Q[i]).2.length 0 true [] (by omega) (by simp)
    have e4' : spec_l11Lasso_L4 meet stem2 (pb2, P) (wb, W) (false, L) (true, []) (gb, Q) (Q.length : Int) (i : Int) Q[i] ((Q[i]).2.length : Int) 0 = _ := e4
    obtain ⟨_, k2, _⟩ := least_bothF w1 w2 h1 wb wb false false b4 hW hW [lastD L] (goalIn P (Q[i]).2 (P.getD meet.toNat 0)) (by simp) (fun x hx => (hfr x hx).1) htl (fun x hx => (hto x hx).1) false (by simp)
    rw [eIW, hg] at k1
    rw [hg] at k2
    simp only at k1 k2
    obtain ⟨L', a1, a2, a3, a4, a5, a6⟩ := ih (i + 1) (L ++ g.drop 1) (by omega) s1 (by rw [List.length_append, List.length_drop]; omega)
    have ew : IntKind.i64.wrap ((L.length : Int) - 1) = ((L.length - 1 : Nat) : Int) := by rw [wr (by omega)]; omega
    have eg : (g.take g.length).drop 1 = g.drop 1 := by rw [List.take_of_length_le (Nat.le_refl _)]
    have ecl := clone_any Q[i] q3 (by have := q2; omega)
    have edel := delete_fair hsm pb hPo meet hme Q[i] q1
    have edel' : slices_DeleteFunc_int_by_fairLasso_1 ((Q[i]).1, (Q[i]).2) ((pb, P), (meet, ())) = _ := edel
    refine ⟨L', ?_, ?_, a3, by rw [List.length_append, List.length_drop] at a4; omega, fun x hx => a5 x (List.mem_append_left _ hx), fun r hr => ?_⟩
    · rw [impl_fairLasso_L0_eq, gT (by omega), gT (by omega), gT (by simp only; omega), getD_at Q _ i hlt]
      simp only [ecl, some_bind, edel', ew, Int.toNat_natCast, drop_last hpos]
      rw [gT (by omega), gT (by omega), k1]
      simp only [some_bind, eg, Bool.false_and]
      rw [gT (by omega), gT (by rw [List.length_drop]; omega), up1 i (by omega), bind_id, a1]
    · rw [spec_l11Lasso_L2_eq, gT (by omega), gT (by omega), gT (by simp only; omega), getD_at Q _ i hlt]
      simp only [e4', some_bind, ew, Int.toNat_natCast, drop_last hpos, List.nil_append, List.drop_zero]
      rw [gT (by omega), gT (by omega), k2]
      simp only [some_bind, eg, Bool.false_and]
      rw [gT (by omega), gT (by rw [List.length_drop]; omega), up1 i (by omega), bind_id, a2]
    · rw [List.drop_eq_getElem_cons hlt] at hr
      rcases List.mem_cons.1 hr with rfl | hr
      · refine ⟨lastD (L ++ g.drop 1), (List.mem_filter.1 s4).1, a5 _ (getD_in (by rw [List.length_append]; omega))⟩
      · exact a6 r hr
theorem inside_row {m : Nat} {G : List (List Int)} (hG : Gr m G) (P : List Int) (own : Int) {k : Nat} (hk : k < m) (h : P.getD k 0 = own) : (insideL G P own).getD k [] = (withinL G P).getD k [] := by
  have e1 : (insideL G P own).getD k [] = (G.getD k []).filter fun w => P.getD k 0 == own && P.getD w.toNat 0 == own := filter_row (fun v w => P.getD v 0 == own && P.getD w.toNat 0 == own) (by rw [hG.len]; exact hk)
  rw [e1, withinL_row (by rw [hG.len]; exact hk), h]
  apply List.filter_congr
  intro w _
  rw [beq_self_eq_true, Bool.true_and, Bool.eq_iff_iff, beq_iff_eq, beq_iff_eq]
  exact eq_comm
theorem way_first {g : Int → List Int} {a u w : Int} (h : Way g a u) (hw : w ∈ g u) : ∃ y ∈ g a, Way g y w := by
  cases h with
  | here a => exact ⟨w, hw, Way.here w⟩
  | step e h2 => exact ⟨_, e, h2.snoc hw⟩
theorem take_last {l : List Int} (h : 1 ≤ l.length) : l.take (l.length - 1) ++ [lastD l] = l := by
  have := List.take_append_drop (l.length - 1) l
  have e := drop_last h
  rw [List.take_of_length_le (Nat.le_refl _)] at e
  rw [e] at this
  exact this
theorem arcs_sub {G : List (List Int)} {P : List Int} {l : List Int} (hin : ∀ i, i < l.length → 0 ≤ l.getD i 0 ∧ (l.getD i 0).toNat < G.length) (h : Arcs (withinL G P) l) : Arcs G l := by
  intro i hi
  have := h i hi
  rw [withinL_row (hin i (by omega)).2, List.mem_filter] at this
  exact this.1
/-- what is known of a fair lasso -/
structure LassoOk (G : List (List Int)) (fr : List Int) (goals : List (List Int)) (s l : List Int) : Prop where
  pos : 1 ≤ l.length
  short : s.length + l.length ≤ 20001 + 10000 * goals.length
  head : (s ++ l ++ [l.getD 0 0]).getD 0 0 ∈ fr
  arcs : Arcs G (s ++ l ++ [l.getD 0 0])
  inn : ∀ x ∈ s ++ l ++ [l.getD 0 0], 0 ≤ x ∧ x < (G.length : Int)
  goal : ∀ r ∈ goals, ∃ k ∈ r, k ∈ l
def lassoOut : Option (List Int × List Int) → (Bool × List Int) × (Bool × List Int) × Bool
  | some (s, l) => ((false, s), ((false, l), true))
  | none => ((true, []), ((true, []), false))
theorem fairL_mem {m : Nat} {G : List (List Int)} (hG : Gr m G) {P : List Int} {goals : List (List Int)} {x : Int} : x ∈ fairL G P goals ↔ (0 ≤ x ∧ x < (m : Int)) ∧ fairB G P goals (P.getD x.toNat 0) = true := by
  rw [fairL, List.mem_map, hG.len]
  constructor
  · rintro ⟨v, hv, rfl⟩
    rw [List.mem_filter, List.mem_range] at hv
    exact ⟨⟨Int.natCast_nonneg _, by have := hv.1; exact Int.ofNat_lt.2 this⟩, hv.2⟩
  · rintro ⟨h1, h2⟩
    exact ⟨x.toNat, by rw [List.mem_filter, List.mem_range]; exact ⟨by omega, h2⟩, Int.toNat_of_nonneg h1.1⟩
theorem fairLasso_both {m : Nat} {G : List (List Int)} (h1 : 1 ≤ m) (hG : Gr m G) (hs : ∀ l ∈ G, l.length ≤ 2000) (nb : Bool) {R : List (Bool × List Int)} (hR : R.map Prod.snd = G) {pb pb2 : Bool} {P : List Int} (hP : PartsOf m G P) (ei : impl_parts (nb, R) = some (pb, P)) (es : spec_l11Parts (nb, R) = some (pb2, P)) (fb : Bool) (fr : List Int) (hf : fr.length ≤ 10000) (hfw : ∀ w ∈ fr, 0 ≤ w ∧ w < (m : Int)) (hfb : fb = true → fr = []) (gb : Bool) (Q : List (Bool × List Int)) (hQ : ∀ r ∈ Q, GoalOk m r.2 ∧ r.2.length ≤ 10000 ∧ (r.1 = true → r.2 = [])) (hQl : Q.length ≤ 1000) :
    ∃ res, impl_fairLasso (nb, R) (fb, fr) (gb, Q) = some (lassoOut res) ∧ spec_l11Lasso (nb, R) (fb, fr) (gb, Q) = some (lassoOut res) ∧ (res = none ↔ ∀ u ∈ fairL G P (Q.map Prod.snd), ∀ x ∈ fr, ¬ Way (gG G) x u) ∧ ∀ s l, res = some (s, l) → LassoOk G fr (Q.map Prod.snd) s l := by
  have hlim := lim_eq
  have hsm := hG.small
  have hPo := hP.ok hG
  have hQ1 : ∀ r ∈ Q, GoalOk m r.2 := fun r hr => (hQ r hr).1
  obtain ⟨f1, f2, f3, f4, f5⟩ := farL_facts hG fr hfw
  have a1 := stepsFromF hG h1 nb hR fr hf hfw fb hfb
  have a2 := fairVertices h1 hG hs nb hR hPo ei gb Q hQ1 (by omega)
  have hFl : (fairF G P (Q.map Prod.snd)).length = m := by rw [fairF, List.length_map, List.length_range, hG.len]
  have a3 := meet_impl hsm false false (farL G fr) f1 (fairF G P (Q.map Prod.snd)) hFl m 0 (-1) (by omega) (by omega)
  rw [← List.range_eq_range', ← hG.len, fairF_L, hG.len] at a3
  have a3' : impl_meeting_L0 (false, farL G fr) (-1) (false, fairF G P (Q.map Prod.snd)) (m : Int) 0 = some (bestL (farL G fr) (fairL G P (Q.map Prod.snd))) := a3
  have b1 := l11Far hG nb fb hR fr hf hfw
  obtain ⟨lb, b2⟩ := l11Fair h1 hG hs nb hR hPo es gb Q hQ1 (by omega)
  have hfl : (fairL G P (Q.map Prod.snd)).length ≤ m := by
    rw [fairL, List.length_map]
    refine Nat.le_trans (List.length_filter_le _ _) ?_
    rw [List.length_range, hG.len]
    exact Nat.le_refl _
  have hfin : ∀ x ∈ fairL G P (Q.map Prod.snd), 0 ≤ x ∧ x < (m : Int) := fun x hx => ((fairL_mem hG).1 hx).1
  have b3 := meet_spec hsm (nb, R) (fb, fr) (gb, Q) false lb (farL G fr) f1 (fairL G P (Q.map Prod.snd)) (by omega) hfin (fairL G P (Q.map Prod.snd)).length 0 (-1) (by omega) (by omega)
  have b3' : spec_l11Lasso_L0 (nb, R) (fb, fr) (gb, Q) (false, farL G fr) (-1) (lb, fairL G P (Q.map Prod.snd)) ((fairL G P (Q.map Prod.snd)).length : Int) 0 = some (bestL (farL G fr) (fairL G P (Q.map Prod.snd))) := by
    rw [List.drop_zero] at b3
    exact b3
  have em : impl_meeting (nb, R) (fb, fr) (gb, Q) = some (bestL (farL G fr) (fairL G P (Q.map Prod.snd))) := by
    rw [impl_meeting_eq, a1, some_bind, a2, some_bind]
    simp only [hFl, a3', some_bind]
  have hfrom := bestL_from (farL G fr) (fairL G P (Q.map Prod.snd))
  have hleast := fun u (hu : u ∈ fairL G P (Q.map Prod.snd)) => bestL_least (farL G fr) (fairL G P (Q.map Prod.snd)) (fun x hx => (hfin x hx).1) u hu
  rw [impl_fairLasso_eq, em, spec_l11Lasso_eq, b1, some_bind, some_bind, b2, some_bind]
  simp only [b3', some_bind]
  generalize bestL (farL G fr) (fairL G P (Q.map Prod.snd)) = M at hfrom hleast ⊢
  by_cases c : M < 0
  · refine ⟨none, by rw [gT c]; rfl, by rw [gT c]; rfl, ⟨fun _ u hu x hx hw => ?_, fun _ => rfl⟩, fun s l h => by cases h⟩
    have := (hleast u hu ((farL_way hG fr hfw u (hfin u hu)).2 ⟨x, hx, hw⟩)).1
    omega
  · obtain ⟨m1, m2⟩ := hfrom.resolve_left c
    obtain ⟨hM, hfair⟩ := (fairL_mem hG).1 m1
    obtain ⟨x0, hx0, hx0w⟩ := (farL_way hG fr hfw M hM).1 m2
    have hme1 : ∀ w ∈ [M], 0 ≤ w ∧ w < (m : Int) := fun w hw => by rw [List.mem_singleton] at hw; rw [hw]; exact hM
    obtain ⟨w1, w2⟩ : Gr m (withinL G P) ∧ ∀ l ∈ withinL G P, l.length ≤ 2000 := gr_filter hG hs fun v w => P.getD v 0 == P.getD w.toNat 0
    obtain ⟨i1, i2⟩ : Gr m (insideL G P (P.getD M.toNat 0)) ∧ ∀ l ∈ insideL G P (P.getD M.toNat 0), l.length ≤ 2000 := gr_filter hG hs fun v w => P.getD v 0 == P.getD M.toNat 0 && P.getD w.toNat 0 == P.getD M.toNat 0
    have hst : ∃ st, leastL G fr [M] = some st := by
      cases hq : leastL G fr [M] with
      | some st => exact ⟨st, rfl⟩
      | none => exact absurd hx0w (leastL_none hG hs fr [M] hfw hme1 hq hx0 (List.mem_singleton.2 rfl))
    obtain ⟨st, hst⟩ := hst
    obtain ⟨k1, k2, _⟩ := least_bothF hG hs h1 nb nb fb fb false hR hR fr [M] hf hfw (by simp) hme1 false (by simp)
    rw [hst] at k1 k2
    simp only at k1 k2
    have S := leastL_some hG hs fr [M] hfw (by simp) hme1 hst
    have hSp := S.pos
    have hSl := S.len
    rw [hG.len] at hSl
    obtain ⟨I, n1, n2⟩ := inside_impl hG hs nb hR pb hPo (P.getD M.toNat 0)
    obtain ⟨W, n3, n4⟩ := within_spec hG hs nb hR pb2 hPo
    have hL0 : LoopOk m G P M [M] := ⟨by simp, rfl, fun i hi => by simp at hi, fun x hx => by rw [List.mem_singleton] at hx; rw [hx]; exact ⟨hM, rfl⟩⟩
    rw [fairB, Bool.and_eq_true, List.all_eq_true] at hfair
    obtain ⟨L, l1, l2, l3, l4, l5, l6⟩ := lasso_loops h1 hG hs hP pb pb2 M hM (false, st) (false, st) false false n2 n4 gb Q hQ hQl (fun r hr => hfair.2 r.2 (List.mem_map_of_mem hr)) Q.length 0 [M] (by omega) hL0 (by simp only [List.length_singleton]; omega)
    have l1' : impl_fairLasso_L0 M (false, st) (pb, P) (false, I) (false, [M]) (gb, Q) (Q.length : Int) 0 = _ := l1
    have l2' : spec_l11Lasso_L2 M (false, st) (pb2, P) (false, W) (false, [M]) (gb, Q) (Q.length : Int) 0 = _ := l2
    have hla := l3.last
    have hLp := l3.pos
    have hLb : L.length ≤ 20000000 := by simp only [List.length_singleton] at l4; omega
    obtain ⟨p1, p2, p3⟩ := rows_at n2 (k := (lastD L).toNat) (by rw [i1.len]; omega)
    obtain ⟨q1, q2, q3⟩ := rows_at n4 (k := (lastD L).toNat) (by rw [w1.len]; omega)
    have hrow := inside_row hG P (P.getD M.toNat 0) (k := (lastD L).toNat) (by omega) hla.2
    have hfr2 : ∀ x ∈ (withinL G P).getD (lastD L).toNat [], (0 ≤ x ∧ x < (m : Int)) ∧ P.getD x.toNat 0 = P.getD M.toNat 0 := fun x hx => by
      refine ⟨w1.inn _ q3 x hx, ?_⟩
      rw [withinL_row (by rw [hG.len]; omega), List.mem_filter, beq_iff_eq] at hx
      rw [← hx.2]
      exact hla.2
    have hfl2 : ((withinL G P).getD (lastD L).toNat []).length ≤ 10000 := by have := w2 _ q3; omega
    have hto2 : ∀ x ∈ [M], (0 ≤ x ∧ x < (m : Int)) ∧ P.getD x.toNat 0 = P.getD M.toNat 0 := fun x hx => by rw [List.mem_singleton] at hx; rw [hx]; exact ⟨hM, rfl⟩
    have hg : ∃ g, leastL (withinL G P) ((withinL G P).getD (lastD L).toNat []) [M] = some g := by
      cases hq : leastL (withinL G P) ((withinL G P).getD (lastD L).toNat []) [M] with
      | some g => exact ⟨g, rfl⟩
      | none =>
        exfalso
        have ha := hfair.1
        rw [arcB, List.any_eq_true] at ha
        obtain ⟨u, hu, ha⟩ := ha
        rw [List.mem_range, hG.len] at hu
        rw [Bool.and_eq_true, beq_iff_eq, List.any_eq_true] at ha
        obtain ⟨hup, w, hw, hwp⟩ := ha
        rw [beq_iff_eq] at hwp
        have hui : 0 ≤ (u : Int) ∧ (u : Int) < (m : Int) := by omega
        have hwG : w ∈ gG G (u : Int) := by rw [gG_at _ hui.1, Int.toNat_natCast]; exact hw
        have hwi := gG_in hG _ _ hwG
        have s1 := (hP.same hla.1 hui).1 (by rw [hla.2, Int.toNat_natCast, hup])
        have s2 := (hP.same hwi hM).1 hwp
        have y1 := way_within hG hP s1.1 hla.1 s1.2
        have y2 : w ∈ gG (withinL G P) (u : Int) := (mem_within hG hui).2 ⟨hwG, by rw [Int.toNat_natCast, hup, hwp]⟩
        obtain ⟨y, y3, y4⟩ := way_first y1 y2
        rw [gG_at _ hla.1.1] at y3
        exact leastL_none w1 w2 _ [M] (fun x hx => (hfr2 x hx).1) hme1 hq y3 (List.mem_singleton.2 rfl) (y4.trans (way_within hG hP s2.1 hwi s2.2))
    obtain ⟨g, hg⟩ := hg
    have eIW := least_inside hG hs P (P.getD M.toNat 0) _ [M] hfr2 hto2
    have T := leastL_some w1 w2 _ [M] (fun x hx => (hfr2 x hx).1) (by simp) hme1 hg
    have hTp := T.pos
    have hTl := T.len
    rw [w1.len] at hTl
    obtain ⟨bi, eIp⟩ : ∃ bi, I.getD (lastD L).toNat (true, []) = (bi, (withinL G P).getD (lastD L).toNat []) := ⟨_, Prod.ext rfl (p2.trans hrow)⟩
    obtain ⟨bw, eWp⟩ : ∃ bw, W.getD (lastD L).toNat (true, []) = (bw, (withinL G P).getD (lastD L).toNat []) := ⟨_, Prod.ext rfl q2⟩
    obtain ⟨k3, _, _⟩ := least_bothF i1 i2 h1 false false bi bi false n2 n2 _ [M] hfl2 (fun x hx => (hfr2 x hx).1) (by simp) hme1 false (by simp)
    obtain ⟨_, k4, _⟩ := least_bothF w1 w2 h1 false false bw bw false n4 n4 _ [M] hfl2 (fun x hx => (hfr2 x hx).1) (by simp) hme1 false (by simp)
    rw [eIW, hg] at k3
    rw [hg] at k4
    simp only at k3 k4
    have hIl : I.length = m := by have := congrArg List.length n2; rw [List.length_map, i1.len] at this; exact this
    have hWl : W.length = m := by have := congrArg List.length n4; rw [List.length_map, w1.len] at this; exact this
    have ewL : IntKind.i64.wrap ((L.length : Int) - 1) = ((L.length - 1 : Nat) : Int) := by rw [wr (by omega)]; omega
    have ewS : IntKind.i64.wrap ((st.length : Int) - 1) = ((st.length - 1 : Nat) : Int) := by rw [wr (by omega)]; omega
    have ewT : IntKind.i64.wrap ((g.length : Int) - 1) = ((g.length - 1 : Nat) : Int) := by rw [wr (by omega)]; omega
    have elast : L.getD (L.length - 1) 0 = lastD L := rfl
    refine ⟨some (st.take (st.length - 1), L ++ g.take (g.length - 1)), ?_, ?_, ⟨fun h => (by cases h), fun h => absurd hx0w (h M m1 x0 hx0)⟩, ?_⟩
    · rw [gF c, k1, some_bind, ei, some_bind, gT hM.1, gT (by have := hP.1; simp only; omega)]
      simp only [n1, some_bind, l1', ewL, Int.toNat_natCast, elast]
      rw [gT (by omega), gT (by omega), gT hla.1.1, gT (by omega), eIp, k3, some_bind]
      simp only [ewS, ewT, Int.toNat_natCast, List.drop_zero]
      rw [gT (by omega), gT (by omega), gT (by omega), gT (by omega), gT (by rw [List.length_take]; omega)]
      rfl
    · rw [gF c, k2, some_bind, es, some_bind]
      simp only [n3, some_bind, l2', ewL, Int.toNat_natCast, elast]
      rw [gT (by omega), gT (by omega), gT hla.1.1, gT (by omega), eWp, k4, some_bind]
      simp only [ewS, ewT, Int.toNat_natCast, List.drop_zero]
      rw [gT (by omega), gT (by omega), gT (by omega), gT (by omega), gT (by rw [List.length_take]; omega)]
      rfl
    · intro s l he
      simp only [Option.some.injEq, Prod.mk.injEq] at he
      obtain ⟨rfl, rfl⟩ := he
      have hgl : lastD g = M := List.mem_singleton.1 T.last
      have hsl : lastD st = M := List.mem_singleton.1 S.last
      have t1 := take_last hSp
      have t2 := take_last hTp
      have hLh : L.getD 0 0 = M := l3.head
      have eX : (L ++ g.take (g.length - 1)).getD 0 0 = M := by rw [getD_app, if_pos (by omega)]; exact hLh
      have eL2 : L ++ g.take (g.length - 1) ++ [M] = L ++ g := by rw [List.append_assoc, ← hgl, t2]
      have hX0 : (L ++ g).getD 0 0 = lastD st := by rw [getD_app, if_pos (by omega), hLh, hsl]
      have hXl : 1 ≤ (L ++ g).length := by rw [List.length_append]; omega
      have e5 : L ++ g = [lastD st] ++ (L ++ g).drop 1 := by
        cases hh : L ++ g with
        | nil => rw [hh] at hXl; simp at hXl
        | cons a t =>
          rw [hh] at hX0
          have : a = lastD st := hX0
          rw [this]
          rfl
      have eAll : st.take (st.length - 1) ++ (L ++ g.take (g.length - 1)) ++ [(L ++ g.take (g.length - 1)).getD 0 0] = st ++ (L ++ g).drop 1 := by
        rw [eX, List.append_assoc, eL2]
        conv => rhs; rw [← t1]
        rw [List.append_assoc, ← e5]
      have ag : Arcs (withinL G P) (lastD L :: g) := by
        intro i hi
        cases i with
        | zero => exact T.head
        | succ i => exact T.arc i (by simp only [List.length_cons] at hi; omega)
      have aj := arcs_join (l := L) (g := lastD L :: g) l3.arcs ag hLp (by simp) rfl
      have ed : (lastD L :: g).drop 1 = g := rfl
      rw [ed] at aj
      have hTi : ∀ x ∈ g, 0 ≤ x ∧ x < (m : Int) := fun x hx => by
        obtain ⟨i, hi, rfl⟩ := mem_getD hx
        have := T.inn i hi
        rw [w1.len] at this
        exact this
      have hSi : ∀ x ∈ st, 0 ≤ x ∧ x < (m : Int) := fun x hx => by
        obtain ⟨i, hi, rfl⟩ := mem_getD hx
        have := S.inn i hi
        rw [hG.len] at this
        exact this
      have hXi : ∀ x ∈ L ++ g, 0 ≤ x ∧ x < (m : Int) := fun x hx => by
        rcases List.mem_append.1 hx with hx | hx
        · exact (l3.inn x hx).1
        · exact hTi x hx
      have aG := arcs_sub (G := G) (fun i hi => by
        have := hXi _ (getD_in hi)
        exact ⟨this.1, by rw [hG.len]; omega⟩) aj
      refine ⟨by rw [List.length_append]; omega, by rw [List.length_append, List.length_take, List.length_take, List.length_map]; simp only [List.length_singleton] at l4; omega, ?_, ?_, fun x hx => ?_, fun r hr => ?_⟩
      · rw [eAll, getD_app, if_pos (by omega)]
        exact S.head
      · rw [eAll]
        exact arcs_join (l := st) (g := L ++ g) S.arc aG hSp hXl hX0
      · rw [eAll] at hx
        rw [hG.len]
        rcases List.mem_append.1 hx with hx | hx
        · exact hSi x hx
        · exact hXi x (List.mem_of_mem_drop hx)
      · obtain ⟨r', hr', rfl⟩ := List.mem_map.1 hr
        obtain ⟨k, hk1, hk2⟩ := l6 r' (by rw [List.drop_zero]; exact hr')
        exact ⟨k, hk1, List.mem_append_left _ hk2⟩
theorem fairPoints {m : Nat} {G : List (List Int)} (h1 : 1 ≤ m) (hG : Gr m G) (hs : ∀ l ∈ G, l.length ≤ 2000) (nb : Bool) {R : List (Bool × List Int)} (hR : R.map Prod.snd = G) {pb pb2 : Bool} {P : List Int} (hP : PartOk m P) (ei : impl_parts (nb, R) = some (pb, P)) (es : spec_l11Parts (nb, R) = some (pb2, P)) (gb : Bool) (Q : List (Bool × List Int)) (hQ : ∀ r ∈ Q, GoalOk m r.2) (hQl : Q.length ≤ 100000) :
    impl_fairPoints (nb, R) (gb, Q) = some (false, reachL (turnL G) (fairL G P (Q.map Prod.snd))) ∧ ∃ T b b2, spec_l11Turn (nb, R) = some (false, T) ∧ spec_l11Fair (nb, R) (gb, Q) = some (b, fairL G P (Q.map Prod.snd)) ∧ spec_l11Reach (false, T) (b, fairL G P (Q.map Prod.snd)) = some (b2, reachL (turnL G) (fairL G P (Q.map Prod.snd))) := by
  have hsm := hG.small
  obtain ⟨T, t1, t2, t3⟩ := turned_both hG hs nb hR
  have hT := turnL_gr hG hs
  have a2 := fairVertices h1 hG hs nb hR hP ei gb Q hQ hQl
  obtain ⟨b, b2⟩ := l11Fair h1 hG hs nb hR hP es gb Q hQ hQl
  have hFl : (fairF G P (Q.map Prod.snd)).length = m := by rw [fairF, List.length_map, List.length_range, hG.len]
  have a3 := marked (false, fairF G P (Q.map Prod.snd)) (by simp only; omega)
  simp only [hFl] at a3
  have hfL : ((List.range m).filter fun v => (fairF G P (Q.map Prod.snd)).getD v false).map Int.ofNat = fairL G P (Q.map Prod.snd) := by rw [← hG.len]; exact fairF_L G P _
  have hfl : (fairL G P (Q.map Prod.snd)).length ≤ m := by
    rw [fairL, List.length_map]
    refine Nat.le_trans (List.length_filter_le _ _) ?_
    rw [List.length_range, hG.len]
    exact Nat.le_refl _
  have hfin : ∀ x ∈ fairL G P (Q.map Prod.snd), 0 ≤ x ∧ x < (m : Int) := fun x hx => ((fairL_mem hG).1 hx).1
  obtain ⟨b4, e4⟩ := l11Reach hT false b t1 (fairL G P (Q.map Prod.snd)) (by omega) hfin
  refine ⟨?_, T, b, b4, t3, b2, e4⟩
  rw [impl_fairPoints_eq, t2, some_bind, a2, some_bind]
  simp only [a3, some_bind, hfL, reachedFrom hT h1 false t1 (fairL G P (Q.map Prod.snd)) (by omega) hfin]
theorem goals_L0 (n : Int) (hn : 1 ≤ n ∧ n ≤ 1000000) (d : Nat) : ∀ (c : Dl1Cur) (B : Int) (b : Bool) (l : List (Bool × List Int)), CurOk c B → B + 100 * d ≤ 90000000000 → l.length + d ≤ 100 → (∀ r ∈ l, Pts (n + 1) 5 r.2 ∧ (r.1 = true → r.2 = [])) →
    ∃ c' b' l', spec_l1Cur_goals_L0 c n (b, l) (d : Int) = some (c', (b', l')) ∧ CurOk c' (B + 100 * d) ∧ l'.length ≤ l.length + d ∧ ∀ r ∈ l', Pts (n + 1) 5 r.2 ∧ (r.1 = true → r.2 = []) := by
  have hlim := lim_eq
  induction d with
  | zero => intro c B b l hc hB hl hr; exact ⟨c, b, l, by rw [spec_l1Cur_goals_L0_eq, gF (by omega)], hc.mono (by omega), by omega, hr⟩
  | succ d ih =>
    intro c B b l hc hB hl hr
    obtain ⟨c1, f, o, e1, h1, p1, p2⟩ := draw_someOf c B hc (by omega) n hn 4 (by omega)
    have e1' : spec_l1Cur_someOf c n 4 = _ := e1
    obtain ⟨c', b', l', g1, g2, g3, g4⟩ := ih c1 (B + 100) (b && false) (l ++ [(f, o)]) h1 (by omega) (by simp; omega) (fun r hr2 => by
      rcases List.mem_append.1 hr2 with q | q
      · exact hr r q
      · rw [List.mem_singleton] at q
        rw [q]
        exact ⟨p1, p2⟩)
    refine ⟨c', b', l', ?_, g2.mono (by omega), by rw [List.length_append, List.length_singleton] at g3; omega, g4⟩
    rw [spec_l1Cur_goals_L0_eq, gT (by omega), e1', some_bind]
    simp only
    rw [gT (by simp; omega), wr (by omega), bind_id, show ((d + 1 : Nat) : Int) - 1 = (d : Int) by omega]
    exact g1
theorem draw_goals (c : Dl1Cur) (B : Int) (hc : CurOk c B) (hB : B ≤ 10000000000) (n : Int) (hn : 1 ≤ n ∧ n ≤ 1000000) : ∃ c' b l, spec_l1Cur_goals c n = some (c', (b, l)) ∧ l.length ≤ 7 ∧ ∀ r ∈ l, Pts (n + 1) 5 r.2 ∧ (r.1 = true → r.2 = []) := by
  have hlim := lim_eq
  obtain ⟨c1, x, e1, h1, x1, x2⟩ := cur_pick c 4 B hc (by omega) (by omega)
  have x3 := x2 (by omega)
  obtain ⟨k, rfl⟩ := Int.eq_ofNat_of_zero_le x1
  obtain ⟨c2, b2, l2, e2, h2, l3, l4⟩ := goals_L0 n hn k c1 (B + 2) true [] h1 (by omega) (by simp; omega) (fun r hr => by cases hr)
  obtain ⟨c3, y, e3, h3⟩ := cur_one c2 40 _ h2 (by omega) (by omega)
  rw [spec_l1Cur_goals_eq, e1, some_bind]
  simp only [e2, some_bind, e3]
  cases y with
  | false => exact ⟨c3, b2, l2, rfl, by simp at l3; omega, l4⟩
  | true =>
    obtain ⟨c4, z, e4, h4, z1, z2⟩ := cur_pick c3 2 _ h3 (by omega) (by omega)
    have z3 := z2 (by omega)
    have ew : IntKind.i64.wrap (6 + z) = 6 + z := wr (by omega)
    rw [cond_true, e4, some_bind]
    simp only [ew]
    rw [gT (by omega), gT (by omega), gT (by omega), gT (by omega)]
    refine ⟨_, _, _, rfl, by rw [List.length_replicate]; omega, fun r hr => ?_⟩
    rw [(List.mem_replicate.1 hr).2]
    exact ⟨⟨List.Pairwise.nil, fun x hx => (by cases hx), by simp⟩, fun _ => rfl⟩
/-- goals as the laws want them -/
def goalsOk (n : Int) (l : List (Bool × List Int)) : Bool := decide ((l.length : Int) ≤ 6) && l.all fun r => rises n r.2
theorem areGoals_both (b : Bool) (l : List (Bool × List Int)) (n : Int) (hn : 0 ≤ n ∧ n ≤ 1000000) (hr : ∀ r ∈ l, r.2.length ≤ 1048576) : impl_areGoals (b, l) n = some (goalsOk n l) ∧ spec_l11Goals (b, l) n = some (goalsOk n l) := by
  by_cases c : (l.length : Int) ≤ 6
  · have e : goalsOk n l = l.all fun r => rises n r.2 := by rw [goalsOk, decide_eq_true c, Bool.true_and]
    have hX := loop_find l (fun r => !rises n r.2) (fun i => slices_IndexFunc_int_by_areGoals_1_L0 (b, l) (n, ()) (l.length : Int) i) (fun i hi => by
      have := isIncreasing l[i] n (hr _ (List.getElem_mem hi))
      rw [slices_IndexFunc_int_by_areGoals_1_L0_eq, gT (by omega), gT (by omega), gT (by simp only; omega), getD_at l _ i hi, impl_areGoals_1_eq, this, some_bind, some_bind, up1 i (by omega), bind_id]) (by rw [slices_IndexFunc_int_by_areGoals_1_L0_eq, gF (by omega)])
    have hA := loop_all l (fun r => rises n r.2) (.inr () : Bool ⊕ Unit) (.inl false) (fun i => spec_l11Goals_L0 n (b, l) (l.length : Int) i) (fun i hi => by
      have := l1Rising l[i] n (hr _ (List.getElem_mem hi))
      rw [spec_l11Goals_L0_eq, gT (by omega), gT (by omega), gT (by simp only; omega), getD_at l _ i hi, spec_l11Points_eq, wr (by omega), this, some_bind, some_bind, up1 i (by omega), bind_id]
      cases rises n (l[i]).2 <;> rfl) (by rw [spec_l11Goals_L0_eq, gF (by omega)])
    have ea : (l.any fun r => !rises n r.2) = !(l.all fun r => rises n r.2) := by rw [List.not_all_eq_any_not]
    refine ⟨?_, ?_⟩
    · rw [impl_areGoals_eq, gT c, slices_ContainsFunc_int_by_areGoals_1_eq, slices_IndexFunc_int_by_areGoals_1_eq, hX, some_bind, ea, e]
      cases l.all fun r => rises n r.2 with
      | true => rfl
      | false =>
        simp only [Bool.not_false, cond_true, some_bind]
        rw [decide_eq_true (by omega)]
        rfl
    · rw [spec_l11Goals_eq, gF (by simp only; omega), hA, some_bind, e]
      cases l.all fun r => rises n r.2 <;> rfl
  · have e : goalsOk n l = false := by rw [goalsOk, decide_eq_false c, Bool.false_and]
    exact ⟨by rw [impl_areGoals_eq, gF c, e], by rw [spec_l11Goals_eq, gT (by simp only; omega), e]⟩
theorem fair_L0 (more : Bool × List Int) (g : DGraph) (from_ : Bool × List Int) (goals : Bool × List (Bool × List Int)) (l : Bool × List Int) (ok ab : Bool) (A : List Int) (hA : A.length ≤ 400000000) (hrow : ∀ r ∈ g.2, r.2.length ≤ 100000) (hin : ∀ x ∈ A, 0 ≤ x ∧ x < (g.2.length : Int)) (h : Arcs (g.2.map Prod.snd) A) (d : Nat) : ∀ i : Nat, 1 ≤ i → i + d = A.length → laws_FnFairLasso_L0 more g from_ goals l ok (ab, A) (i : Int) = some (.inr ()) := by
  induction d with
  | zero => intro i h1 hi; rw [laws_FnFairLasso_L0_eq, gF (by simp only; omega)]
  | succ d ih =>
    intro i h1 hi
    obtain ⟨j, rfl⟩ : ∃ j, i = j + 1 := ⟨i - 1, by omega⟩
    have ew : IntKind.i64.wrap (((j + 1 : Nat) : Int) - 1) = (j : Int) := by rw [wr (by omega)]; omega
    obtain ⟨a1, a2⟩ := hin _ (getD_in (l := A) (i := j) (by omega))
    have ha := h j (by omega)
    have hk : (A.getD j 0).toNat < g.2.length := by omega
    obtain ⟨hmem, erow⟩ := row_mem g.2 _ hk
    have hr := hrow _ hmem
    rw [erow] at ha
    have x1 : laws_has (g.2.getD (A.getD j 0).toNat (true, [])) (A.getD (j + 1) 0) = some true := by
      refine (has_eq (g.2.getD (A.getD j 0).toNat (true, [])).1 (g.2.getD (A.getD j 0).toNat (true, [])).2 _ (by omega)).trans ?_
      rw [List.any_eq_true.2 ⟨_, ha, by simp⟩]
    rw [laws_FnFairLasso_L0_eq]
    simp only [ew, Int.toNat_natCast]
    rw [gT (by omega), gT (by omega), gT (by omega), gT a1, gT a2, gT (by omega), gT (by omega), x1, some_bind, Bool.not_true, cond_false, up1 (j + 1) (by omega), bind_id]
    exact ih (j + 1 + 1) (by omega) (by omega)
theorem fair_L4 (more : Bool × List Int) (g : DGraph) (from_ : Bool × List Int) (goals : Bool × List (Bool × List Int)) (lb : Bool) (l : List Int) (hl : l.length ≤ 1048576) (ok : Bool) (t112 : Bool × List (Bool × List Int)) (t113 t114 : Int) (r : Bool × List Int) (hr : r.2.length ≤ 100000) (d : Nat) : ∀ (i : Nat) (met : Bool), i + d = r.2.length → laws_FnFairLasso_L4 more g from_ goals (lb, l) ok met t112 t113 t114 r (r.2.length : Int) (i : Int) = some (met || (r.2.drop i).any fun k => l.any fun x => x == k) := by
  induction d with
  | zero => intro i met hi; rw [laws_FnFairLasso_L4_eq, gF (by omega), List.drop_of_length_le (by omega)]; simp
  | succ d ih =>
    intro i met hi
    have hlt : i < r.2.length := by omega
    have hh := has_eq lb l r.2[i] hl
    rw [laws_FnFairLasso_L4_eq, gT (by omega), gT (by omega), gT (by omega), getD_at r.2 _ i hlt, up1 i (by omega), List.drop_eq_getElem_cons hlt, List.any_cons]
    simp only [hh, some_bind, bind_id]
    cases met <;> simp only [cond_true, cond_false, ih (i + 1) _ (by omega), Bool.true_or, Bool.false_or]
theorem fair_L2 (more : Bool × List Int) (g : DGraph) (from_ : Bool × List Int) (goals : Bool × List (Bool × List Int)) (lb : Bool) (l : List Int) (hl : l.length ≤ 1048576) (ok qb : Bool) (Q : List (Bool × List Int)) (hQ : ∀ r ∈ Q, r.2.length ≤ 100000) (hQl : Q.length ≤ 100000) (hm : ∀ r ∈ Q, ∃ k ∈ r.2, k ∈ l) (d : Nat) : ∀ i : Nat, i + d = Q.length → laws_FnFairLasso_L2 more g from_ goals (lb, l) ok (qb, Q) (Q.length : Int) (i : Int) = some (.inr ()) := by
  induction d with
  | zero => intro i hi; rw [laws_FnFairLasso_L2_eq, gF (by omega)]
  | succ d ih =>
    intro i hi
    have hlt : i < Q.length := by omega
    have hmem := List.getElem_mem hlt
    have e4 := fair_L4 more g from_ goals lb l hl ok (qb, Q) (Q.length : Int) (i : Int) Q[i] (hQ _ hmem) (Q[i]).2.length 0 false (by omega)
    have e4' : laws_FnFairLasso_L4 more g from_ goals (lb, l) ok false (qb, Q) (Q.length : Int) (i : Int) Q[i] ((Q[i]).2.length : Int) 0 = _ := e4
    obtain ⟨k, k1, k2⟩ := hm _ hmem
    have hany : ((Q[i]).2.any fun k => l.any fun x => x == k) = true := List.any_eq_true.2 ⟨k, k1, List.any_eq_true.2 ⟨k, k2, by simp⟩⟩
    rw [laws_FnFairLasso_L2_eq, gT (by omega), gT (by omega), gT (by simp only; omega), getD_at Q _ i hlt]
    simp only [e4', some_bind, List.drop_zero, hany, Bool.false_or, Bool.not_true, cond_false]
    rw [up1 i (by omega), bind_id, ih (i + 1) (by omega)]
theorem fair_L6 (more : Bool × List Int) (ok fb : Bool) (f : List Int) (hf : f.length ≤ 1048576) (r : Bool × List Int) (hr : r.2.length ≤ 1048576) (d : Nat) : ∀ (i : Nat) (a : Bool), i + d = r.2.length → laws_FnFairLasso_L6 more ok (fb, f) a r (r.2.length : Int) (i : Int) = some (a || (r.2.drop i).any fun k => f.any fun x => x == k) := by
  induction d with
  | zero => intro i a hi; rw [laws_FnFairLasso_L6_eq, gF (by omega), List.drop_of_length_le (by omega)]; simp
  | succ d ih =>
    intro i a hi
    have hlt : i < r.2.length := by omega
    have hh := has_eq fb f r.2[i] hf
    rw [laws_FnFairLasso_L6_eq, gT (by omega), gT (by omega), gT (by omega), getD_at r.2 _ i hlt, up1 i (by omega), List.drop_eq_getElem_cons hlt, List.any_cons]
    simp only [hh, some_bind, bind_id]
    cases a <;> simp only [cond_true, cond_false, ih (i + 1) _ (by omega), Bool.true_or, Bool.false_or]
theorem fp_both {R : List (Bool × List Int)} (hD : Drawn R) (b gb : Bool) (Q : List (Bool × List Int)) (hQ : ∀ r ∈ Q, Pts ((R.length : Int) + 1) 5 r.2 ∧ (r.1 = true → r.2 = [])) (hQl : Q.length ≤ 7) :
    ∃ f1 f2 l ok, impl_FairPoints (b, R) (gb, Q) = some ((f1, l), ok) ∧ spec_FairPoints (b, R) (gb, Q) = some ((f2, l), ok) ∧ l.length ≤ 1048576 ∧ (ok = true ↔ goodL (R.map Prod.snd) = true ∧ goalsOk (R.length : Int) Q = true) ∧ (ok = true → ∀ P, PartsOf R.length (R.map Prod.snd) P → l = reachL (turnL (R.map Prod.snd)) (fairL (R.map Prod.snd) P (Q.map Prod.snd))) := by
  have h1 := hD.one
  have h2 := hD.most
  have hrow : ∀ r ∈ R, r.2.length ≤ 100000 := fun r hr => by have := (hD.rows r hr).1; omega
  obtain ⟨g1, g2⟩ := good_both (b, R) hrow (by simp only; omega)
  simp only at g1 g2
  obtain ⟨a1, a2⟩ := areGoals_both gb Q (R.length : Int) (by omega) (fun r hr => by have := (hQ r hr).1.2.2; omega)
  rw [impl_FairPoints_eq, spec_FairPoints_eq, g1, g2, some_bind, some_bind]
  cases hgood : goodL (R.map Prod.snd) with
  | false => exact ⟨true, true, [], false, rfl, rfl, by simp, by simp, by simp⟩
  | true =>
    simp only [Bool.not_true, cond_false, a1, a2, some_bind]
    cases hgo : goalsOk (R.length : Int) Q with
    | false => exact ⟨true, true, [], false, rfl, rfl, by simp, by simp, by simp⟩
    | true =>
      obtain ⟨hG, hs⟩ := goodL_gr hgood
      have hsm := hG.small
      have hlen : (R.map Prod.snd).length = R.length := List.length_map _
      rw [hlen] at hG
      obtain ⟨b1, b2, P, p1, p2, p3, p4⟩ := parts_both h1 hG hs b b rfl rfl
      have egg : gOf R = gG (R.map Prod.snd) := by funext x; rw [rows_gOf rfl]; rfl
      rw [egg] at p4
      have hP : PartsOf R.length (R.map Prod.snd) P := ⟨p3, p4⟩
      rw [goalsOk, Bool.and_eq_true, List.all_eq_true] at hgo
      have hQ1 : ∀ r ∈ Q, GoalOk R.length r.2 := fun r hr => ⟨by have := (hQ r hr).1.2.2; omega, rises_in (hgo.2 r hr)⟩
      obtain ⟨k1, T, fb, fb2, k2, k3, k4⟩ := fairPoints h1 hG hs b rfl (hP.ok hG) p1 p2 gb Q hQ1 (by omega)
      refine ⟨false, fb2, reachL (turnL (R.map Prod.snd)) (fairL (R.map Prod.snd) P (Q.map Prod.snd)), true, ?_, ?_, ?_, by simp, fun _ P2 hP2 => ?_⟩
      · simp only [k1, some_bind, Bool.not_true, cond_false]
      · simp only [k2, some_bind, k3, k4, Bool.not_true, cond_false]
      · have hT := turnL_gr hG hs
        have hfl : (fairL (R.map Prod.snd) P (Q.map Prod.snd)).length ≤ R.length := by
          rw [fairL, List.length_map]
          refine Nat.le_trans (List.length_filter_le _ _) ?_
          rw [List.length_range, hlen]
          exact Nat.le_refl _
        have := (reachL_in hT (fairL (R.map Prod.snd) P (Q.map Prod.snd)) (by omega) (fun x hx => ((fairL_mem hG).1 hx).1)).1
        omega
      · have : P2 = P := by
          apply List.ext_getElem (by rw [hP2.1, p3])
          intro i hi1 hi2
          have a := hP2.2 (i : Int) (by omega)
          have a2 := p4 (i : Int) (by omega)
          have := a.one a2
          rw [Int.toNat_natCast, getD_lt hi1, getD_lt hi2] at this
          exact this
        rw [this]
theorem fair_more (x1 : Bool × List Int) (hl : x1.2.length ≤ 1048576) (hx : ∀ x ∈ x1.2, 0 ≤ x ∧ x ≤ 255) : ((spec_DrawFairPoints x1).bind fun r =>
    (impl_FairPoints (r.1.1, r.1.2) (r.2.1, r.2.2)).bind fun r1 =>
    (spec_FairPoints (r.1.1, r.1.2) (r.2.1, r.2.2)).bind fun r2 =>
    bif (r1.2 == r2.2) then (laws_sameInts (r1.1.1, r1.1.2) (r2.1.1, r2.1.2)).bind fun r3 => some r3 else some false) = some true := by
  obtain ⟨c', b, R, e1, hc1, hD⟩ := draw_graph (x1, (0, 0)) 0 ⟨hl, hx, by simp, by simp⟩ (by omega)
  have h1 := hD.one
  have h2 := hD.most
  obtain ⟨c2, gb, Q, e2, l1, l2⟩ := draw_goals c' _ hc1 (by omega) (R.length : Int) (by omega)
  obtain ⟨f1, f2, l, ok, k1, k2, k3, _⟩ := fp_both hD b gb Q l2 l1
  rw [spec_DrawFairPoints_eq, e1, some_bind]
  simp only [e2, some_bind, k1, k2, beq_self_eq_true, cond_true, sameInts_same f1 f2 l k3]
theorem pure_FnFairLasso (x0 : Bool × List Int) (x1 : Bool × List Int) (w0 : WfD (.sl (.int .u8)) x0) (w1 : WfD (.sl (.int .u8)) x1) : laws_FnFairLasso x0 x1 = some true := by
  have hlim := lim_eq
  obtain ⟨_, _, w03⟩ := w0
  obtain ⟨_, w12, w13⟩ := w1
  have w12' : (x1.2.length : Int) ≤ 9223372036854775807 := by have : x1.2.length ≤ 9223372036854775807 := w12; omega
  rw [laws_FnFairLasso_eq, laws_big_eq]
  by_cases c0 : (x0.2.length : Int) > 1048576
  · rw [gT c0, some_bind]; rfl
  rw [gF c0, some_bind, wr (by omega)]
  by_cases c1 : (x1.2.length : Int) > 1048576 - (x0.2.length : Int)
  · rw [decide_eq_true c1]; rfl
  rw [decide_eq_false c1, cond_false]
  have hmore := fair_more x1 (by omega) (fun x hx => w13 x hx)
  simp only [hmore]
  obtain ⟨c', b, R, e1, hc1, hD⟩ := draw_graph (x0, (0, 0)) 0 ⟨by simp only; omega, fun x hx => w03 x hx, by simp, by simp⟩ (by omega)
  have h1 := hD.one
  have h2 := hD.most
  obtain ⟨c2, fb, fr, e2, hc2, hf, hfb⟩ := draw_someOf c' _ hc1 (by omega) (R.length : Int) (by omega) 3 (by omega)
  have e2' : spec_l1Cur_someOf c' (R.length : Int) 3 = _ := e2
  obtain ⟨c3, gb, Q, e3, l1, l2⟩ := draw_goals c2 _ hc2 (by omega) (R.length : Int) (by omega)
  obtain ⟨hf1, hf2, hf3⟩ := hf
  have hrow : ∀ r ∈ R, r.2.length ≤ 100000 := fun r hr => by have := (hD.rows r hr).1; omega
  obtain ⟨g1, g2⟩ := good_both (b, R) hrow (by simp only; omega)
  simp only at g1 g2
  obtain ⟨a1, a2⟩ := areGoals_both gb Q (R.length : Int) (by omega) (fun r hr => by have := (l2 r hr).1.2.2; omega)
  obtain ⟨f1, f2, fl, ok, k1, _, k3, k4, k5⟩ := fp_both hD b gb Q l2 l1
  have s0 : laws_sameInts (true, []) (true, []) = some true := sameInts_same true true [] (by simp)
  have p1 := isIncreasing (fb, fr) (R.length : Int) (by simp only; omega)
  have q1 := l1Rising (fb, fr) (R.length : Int) (by simp only; omega)
  have ew : IntKind.i64.wrap ((R.length : Int) - 1) = (R.length : Int) - 1 := wr (by omega)
  rw [spec_DrawFairLasso_eq, e1, some_bind]
  simp only [e2', some_bind, e3, k1]
  simp only [impl_FairLasso_eq, spec_FairLasso_eq, impl_ReachFrom_eq, impl_isGraphFrom_eq, spec_l11Points_eq, g1, g2, some_bind]
  cases hgood : goodL (R.map Prod.snd) with
  | false =>
    have hok : ok = false := by
      cases ok with
      | false => rfl
      | true => have := (k4.1 rfl).1; rw [hgood] at this; cases this
    subst hok
    simp only [Bool.not_false, cond_true, cond_false, some_bind, beq_self_eq_true, Bool.not_true, s0]
  | true =>
    obtain ⟨hG, hs⟩ := goodL_gr hgood
    have hlen : (R.map Prod.snd).length = R.length := List.length_map _
    rw [hlen] at hG
    simp only [Bool.not_true, cond_true, cond_false, some_bind, p1, q1, ew]
    cases hfi : rises (R.length : Int) fr with
    | false =>
      simp only [Bool.not_false, cond_true, cond_false, some_bind, beq_self_eq_true, Bool.not_true, s0]
      cases ok <;> rfl
    | true =>
      simp only [Bool.not_true, cond_false, a1, a2, some_bind]
      cases hgo : goalsOk (R.length : Int) Q with
      | false =>
        have hok : ok = false := by
          cases ok with
          | false => rfl
          | true => have := (k4.1 rfl).2; rw [hgo] at this; cases this
        subst hok
        have r5 := reachedFromF hG h1 b (R := R) rfl fr (by omega) (rises_in hfi) fb hfb
        simp only [Bool.not_false, cond_true, cond_false, some_bind, beq_self_eq_true, Bool.not_true, s0, r5]
      | true =>
        have hok : ok = true := k4.2 ⟨hgood, hgo⟩
        subst hok
        have hfw : ∀ w ∈ fr, 0 ≤ w ∧ w < (R.length : Int) := rises_in hfi
        obtain ⟨b1, b2, P, p2, p3, p4, p5⟩ := parts_both h1 hG hs b b rfl rfl
        have egg : gOf R = gG (R.map Prod.snd) := by funext x; rw [rows_gOf rfl]; rfl
        rw [egg] at p5
        have hP : PartsOf R.length (R.map Prod.snd) P := ⟨p4, p5⟩
        rw [goalsOk, Bool.and_eq_true, List.all_eq_true] at hgo
        have hQ1 : ∀ r ∈ Q, GoalOk R.length r.2 ∧ r.2.length ≤ 10000 ∧ (r.1 = true → r.2 = []) := fun r hr => ⟨⟨by have := (l2 r hr).1.2.2; omega, rises_in (hgo.2 r hr)⟩, by have := (l2 r hr).1.2.2; omega, (l2 r hr).2⟩
        obtain ⟨res, r1, r2, r3, r4⟩ := fairLasso_both h1 hG hs b rfl hP p2 p3 fb fr (by omega) hfw hfb gb Q hQ1 (by omega)
        have r5 := reachedFromF hG h1 b (R := R) rfl fr (by omega) hfw fb hfb
        obtain ⟨z1, z2⟩ := reachL_in hG fr (by omega) hfw
        have hfl := k5 rfl P hP
        have e6 := fun a o => fair_L6 x1 o f1 fl k3 (false, reachL (R.map Prod.snd) fr) (by simp only; omega) (reachL (R.map Prod.snd) fr).length 0 a (by simp only; omega)
        have e6' : ∀ o, laws_FnFairLasso_L6 x1 o (f1, fl) false (false, reachL (R.map Prod.snd) fr) ((reachL (R.map Prod.snd) fr).length : Int) 0 = some ((reachL (R.map Prod.snd) fr).any fun k => fl.any fun x => x == k) := fun o => by
          have := e6 false o
          simpa using this
        have hT := turnL_gr hG hs
        have hfin : ∀ x ∈ fairL (R.map Prod.snd) P (Q.map Prod.snd), 0 ≤ x ∧ x < (R.length : Int) := fun x hx => ((fairL_mem hG).1 hx).1
        have hiff : ((reachL (R.map Prod.snd) fr).any fun k => fl.any fun x => x == k) = true ↔ ∃ u ∈ fairL (R.map Prod.snd) P (Q.map Prod.snd), ∃ x ∈ fr, Way (gG (R.map Prod.snd)) x u := by
          rw [List.any_eq_true]
          constructor
          · rintro ⟨k, hk, hk2⟩
            rw [List.any_eq_true] at hk2
            obtain ⟨y, hy, hyk⟩ := hk2
            rw [beq_iff_eq] at hyk
            subst hyk
            rw [hfl] at hy
            obtain ⟨hki, x, hx, hxk⟩ := (mem_reachL hG fr hfw y).1 hk
            obtain ⟨_, u, hu, huk⟩ := (mem_reachL hT _ hfin y).1 hy
            exact ⟨u, hu, x, hx, hxk.trans (turn_way hG hT (hfin u hu) huk)⟩
          · rintro ⟨u, hu, x, hx, hxu⟩
            refine ⟨u, (mem_reachL hG fr hfw u).2 ⟨hfin u hu, x, hx, hxu⟩, List.any_eq_true.2 ⟨u, ?_, by simp⟩⟩
            rw [hfl]
            exact (mem_reachL hT _ hfin u).2 ⟨hfin u hu, u, hu, Way.here u⟩
        cases res with
        | none =>
          have r1 : impl_fairLasso (b, R) (fb, fr) (gb, Q) = some ((true, []), ((true, []), false)) := r1
          have r2 : spec_l11Lasso (b, R) (fb, fr) (gb, Q) = some ((true, []), ((true, []), false)) := r2
          simp only [Bool.not_true, cond_false, r1, r2, r5, some_bind, beq_self_eq_true]
          have hno : ((reachL (R.map Prod.snd) fr).any fun k => fl.any fun x => x == k) = false := by
            rw [Bool.eq_false_iff]
            intro q
            obtain ⟨u, hu, x, hx, hxu⟩ := hiff.1 q
            exact r3.1 rfl u hu x hx hxu
          simp only [s0, some_bind, Bool.not_true, cond_false, cond_true, e6', hno, beq_self_eq_true]
        | some sl =>
          obtain ⟨s, l⟩ := sl
          have hO := r4 s l rfl
          have hpos := hO.pos
          have hsh := hO.short
          have hyes : ((reachL (R.map Prod.snd) fr).any fun k => fl.any fun x => x == k) = true := by
            rw [hiff]
            by_cases q : ∃ u ∈ fairL (R.map Prod.snd) P (Q.map Prod.snd), ∃ x ∈ fr, Way (gG (R.map Prod.snd)) x u
            · exact q
            · have := r3.2 fun u hu x hx hw => q ⟨u, hu, x, hx, hw⟩
              cases this
          rw [List.length_map] at hsh
          rw [decide_eq_true_iff] at hgo
          have hQ6 := hgo.1
          have y1 := sameInts_same false false s (by omega)
          have y2 := sameInts_same false false l (by omega)
          have hAl : (s ++ l ++ [l.getD 0 0]).length = s.length + l.length + 1 := by simp; omega
          have y3 : laws_has (fb, fr) ((s ++ l ++ [l.getD 0 0]).getD 0 0) = some true := by
            rw [has_eq _ _ _ (by omega), List.any_eq_true.2 ⟨_, hO.head, by simp⟩]
          have y4 := fair_L0 x1 (b, R) (fb, fr) (gb, Q) (false, l) true false (s ++ l ++ [l.getD 0 0]) (by omega) hrow (by have := hO.inn; rw [hlen] at this; exact this) hO.arcs (s.length + l.length) 1 (by omega) (by omega)
          have y4' : laws_FnFairLasso_L0 x1 (b, R) (fb, fr) (gb, Q) (false, l) true (false, s ++ l ++ [l.getD 0 0]) 1 = _ := y4
          have y5 := fair_L2 x1 (b, R) (fb, fr) (gb, Q) false l (by omega) true gb Q (fun r hr => by have := (l2 r hr).1.2.2; omega) (by omega) (fun r hr => hO.goal r.2 (List.mem_map_of_mem hr)) Q.length 0 (by omega)
          have y5' : laws_FnFairLasso_L2 x1 (b, R) (fb, fr) (gb, Q) (false, l) true (gb, Q) (Q.length : Int) 0 = _ := y5
          have r1 : impl_fairLasso (b, R) (fb, fr) (gb, Q) = some ((false, s), ((false, l), true)) := r1
          have r2 : spec_l11Lasso (b, R) (fb, fr) (gb, Q) = some ((false, s), ((false, l), true)) := r2
          simp only [Bool.not_true, cond_false, r1, r2, r5, beq_self_eq_true, y1, y2, some_bind, Bool.not_true, cond_false, cond_true, List.nil_append, y3, y4', y5', e6', hyes, beq_self_eq_true]
          rw [gT (by simp only [List.length_nil]; omega), gT (by omega), gT (by omega), gT (by rw [List.length_append, List.length_singleton]; omega), gT (by omega)]

end Go.Proofs.Ytnnoohfloniinaa.R
