/- The plain law of FnExactClassBeside: what the two functions compute is the same. -/
import Derived.Test.YtmfoobckeoaklaaGreatUFnExactClassBesideA
import Derived.Laws.MathBits
set_option linter.all false
namespace Go.Proofs.YtmfoobckeoaklaaGreat.R
open Go.Rf
theorem opsAre_L0 (f : Bool × List DSaid) (hl : f.2.length ≤ 1000) (d : Nat) : ∀ (i : Nat) (st : List Int) (R : List (Bool × List Int)), i + d = f.2.length → OpsAre f.2 i R → Stk f.2 st i → st.length ≤ i → (pileS (f.2.drop i) (st.length : Int)).isSome = true →
    ∃ R', impl_operandIndexes_L0 (false, R) (false, st) f (f.2.length : Int) (i : Int) = some (false, R') ∧ OpsAre f.2 f.2.length R' := by
  have hlim := lim_eq
  induction d with
  | zero =>
    intro i st R hi hR hS hst hp
    obtain rfl : i = f.2.length := by omega
    exact ⟨R, by rw [impl_operandIndexes_L0_eq, gF (by omega)], hR⟩
  | succ d ih =>
    intro i st R hi hR hS hst hp
    have hlt : i < f.2.length := by omega
    have hn := needS_in f.2[i].1
    have eg : f.2.getD i (0, 0) = f.2[i] := by simp [List.getD_eq_getElem?_getD, hlt]
    rw [List.drop_eq_getElem_cons hlt, pileS] at hp
    by_cases c : nodeOk f.2[i] = true ∧ needS f.2[i].1 ≤ (st.length : Int)
    · rw [if_pos c] at hp
      obtain ⟨nd, hnd⟩ := Int.eq_ofNat_of_zero_le (nodeOk_need c.1)
      have hle : nd ≤ st.length := by have := c.2; omega
      have ew : IntKind.i64.wrap ((st.length : Int) - needS f.2[i].1) = ((st.length - nd : Nat) : Int) := by rw [wr (by omega)]; omega
      have hdrop : (st.drop (st.length - nd)).length = nd := by rw [List.length_drop]; omega
      have hR1 := hR.len
      have hl1 : (st.take (st.length - nd) ++ [(i : Int)]).length ≤ i + 1 := by simp; omega
      have e2 : (((st.take (st.length - nd) ++ [(i : Int)]).length : Nat) : Int) = (st.length : Int) + (1 - needS f.2[i].1) := by simp; omega
      have q1 : needS f.2[i].1 = 1 → nd = 1 := by omega
      have q2 : needS f.2[i].1 = 2 → nd = 2 := by omega
      have hS' := Stk_step hS nd (by rw [eg]; exact hnd) (by omega) hle
      have hA := OpsAre_snoc hR false (st.drop (st.length - nd)) (by rw [eg]; omega) (by rw [hdrop, eg, hnd]) (fun h => hS'.2.1 (q1 (eg ▸ h))) (fun h => hS'.2.2 (q2 (eg ▸ h)))
      have s1 := hS'.1
      clear hS'
      obtain ⟨R', g1, g2⟩ := ih (i + 1) (st.take (st.length - nd) ++ [(i : Int)]) (R ++ [(false, st.drop (st.length - nd))]) (by omega) hA s1 hl1 (by
          rw [e2]
          exact hp)
      refine ⟨R', ?_, g2⟩
      have etk : (st.take st.length).drop (st.length - nd) = st.drop (st.length - nd) := by rw [List.take_length]
      rw [impl_operandIndexes_L0_eq, gT (by omega), gT (by omega), gT (by omega), getD_at f.2 _ i hlt, needS_impl, some_bind]
      simp only [ew, Int.toNat_natCast, etk]
      rw [gT (by omega), gT (by omega), cloneInt_F _ (by omega), some_bind, gT (by simp; omega), gT (by omega), gT (by omega), gT (by simp; omega), up1 i (by omega), bind_id, Bool.and_false, List.drop_zero, g1]
    · rw [if_neg c] at hp
      cases hp
theorem opsAre (f : Bool × List DSaid) (h : goodSaid f.2 = true) : ∃ R, impl_operandIndexes f = some (false, R) ∧ OpsAre f.2 f.2.length R := by
  obtain ⟨h1, h2, h3⟩ := goodSaid_in h
  obtain ⟨R, g1, g2⟩ := opsAre_L0 f (by omega) f.2.length 0 [] [] (by omega) ⟨rfl, fun j hj => by omega, fun j hj => by omega, fun j hj => by omega, fun j hj => by omega⟩ .nil (by simp) (by
    show (pileS (f.2.drop 0) 0).isSome = true
    rw [List.drop_zero, h3]
    rfl)
  have g1' : impl_operandIndexes_L0 (false, []) (false, []) f (f.2.length : Int) 0 = _ := g1
  exact ⟨R, by rw [impl_operandIndexes_eq, g1', some_bind], g2⟩
/-- each node of a good formula is a node -/
theorem pileS_ok : ∀ (l : List DSaid) (v : Int), (pileS l v).isSome = true → ∀ x ∈ l, nodeOk x = true
  | [], _, _, x, hx => by cases hx
  | y :: l, v, h, x, hx => by
    rw [pileS] at h
    by_cases c : nodeOk y = true ∧ needS y.1 ≤ v
    · rw [if_pos c] at h
      rcases List.mem_cons.1 hx with rfl | hx
      · exact c.1
      · exact pileS_ok l _ h x hx
    · rw [if_neg c] at h
      cases h
theorem goodSaid_ok {f : List DSaid} (h : goodSaid f = true) (i : Nat) (hi : i < f.length) : nodeOk f[i] = true := by
  obtain ⟨_, _, h3⟩ := goodSaid_in h
  exact pileS_ok f 0 (by rw [h3]; rfl) _ (List.getElem_mem hi)
/-- is a bit of a number set? -/
def bitAt (g : Int) (i : Nat) : Bool := bAnd .i64 (bShr .i64 g (i : Int)) 1 == 1
/-- does a guess say that a tracked node holds? -/
def saysL (T : List Int) (g node : Int) : Bool := T.any (fun x => node == x) && bitAt g (T.findIdx fun x => node == x)
theorem l13Says_L0 (T : Bool × List Int) (hl : T.2.length ≤ 1000) (g node : Int) (d : Nat) : ∀ i : Nat, i + d = T.2.length →
    spec_l13Says_L0 g node T (T.2.length : Int) (i : Int) = some (bif (T.2.drop i).any (fun x => node == x) then .inl (bitAt g (i + (T.2.drop i).findIdx fun x => node == x)) else .inr ()) := by
  induction d with
  | zero =>
    intro i hi
    rw [spec_l13Says_L0_eq, gF (by omega), List.drop_of_length_le (by omega)]
    rfl
  | succ d ih =>
    intro i hi
    have hlt : i < T.2.length := by omega
    rw [spec_l13Says_L0_eq, gT (by omega), gT (by omega), gT (by omega), getD_at T.2 _ i hlt, List.drop_eq_getElem_cons hlt, List.any_cons, List.findIdx_cons, wru (by omega), gF (by omega), up1 i (by omega), bind_id, ih (i + 1) (by omega)]
    by_cases e : T.2[i] = node
    · have e1 : (T.2[i] == node) = true := by rw [beq_iff_eq]; exact e
      have e2 : (node == T.2[i]) = true := by rw [beq_iff_eq]; exact e.symm
      rw [e1, e2, cond_true, Bool.true_or, cond_true, cond_true]
      rfl
    · have e1 : (T.2[i] == node) = false := beqF e
      have e2 : (node == T.2[i]) = false := beqF (fun h => e h.symm)
      rw [e1, e2, cond_false, Bool.false_or, cond_false]
      have e3 : i + 1 + (T.2.drop (i + 1)).findIdx (fun x => node == x) = i + ((T.2.drop (i + 1)).findIdx (fun x => node == x) + 1) := by omega
      rw [e3]
theorem l13Says (T : Bool × List Int) (hl : T.2.length ≤ 1000) (g node : Int) : spec_l13Says T g node = some (saysL T.2 g node) := by
  have e := l13Says_L0 T hl g node T.2.length 0 (by omega)
  rw [List.drop_zero, Nat.zero_add] at e
  have e' : spec_l13Says_L0 g node T (T.2.length : Int) 0 = _ := e
  rw [spec_l13Says_eq, e', some_bind, saysL]
  cases T.2.any (fun x => node == x) <;> rfl
theorem assumes (T : Bool × List Int) (hl : T.2.length ≤ 1000) (g node : Int) (h : node ∈ T.2) : impl_assumes T g node = some (saysL T.2 g node) := by
  have hany : (T.2.any fun x => node == x) = true := List.any_eq_true.2 ⟨node, h, by simp⟩
  rw [impl_assumes_eq, indexInt T node (by omega), some_bind, saysL, hany, cond_true, gF (by omega), Bool.true_and]
  rfl
theorem mem_trackL {f : List DSaid} {x : Int} : x ∈ trackL f ↔ x = (f.length : Int) - 1 ∨ ∃ i : Nat, i < f.length ∧ x ∈ trk (f.getD i (0, 0)).1 (i : Int) := by
  rw [trackL, sortL_mem, trksL, List.mem_cons, List.mem_flatMap]
  constructor
  · rintro (h | ⟨i, h1, h2⟩)
    · exact .inl h
    · exact .inr ⟨i, List.mem_range.1 h1, h2⟩
  · rintro (h | ⟨i, h1, h2⟩)
    · exact .inl h
    · exact .inr ⟨i, List.mem_range.2 h1, h2⟩
theorem tr_self {f : List DSaid} {i : Nat} (hi : i < f.length) (h : (f.getD i (0, 0)).1 = 7 ∨ (f.getD i (0, 0)).1 = 8) : (i : Int) ∈ trackL f :=
  mem_trackL.2 (.inr ⟨i, hi, by unfold trk; rw [if_pos h]; exact List.mem_cons_self⟩)
theorem tr_prev {f : List DSaid} {i : Nat} (hi : i < f.length) (h : (f.getD i (0, 0)).1 = 7 ∨ (f.getD i (0, 0)).1 = 8 ∨ (f.getD i (0, 0)).1 = 4) : (i : Int) - 1 ∈ trackL f := by
  refine mem_trackL.2 (.inr ⟨i, hi, ?_⟩)
  unfold trk
  rcases h with h | h | h
  · rw [if_pos (.inl h)]; simp
  · rw [if_pos (.inr h)]; simp
  · rw [if_neg (by omega), if_pos h]; simp
theorem tr_root {f : List DSaid} : (f.length : Int) - 1 ∈ trackL f := mem_trackL.2 (.inl rfl)
theorem trackL_length {f : List DSaid} (h : f.length ≤ 16) : (trackL f).length ≤ 33 := by
  have h1 := sortL_length (trksL f)
  have h2 := trks_length f f.length 0
  rw [← List.range_eq_range'] at h2
  have h3 : (trksL f).length ≤ 1 + 2 * f.length := by rw [trksL, List.length_cons]; omega
  have h4 : (trackL f).length ≤ (trksL f).length := h1
  omega
theorem node_ops {x : DSaid} (h : nodeOk x = true) : (x.1 = 1 ∧ 0 ≤ x.2 ∧ x.2 ≤ 2) ∨ (x.1 = 2) ∨ x.1 = 3 ∨ x.1 = 4 ∨ x.1 = 5 ∨ x.1 = 6 ∨ x.1 = 7 ∨ x.1 = 8 := by
  unfold nodeOk at h
  by_cases a1 : x.1 = 1
  · rw [if_pos a1, decide_eq_true_eq] at h
    exact .inl ⟨a1, h⟩
  · by_cases a2 : x.1 = 2
    · exact .inr (.inl a2)
    · rw [if_neg a1, if_neg a2, Bool.and_eq_true, decide_eq_true_eq] at h
      have h1 := h.1
      unfold needS at h1
      by_cases a3 : x.1 = 3 ∨ x.1 = 4
      · omega
      · by_cases a5 : 5 ≤ x.1 ∧ x.1 ≤ 8
        · omega
        · rw [if_neg (by omega), if_neg a3, if_neg a5] at h1
          omega
theorem now_step (f : Bool × List DSaid) (hf : goodSaid f.2 = true) (R : List (Bool × List Int)) (hR : OpsAre f.2 f.2.length R) (letter next : Int) (tb : Bool) (b b' : Bool) (out : List Bool) (i : Nat) (hi : i < f.2.length) (ho : out.length = i) :
    ∃ v, impl_evalNow_L0 letter next (b, out) (false, R) (false, trackL f.2) f (f.2.length : Int) (i : Int) = impl_evalNow_L0 letter next (b && false, out ++ [v]) (false, R) (false, trackL f.2) f (f.2.length : Int) ((i + 1 : Nat) : Int) ∧
      spec_l13Now_L0 f (tb, trackL f.2) letter next (b', out) f (f.2.length : Int) (i : Int) = spec_l13Now_L0 f (tb, trackL f.2) letter next (b' && false, out ++ [v]) f (f.2.length : Int) ((i + 1 : Nat) : Int) := by
  have hlim := lim_eq
  obtain ⟨n1, n2, n3⟩ := goodSaid_in hf
  have htl := trackL_length n2
  have hok := goodSaid_ok hf i hi
  have eg : f.2.getD i (0, 0) = f.2[i] := by simp [List.getD_eq_getElem?_getD, hi]
  rw [← eg] at hok
  have hRl := hR.len
  have t1 : decide ((i : Int) < (f.2.length : Int)) = true := decide_eq_true (by omega)
  have t2 : decide (0 ≤ (i : Int)) = true := decide_eq_true (by omega)
  have t3 : decide ((i : Int) < (R.length : Int)) = true := decide_eq_true (by omega)
  have tl : ∀ v : Bool, decide (out.length + [v].length ≤ lim) = true := fun v => decide_eq_true (by simp; omega)
  have hpos := hR.pos i hi
  have hmany := hR.many i hi
  have says : ∀ node, spec_l13Says (tb, trackL f.2) next node = some (saysL (trackL f.2) next node) := fun node => l13Says (tb, trackL f.2) (by simp only; omega) next node
  have ass : ∀ node, node ∈ trackL f.2 → impl_assumes (false, trackL f.2) next node = some (saysL (trackL f.2) next node) := fun node h => assumes (false, trackL f.2) (by simp only; omega) next node h
  have hun : ∀ n : Nat, n < 4611686018427387904 → IntKind.i64.wrap ((n : Int) + 1) = ((n + 1 : Nat) : Int) := fun n h => up1 n h
  have upi := up1 i (by omega)
  rw [impl_evalNow_L0_eq, spec_l13Now_L0_eq]
  simp only [t1, t2, cond_true, getD_nat, upi, bind_id, tl]
  generalize hx : f.2.getD i (0, 0) = x at *
  rcases node_ops hok with ⟨h, m1, m2⟩ | h | h | h | h | h | h | h
  · simp only [h, Int.reduceBEq, beq_self_eq_true, cond_true, cond_false, wru (n := x.2) (by omega), gF (show ¬ x.2 < 0 by omega)]
    exact ⟨_, rfl, rfl⟩
  · simp only [h, Int.reduceBEq, beq_self_eq_true, cond_true, cond_false]
    exact ⟨_, rfl, rfl⟩
  · have hn : needS x.1 = 1 := by rw [h]; rfl
    have o1 := hR.op1 i hi (by rw [hx]; exact hn)
    rw [hn] at hpos hmany
    have e1 : (i : Int) - 1 = ((i - 1 : Nat) : Int) := by omega
    have d1 : decide (((i - 1 : Nat) : Int) < (out.length : Int)) = true := decide_eq_true (by omega)
    have d2 : decide (0 ≤ ((i - 1 : Nat) : Int)) = true := decide_eq_true (by omega)
    simp only [h, Int.reduceBEq, beq_self_eq_true, cond_true, cond_false, t3, hmany, o1, e1, d1, d2, Int.toNat_natCast, Int.reduceLT, decide_true, wr (n := ((i - 1 : Nat) : Int)) (by omega)]
    exact ⟨_, rfl, rfl⟩
  · have hn : needS x.1 = 1 := by rw [h]; rfl
    have o1 := hR.op1 i hi (by rw [hx]; exact hn)
    rw [hn] at hpos hmany
    have e0 := ass _ (tr_prev hi (by rw [hx]; exact .inr (.inr h)))
    simp only [h, Int.reduceBEq, beq_self_eq_true, cond_true, cond_false, t3, hmany, o1, e0, says, some_bind, Int.reduceLT, decide_true, wr (n := (i : Int) - 1) (by omega), tl]
    exact ⟨_, rfl, rfl⟩
  all_goals
    have hn : needS x.1 = 2 := by rw [h]; rfl
    obtain ⟨o1, k, o2, o3⟩ := hR.op2 i hi (by rw [hx]; exact hn)
    rw [hn] at hpos hmany
    have hk := From_le o3
    have e1 : (i : Int) - 1 = ((i - 1 : Nat) : Int) := by omega
    have d1 : decide (((i - 1 : Nat) : Int) < (out.length : Int)) = true := decide_eq_true (by omega)
    have d2 : decide (0 ≤ ((i - 1 : Nat) : Int)) = true := decide_eq_true (by omega)
    have d3 : decide ((k : Int) < (out.length : Int)) = true := decide_eq_true (by omega)
    have d4 : decide (0 ≤ (k : Int)) = true := decide_eq_true (by omega)
    have hfrom := l10From f (by omega) o3 (by omega)
    have e2 : IntKind.i64.wrap (((k + 1 : Nat) : Int) - 1) = (k : Int) := by rw [wr (by omega)]; omega
    try have e3 := ass _ (tr_self hi (by rw [hx]; first | exact .inl h | exact .inr h))
    simp only [h, Int.reduceBEq, beq_self_eq_true, cond_true, cond_false, t3, hmany, o1, o2, e1, e2, d1, d2, d3, d4, Int.toNat_natCast, Int.reduceLT, decide_true, wr (n := ((i - 1 : Nat) : Int)) (by omega), hfrom, says, some_bind, tl]
    try simp only [e3, some_bind, tl, cond_true]
    cases out.getD (i - 1) false <;> cases out.getD k false <;> exact ⟨_, rfl, rfl⟩
theorem goodTr_in {f : List DSaid} (h : goodTr f = true) : goodSaid f = true ∧ (trackL f).length ≤ 5 := by
  simp only [goodTr, Bool.and_eq_true, decide_eq_true_eq] at h
  exact ⟨h.1, by omega⟩
theorem trackL_in {f : List DSaid} (R : List (Bool × List Int)) (hR : OpsAre f f.length R) (h0 : 1 ≤ f.length) : ∀ x ∈ trackL f, 0 ≤ x ∧ x < (f.length : Int) := by
  intro x hx
  rcases mem_trackL.1 hx with rfl | ⟨i, hi, h⟩
  · omega
  · have hp := hR.pos i hi
    unfold trk at h
    by_cases c : (f.getD i (0, 0)).1 = 7 ∨ (f.getD i (0, 0)).1 = 8
    · have : needS (f.getD i (0, 0)).1 = 2 := by rcases c with c | c <;> rw [c] <;> rfl
      rw [if_pos c] at h
      simp only [List.mem_cons, List.not_mem_nil, or_false] at h
      omega
    · rw [if_neg c] at h
      by_cases c4 : (f.getD i (0, 0)).1 = 4
      · have : needS (f.getD i (0, 0)).1 = 1 := by rw [c4]; rfl
        rw [if_pos c4] at h
        simp only [List.mem_cons, List.not_mem_nil, or_false] at h
        omega
      · rw [if_neg c4] at h
        cases h
theorem now_L0 (f : Bool × List DSaid) (hf : goodSaid f.2 = true) (R : List (Bool × List Int)) (hR : OpsAre f.2 f.2.length R) (letter next : Int) (tb : Bool) (d : Nat) : ∀ (i : Nat) (b b' : Bool) (out : List Bool), i + d = f.2.length → out.length = i →
    ∃ out' c c', impl_evalNow_L0 letter next (b, out) (false, R) (false, trackL f.2) f (f.2.length : Int) (i : Int) = some (c, out') ∧ spec_l13Now_L0 f (tb, trackL f.2) letter next (b', out) f (f.2.length : Int) (i : Int) = some (c', out') ∧ out'.length = f.2.length := by
  induction d with
  | zero =>
    intro i b b' out hi ho
    exact ⟨out, b, b', by rw [impl_evalNow_L0_eq, gF (by omega)], by rw [spec_l13Now_L0_eq, gF (by omega)], by omega⟩
  | succ d ih =>
    intro i b b' out hi ho
    obtain ⟨v, e1, e2⟩ := now_step f hf R hR letter next tb b b' out i (by omega) ho
    rw [e1, e2]
    exact ih (i + 1) _ _ _ (by omega) (by simp [ho])
theorem now_both (f : Bool × List DSaid) (hf : goodSaid f.2 = true) (letter next : Int) (tb : Bool) :
    ∃ out c c', impl_evalNow f letter next = some (c, out) ∧ spec_l13Now f (tb, trackL f.2) letter next = some (c', out) ∧ out.length = f.2.length := by
  obtain ⟨R, r1, hR⟩ := opsAre f hf
  obtain ⟨out, c, c', e1, e2, e3⟩ := now_L0 f hf R hR letter next tb f.2.length 0 false true [] (by omega) rfl
  have e1' : impl_evalNow_L0 letter next (false, []) (false, R) (false, trackL f.2) f (f.2.length : Int) 0 = _ := e1
  have e2' : spec_l13Now_L0 f (tb, trackL f.2) letter next (true, []) f (f.2.length : Int) 0 = _ := e2
  exact ⟨out, c, c', by rw [impl_evalNow_eq, r1, some_bind, tracked f hf, some_bind]; simp only [e1', some_bind], by rw [spec_l13Now_eq, e2', some_bind], e3⟩
theorem guess_L0 (T : List Int) (hT : T.length ≤ 5) (out : List Bool) (hin : ∀ x ∈ T, 0 ≤ x ∧ x < (out.length : Int)) (tb c c' : Bool) (d : Nat) : ∀ (i a : Nat), i + d = T.length → a < 2 ^ i →
    ∃ g : Nat, impl_guessOf_L0 (c, out) (a : Int) (false, T) (T.length : Int) (i : Int) = some (g : Int) ∧ spec_l13Guess_L0 (c', out) (a : Int) (tb, T) (T.length : Int) (i : Int) = some (g : Int) ∧ g < 2 ^ T.length := by
  induction d with
  | zero =>
    intro i a hi ha
    obtain rfl : i = T.length := by omega
    exact ⟨a, by rw [impl_guessOf_L0_eq, gF (by omega)], by rw [spec_l13Guess_L0_eq, gF (by omega)], ha⟩
  | succ d ih =>
    intro i a hi ha
    have hlt : i < T.length := by omega
    obtain ⟨m1, m2⟩ := hin _ (List.getElem_mem hlt)
    have hp : (2 : Nat) ^ i ≤ 2 ^ 5 := Nat.pow_le_pow_right (by decide) (by omega)
    have hp1 : (2 : Nat) ^ (i + 1) = 2 ^ i * 2 := Nat.pow_succ ..
    have hor : a ||| 2 ^ i < 2 ^ (i + 1) := Nat.or_lt_two_pow (by omega) (by rw [hp1]; have := Nat.two_pow_pos i; omega)
    have e : bOr .i64 (a : Int) (bShl .i64 1 (i : Int)) = ((a ||| 2 ^ i : Nat) : Int) := by
      rw [shl_one_i64 i (by omega), bOr_i64 a (2 ^ i) (by omega) (by omega)]
    rw [impl_guessOf_L0_eq, spec_l13Guess_L0_eq]
    simp only [gT (show (i : Int) < (T.length : Int) by omega), gT (show (0 : Int) ≤ (i : Int) by omega), getD_at T _ i hlt, gT m1, gT m2, wru (n := (i : Int)) (by omega), gF (show ¬ (i : Int) < 0 by omega), up1 i (by omega), bind_id, e]
    cases out.getD (T[i]).toNat false with
    | true => exact ih (i + 1) _ (by omega) hor
    | false => exact ih (i + 1) a (by omega) (by omega)
/-- the guess now for a letter and a guess of what comes next -/
noncomputable def gssF (f : Bool × List DSaid) (letter next : Int) : Nat := ((impl_guessOf f letter next).getD 0).toNat
def manyG (f : List DSaid) : Nat := 2 ^ (trackL f).length
theorem manyG_in {f : List DSaid} (h : goodTr f = true) : 1 ≤ manyG f ∧ manyG f ≤ 32 := by
  have h1 : manyG f ≤ 2 ^ 5 := Nat.pow_le_pow_right (by decide) (goodTr_in h).2
  have h2 : 0 < manyG f := Nat.two_pow_pos _
  omega
theorem guess_both (f : Bool × List DSaid) (hf : goodTr f.2 = true) (letter next : Int) (tb : Bool) :
    impl_guessOf f letter next = some (gssF f letter next : Int) ∧ spec_l13Guess f (tb, trackL f.2) letter next = some (gssF f letter next : Int) ∧ gssF f letter next < manyG f.2 := by
  obtain ⟨h1, h2⟩ := goodTr_in hf
  obtain ⟨R, r1, hR⟩ := opsAre f h1
  have hin := trackL_in R hR (goodSaid_in h1).1
  obtain ⟨out, c, c', e1, e2, e3⟩ := now_both f h1 letter next tb
  obtain ⟨g, g1, g2, g3⟩ := guess_L0 (trackL f.2) h2 out (by rw [e3]; exact hin) tb c c' (trackL f.2).length 0 0 (by omega) (by decide)
  have g1' : impl_guessOf_L0 (c, out) 0 (false, trackL f.2) ((trackL f.2).length : Int) 0 = _ := g1
  have g2' : spec_l13Guess_L0 (c', out) 0 (tb, trackL f.2) ((trackL f.2).length : Int) 0 = _ := g2
  have i1 : impl_guessOf f letter next = some (g : Int) := by
    rw [impl_guessOf_eq, e1, some_bind, tracked f h1, some_bind]
    simp only [g1', some_bind]
  have hg : gssF f letter next = g := by rw [gssF, i1]; rfl
  rw [hg]
  refine ⟨i1, ?_, g3⟩
  rw [spec_l13Guess_eq, e2, some_bind]
  simp only [g2', some_bind]
theorem many_shl (n : Nat) (h : n ≤ 5) : bShl .i64 1 (n : Int) = ((2 ^ n : Nat) : Int) := shl_one_i64 n (by omega)
theorem guesses (f : Bool × List DSaid) (hf : goodTr f.2 = true) : impl_guesses f = some (manyG f.2 : Int) := by
  obtain ⟨h1, h2⟩ := goodTr_in hf
  rw [impl_guesses_eq, tracked f h1, some_bind, gF (by omega), many_shl _ h2]
  rfl
/-- the numbers below m for which something holds -/
def upTo (m : Nat) (q : Int → Bool) : List Int := ((List.range m).filter fun j : Nat => q (j : Int)).map Int.ofNat
theorem upTo_loop (m : Nat) (q : Int → Bool) (F : Bool × List Int → Int → Option (Bool × List Int))
    (hs : ∀ (j : Nat) (b : Bool) (o : List Int), j < m → o.length ≤ j → F (b, o) (j : Int) = bif q (j : Int) then F (b && false, o ++ [(j : Int)]) ((j + 1 : Nat) : Int) else F (b, o) ((j + 1 : Nat) : Int))
    (he : ∀ (b : Bool) (o : List Int), F (b, o) (m : Int) = some (b, o)) (b : Bool) : ∃ c, F (b, []) 0 = some (c, upTo m q) := by
  have key : ∀ (d j : Nat) (b : Bool) (o : List Int), j + d = m → o.length ≤ j → ∃ c, F (b, o) (j : Int) = some (c, o ++ ((List.range' j d).filter fun j : Nat => q (j : Int)).map Int.ofNat) := by
    intro d
    induction d with
    | zero =>
      intro j b o hj ho
      obtain rfl : j = m := by omega
      exact ⟨b, by rw [he]; simp⟩
    | succ d ih =>
      intro j b o hj ho
      rw [hs j b o (by omega) ho, List.range'_succ, List.filter_cons]
      cases hq : q (j : Int) with
      | true =>
        obtain ⟨c, g⟩ := ih (j + 1) (b && false) (o ++ [(j : Int)]) (by omega) (by simp; omega)
        exact ⟨c, by rw [cond_true, g]; simp⟩
      | false =>
        obtain ⟨c, g⟩ := ih (j + 1) b o (by omega) (by omega)
        exact ⟨c, by rw [cond_false, g]; simp⟩
  obtain ⟨c, g⟩ := key m 0 b [] (by omega) (by simp)
  exact ⟨c, by rw [upTo, List.range_eq_range']; exact g⟩
theorem upTo_length (m : Nat) (q : Int → Bool) : (upTo m q).length ≤ m := by
  rw [upTo, List.length_map]
  refine Nat.le_trans (List.length_filter_le _ _) ?_
  simp
theorem mem_upTo {m : Nat} {q : Int → Bool} {x : Int} : x ∈ upTo m q ↔ (0 ≤ x ∧ x < (m : Int)) ∧ q x = true := by
  simp only [upTo, List.mem_map, List.mem_filter, List.mem_range]
  constructor
  · rintro ⟨i, ⟨h1, h2⟩, rfl⟩
    exact ⟨⟨Int.natCast_nonneg _, by simp; omega⟩, h2⟩
  · rintro ⟨⟨h1, h2⟩, h3⟩
    exact ⟨x.toNat, ⟨by omega, by rw [Int.toNat_of_nonneg h1]; exact h3⟩, Int.toNat_of_nonneg h1⟩
/-- the guesses that a goal holds -/
def goalB (T : List Int) (op i g : Int) : Bool := if op = 7 then !saysL T g i || saysL T g (i - 1) else saysL T g i || !saysL T g (i - 1)
def goalAt (f : List DSaid) (i : Nat) : List (List Int) := if (f.getD i (0, 0)).1 = 7 ∨ (f.getD i (0, 0)).1 = 8 then [upTo (manyG f) (goalB (trackL f) (f.getD i (0, 0)).1 (i : Int))] else []
def goalsL (f : List DSaid) : List (List Int) := (List.range f.length).flatMap (goalAt f)
theorem goal_spec (f : Bool × List DSaid) (hf : goodTr f.2 = true) (tb : Bool) (out : Bool × List (Bool × List Int)) (i : Nat) (hi : i < f.2.length) (x : DSaid) (hx : x.1 = 7 ∨ x.1 = 8) (t12 : Bool × List DSaid) (t13 t14 : Int) :
    ∃ c, spec_l13Goals_L2 (tb, trackL f.2) out (i : Int) x (true, []) 0 t12 t13 t14 = some (c, upTo (manyG f.2) (goalB (trackL f.2) x.1 (i : Int))) := by
  have hlim := lim_eq
  obtain ⟨h1, h2⟩ := goodTr_in hf
  have hn := (goodSaid_in h1).2.1
  have hm := manyG_in hf
  have em : bShl .i64 1 (IntKind.u64.wrap ((trackL f.2).length : Int)) = (manyG f.2 : Int) := by rw [wru (by omega), many_shl _ h2]; rfl
  have says : ∀ g node, spec_l13Says (tb, trackL f.2) g node = some (saysL (trackL f.2) g node) := fun g node => l13Says (tb, trackL f.2) (by simp only; omega) g node
  refine upTo_loop (manyG f.2) (goalB (trackL f.2) x.1 (i : Int)) (fun o j => spec_l13Goals_L2 (tb, trackL f.2) out (i : Int) x o j t12 t13 t14) (fun j b o hj ho => ?_) (fun b o => ?_) true
  · have tl : decide (o.length + [(j : Int)].length ≤ lim) = true := decide_eq_true (by simp; omega)
    rw [spec_l13Goals_L2_eq]
    simp only [em, gF (show ¬ IntKind.u64.wrap ((trackL f.2).length : Int) < 0 by rw [wru (by omega)]; omega), gT (show (j : Int) < (manyG f.2 : Int) by omega), says, some_bind, wr (n := (i : Int) - 1) (by omega), up1 j (by omega), bind_id, tl, cond_true]
    unfold goalB
    rcases hx with hx | hx
    · simp only [hx, Int.reduceBEq, beq_self_eq_true, cond_true, cond_false, if_true]
      cases saysL (trackL f.2) (j : Int) (i : Int) <;> cases saysL (trackL f.2) (j : Int) ((i : Int) - 1) <;> rfl
    · simp only [hx, Int.reduceBEq, beq_self_eq_true, cond_true, cond_false]
      rw [if_neg (by decide)]
      cases saysL (trackL f.2) (j : Int) (i : Int) <;> cases saysL (trackL f.2) (j : Int) ((i : Int) - 1) <;> rfl
  · rw [spec_l13Goals_L2_eq]
    simp only [em, gF (show ¬ IntKind.u64.wrap ((trackL f.2).length : Int) < 0 by rw [wru (by omega)]; omega)]
    rw [gF (by omega)]
theorem l13Goals_L0 (f : Bool × List DSaid) (hf : goodTr f.2 = true) (tb : Bool) (d : Nat) : ∀ (i : Nat) (b : Bool) (o : List (Bool × List Int)), i + d = f.2.length → o.length ≤ i →
    ∃ c X, spec_l13Goals_L0 (tb, trackL f.2) (b, o) f (f.2.length : Int) (i : Int) = some (c, o ++ X) ∧ X.map Prod.snd = (List.range' i d).flatMap (goalAt f.2) ∧ X.length ≤ d := by
  have hlim := lim_eq
  obtain ⟨h1, h2⟩ := goodTr_in hf
  have hn := (goodSaid_in h1).2.1
  induction d with
  | zero =>
    intro i b o hi ho
    exact ⟨b, [], by rw [spec_l13Goals_L0_eq, gF (by omega)]; simp, by simp, by simp⟩
  | succ d ih =>
    intro i b o hi ho
    have hlt : i < f.2.length := by omega
    rw [spec_l13Goals_L0_eq, gT (by omega), gT (by omega), gT (by omega), getD_nat, up1 i (by omega), List.range'_succ, List.flatMap_cons]
    by_cases c : (f.2.getD i (0, 0)).1 = 7 ∨ (f.2.getD i (0, 0)).1 = 8
    · obtain ⟨c0, e0⟩ := goal_spec f hf tb (b, o) i hlt (f.2.getD i (0, 0)) c f (f.2.length : Int) (i : Int)
      obtain ⟨c1, X, g1, g2, g3⟩ := ih (i + 1) (b && false) (o ++ [(c0, upTo (manyG f.2) (goalB (trackL f.2) (f.2.getD i (0, 0)).1 (i : Int)))]) (by omega) (by simp; omega)
      refine ⟨c1, (c0, upTo (manyG f.2) (goalB (trackL f.2) (f.2.getD i (0, 0)).1 (i : Int))) :: X, ?_, ?_, by simp; omega⟩
      · simp only [e0, some_bind]
        rcases c with c | c <;> simp only [c, Int.reduceBNe, bne_self_eq_false, cond_true, cond_false] <;> rw [c] at g1 <;> rw [gT (by simp; omega), bind_id, g1] <;> simp
      · rw [goalAt, if_pos c, List.map_cons, g2]
        rfl
    · obtain ⟨c1, X, g1, g2, g3⟩ := ih (i + 1) b o (by omega) (by omega)
      refine ⟨c1, X, ?_, ?_, by omega⟩
      · rw [bT (by rw [bne_iff_ne]; omega), bT (by rw [bne_iff_ne]; omega), bind_id, g1]
      · rw [goalAt, if_neg c, g2]
        rfl
theorem l13Goals (f : Bool × List DSaid) (hf : goodTr f.2 = true) (tb : Bool) : ∃ c X, spec_l13Goals f (tb, trackL f.2) = some (c, X) ∧ X.map Prod.snd = goalsL f.2 ∧ X.length ≤ f.2.length := by
  obtain ⟨c, X, g1, g2, g3⟩ := l13Goals_L0 f hf tb f.2.length 0 true [] (by omega) (by simp)
  have g1' : spec_l13Goals_L0 (tb, trackL f.2) (true, []) f (f.2.length : Int) 0 = _ := g1
  exact ⟨c, X, by rw [spec_l13Goals_eq, g1', some_bind]; rfl, by rw [g2, goalsL, List.range_eq_range'], g3⟩
theorem goal_impl (f : Bool × List DSaid) (hf : goodTr f.2 = true) (R : List (Bool × List Int)) (hR : OpsAre f.2 f.2.length R) (i : Nat) (hi : i < f.2.length) (hx : (f.2.getD i (0, 0)).1 = 7 ∨ (f.2.getD i (0, 0)).1 = 8) :
    ∃ c, impl_guessesWith_by_goalsOf_1 f ((false, trackL f.2), ((i : Int), ((false, R), ((f.2.getD i (0, 0)), ())))) = some (c, upTo (manyG f.2) (goalB (trackL f.2) (f.2.getD i (0, 0)).1 (i : Int))) := by
  have hlim := lim_eq
  obtain ⟨h1, h2⟩ := goodTr_in hf
  have hn := (goodSaid_in h1).2.1
  have hm := manyG_in hf
  have hRl := hR.len
  have hneed : needS (f.2.getD i (0, 0)).1 = 2 := by rcases hx with h | h <;> rw [h] <;> rfl
  have hmany := hR.many i hi
  obtain ⟨o1, _⟩ := hR.op2 i hi hneed
  rw [hneed] at hmany
  have ass : ∀ g node, node ∈ trackL f.2 → impl_assumes (false, trackL f.2) g node = some (saysL (trackL f.2) g node) := fun g node h => assumes (false, trackL f.2) (by simp only; omega) g node h
  have one : ∀ g : Int, impl_goalsOf_1 g (false, trackL f.2) (i : Int) (false, R) (f.2.getD i (0, 0)) = some (goalB (trackL f.2) (f.2.getD i (0, 0)).1 (i : Int) g) := by
    intro g
    rw [impl_goalsOf_1_eq, ass g _ (tr_self hi hx), some_bind, gT (by omega), gT (by simp only; omega)]
    simp only [getD_nat, hmany, Int.reduceLT, decide_true, cond_true, o1]
    rw [ass g _ (tr_prev hi (by omega)), some_bind]
    unfold goalB
    rcases hx with hx | hx
    · simp only [hx, Int.reduceBEq, beq_self_eq_true, cond_true, cond_false, if_true]
      cases saysL (trackL f.2) g (i : Int) <;> cases saysL (trackL f.2) g ((i : Int) - 1) <;> rfl
    · simp only [hx, Int.reduceBEq, beq_self_eq_true, cond_true, cond_false]
      rw [if_neg (by decide)]
      cases saysL (trackL f.2) g (i : Int) <;> cases saysL (trackL f.2) g ((i : Int) - 1) <;> rfl
  obtain ⟨c, e⟩ := upTo_loop (manyG f.2) (goalB (trackL f.2) (f.2.getD i (0, 0)).1 (i : Int)) (fun o j => impl_guessesWith_by_goalsOf_1_L0 ((false, trackL f.2), ((i : Int), ((false, R), ((f.2.getD i (0, 0)), ())))) o (manyG f.2 : Int) j) (fun j b o hj ho => by
    have tl : decide (o.length + [(j : Int)].length ≤ lim) = true := decide_eq_true (by simp; omega)
    rw [impl_guessesWith_by_goalsOf_1_L0_eq, gT (by omega)]
    simp only [one, some_bind, up1 j (by omega), bind_id, tl, cond_true]) (fun b o => by
    rw [impl_guessesWith_by_goalsOf_1_L0_eq, gF (by omega)]) false
  exact ⟨c, by rw [impl_guessesWith_by_goalsOf_1_eq, guesses f hf, some_bind]; rw [show impl_guessesWith_by_goalsOf_1_L0 _ (false, []) (manyG f.2 : Int) 0 = _ from e, some_bind]⟩
theorem goalsOf_L0 (f : Bool × List DSaid) (hf : goodTr f.2 = true) (R : List (Bool × List Int)) (hR : OpsAre f.2 f.2.length R) (d : Nat) : ∀ (i : Nat) (b : Bool) (o : List (Bool × List Int)), i + d = f.2.length → o.length ≤ i →
    ∃ c X, impl_goalsOf_L0 f (b, o) (false, R) (false, trackL f.2) f (f.2.length : Int) (i : Int) = some (c, o ++ X) ∧ X.map Prod.snd = (List.range' i d).flatMap (goalAt f.2) ∧ X.length ≤ d := by
  have hlim := lim_eq
  obtain ⟨h1, h2⟩ := goodTr_in hf
  have hn := (goodSaid_in h1).2.1
  induction d with
  | zero =>
    intro i b o hi ho
    exact ⟨b, [], by rw [impl_goalsOf_L0_eq, gF (by omega)]; simp, by simp, by simp⟩
  | succ d ih =>
    intro i b o hi ho
    have hlt : i < f.2.length := by omega
    rw [impl_goalsOf_L0_eq, gT (by omega), gT (by omega), gT (by omega), getD_nat, up1 i (by omega), List.range'_succ, List.flatMap_cons]
    by_cases c : (f.2.getD i (0, 0)).1 = 7 ∨ (f.2.getD i (0, 0)).1 = 8
    · obtain ⟨c0, e0⟩ := goal_impl f hf R hR i hlt c
      obtain ⟨c1, X, g1, g2, g3⟩ := ih (i + 1) (b && false) (o ++ [(c0, upTo (manyG f.2) (goalB (trackL f.2) (f.2.getD i (0, 0)).1 (i : Int)))]) (by omega) (by simp; omega)
      refine ⟨c1, (c0, upTo (manyG f.2) (goalB (trackL f.2) (f.2.getD i (0, 0)).1 (i : Int))) :: X, ?_, ?_, by simp; omega⟩
      · simp only [e0, some_bind]
        rcases c with c | c <;> simp only [c, Int.reduceBNe, bne_self_eq_false, cond_true, cond_false] <;> rw [c] at g1 <;> rw [gT (by simp; omega), bind_id, g1] <;> simp
      · rw [goalAt, if_pos c, List.map_cons, g2]
        rfl
    · obtain ⟨c1, X, g1, g2, g3⟩ := ih (i + 1) b o (by omega) (by omega)
      refine ⟨c1, X, ?_, ?_, by omega⟩
      · rw [bT (by rw [bne_iff_ne]; omega), bT (by rw [bne_iff_ne]; omega), bind_id, g1]
      · rw [goalAt, if_neg c, g2]
        rfl
theorem goalsOf (f : Bool × List DSaid) (hf : goodTr f.2 = true) : ∃ c X, impl_goalsOf f = some (c, X) ∧ X.map Prod.snd = goalsL f.2 ∧ X.length ≤ f.2.length := by
  obtain ⟨h1, h2⟩ := goodTr_in hf
  obtain ⟨R, r1, hR⟩ := opsAre f h1
  obtain ⟨c, X, g1, g2, g3⟩ := goalsOf_L0 f hf R hR f.2.length 0 false [] (by omega) (by simp)
  have g1' : impl_goalsOf_L0 f (false, []) (false, R) (false, trackL f.2) f (f.2.length : Int) 0 = _ := g1
  exact ⟨c, X, by rw [impl_goalsOf_eq, r1, some_bind, tracked f h1, some_bind]; simp only [g1', some_bind]; rfl, by rw [g2, goalsL, List.range_eq_range'], g3⟩
/-- the guesses in which the root does not hold -/
def rootL (f : List DSaid) : List Int := upTo (manyG f) fun g => !saysL (trackL f) g ((f.length : Int) - 1)
theorem rooted (f : Bool × List DSaid) (hf : goodTr f.2 = true) : ∃ c, impl_rooted f false = some (c, rootL f.2) := by
  have hlim := lim_eq
  obtain ⟨h1, h2⟩ := goodTr_in hf
  have hn := (goodSaid_in h1).2.1
  have hm := manyG_in hf
  have one : ∀ g : Int, impl_rooted_1 g (false, trackL f.2) f false = some (!saysL (trackL f.2) g ((f.2.length : Int) - 1)) := by
    intro g
    rw [impl_rooted_1_eq, wr (by omega), assumes (false, trackL f.2) (by simp only; omega) g _ tr_root, some_bind]
    cases saysL (trackL f.2) g ((f.2.length : Int) - 1) <;> rfl
  obtain ⟨c, e⟩ := upTo_loop (manyG f.2) (fun g => !saysL (trackL f.2) g ((f.2.length : Int) - 1)) (fun o j => impl_guessesWith_by_rooted_1_L0 ((false, trackL f.2), (f, (false, ()))) o (manyG f.2 : Int) j) (fun j b o hj ho => by
    have tl : decide (o.length + [(j : Int)].length ≤ lim) = true := decide_eq_true (by simp; omega)
    rw [impl_guessesWith_by_rooted_1_L0_eq, gT (by omega)]
    simp only [one, some_bind, up1 j (by omega), bind_id, tl, cond_true]) (fun b o => by
    rw [impl_guessesWith_by_rooted_1_L0_eq, gF (by omega)]) false
  have e' : impl_guessesWith_by_rooted_1_L0 ((false, trackL f.2), (f, (false, ()))) (false, []) (manyG f.2 : Int) 0 = _ := e
  exact ⟨c, by rw [impl_rooted_eq, tracked f h1, some_bind, impl_guessesWith_by_rooted_1_eq, guesses f hf, some_bind]; simp only [e', some_bind]; rfl⟩
noncomputable def edgeRow (f : Bool × List DSaid) (g l : Nat) : List DEdge := ((List.range (manyG f.2)).filter fun h : Nat => gssF f (l : Int) (h : Int) == g).map fun h : Nat => ((g : Int), ((l : Int), (h : Int)))
noncomputable def edgesL (f : Bool × List DSaid) : List DEdge := (List.range (manyG f.2)).flatMap fun g => (List.range 8).flatMap fun l => edgeRow f g l
theorem auto_L4 (f : Bool × List DSaid) (hf : goodTr f.2 = true) (tb nt : Bool) (o0 : Int) (o1 : Bool × List Int) (o3 : Bool × List (Bool × List Int)) (g l : Nat) (d : Nat) : ∀ (j : Nat) (b : Bool) (E : List DEdge), j + d = manyG f.2 → E.length + d ≤ 1000000 →
    ∃ c, spec_l13Auto_L4 f nt (tb, trackL f.2) (manyG f.2 : Int) o0 o1 (b, E) o3 (g : Int) (l : Int) (j : Int) = some (o0, o1, (c, E ++ ((List.range' j d).filter fun h : Nat => gssF f (l : Int) (h : Int) == g).map fun h : Nat => ((g : Int), ((l : Int), (h : Int)))), o3) := by
  have hlim := lim_eq
  have hm := manyG_in hf
  induction d with
  | zero =>
    intro j b E hj hE
    exact ⟨b, by rw [spec_l13Auto_L4_eq, gF (by omega)]; simp⟩
  | succ d ih =>
    intro j b E hj hE
    rw [spec_l13Auto_L4_eq, gT (by omega), (guess_both f hf (l : Int) (j : Int) tb).2.1, some_bind, up1 j (by omega), List.range'_succ, List.filter_cons]
    by_cases e : gssF f (l : Int) (j : Int) = g
    · obtain ⟨c, h⟩ := ih (j + 1) (b && false) (E ++ [((g : Int), ((l : Int), (j : Int)))]) (by omega) (by simp; omega)
      refine ⟨c, ?_⟩
      rw [e, beq_self_eq_true, beq_self_eq_true, cond_true, if_pos rfl, gT (by simp; omega), bind_id, h]
      simp
    · obtain ⟨c, h⟩ := ih (j + 1) b E (by omega) (by omega)
      refine ⟨c, ?_⟩
      rw [show ((gssF f (l : Int) (j : Int) : Int) == (g : Int)) = false from beqF (by omega), cond_false, show (gssF f (l : Int) (j : Int) == g) = false from by rw [beq_eq_false_iff_ne]; exact e, if_neg (by decide), bind_id, h]
theorem edgeRow_length (f : Bool × List DSaid) (g l : Nat) : (edgeRow f g l).length ≤ manyG f.2 := by
  rw [edgeRow, List.length_map]
  refine Nat.le_trans (List.length_filter_le _ _) ?_
  simp
theorem flat_length {α β : Type} (l : List α) (h : α → List β) (n : Nat) (hn : ∀ x ∈ l, (h x).length ≤ n) : (l.flatMap h).length ≤ l.length * n := by
  induction l with
  | nil => simp
  | cons x l ih =>
    have h1 := hn x List.mem_cons_self
    have h2 := ih fun y hy => hn y (List.mem_cons_of_mem _ hy)
    rw [List.flatMap_cons, List.length_append, List.length_cons, Nat.add_mul]
    omega
theorem auto_L2 (f : Bool × List DSaid) (hf : goodTr f.2 = true) (tb nt : Bool) (o0 : Int) (o1 : Bool × List Int) (o3 : Bool × List (Bool × List Int)) (g : Nat) (d : Nat) : ∀ (l : Nat) (b : Bool) (E : List DEdge), l + d = 8 → E.length + 32 * d ≤ 100000 →
    ∃ c, spec_l13Auto_L2 f nt (tb, trackL f.2) (manyG f.2 : Int) o0 o1 (b, E) o3 (g : Int) (l : Int) = some (o0, o1, (c, E ++ (List.range' l d).flatMap fun l => edgeRow f g l), o3) := by
  have hm := manyG_in hf
  induction d with
  | zero =>
    intro l b E hl hE
    exact ⟨b, by rw [spec_l13Auto_L2_eq, gF (by omega)]; simp⟩
  | succ d ih =>
    intro l b E hl hE
    obtain ⟨c, h⟩ := auto_L4 f hf tb nt o0 o1 o3 g l (manyG f.2) 0 b E (by omega) (by omega)
    rw [← List.range_eq_range'] at h
    have hr := edgeRow_length f g l
    obtain ⟨c2, h2⟩ := ih (l + 1) c (E ++ edgeRow f g l) (by omega) (by simp; omega)
    refine ⟨c2, ?_⟩
    have h' : spec_l13Auto_L4 f nt (tb, trackL f.2) (manyG f.2 : Int) o0 (o1.1, o1.2) (b, E) o3 (g : Int) (l : Int) 0 = _ := h
    rw [spec_l13Auto_L2_eq, gT (by omega)]
    simp only [h', some_bind, bind_id, up1 l (by omega)]
    have h2' : spec_l13Auto_L2 f nt (tb, trackL f.2) (manyG f.2 : Int) o0 (o1.1, o1.2) (c, E ++ edgeRow f g l) o3 (g : Int) ((l + 1 : Nat) : Int) = _ := h2
    rw [List.range'_succ, List.flatMap_cons, ← List.append_assoc]
    exact h2'
theorem auto_L0 (f : Bool × List DSaid) (hf : goodTr f.2 = true) (tb : Bool) (o0 : Int) (o3 : Bool × List (Bool × List Int)) (d : Nat) : ∀ (g : Nat) (a b : Bool) (o : List Int) (E : List DEdge), g + d = manyG f.2 → o.length ≤ g → E.length ≤ 256 * g →
    ∃ c c', spec_l13Auto_L0 f true (tb, trackL f.2) (manyG f.2 : Int) o0 (a, o) (b, E) o3 (g : Int) = some (o0, (c, o ++ ((List.range' g d).filter fun j : Nat => !saysL (trackL f.2) (j : Int) ((f.2.length : Int) - 1)).map Int.ofNat), (c', E ++ (List.range' g d).flatMap fun g => (List.range 8).flatMap fun l => edgeRow f g l), o3) := by
  have hlim := lim_eq
  have hm := manyG_in hf
  obtain ⟨h1, h2⟩ := goodTr_in hf
  have hn := (goodSaid_in h1).2.1
  induction d with
  | zero =>
    intro g a b o E hg ho hE
    exact ⟨a, b, by rw [spec_l13Auto_L0_eq, gF (by omega)]; simp⟩
  | succ d ih =>
    intro g a b o E hg ho hE
    have hlen : ((List.range 8).flatMap fun l => edgeRow f g l).length ≤ 256 := by
      have := flat_length (List.range 8) (fun l => edgeRow f g l) 32 (fun l _ => by have := edgeRow_length f g l; omega)
      simpa using this
    have says := l13Says (tb, trackL f.2) (by simp only; omega) (g : Int) ((f.2.length : Int) - 1)
    rw [spec_l13Auto_L0_eq, gT (by omega), wr (n := (f.2.length : Int) - 1) (by omega), says, some_bind, up1 g (by omega), List.range'_succ, List.filter_cons, List.flatMap_cons]
    have two8 : ∀ (a : Bool) (o : List Int), ∃ c, spec_l13Auto_L2 f true (tb, trackL f.2) (manyG f.2 : Int) o0 (a, o) (b, E) o3 (g : Int) 0 = some (o0, (a, o), (c, E ++ (List.range 8).flatMap fun l => edgeRow f g l), o3) := by
      intro a o
      obtain ⟨c, h⟩ := auto_L2 f hf tb true o0 (a, o) o3 g 8 0 b E (by omega) (by omega)
      rw [← List.range_eq_range'] at h
      exact ⟨c, h⟩
    cases hs : saysL (trackL f.2) (g : Int) ((f.2.length : Int) - 1) with
    | false =>
      obtain ⟨c, e⟩ := two8 (a && false) (o ++ [(g : Int)])
      obtain ⟨c2, c3, e2⟩ := ih (g + 1) (a && false) c (o ++ [(g : Int)]) (E ++ (List.range 8).flatMap fun l => edgeRow f g l) (by omega) (by simp; omega) (by rw [List.length_append]; omega)
      refine ⟨c2, c3, ?_⟩
      rw [show (!(false == true)) = true from rfl, cond_true, gT (by simp; omega), e, some_bind]
      simp only
      rw [bind_id, e2]
      simp
    | true =>
      obtain ⟨c, e⟩ := two8 a o
      obtain ⟨c2, c3, e2⟩ := ih (g + 1) a c o (E ++ (List.range 8).flatMap fun l => edgeRow f g l) (by omega) (by omega) (by rw [List.length_append]; omega)
      refine ⟨c2, c3, ?_⟩
      rw [show (!(true == true)) = false from rfl, cond_false, e, some_bind]
      simp only
      rw [bind_id, e2]
      simp
theorem l13Auto (f : Bool × List DSaid) (hf : goodTr f.2 = true) : ∃ c c' c'' X, spec_l13Auto f true = some ((manyG f.2 : Int), (c, rootL f.2), (c', edgesL f), (c'', X)) ∧ X.map Prod.snd = goalsL f.2 ∧ X.length ≤ f.2.length := by
  obtain ⟨h1, h2⟩ := goodTr_in hf
  have hn := (goodSaid_in h1).2.1
  have hm := manyG_in hf
  obtain ⟨tb, e1⟩ := l13Tracked f (by omega)
  obtain ⟨c'', X, g1, g2, g3⟩ := l13Goals f hf tb
  have em : bShl .i64 1 (IntKind.u64.wrap ((trackL f.2).length : Int)) = (manyG f.2 : Int) := by rw [wru (by omega), many_shl _ h2]; rfl
  obtain ⟨c, c', e2⟩ := auto_L0 f hf tb (manyG f.2 : Int) (c'', X) (manyG f.2) 0 true true [] [] (by omega) (by simp) (by simp)
  have e2' : spec_l13Auto_L0 f true (tb, trackL f.2) (manyG f.2 : Int) (manyG f.2 : Int) (true, []) (true, []) (c'', X) 0 = _ := e2
  refine ⟨c, c', c'', X, ?_, g2, g3⟩
  rw [spec_l13Auto_eq, e1, some_bind, gF (by rw [wru (by simp only; omega)]; simp only; omega), g1, some_bind]
  simp only [em, e2', some_bind, rootL, upTo, edgesL, List.nil_append, List.range_eq_range']
theorem edges_length (f : Bool × List DSaid) (hf : goodTr f.2 = true) : (edgesL f).length ≤ 8192 := by
  have hm := manyG_in hf
  have h1 := flat_length (List.range (manyG f.2)) (fun g => (List.range 8).flatMap fun l => edgeRow f g l) 256 (fun g _ => by
    have := flat_length (List.range 8) (fun l => edgeRow f g l) 32 (fun l _ => by have := edgeRow_length f g l; omega)
    simpa using this)
  rw [List.length_range] at h1
  rw [edgesL]
  omega
theorem mem_edgesL {f : Bool × List DSaid} {x : DEdge} : x ∈ edgesL f ↔ ∃ g l h : Nat, g < manyG f.2 ∧ l < 8 ∧ h < manyG f.2 ∧ gssF f (l : Int) (h : Int) = g ∧ x = ((g : Int), ((l : Int), (h : Int))) := by
  simp only [edgesL, edgeRow, List.mem_flatMap, List.mem_map, List.mem_filter, List.mem_range, beq_iff_eq]
  constructor
  · rintro ⟨g, h1, l, h2, h, ⟨h3, h4⟩, rfl⟩
    exact ⟨g, l, h, h1, h2, h3, h4, rfl⟩
  · rintro ⟨g, l, h, h1, h2, h3, h4, rfl⟩
    exact ⟨g, h1, l, h2, h, ⟨h3, h4⟩, rfl⟩
def rowAt (X : List (Bool × List Int)) (k : Nat) : List Int := (X.getD k (true, [])).2
/-- what some puts hand to a row -/
def pick (S : List (Nat × Int)) (k : Nat) : List Int := (S.filter fun e => e.1 == k).map Prod.snd
theorem pick_append (S S' : List (Nat × Int)) (k : Nat) : pick (S ++ S') k = pick S k ++ pick S' k := by
  simp [pick]
theorem pick_length (S : List (Nat × Int)) (k : Nat) : (pick S k).length ≤ S.length := by
  rw [pick, List.length_map]
  exact List.length_filter_le _ _
theorem mem_pick {S : List (Nat × Int)} {k : Nat} {z : Int} : z ∈ pick S k ↔ (k, z) ∈ S := by
  simp only [pick, List.mem_map, List.mem_filter, beq_iff_eq]
  constructor
  · rintro ⟨⟨a, b⟩, ⟨h1, h2⟩, h3⟩
    simp only at h2 h3
    subst h2 h3
    exact h1
  · intro h
    exact ⟨(k, z), ⟨h, rfl⟩, rfl⟩
/-- rows, with some puts done -/
structure Did (X X' : List (Bool × List Int)) (S : List (Nat × Int)) : Prop where
  len : X'.length = X.length
  row : ∀ k : Nat, k < X.length → rowAt X' k = rowAt X k ++ pick S k
def Bnd (X : List (Bool × List Int)) (n : Nat) : Prop := ∀ k : Nat, k < X.length → (rowAt X k).length ≤ n
theorem Did.refl (X : List (Bool × List Int)) : Did X X [] := ⟨rfl, fun k _ => by simp [pick]⟩
theorem Did.trans {X X' X'' : List (Bool × List Int)} {S S' : List (Nat × Int)} (h : Did X X' S) (h' : Did X' X'' S') : Did X X'' (S ++ S') := by
  refine ⟨by rw [h'.len, h.len], fun k hk => ?_⟩
  rw [h'.row k (by rw [h.len]; exact hk), h.row k hk, pick_append, List.append_assoc]
theorem Did.bnd {X X' : List (Bool × List Int)} {S : List (Nat × Int)} (h : Did X X' S) {n : Nat} (hb : Bnd X n) : Bnd X' (n + S.length) := by
  intro k hk
  rw [h.len] at hk
  rw [h.row k hk, List.length_append]
  have := hb k hk
  have := pick_length S k
  omega
theorem Did.put {X : List (Bool × List Int)} {k : Nat} (hk : k < X.length) (b : Bool) (z : Int) : Did X (X.set k (b, rowAt X k ++ [z])) [(k, z)] := by
  refine ⟨List.length_set, fun j hj => ?_⟩
  by_cases e : k = j
  · subst e
    simp [rowAt, List.getD_eq_getElem?_getD, hk, pick]
  · have e' : (k == j) = false := by rw [beq_eq_false_iff_ne]; exact e
    simp [rowAt, List.getD_eq_getElem?_getD, List.getElem?_set_ne e, pick, e']
theorem pick_flat {α : Type} (l : List α) (S : α → List (Nat × Int)) (k : Nat) : pick (l.flatMap S) k = l.flatMap fun a => pick (S a) k := by
  induction l with
  | nil => rfl
  | cons a l ih => rw [List.flatMap_cons, List.flatMap_cons, pick_append, ih]
/-- among pieces of which one alone is not empty, the whole is that one -/
theorem flatMap_lone {β : Type} (P : Nat → List β) (c : Nat) (h : ∀ a, a ≠ c → P a = []) (d : Nat) : ∀ i : Nat, (List.range' i d).flatMap P = if i ≤ c ∧ c < i + d then P c else [] := by
  induction d with
  | zero => intro i; rw [if_neg (by omega)]; rfl
  | succ d ih =>
    intro i
    rw [List.range'_succ, List.flatMap_cons, ih (i + 1)]
    by_cases e : i = c
    · subst e
      rw [if_neg (by omega), if_pos (by omega), List.append_nil]
    · rw [h i e, List.nil_append]
      by_cases e2 : i + 1 ≤ c ∧ c < i + 1 + d
      · rw [if_pos e2, if_pos (by omega)]
      · rw [if_neg e2, if_neg (by omega)]
theorem rising_append {a b : List Int} (ha : Rising a) (hb : Rising b) (h : ∀ x ∈ a, ∀ y ∈ b, x < y) : Rising (a ++ b) := List.pairwise_append.2 ⟨ha, hb, h⟩
theorem rising_blocks (l : List Int) (hl : Rising l) (P : Int → List Int) (m : Int) (h1 : ∀ x ∈ l, Rising (P x)) (h2 : ∀ x ∈ l, ∀ y ∈ P x, x * m ≤ y ∧ y < (x + 1) * m) (hm : 0 < m) : Rising (l.flatMap P) := by
  induction l with
  | nil => exact List.Pairwise.nil
  | cons x l ih =>
    rw [List.flatMap_cons]
    refine rising_append (h1 x List.mem_cons_self) (ih (List.Pairwise.of_cons hl) (fun y hy => h1 y (List.mem_cons_of_mem _ hy)) (fun y hy => h2 y (List.mem_cons_of_mem _ hy))) (fun a ha b hb => ?_)
    obtain ⟨y, hy, hb⟩ := List.mem_flatMap.1 hb
    have hxy := List.rel_of_pairwise_cons hl hy
    have a1 := h2 x List.mem_cons_self a ha
    have b1 := h2 y (List.mem_cons_of_mem _ hy) b hb
    have : (x + 1) * m ≤ y * m := Int.mul_le_mul_of_nonneg_right (by omega) (by omega)
    omega
theorem sortL_of_rising {a b : List Int} (hb : Rising b) (h : ∀ x, x ∈ a ↔ x ∈ b) : sortL a = b := rising_ext _ _ (sortL_rising a) hb fun x => by rw [sortL_mem, h x]
theorem stepsL_in {p : DProgram} {v : List Int} (h : Sees p v) (c : Int) : ∀ x ∈ stepsL p v c, 0 ≤ x ∧ x < manyC v := by
  intro x hx
  rw [stepsL, sortL_mem] at hx
  exact clsL_in v (fun y hy => (h.inn y hy).1) _ (fun y hy => by rw [h.len]; exact nextsL_in h.ok _ (h.inClass c) y hy) x hx
noncomputable def ltC (q : DQuestion) (v : DSight) (c : Int) : Int := (spec_l22Letter q v c).getD 0
theorem ltC_both {q : DQuestion} (h : Asks q) {v : DSight} (hv : Sees q.1 v.2) (hf : FitQ q v.2) (c : Int) (hc : c ∈ v.2) :
    spec_l22Letter q v c = some (ltC q v c) ∧ impl_classLetter q v c = some (ltC q v c) ∧ 0 ≤ ltC q v c ∧ ltC q v c ≤ 7 := by
  obtain ⟨r, e1, e2, e3, e4, _⟩ := classLetter_both h hv hf c hc v.1 v.1
  have e1' : spec_l22Letter q v c = some r := e1
  have : ltC q v c = r := by rw [ltC, e1']; rfl
  rw [this]
  exact ⟨e1', e2, e3, e4⟩
theorem beside_L4 (q : DQuestion) (v : DSight) (a : DAuto) (many c L : Int) (after : Bool × List Int) (e : DEdge) (t47 : Bool × List DEdge) (t48 t49 : Int) (idx : Nat) (hidx : IntKind.i64.wrap (IntKind.i64.wrap (c * a.1) + e.1) = (idx : Int))
    (val : Int → Int) (hval : ∀ to ∈ after.2, IntKind.i64.wrap (IntKind.i64.wrap (to * a.1) + e.2.2) = val to) (hal : after.2.length ≤ 1000) (d : Nat) : ∀ (i : Nat) (X : List (Bool × List Int)) (n : Nat), i + d = after.2.length → idx < X.length → Bnd X n → n + d ≤ 1000000000 →
    ∃ X', spec_l22Beside_L4 q v a many (false, X) c L after e t47 t48 t49 after (after.2.length : Int) (i : Int) = some (false, X') ∧ Did X X' ((after.2.drop i).map fun to => (idx, val to)) := by
  have hlim := lim_eq
  induction d with
  | zero =>
    intro i X n hi hX hB hn
    refine ⟨X, by rw [spec_l22Beside_L4_eq, gF (by omega)], ?_⟩
    rw [List.drop_of_length_le (by omega)]
    exact Did.refl X
  | succ d ih =>
    intro i X n hi hX hB hn
    have hlt : i < after.2.length := by omega
    have hb : (X.getD idx (true, [])).2.length ≤ n := hB idx hX
    have hput := Did.put hX ((X.getD idx (true, [])).1 && false) (val after.2[i])
    obtain ⟨X', g1, g2⟩ := ih (i + 1) (X.set idx ((X.getD idx (true, [])).1 && false, rowAt X idx ++ [val after.2[i]])) (n + 1) (by omega) (by rw [List.length_set]; exact hX) (hput.bnd hB) (by omega)
    have eg : after.2.getD i 0 = after.2[i] := by simp [List.getD_eq_getElem?_getD, hlt]
    refine ⟨X', ?_, ?_⟩
    · rw [spec_l22Beside_L4_eq]
      simp only [gT (show (i : Int) < (after.2.length : Int) by omega), gT (show (0 : Int) ≤ (i : Int) by omega), eg, hidx, hval _ (List.getElem_mem hlt), Int.toNat_natCast, gT (show (0 : Int) ≤ (idx : Int) by omega), gT (show (idx : Int) < (X.length : Int) by omega), beq_self_eq_true, cond_true, up1 i (by omega), bind_id]
      rw [gT (by simp only [List.length_cons, List.length_nil]; omega)]
      exact g1
    · rw [List.drop_eq_getElem_cons hlt, List.map_cons]
      exact hput.trans g2
/-- the puts for an edge of the automaton -/
def edgeS (c : Nat) (L : Int) (m : Nat) (after : List Int) (e : DEdge) : List (Nat × Int) := if e.2.1 = L then after.map fun to => (c * m + e.1.toNat, to * m + e.2.2) else []
theorem cell_in {c g m n : Nat} (hc : c < n) (hg : g < m) : c * m + g < n * m := by
  have : (c + 1) * m ≤ n * m := Nat.mul_le_mul_right _ hc
  rw [Nat.add_mul] at this
  omega
theorem cell_wrap {c g m n : Nat} (hc : c < n) (hg : g < m) (hn : n ≤ 40) (hm : m ≤ 40) : IntKind.i64.wrap (IntKind.i64.wrap ((c : Int) * (m : Int)) + (g : Int)) = ((c * m + g : Nat) : Int) := by
  have h1 : c * m ≤ 40 * 40 := Nat.mul_le_mul (by omega) hm
  have e : (c : Int) * (m : Int) = ((c * m : Nat) : Int) := (Int.natCast_mul c m).symm
  rw [e, wr (n := ((c * m : Nat) : Int)) (by omega), wr (by omega)]
  omega
theorem val_wrap {to : Int} {g m n : Nat} (h0 : 0 ≤ to ∧ to < (n : Int)) (hg : g < m) (hn : n ≤ 40) (hm : m ≤ 40) : IntKind.i64.wrap (IntKind.i64.wrap (to * (m : Int)) + (g : Int)) = to * m + g := by
  obtain ⟨t, rfl⟩ := Int.eq_ofNat_of_zero_le h0.1
  rw [cell_wrap (c := t) (g := g) (m := m) (n := n) (by omega) hg hn hm]
  push_cast
  rfl
theorem edgeS_length (c : Nat) (L : Int) (m : Nat) (after : List Int) (e : DEdge) : (edgeS c L m after e).length ≤ after.length := by
  unfold edgeS
  split
  · rw [List.length_map]; exact Nat.le_refl _
  · simp
theorem beside_L2 (q : DQuestion) (v : DSight) (a : DAuto) (m n : Nat) (ha : a.1 = (m : Int)) (hm : m ≤ 40) (hn : n ≤ 40) (many : Int) (c : Nat) (hc : c < n) (L : Int) (after : Bool × List Int) (hal : after.2.length ≤ 40) (hin : ∀ to ∈ after.2, 0 ≤ to ∧ to < (n : Int))
    (E : Bool × List DEdge) (hE : ∀ e ∈ E.2, ∃ g l h : Nat, g < m ∧ h < m ∧ e = ((g : Int), ((l : Int), (h : Int)))) (hEl : E.2.length ≤ 10000) (d : Nat) : ∀ (i : Nat) (X : List (Bool × List Int)) (b : Nat), i + d = E.2.length → X.length = n * m → Bnd X b → b + 40 * d ≤ 900000000 →
    ∃ X', spec_l22Beside_L2 q v a many (false, X) (c : Int) L after E (E.2.length : Int) (i : Int) = some (false, X') ∧ Did X X' ((E.2.drop i).flatMap (edgeS c L m after.2)) := by
  induction d with
  | zero =>
    intro i X b hi hX hB hb
    refine ⟨X, by rw [spec_l22Beside_L2_eq, gF (by omega)], ?_⟩
    rw [List.drop_of_length_le (by omega)]
    exact Did.refl X
  | succ d ih =>
    intro i X b hi hX hB hb
    have hlt : i < E.2.length := by omega
    obtain ⟨g, l, h, hg, hh, he⟩ := hE _ (List.getElem_mem hlt)
    rw [spec_l22Beside_L2_eq, gT (by omega), gT (by omega), gT (by omega), getD_at E.2 _ i hlt, up1 i (by omega), List.drop_eq_getElem_cons hlt, List.flatMap_cons]
    by_cases e : E.2[i].2.1 = L
    · have hS : edgeS c L m after.2 E.2[i] = after.2.map fun to => (c * m + g, to * m + (h : Int)) := by
        unfold edgeS
        rw [if_pos e, he]
        rfl
      obtain ⟨X1, g1, g2⟩ := beside_L4 q v a many (c : Int) L after E.2[i] E (E.2.length : Int) (i : Int) (c * m + g) (by rw [ha, he]; exact cell_wrap hc hg hn hm) (fun to => to * m + (h : Int)) (fun to hto => by rw [ha, he]; exact val_wrap (hin to hto) hh hn hm) (by omega) after.2.length 0 X b (by omega) (by rw [hX]; exact cell_in hc hg) hB (by omega)
      rw [List.drop_zero, ← hS] at g2
      have hlen := edgeS_length c L m after.2 E.2[i]
      obtain ⟨X', g3, g4⟩ := ih (i + 1) X1 (b + (edgeS c L m after.2 E.2[i]).length) (by omega) (by rw [g2.len]; exact hX) (g2.bnd hB) (by omega)
      refine ⟨X', ?_, g2.trans g4⟩
      have g1' : spec_l22Beside_L4 q v a many (false, X) (c : Int) L after E.2[i] E (E.2.length : Int) (i : Int) after (after.2.length : Int) 0 = _ := g1
      rw [bT (by rw [beq_iff_eq]; exact e)]
      simp only [g1', some_bind, bind_id, g3]
    · have hS : edgeS c L m after.2 E.2[i] = [] := if_neg e
      obtain ⟨X', g3, g4⟩ := ih (i + 1) X b (by omega) hX hB (by omega)
      refine ⟨X', ?_, ?_⟩
      · rw [bF (beqF e), bind_id, g3]
      · rw [hS, List.nil_append]
        exact g4
/-- the puts for a class, as the reference does them -/
noncomputable def specS (q : DQuestion) (v : DSight) (c : Nat) : List (Nat × Int) := (edgesL q.2.2).flatMap (edgeS c (ltC q v (c : Int)) (manyG q.2.2.2) (stepsL q.1 v.2 (c : Int)))
theorem beside_L0 {q : DQuestion} (h : Asks q) {v : DSight} (hv : Sees q.1 v.2) (hg : goodSight q.1 v.2 = true) (hf : FitQ q v.2) (n : Nat) (hn : manyC v.2 = n) (cf ce : Bool) (G : Bool × List (Bool × List Int)) (d : Nat) : ∀ (c : Nat) (X : List (Bool × List Int)) (b : Nat), c + d = n → X.length = n * manyG q.2.2.2 → Bnd X b → b + 400000 * d ≤ 800000000 →
    ∃ X', spec_l22Beside_L0 q v ((manyG q.2.2.2 : Int), (cf, rootL q.2.2.2), (ce, edgesL q.2.2), G) (n : Int) (false, X) (c : Int) = some (false, X') ∧ Did X X' ((List.range' c d).flatMap (specS q v)) := by
  have hmc := manyC_in v.2 hv.inn
  have hm := manyG_in h.tr
  have hel := edges_length q.2.2 h.tr
  induction d with
  | zero =>
    intro c X b hc hX hB hb
    exact ⟨X, by rw [spec_l22Beside_L0_eq, gF (by omega)], Did.refl X⟩
  | succ d ih =>
    intro c X b hc hX hB hb
    obtain ⟨l1, l2, l3, l4⟩ := ltC_both h hv hf (c : Int) (manyC_has hg (c : Int) (by omega))
    obtain ⟨sb, e1⟩ := l17Steps hv v.1 (c : Int)
    have e1' : spec_l17Steps q.1 v (c : Int) = some (sb, stepsL q.1 v.2 (c : Int)) := e1
    have hsl := stepsL_length hv (c : Int)
    have hsi := stepsL_in hv (c : Int)
    obtain ⟨X1, g1, g2⟩ := beside_L2 q v ((manyG q.2.2.2 : Int), (cf, rootL q.2.2.2), (ce, edgesL q.2.2), G) (manyG q.2.2.2) n rfl (by omega) (by omega) (n : Int) c (by omega) (ltC q v (c : Int)) (sb, stepsL q.1 v.2 (c : Int)) hsl (fun to hto => by rw [← hn]; exact hsi to hto)
      (ce, edgesL q.2.2) (fun e he => by obtain ⟨g, l, h, a1, _, a3, _, a5⟩ := mem_edgesL.1 he; exact ⟨g, l, h, a1, a3, a5⟩) (by simp only; omega) (edgesL q.2.2).length 0 X b (by simp) hX hB (by omega)
    rw [List.drop_zero] at g2
    have hSl : (specS q v c).length ≤ 400000 := by
      have := flat_length (edgesL q.2.2) (edgeS c (ltC q v (c : Int)) (manyG q.2.2.2) (stepsL q.1 v.2 (c : Int))) 40 (fun e _ => by have := edgeS_length c (ltC q v (c : Int)) (manyG q.2.2.2) (stepsL q.1 v.2 (c : Int)) e; omega)
      rw [specS]
      omega
    have g2' : Did X X1 (specS q v c) := g2
    obtain ⟨X', g3, g4⟩ := ih (c + 1) X1 (b + (specS q v c).length) (by omega) (by rw [g2'.len]; exact hX) (g2'.bnd hB) (by omega)
    refine ⟨X', ?_, ?_⟩
    · have g1' : spec_l22Beside_L2 q v ((manyG q.2.2.2 : Int), (cf, rootL q.2.2.2), (ce, edgesL q.2.2), G) (n : Int) (false, X) (c : Int) (ltC q v (c : Int)) (sb, stepsL q.1 v.2 (c : Int)) (ce, edgesL q.2.2) ((edgesL q.2.2).length : Int) 0 = _ := g1
      rw [spec_l22Beside_L0_eq, gT (by omega), l1, some_bind, e1', some_bind]
      simp only [g1', some_bind, up1 c (by omega), bind_id, g3]
    · rw [List.range'_succ, List.flatMap_cons]
      exact g2'.trans g4
theorem cBeside_L4 {q : DQuestion} (h : Asks q) (v : DSight) (all_ : Int) (goals : Bool × List (Bool × List Int)) (n c : Nat) (hn : n ≤ 40) (hc : c < n) (L to : Int) (hto : 0 ≤ to ∧ to < (n : Int)) (t31 t32 : Int) (t43 : Bool × List Int) (t44 t45 : Int) (d : Nat) : ∀ (j : Nat) (X : List (Bool × List Int)) (b : Nat), j + d = manyG q.2.2.2 → X.length = n * manyG q.2.2.2 → Bnd X b → b + d ≤ 1000000000 →
    ∃ X', impl_classBeside_L4 q v all_ (manyG q.2.2.2 : Int) (false, X) goals (c : Int) L to t31 t32 t43 t44 t45 (manyG q.2.2.2 : Int) (j : Int) = some (false, X') ∧ Did X X' ((List.range' j d).map fun j : Nat => (c * manyG q.2.2.2 + gssF q.2.2 L (j : Int), to * (manyG q.2.2.2 : Int) + (j : Int))) := by
  have hlim := lim_eq
  have hm := manyG_in h.tr
  induction d with
  | zero =>
    intro j X b hj hX hB hb
    exact ⟨X, by rw [impl_classBeside_L4_eq, gF (by omega)], Did.refl X⟩
  | succ d ih =>
    intro j X b hj hX hB hb
    obtain ⟨e1, _, e3⟩ := guess_both q.2.2 h.tr L (j : Int) false
    have hidx := cell_wrap (m := manyG q.2.2.2) hc e3 hn (by omega)
    have hval := val_wrap (m := manyG q.2.2.2) (g := j) hto (by omega) hn (by omega)
    have hk : c * manyG q.2.2.2 + gssF q.2.2 L (j : Int) < X.length := by rw [hX]; exact cell_in hc e3
    have hb1 : (X.getD (c * manyG q.2.2.2 + gssF q.2.2 L (j : Int)) (true, [])).2.length ≤ b := hB _ hk
    have hput := Did.put hk ((X.getD (c * manyG q.2.2.2 + gssF q.2.2 L (j : Int)) (true, [])).1 && false) (to * (manyG q.2.2.2 : Int) + (j : Int))
    obtain ⟨X', g1, g2⟩ := ih (j + 1) _ (b + 1) (by omega) (by rw [hput.len]; exact hX) (hput.bnd hB) (by omega)
    refine ⟨X', ?_, ?_⟩
    · rw [impl_classBeside_L4_eq]
      simp only [gT (show (j : Int) < (manyG q.2.2.2 : Int) by omega), e1, some_bind, hidx, hval, Int.toNat_natCast, gT (show (0 : Int) ≤ ((c * manyG q.2.2.2 + gssF q.2.2 L (j : Int) : Nat) : Int) by omega), gT (show ((c * manyG q.2.2.2 + gssF q.2.2 L (j : Int) : Nat) : Int) < (X.length : Int) by omega), beq_self_eq_true, cond_true, up1 j (by omega), bind_id]
      rw [gT (by simp only [List.length_cons, List.length_nil]; omega)]
      exact g1
    · rw [List.range'_succ, List.map_cons]
      exact hput.trans g2
/-- the puts for a step, as the program does them -/
noncomputable def toS (q : DQuestion) (L : Int) (c : Nat) (to : Int) : List (Nat × Int) := (List.range (manyG q.2.2.2)).map fun j : Nat => (c * manyG q.2.2.2 + gssF q.2.2 L (j : Int), to * (manyG q.2.2.2 : Int) + (j : Int))
noncomputable def implS (q : DQuestion) (v : DSight) (c : Nat) : List (Nat × Int) := (stepsL q.1 v.2 (c : Int)).flatMap (toS q (ltC q v (c : Int)) c)
theorem toS_length (q : DQuestion) (L : Int) (c : Nat) (to : Int) : (toS q L c to).length = manyG q.2.2.2 := by simp [toS]
theorem cBeside_L2 {q : DQuestion} (h : Asks q) (v : DSight) (all_ : Int) (goals : Bool × List (Bool × List Int)) (n c : Nat) (hn : n ≤ 40) (hc : c < n) (L : Int) (t31 t32 : Int) (after : Bool × List Int) (hal : after.2.length ≤ 40) (hin : ∀ to ∈ after.2, 0 ≤ to ∧ to < (n : Int)) (d : Nat) : ∀ (i : Nat) (X : List (Bool × List Int)) (b : Nat), i + d = after.2.length → X.length = n * manyG q.2.2.2 → Bnd X b → b + 40 * d ≤ 900000000 →
    ∃ X', impl_classBeside_L2 q v all_ (manyG q.2.2.2 : Int) (false, X) goals (c : Int) L t31 t32 after (after.2.length : Int) (i : Int) = some (false, X') ∧ Did X X' ((after.2.drop i).flatMap (toS q L c)) := by
  have hm := manyG_in h.tr
  induction d with
  | zero =>
    intro i X b hi hX hB hb
    refine ⟨X, by rw [impl_classBeside_L2_eq, gF (by omega)], ?_⟩
    rw [List.drop_of_length_le (by omega)]
    exact Did.refl X
  | succ d ih =>
    intro i X b hi hX hB hb
    have hlt : i < after.2.length := by omega
    obtain ⟨X1, g1, g2⟩ := cBeside_L4 h v all_ goals n c hn hc L (after.2[i]) (hin _ (List.getElem_mem hlt)) t31 t32 after (after.2.length : Int) (i : Int) (manyG q.2.2.2) 0 X b (by omega) hX hB (by omega)
    have g2' : Did X X1 (toS q L c after.2[i]) := by rw [toS, List.range_eq_range']; exact g2
    have hl := toS_length q L c after.2[i]
    obtain ⟨X', g3, g4⟩ := ih (i + 1) X1 (b + (toS q L c after.2[i]).length) (by omega) (by rw [g2'.len]; exact hX) (g2'.bnd hB) (by omega)
    refine ⟨X', ?_, ?_⟩
    · have g1' : impl_classBeside_L4 q v all_ (manyG q.2.2.2 : Int) (false, X) goals (c : Int) L (after.2[i]) t31 t32 after (after.2.length : Int) (i : Int) (manyG q.2.2.2 : Int) 0 = _ := g1
      rw [impl_classBeside_L2_eq, gT (by omega), gT (by omega), gT (by omega), getD_at after.2 _ i hlt, up1 i (by omega)]
      simp only [g1', some_bind, bind_id, g3]
    · rw [List.drop_eq_getElem_cons hlt, List.flatMap_cons]
      exact g2'.trans g4
theorem cBeside_L0 {q : DQuestion} (h : Asks q) {v : DSight} (hv : Sees q.1 v.2) (hg : goodSight q.1 v.2 = true) (hf : FitQ q v.2) (n : Nat) (hn : manyC v.2 = n) (goals : Bool × List (Bool × List Int)) (d : Nat) : ∀ (c : Nat) (X : List (Bool × List Int)) (b : Nat), c + d = n → X.length = n * manyG q.2.2.2 → Bnd X b → b + 2000 * d ≤ 800000000 →
    ∃ X', impl_classBeside_L0 q v (n : Int) (manyG q.2.2.2 : Int) (false, X) goals (n : Int) (c : Int) = some (false, X') ∧ Did X X' ((List.range' c d).flatMap (implS q v)) := by
  have hmc := manyC_in v.2 hv.inn
  have hm := manyG_in h.tr
  induction d with
  | zero =>
    intro c X b hc hX hB hb
    exact ⟨X, by rw [impl_classBeside_L0_eq, gF (by omega)], Did.refl X⟩
  | succ d ih =>
    intro c X b hc hX hB hb
    obtain ⟨l1, l2, l3, l4⟩ := ltC_both h hv hf (c : Int) (manyC_has hg (c : Int) (by omega))
    have e1 := classSteps hv v.1 (c : Int)
    have e1' : impl_classSteps q.1 v (c : Int) = some (false, stepsL q.1 v.2 (c : Int)) := e1
    have hsl := stepsL_length hv (c : Int)
    have hsi := stepsL_in hv (c : Int)
    obtain ⟨X1, g1, g2⟩ := cBeside_L2 h v (n : Int) goals n c (by omega) (by omega) (ltC q v (c : Int)) (n : Int) (c : Int) (false, stepsL q.1 v.2 (c : Int)) hsl (fun to hto => by rw [← hn]; exact hsi to hto) (stepsL q.1 v.2 (c : Int)).length 0 X b (by simp) hX hB (by omega)
    rw [List.drop_zero] at g2
    have g2' : Did X X1 (implS q v c) := g2
    have hSl : (implS q v c).length ≤ 2000 := by
      have := flat_length (stepsL q.1 v.2 (c : Int)) (toS q (ltC q v (c : Int)) c) 32 (fun to _ => by rw [toS_length]; omega)
      rw [implS]
      omega
    obtain ⟨X', g3, g4⟩ := ih (c + 1) X1 (b + (implS q v c).length) (by omega) (by rw [g2'.len]; exact hX) (g2'.bnd hB) (by omega)
    refine ⟨X', ?_, ?_⟩
    · have g1' : impl_classBeside_L2 q v (n : Int) (manyG q.2.2.2 : Int) (false, X) goals (c : Int) (ltC q v (c : Int)) (n : Int) (c : Int) (false, stepsL q.1 v.2 (c : Int)) ((stepsL q.1 v.2 (c : Int)).length : Int) 0 = _ := g1
      rw [impl_classBeside_L0_eq, gT (by omega), l2, some_bind, e1', some_bind]
      simp only [g1', some_bind, up1 c (by omega), bind_id, g3]
    · rw [List.range'_succ, List.flatMap_cons]
      exact g2'.trans g4
def pairsL (A B : List Int) (m : Int) : List Int := A.flatMap fun i => B.map fun x => i * m + x
theorem val_wrapI {to x : Int} {m n : Nat} (h0 : 0 ≤ to ∧ to < (n : Int)) (hx : 0 ≤ x ∧ x < (m : Int)) (hn : n ≤ 40) (hm : m ≤ 40) : IntKind.i64.wrap (IntKind.i64.wrap (to * (m : Int)) + x) = to * m + x := by
  obtain ⟨g, rfl⟩ := Int.eq_ofNat_of_zero_le hx.1
  exact val_wrap h0 (by omega) hn hm
theorem mul_in40 {to : Int} {m n : Nat} (h0 : 0 ≤ to ∧ to < (n : Int)) (hn : n ≤ 40) (hm : m ≤ 40) : 0 ≤ to * (m : Int) ∧ to * (m : Int) ≤ 1600 := by
  obtain ⟨t, rfl⟩ := Int.eq_ofNat_of_zero_le h0.1
  have h1 : t * m ≤ 40 * 40 := Nat.mul_le_mul (by omega) hm
  have e : (t : Int) * (m : Int) = ((t * m : Nat) : Int) := (Int.natCast_mul t m).symm
  rw [e]
  omega
theorem l12Pairs_L2 (B : Bool × List Int) (m n : Nat) (hm : m ≤ 40) (hn : n ≤ 40) (hBl : B.2.length ≤ 1000) (hB : ∀ x ∈ B.2, 0 ≤ x ∧ x < (m : Int)) (i : Int) (hi : 0 ≤ i ∧ i < (n : Int)) (t12 : Bool × List Int) (t13 t14 : Int) (d : Nat) : ∀ (j : Nat) (b : Bool) (o : List Int), j + d = B.2.length → o.length + d ≤ 100000 →
    ∃ c, spec_l12Pairs_L2 B (m : Int) (b, o) i t12 t13 t14 B (B.2.length : Int) (j : Int) = some (c, o ++ (B.2.drop j).map fun x => i * (m : Int) + x) := by
  have hlim := lim_eq
  induction d with
  | zero =>
    intro j b o hj ho
    exact ⟨b, by rw [spec_l12Pairs_L2_eq, gF (by omega), List.drop_of_length_le (by omega)]; simp⟩
  | succ d ih =>
    intro j b o hj ho
    have hlt : j < B.2.length := by omega
    obtain ⟨c, g⟩ := ih (j + 1) (b && false) (o ++ [i * (m : Int) + B.2[j]]) (by omega) (by simp; omega)
    refine ⟨c, ?_⟩
    rw [spec_l12Pairs_L2_eq, gT (by omega), gT (by omega), gT (by omega), getD_at B.2 _ j hlt, val_wrapI hi (hB _ (List.getElem_mem hlt)) hn hm, gT (by simp only [List.length_cons, List.length_nil]; omega), up1 j (by omega), bind_id, g, List.drop_eq_getElem_cons hlt, List.map_cons, List.append_assoc, List.singleton_append]
theorem l12Pairs_L0 (B : Bool × List Int) (m n : Nat) (hm : m ≤ 40) (hn : n ≤ 40) (hBl : B.2.length ≤ 40) (hB : ∀ x ∈ B.2, 0 ≤ x ∧ x < (m : Int)) (A : Bool × List Int) (hAl : A.2.length ≤ 1000) (hA : ∀ x ∈ A.2, 0 ≤ x ∧ x < (n : Int)) (d : Nat) : ∀ (j : Nat) (b : Bool) (o : List Int), j + d = A.2.length → o.length + 40 * d ≤ 50000 →
    ∃ c, spec_l12Pairs_L0 B (m : Int) (b, o) A (A.2.length : Int) (j : Int) = some (c, o ++ pairsL (A.2.drop j) B.2 (m : Int)) := by
  induction d with
  | zero =>
    intro j b o hj ho
    exact ⟨b, by rw [spec_l12Pairs_L0_eq, gF (by omega), List.drop_of_length_le (by omega)]; simp [pairsL]⟩
  | succ d ih =>
    intro j b o hj ho
    have hlt : j < A.2.length := by omega
    obtain ⟨c1, e1⟩ := l12Pairs_L2 B m n hm hn (by omega) hB (A.2[j]) (hA _ (List.getElem_mem hlt)) A (A.2.length : Int) (j : Int) B.2.length 0 b o (by omega) (by omega)
    rw [List.drop_zero] at e1
    obtain ⟨c, g⟩ := ih (j + 1) c1 (o ++ B.2.map fun x => A.2[j] * (m : Int) + x) (by omega) (by simp; omega)
    refine ⟨c, ?_⟩
    have e1' : spec_l12Pairs_L2 B (m : Int) (b, o) (A.2[j]) A (A.2.length : Int) (j : Int) B (B.2.length : Int) 0 = _ := e1
    rw [spec_l12Pairs_L0_eq, gT (by omega), gT (by omega), gT (by omega), getD_at A.2 _ j hlt, up1 j (by omega)]
    simp only [e1', some_bind, bind_id, g]
    rw [List.drop_eq_getElem_cons hlt, pairsL, pairsL, List.flatMap_cons, List.append_assoc]
theorem l12Pairs (B : Bool × List Int) (m n : Nat) (hm : m ≤ 40) (hn : n ≤ 40) (hBl : B.2.length ≤ 40) (hB : ∀ x ∈ B.2, 0 ≤ x ∧ x < (m : Int)) (A : Bool × List Int) (hAl : A.2.length ≤ 1000) (hA : ∀ x ∈ A.2, 0 ≤ x ∧ x < (n : Int)) : ∃ c, spec_l12Pairs A B (m : Int) = some (c, pairsL A.2 B.2 (m : Int)) := by
  obtain ⟨c, e⟩ := l12Pairs_L0 B m n hm hn hBl hB A hAl hA A.2.length 0 true [] (by omega) (by simp; omega)
  have e' : spec_l12Pairs_L0 B (m : Int) (true, []) A (A.2.length : Int) 0 = _ := e
  exact ⟨c, by rw [spec_l12Pairs_eq, e', some_bind, List.drop_zero, List.nil_append]⟩
theorem l12All (n : Nat) (hn : n ≤ 1000) : ∃ c, spec_l12All (n : Int) = some (c, (List.range n).map Int.ofNat) := by
  have hlim := lim_eq
  obtain ⟨c, e⟩ := upTo_loop n (fun _ => true) (fun o j => spec_l12All_L0 (n : Int) o j) (fun j b o hj ho => by
    rw [spec_l12All_L0_eq, gT (by omega), gT (by simp only [List.length_cons, List.length_nil]; omega), up1 j (by omega), bind_id, cond_true]) (fun b o => by
    rw [spec_l12All_L0_eq, gF (by omega)]) true
  have e' : spec_l12All_L0 (n : Int) (true, []) 0 = _ := e
  refine ⟨c, ?_⟩
  rw [spec_l12All_eq, e', some_bind, upTo, List.filter_eq_self.2 (fun _ _ => rfl)]
theorem moved_L0 (B : Bool × List Int) (hBl : B.2.length ≤ 1000) (y : Int) (hy : 0 ≤ y ∧ y ≤ 1600) (hB : ∀ x ∈ B.2, 0 ≤ x ∧ x < 1000) (d : Nat) : ∀ (j : Nat) (b : Bool) (o : List Int), j + d = B.2.length → o.length ≤ j →
    ∃ c, impl_moved_L0 y (b, o) B (B.2.length : Int) (j : Int) = some (c, o ++ (B.2.drop j).map fun x => y + x) := by
  have hlim := lim_eq
  induction d with
  | zero =>
    intro j b o hj ho
    exact ⟨b, by rw [impl_moved_L0_eq, gF (by omega), List.drop_of_length_le (by omega)]; simp⟩
  | succ d ih =>
    intro j b o hj ho
    have hlt : j < B.2.length := by omega
    have hx := hB _ (List.getElem_mem hlt)
    obtain ⟨c, g⟩ := ih (j + 1) (b && false) (o ++ [y + B.2[j]]) (by omega) (by simp; omega)
    refine ⟨c, ?_⟩
    rw [impl_moved_L0_eq, gT (by omega), gT (by omega), gT (by omega), getD_at B.2 _ j hlt, wr (by omega), gT (by simp only [List.length_cons, List.length_nil]; omega), up1 j (by omega), bind_id, Int.add_comm _ y, g, List.drop_eq_getElem_cons hlt, List.map_cons, List.append_assoc, List.singleton_append]
theorem movedL (B : Bool × List Int) (hBl : B.2.length ≤ 1000) (y : Int) (hy : 0 ≤ y ∧ y ≤ 1600) (hB : ∀ x ∈ B.2, 0 ≤ x ∧ x < 1000) : ∃ c, impl_moved B y = some (c, B.2.map fun x => y + x) := by
  obtain ⟨c, e⟩ := moved_L0 B hBl y hy hB B.2.length 0 false [] (by omega) (by simp)
  have e' : impl_moved_L0 y (false, []) B (B.2.length : Int) 0 = _ := e
  exact ⟨c, by rw [impl_moved_eq, e', some_bind, List.drop_zero, List.nil_append]⟩
theorem rootL_in (f : List DSaid) : ∀ x ∈ rootL f, 0 ≤ x ∧ x < (manyG f : Int) := fun x hx => (mem_upTo.1 hx).1
theorem against_L0 {q : DQuestion} (h : Asks q) (n : Nat) (hn : n ≤ 40) (A : Bool × List Int) (hAl : A.2.length ≤ 1000) (hA : ∀ x ∈ A.2, 0 ≤ x ∧ x < (n : Int)) (d : Nat) : ∀ (j : Nat) (b : Bool) (o : List Int), j + d = A.2.length → o.length + 40 * d ≤ 50000 →
    ∃ c, impl_Question_againstFrom_L0 q (b, o) A (A.2.length : Int) (j : Int) = some (c, o ++ pairsL (A.2.drop j) (rootL q.2.2.2) (manyG q.2.2.2 : Int)) := by
  have hlim := lim_eq
  have hm := manyG_in h.tr
  have hfl : (rootL q.2.2.2).length ≤ manyG q.2.2.2 := upTo_length _ _
  obtain ⟨rc, re⟩ := rooted q.2.2 h.tr
  induction d with
  | zero =>
    intro j b o hj ho
    exact ⟨b, by rw [impl_Question_againstFrom_L0_eq, gF (by omega), List.drop_of_length_le (by omega)]; simp [pairsL]⟩
  | succ d ih =>
    intro j b o hj ho
    have hlt : j < A.2.length := by omega
    have hy := mul_in40 (m := manyG q.2.2.2) (hA _ (List.getElem_mem hlt)) hn (by omega)
    obtain ⟨c1, e1⟩ := movedL (rc, rootL q.2.2.2) (by simp only; omega) (A.2[j] * (manyG q.2.2.2 : Int)) hy (fun x hx => by have := rootL_in _ x hx; omega)
    obtain ⟨c, g⟩ := ih (j + 1) (b && ((rootL q.2.2.2).map fun x => A.2[j] * (manyG q.2.2.2 : Int) + x).isEmpty) (o ++ (rootL q.2.2.2).map fun x => A.2[j] * (manyG q.2.2.2 : Int) + x) (by omega) (by simp; omega)
    refine ⟨c, ?_⟩
    rw [impl_Question_againstFrom_L0_eq, gT (by omega), gT (by omega), gT (by omega), getD_at A.2 _ j hlt, re, some_bind, guesses q.2.2 h.tr, some_bind, wr (n := A.2[j] * (manyG q.2.2.2 : Int)) (by omega), up1 j (by omega)]
    simp only [e1, some_bind, bind_id]
    rw [gT (by simp only [List.length_map]; omega), g, List.drop_eq_getElem_cons hlt, pairsL, pairsL, List.flatMap_cons, List.append_assoc]
theorem against {q : DQuestion} (h : Asks q) (n : Nat) (hn : n ≤ 40) (A : Bool × List Int) (hAl : A.2.length ≤ 1000) (hA : ∀ x ∈ A.2, 0 ≤ x ∧ x < (n : Int)) : ∃ c, impl_Question_againstFrom q A = some (c, pairsL A.2 (rootL q.2.2.2) (manyG q.2.2.2 : Int)) := by
  obtain ⟨c, e⟩ := against_L0 h n hn A hAl hA A.2.length 0 false [] (by omega) (by simp; omega)
  have e' : impl_Question_againstFrom_L0 q (false, []) A (A.2.length : Int) 0 = _ := e
  exact ⟨c, by rw [impl_Question_againstFrom_eq, e', some_bind, List.drop_zero, List.nil_append]⟩
theorem goalsL_in (f : List DSaid) : ∀ g ∈ goalsL f, g.length ≤ manyG f ∧ ∀ x ∈ g, 0 ≤ x ∧ x < (manyG f : Int) := by
  intro g hg
  obtain ⟨i, _, h⟩ := List.mem_flatMap.1 hg
  unfold goalAt at h
  split at h
  · rw [List.mem_singleton] at h
    subst h
    exact ⟨upTo_length _ _, fun x hx => (mem_upTo.1 hx).1⟩
  · cases h
theorem beside_L8 (q : DQuestion) (v : DSight) (a : DAuto) (n : Nat) (hn : n ≤ 40) (hg : goodTr q.2.2.2 = true) (ha : a.1 = (manyG q.2.2.2 : Int)) (next : Bool × List (Bool × List Int)) (c2 : Bool) (X : List (Bool × List Int)) (hXl : X.length ≤ 1000) (hX : ∀ x ∈ X, x.2 ∈ goalsL q.2.2.2) (d : Nat) : ∀ (j : Nat) (b : Bool) (o : List (Bool × List Int)), j + d = X.length → o.length ≤ j →
    ∃ c Y, spec_l22Beside_L8 q v a (n : Int) next (b, o) (c2, X) (X.length : Int) (j : Int) = some (c, o ++ Y) ∧ Y.map Prod.snd = (X.drop j).map fun g => pairsL ((List.range n).map Int.ofNat) g.2 (manyG q.2.2.2 : Int) := by
  have hlim := lim_eq
  have hm := manyG_in hg
  induction d with
  | zero =>
    intro j b o hj ho
    exact ⟨b, [], by rw [spec_l22Beside_L8_eq, gF (by omega)]; simp, by rw [List.drop_of_length_le (by omega)]; rfl⟩
  | succ d ih =>
    intro j b o hj ho
    have hlt : j < X.length := by omega
    obtain ⟨g1, g2⟩ := goalsL_in _ _ (hX _ (List.getElem_mem hlt))
    obtain ⟨c3, e3⟩ := l12All n (by omega)
    obtain ⟨c4, e4⟩ := l12Pairs X[j] (manyG q.2.2.2) n (by omega) hn (by omega) g2 (c3, (List.range n).map Int.ofNat) (by simp; omega) (fun x hx => by
      obtain ⟨y, hy, rfl⟩ := List.mem_map.1 hx
      have := List.mem_range.1 hy
      exact ⟨Int.natCast_nonneg _, by simp; omega⟩)
    obtain ⟨c, Y, h1, h2⟩ := ih (j + 1) (b && false) (o ++ [(c4, pairsL ((List.range n).map Int.ofNat) X[j].2 (manyG q.2.2.2 : Int))]) (by omega) (by simp; omega)
    refine ⟨c, (c4, pairsL ((List.range n).map Int.ofNat) X[j].2 (manyG q.2.2.2 : Int)) :: Y, ?_, ?_⟩
    · rw [spec_l22Beside_L8_eq, gT (by omega), gT (by omega), gT (by simp only; omega), getD_at X _ j hlt, e3, some_bind, ha, up1 j (by omega)]
      simp only [e4, some_bind, bind_id]
      rw [gT (by simp only [List.length_cons, List.length_nil]; omega), h1]
      simp
    · rw [List.map_cons, h2, List.drop_eq_getElem_cons hlt, List.map_cons]
theorem cBeside_L8 (q : DQuestion) (v : DSight) (hg : goodTr q.2.2.2 = true) (n : Nat) (hn : n ≤ 40) (next goals : Bool × List (Bool × List Int)) (goal : Bool × List Int) (hgl : goal.2.length ≤ manyG q.2.2.2) (hgi : ∀ x ∈ goal.2, 0 ≤ x ∧ x < (manyG q.2.2.2 : Int)) (t81 : Bool × List (Bool × List Int)) (t82 t83 : Int) (d : Nat) : ∀ (c : Nat) (b : Bool) (o : List Int), c + d = n → o.length + 40 * d ≤ 50000 →
    ∃ b', impl_classBeside_L8 q v (n : Int) (manyG q.2.2.2 : Int) next goals goal (b, o) t81 t82 t83 (n : Int) (c : Int) = some (b', o ++ pairsL ((List.range' c d).map Int.ofNat) goal.2 (manyG q.2.2.2 : Int)) := by
  have hlim := lim_eq
  have hm := manyG_in hg
  induction d with
  | zero =>
    intro c b o hc ho
    exact ⟨b, by rw [impl_classBeside_L8_eq, gF (by omega)]; simp [pairsL]⟩
  | succ d ih =>
    intro c b o hc ho
    have hy := mul_in40 (to := (c : Int)) (m := manyG q.2.2.2) (n := n) ⟨by omega, by omega⟩ hn (by omega)
    obtain ⟨c1, e1⟩ := movedL goal (by omega) ((c : Int) * (manyG q.2.2.2 : Int)) hy (fun x hx => by have := hgi x hx; omega)
    obtain ⟨b', g⟩ := ih (c + 1) (b && (goal.2.map fun x => (c : Int) * (manyG q.2.2.2 : Int) + x).isEmpty) (o ++ goal.2.map fun x => (c : Int) * (manyG q.2.2.2 : Int) + x) (by omega) (by simp; omega)
    refine ⟨b', ?_⟩
    rw [impl_classBeside_L8_eq, gT (by omega), wr (n := (c : Int) * (manyG q.2.2.2 : Int)) (by omega), e1, some_bind, up1 c (by omega)]
    rw [gT (by simp only [List.length_map]; omega), bind_id, g, List.range'_succ, List.map_cons, pairsL, pairsL, List.flatMap_cons, List.append_assoc]
    rfl
theorem cBeside_L6 (q : DQuestion) (v : DSight) (hg : goodTr q.2.2.2 = true) (n : Nat) (hn : n ≤ 40) (next : Bool × List (Bool × List Int)) (c2 : Bool) (X : List (Bool × List Int)) (hXl : X.length ≤ 1000) (hX : ∀ x ∈ X, x.2 ∈ goalsL q.2.2.2) (d : Nat) : ∀ (j : Nat) (b : Bool) (o : List (Bool × List Int)), j + d = X.length → o.length ≤ j →
    ∃ c Y, impl_classBeside_L6 q v (n : Int) (manyG q.2.2.2 : Int) next (b, o) (c2, X) (X.length : Int) (j : Int) = some (c, o ++ Y) ∧ Y.map Prod.snd = (X.drop j).map fun g => pairsL ((List.range n).map Int.ofNat) g.2 (manyG q.2.2.2 : Int) := by
  have hlim := lim_eq
  have hm := manyG_in hg
  induction d with
  | zero =>
    intro j b o hj ho
    exact ⟨b, [], by rw [impl_classBeside_L6_eq, gF (by omega)]; simp, by rw [List.drop_of_length_le (by omega)]; rfl⟩
  | succ d ih =>
    intro j b o hj ho
    have hlt : j < X.length := by omega
    obtain ⟨g1, g2⟩ := goalsL_in _ _ (hX _ (List.getElem_mem hlt))
    obtain ⟨c4, e4⟩ := cBeside_L8 q v hg n hn next (b, o) X[j] g1 g2 (c2, X) (X.length : Int) (j : Int) n 0 false [] (by omega) (by simp; omega)
    rw [← List.range_eq_range', List.nil_append] at e4
    obtain ⟨c, Y, h1, h2⟩ := ih (j + 1) (b && false) (o ++ [(c4, pairsL ((List.range n).map Int.ofNat) X[j].2 (manyG q.2.2.2 : Int))]) (by omega) (by simp; omega)
    refine ⟨c, (c4, pairsL ((List.range n).map Int.ofNat) X[j].2 (manyG q.2.2.2 : Int)) :: Y, ?_, ?_⟩
    · have e4' : impl_classBeside_L8 q v (n : Int) (manyG q.2.2.2 : Int) next (b, o) X[j] (false, []) (c2, X) (X.length : Int) (j : Int) (n : Int) 0 = _ := e4
      rw [impl_classBeside_L6_eq, gT (by omega), gT (by omega), gT (by simp only; omega), getD_at X _ j hlt, up1 j (by omega)]
      simp only [e4', some_bind, bind_id]
      rw [gT (by simp only [List.length_cons, List.length_nil]; omega), h1]
      simp
    · rw [List.map_cons, h2, List.drop_eq_getElem_cons hlt, List.map_cons]
theorem l8Union_L0 (B : Bool × List Int) (hBl : B.2.length ≤ 900000) (d : Nat) : ∀ (j : Nat) (b : Bool) (o : List Int), j + d = B.2.length → o.length ≤ j →
    ∃ c, spec_l8Union_L0 (b, o) B (B.2.length : Int) (j : Int) = some (c, (B.2.drop j).foldl (fun o n => insL n o) o) := by
  induction d with
  | zero =>
    intro j b o hj ho
    exact ⟨b, by rw [spec_l8Union_L0_eq, gF (by omega), List.drop_of_length_le (by omega)]; rfl⟩
  | succ d ih =>
    intro j b o hj ho
    have hlt : j < B.2.length := by omega
    obtain ⟨f1, e1⟩ := l1Put b o B.2[j] (by omega)
    have l1 := insL_length B.2[j] o
    obtain ⟨c, g⟩ := ih (j + 1) f1 (insL B.2[j] o) (by omega) (by omega)
    refine ⟨c, ?_⟩
    rw [spec_l8Union_L0_eq, gT (by omega), gT (by omega), gT (by omega), getD_at B.2 _ j hlt, e1, some_bind, up1 j (by omega), bind_id, g, List.drop_eq_getElem_cons hlt, List.foldl_cons]
theorem l8Union (B : Bool × List Int) (hBl : B.2.length ≤ 900000) : ∃ c, spec_l8Union (true, []) B = some (c, sortL B.2) := by
  have hlim := lim_eq
  obtain ⟨c, e⟩ := l8Union_L0 B hBl B.2.length 0 false [] (by omega) (by simp)
  have e' : spec_l8Union_L0 (false, []) B (B.2.length : Int) 0 = _ := e
  refine ⟨c, ?_⟩
  rw [spec_l8Union_eq, spec_l1Own_eq, gT (by simp only [List.length_nil]; omega), some_bind]
  simp only [List.append_nil, e', some_bind, List.drop_zero]
  rfl
theorem beside_L6 (q : DQuestion) (v : DSight) (many : Int) (b : Bool) (d : Nat) : ∀ (i : Nat) (X : List (Bool × List Int)), i + d = X.length → X.length ≤ 100000 → Bnd X 900000 →
    ∃ X', spec_l22Beside_L6 q v many (b, X) (X.length : Int) (i : Int) = some (b, X') ∧ X'.length = X.length ∧ ∀ k : Nat, k < X.length → rowAt X' k = if k < i then rowAt X k else sortL (rowAt X k) := by
  induction d with
  | zero =>
    intro i X hi hX hB
    exact ⟨X, by rw [spec_l22Beside_L6_eq, gF (by omega)], rfl, fun k hk => by rw [if_pos (by omega)]⟩
  | succ d ih =>
    intro i X hi hX hB
    have hlt : i < X.length := by omega
    have hb : (X.getD i (true, [])).2.length ≤ 900000 := hB i hlt
    obtain ⟨c, e⟩ := l8Union (X.getD i (true, [])) hb
    have hrow : ∀ k : Nat, k < X.length → rowAt (X.set i (c, sortL (X.getD i (true, [])).2)) k = if k = i then sortL (rowAt X i) else rowAt X k := by
      intro k hk
      by_cases ek : k = i
      · subst ek
        simp [rowAt, List.getD_eq_getElem?_getD, hk]
      · rw [if_neg ek]
        simp [rowAt, List.getD_eq_getElem?_getD, List.getElem?_set_ne (show i ≠ k by omega)]
    obtain ⟨X', g1, g2, g3⟩ := ih (i + 1) (X.set i (c, sortL (X.getD i (true, [])).2)) (by rw [List.length_set]; omega) (by rw [List.length_set]; exact hX) (fun k hk => by
      rw [List.length_set] at hk
      rw [hrow k hk]
      split
      · exact Nat.le_trans (sortL_length _) (hB i hlt)
      · exact hB k hk)
    rw [List.length_set] at g1 g2 g3
    refine ⟨X', ?_, g2, fun k hk => ?_⟩
    · rw [spec_l22Beside_L6_eq]
      simp only [gT (show (i : Int) < (X.length : Int) by omega), gT (show (0 : Int) ≤ (i : Int) by omega), getD_nat, e, some_bind, Int.toNat_natCast, up1 i (by omega), bind_id, g1]
    · rw [g3 k hk, hrow k hk]
      by_cases e1 : k = i
      · subst e1
        rw [if_pos rfl, if_pos (by omega), if_neg (by omega)]
      · rw [if_neg e1]
        by_cases e2 : k < i
        · rw [if_pos (by omega), if_pos e2]
        · rw [if_neg (by omega), if_neg e2]
theorem mem_specS {q : DQuestion} {v : DSight} {c k : Nat} {z : Int} (hl : 0 ≤ ltC q v (c : Int) ∧ ltC q v (c : Int) ≤ 7) :
    (k, z) ∈ specS q v c ↔ ∃ to ∈ stepsL q.1 v.2 (c : Int), ∃ h : Nat, h < manyG q.2.2.2 ∧ gssF q.2.2 (ltC q v (c : Int)) (h : Int) < manyG q.2.2.2 ∧ k = c * manyG q.2.2.2 + gssF q.2.2 (ltC q v (c : Int)) (h : Int) ∧ z = to * (manyG q.2.2.2 : Int) + (h : Int) := by
  rw [specS, List.mem_flatMap]
  constructor
  · rintro ⟨e, he, hz⟩
    obtain ⟨g, l, h, a1, a2, a3, a4, rfl⟩ := mem_edgesL.1 he
    unfold edgeS at hz
    split at hz
    · rename_i hL
      obtain ⟨to, hto, hk⟩ := List.mem_map.1 hz
      simp only at hL
      have hk1 := (Prod.mk.inj hk).1
      have hk2 := (Prod.mk.inj hk).2
      rw [hL] at a4
      exact ⟨to, hto, h, a3, by omega, by rw [← hk1, a4]; rfl, by rw [← hk2]⟩
    · cases hz
  · rintro ⟨to, hto, h, a1, a2, rfl, rfl⟩
    obtain ⟨l, el⟩ := Int.eq_ofNat_of_zero_le hl.1
    refine ⟨((gssF q.2.2 (ltC q v (c : Int)) (h : Int) : Int), ((l : Int), (h : Int))), mem_edgesL.2 ⟨_, l, h, a2, by omega, a1, by rw [el], rfl⟩, ?_⟩
    unfold edgeS
    rw [if_pos el.symm]
    exact List.mem_map.2 ⟨to, hto, rfl⟩
theorem mem_implS {q : DQuestion} {v : DSight} {c k : Nat} {z : Int} :
    (k, z) ∈ implS q v c ↔ ∃ to ∈ stepsL q.1 v.2 (c : Int), ∃ h : Nat, h < manyG q.2.2.2 ∧ k = c * manyG q.2.2.2 + gssF q.2.2 (ltC q v (c : Int)) (h : Int) ∧ z = to * (manyG q.2.2.2 : Int) + (h : Int) := by
  simp only [implS, toS, List.mem_flatMap, List.mem_map, List.mem_range]
  constructor
  · rintro ⟨to, hto, h, hh, e⟩
    exact ⟨to, hto, h, hh, (Prod.mk.inj e).1.symm, (Prod.mk.inj e).2.symm⟩
  · rintro ⟨to, hto, h, hh, rfl, rfl⟩
    exact ⟨to, hto, h, hh, rfl⟩
theorem same_S {q : DQuestion} (h : Asks q) {v : DSight} {c k : Nat} {z : Int} (hl : 0 ≤ ltC q v (c : Int) ∧ ltC q v (c : Int) ≤ 7) : (k, z) ∈ specS q v c ↔ (k, z) ∈ implS q v c := by
  rw [mem_specS hl, mem_implS]
  constructor
  · rintro ⟨to, hto, j, h1, _, h3⟩
    exact ⟨to, hto, j, h1, h3⟩
  · rintro ⟨to, hto, j, h1, h3⟩
    exact ⟨to, hto, j, h1, (guess_both q.2.2 h.tr _ _ false).2.2, h3⟩
theorem cell_of {c g m k : Nat} (hg : g < m) (hk : k = c * m + g) : c = k / m := by
  have hm : 0 < m := by omega
  rw [hk, Nat.add_comm, Nat.add_mul_div_right _ _ hm, Nat.div_eq_of_lt hg, Nat.zero_add]
theorem pick_toS_rising (q : DQuestion) (L : Int) (c : Nat) (to : Int) (k : Nat) : Rising (pick (toS q L c to) k) := by
  have h : (List.range (manyG q.2.2.2)).Pairwise (· < ·) := List.pairwise_lt_range
  rw [pick, toS]
  refine List.pairwise_map.2 (List.Pairwise.filter _ (List.pairwise_map.2 (h.imp fun hab => ?_)))
  simp only
  omega
theorem implS_rising {q : DQuestion} (h : Asks q) (v : DSight) (c k : Nat) : Rising (pick (implS q v c) k) := by
  have hm := manyG_in h.tr
  rw [implS, pick_flat]
  refine rising_blocks _ (sortL_rising _) _ (manyG q.2.2.2 : Int) (fun to _ => pick_toS_rising q _ c to k) (fun to _ y hy => ?_) (by omega)
  rw [mem_pick, toS, List.mem_map] at hy
  obtain ⟨j, hj, e⟩ := hy
  have hj := List.mem_range.1 hj
  have e2 := (Prod.mk.inj e).2
  rw [Int.add_mul]
  omega
theorem rows_same {q : DQuestion} (h : Asks q) {v : DSight} (n : Nat) (hl : ∀ c : Nat, c < n → 0 ≤ ltC q v (c : Int) ∧ ltC q v (c : Int) ≤ 7) (k : Nat) :
    sortL (pick ((List.range' 0 n).flatMap (specS q v)) k) = pick ((List.range' 0 n).flatMap (implS q v)) k := by
  refine sortL_of_rising ?_ fun z => ?_
  · rw [pick_flat, flatMap_lone _ (k / manyG q.2.2.2) (fun a ha => ?_) n 0]
    · split
      · exact implS_rising h v _ k
      · exact List.Pairwise.nil
    · refine List.eq_nil_iff_forall_not_mem.2 fun z hz => ha ?_
      obtain ⟨to, _, j, _, e, _⟩ := mem_implS.1 (mem_pick.1 hz)
      exact cell_of (guess_both q.2.2 h.tr _ _ false).2.2 e
  · rw [mem_pick, mem_pick, List.mem_flatMap, List.mem_flatMap]
    constructor
    · rintro ⟨c, hc, hz⟩
      have := List.mem_range'_1.1 hc
      exact ⟨c, hc, (same_S h (hl c (by omega))).1 hz⟩
    · rintro ⟨c, hc, hz⟩
      have := List.mem_range'_1.1 hc
      exact ⟨c, hc, (same_S h (hl c (by omega))).2 hz⟩
theorem specS_length (q : DQuestion) (hg : goodTr q.2.2.2 = true) {v : DSight} (hv : Sees q.1 v.2) (c : Nat) : (specS q v c).length ≤ 400000 := by
  have hel := edges_length q.2.2 hg
  have hsl := stepsL_length hv (c : Int)
  have := flat_length (edgesL q.2.2) (edgeS c (ltC q v (c : Int)) (manyG q.2.2.2) (stepsL q.1 v.2 (c : Int))) 40 (fun e _ => by have := edgeS_length c (ltC q v (c : Int)) (manyG q.2.2.2) (stepsL q.1 v.2 (c : Int)) e; omega)
  rw [specS]
  omega
theorem spec_row_length {q : DQuestion} (h : Asks q) {v : DSight} (hv : Sees q.1 v.2) (n : Nat) (hl : ∀ c : Nat, c < n → 0 ≤ ltC q v (c : Int) ∧ ltC q v (c : Int) ≤ 7) (k : Nat) : (pick ((List.range' 0 n).flatMap (specS q v)) k).length ≤ 400000 := by
  have e : (List.range' 0 n).flatMap (fun c => pick (specS q v c) k) = (List.range' 0 n).flatMap (fun c => if c = k / manyG q.2.2.2 then pick (specS q v c) k else []) := by
    rw [List.flatMap_def, List.flatMap_def]
    refine congrArg List.flatten (List.map_congr_left fun c hc => ?_)
    split
    · rfl
    · rename_i ne
      have := List.mem_range'_1.1 hc
      refine List.eq_nil_iff_forall_not_mem.2 fun z hz => ne ?_
      obtain ⟨to, _, j, _, hg, e, _⟩ := (mem_specS (hl c (by omega))).1 (mem_pick.1 hz)
      exact cell_of hg e
  rw [pick_flat, e, flatMap_lone _ (k / manyG q.2.2.2) (fun a ha => if_neg ha) n 0]
  split
  · rw [if_pos rfl]
    exact Nat.le_trans (pick_length _ _) (specS_length q h.tr hv _)
  · simp
theorem rowAt_map {X : List (Bool × List Int)} {k : Nat} (hk : k < (X.map Prod.snd).length) : (X.map Prod.snd)[k] = rowAt X k := by
  rw [List.length_map] at hk
  simp [rowAt, List.getD_eq_getElem?_getD, hk]
theorem rows_ext {X Y : List (Bool × List Int)} (hl : X.length = Y.length) (h : ∀ k : Nat, k < X.length → rowAt X k = rowAt Y k) : X.map Prod.snd = Y.map Prod.snd :=
  List.ext_getElem (by simp [hl]) fun k h1 h2 => by
    rw [rowAt_map h1, rowAt_map h2]
    exact h k (by simpa using h1)
theorem pairsL_length (A B : List Int) (m : Int) (n : Nat) (h : B.length ≤ n) : (pairsL A B m).length ≤ A.length * n := flat_length A _ n fun x _ => by rw [List.length_map]; exact h
theorem rowAt_rep (n k : Nat) : rowAt (List.replicate n ((true, []) : Bool × List Int)) k = [] := by
  simp only [rowAt, List.getD_eq_getElem?_getD, List.getElem?_replicate]
  split <;> rfl
theorem sm_of_rows {X : List (Bool × List Int)} (hl : X.length ≤ 1048576) {n : Nat} (hn : n ≤ 1048576) (hB : Bnd X n) : SmRowsI X := by
  refine ⟨hl, fun x hx => ?_⟩
  obtain ⟨k, hk, rfl⟩ := List.mem_iff_getElem.1 hx
  have h1 := hB k hk
  have e : rowAt X k = (X[k]).2 := by simp [rowAt, List.getD_eq_getElem?_getD, hk]
  rw [e] at h1
  omega
theorem sm_of_map {X : List (Bool × List Int)} {L : List (List Int)} (h : X.map Prod.snd = L) (hl : L.length ≤ 1048576) (hn : ∀ l ∈ L, l.length ≤ 1048576) : SmRowsI X := by
  refine ⟨by rw [← h, List.length_map] at hl; exact hl, fun x hx => hn _ (by rw [← h]; exact List.mem_map_of_mem hx)⟩
theorem beside_both {q : DQuestion} (h : Asks q) {v : DSight} (hv : Sees q.1 v.2) (hg : goodSight q.1 v.2 = true) (hf : FitQ q v.2) :
    ∃ f1 f2 f3 g1 g2 g3 N N' A G G', spec_l22Beside q v = some ((f1, N), (f2, A), (f3, G)) ∧ impl_classBeside q v = some ((g1, N'), (g2, A), (g3, G')) ∧ N'.map Prod.snd = N.map Prod.snd ∧ G'.map Prod.snd = G.map Prod.snd ∧ SmRowsI N' ∧ SmRowsI G' ∧ A.length ≤ 1048576 := by
  have hlim := lim_eq
  have hm := manyG_in h.tr
  have hmv := hv.manyV
  have hmc := manyC_in v.2 hv.inn
  obtain ⟨n, hn⟩ := Int.eq_ofNat_of_zero_le hmc.1
  have hfl := (goodSaid_in (goodTr_in h.tr).1).2.1
  obtain ⟨c1, c2, c3, X, a1, a2, a3⟩ := l13Auto q.2.2 h.tr
  obtain ⟨d3, Z, b1, b2, b3⟩ := goalsOf q.2.2 h.tr
  have many1 : spec_l15Many v = some (n : Int) := by rw [l15Many v (by omega) hv.inn, hn]
  have many2 : impl_Sight_classes v = some (n : Int) := by rw [sightClasses v (by omega) (by omega) hv.inn, hn]
  have hnm : n * manyG q.2.2.2 ≤ 40 * 40 := Nat.mul_le_mul (by omega) (by omega)
  have ew : IntKind.i64.wrap ((n : Int) * (manyG q.2.2.2 : Int)) = ((n * manyG q.2.2.2 : Nat) : Int) := by
    rw [← Int.natCast_mul, wr (by omega)]
  have hB0 : Bnd (List.replicate (n * manyG q.2.2.2) ((true, []) : Bool × List Int)) 0 := fun k _ => by rw [rowAt_rep]; exact Nat.le_refl _
  have hl : ∀ c : Nat, c < n → 0 ≤ ltC q v (c : Int) ∧ ltC q v (c : Int) ≤ 7 := fun c hc => (ltC_both h hv hf (c : Int) (manyC_has hg (c : Int) (by omega))).2.2
  obtain ⟨X1, s1, s2⟩ := beside_L0 h hv hg hf n hn c1 c2 (c3, X) n 0 (List.replicate (n * manyG q.2.2.2) ((true, []) : Bool × List Int)) 0 (by omega) (by simp) hB0 (by omega)
  have s1' : spec_l22Beside_L0 q v ((manyG q.2.2.2 : Int), (c1, rootL q.2.2.2), (c2, edgesL q.2.2), (c3, X)) (n : Int) (false, List.replicate (n * manyG q.2.2.2) ((true, []) : Bool × List Int)) 0 = _ := s1
  have l1 : X1.length = n * manyG q.2.2.2 := by rw [s2.len, List.length_replicate]
  have row1 : ∀ k : Nat, k < n * manyG q.2.2.2 → rowAt X1 k = pick ((List.range' 0 n).flatMap (specS q v)) k := fun k hk => by
    rw [s2.row k (by rw [List.length_replicate]; exact hk), rowAt_rep, List.nil_append]
  obtain ⟨X2, u1, u2, u3⟩ := beside_L6 q v (n : Int) false X1.length 0 X1 (by omega) (by omega) (fun k hk => by rw [row1 k (by omega)]; have := spec_row_length h hv n hl k; omega)
  have u1' : spec_l22Beside_L6 q v (n : Int) (false, X1) (X1.length : Int) 0 = _ := u1
  obtain ⟨f3, G, w1, w2⟩ := beside_L8 q v ((manyG q.2.2.2 : Int), (c1, rootL q.2.2.2), (c2, edgesL q.2.2), (c3, X)) n (by omega) h.tr rfl (false, X2) c3 X (by omega) (fun x hx => by rw [← a2]; exact List.mem_map_of_mem hx) X.length 0 true [] (by omega) (by simp)
  have w1' : spec_l22Beside_L8 q v ((manyG q.2.2.2 : Int), (c1, rootL q.2.2.2), (c2, edgesL q.2.2), (c3, X)) (n : Int) (false, X2) (true, []) (c3, X) (X.length : Int) 0 = _ := w1
  obtain ⟨Y1, p1, p2⟩ := cBeside_L0 h hv hg hf n hn (false, []) n 0 (List.replicate (n * manyG q.2.2.2) ((true, []) : Bool × List Int)) 0 (by omega) (by simp) hB0 (by omega)
  have p1' : impl_classBeside_L0 q v (n : Int) (manyG q.2.2.2 : Int) (false, List.replicate (n * manyG q.2.2.2) ((true, []) : Bool × List Int)) (false, []) (n : Int) 0 = _ := p1
  have l2 : Y1.length = n * manyG q.2.2.2 := by rw [p2.len, List.length_replicate]
  have row2 : ∀ k : Nat, k < n * manyG q.2.2.2 → rowAt Y1 k = pick ((List.range' 0 n).flatMap (implS q v)) k := fun k hk => by
    rw [p2.row k (by rw [List.length_replicate]; exact hk), rowAt_rep, List.nil_append]
  obtain ⟨g3, G', r1, r2⟩ := cBeside_L6 q v h.tr n (by omega) (false, Y1) d3 Z (by omega) (fun x hx => by rw [← b2]; exact List.mem_map_of_mem hx) Z.length 0 false [] (by omega) (by simp)
  have r1' : impl_classBeside_L6 q v (n : Int) (manyG q.2.2.2 : Int) (false, Y1) (false, []) (d3, Z) (Z.length : Int) 0 = _ := r1
  have hstl := thoseL_length q.1 q.1.2.2.1.2 0 (manyS q.1)
  have hsti : ∀ x ∈ thoseL q.1 q.1.2.2.1.2 0 (manyS q.1), 0 ≤ x ∧ x < (manyS q.1 : Int) := fun x hx => (mem_thoseL.1 hx).1
  have hms := manyS_in h.ok.sml
  obtain ⟨t1, e1⟩ := l8Those h.ok.sml q.1.2.2.1 h.ok.wf.1 hv.start
  obtain ⟨t2, e2⟩ := whereOf h.ok.sml q.1.2.2.1 h.ok.wf.1 hv.start
  obtain ⟨t3, e3⟩ := hv.clsS (t1, thoseL q.1 q.1.2.2.1.2 0 (manyS q.1)) (by simp only; omega) hsti v.1
  have e3' : spec_l17Classes v (t1, thoseL q.1 q.1.2.2.1.2 0 (manyS q.1)) = some (t3, sortL (clsL v.2 (thoseL q.1 q.1.2.2.1.2 0 (manyS q.1)))) := e3
  have e4 := hv.clsP (t2, thoseL q.1 q.1.2.2.1.2 0 (manyS q.1)) (by simp only; omega) hsti v.1
  have e4' : impl_Sight_classesOf v (t2, thoseL q.1 q.1.2.2.1.2 0 (manyS q.1)) = some (false, sortL (clsL v.2 (thoseL q.1 q.1.2.2.1.2 0 (manyS q.1)))) := e4
  have hsi : ∀ x ∈ sortL (clsL v.2 (thoseL q.1 q.1.2.2.1.2 0 (manyS q.1))), 0 ≤ x ∧ x < (n : Int) := fun x hx => by
    rw [← hn]
    exact clsL_in v.2 (fun y hy => (hv.inn y hy).1) _ (fun y hy => by rw [hv.len]; exact hsti y hy) x ((sortL_mem _ x).1 hx)
  have hsl := Rising_length (sortL_rising (clsL v.2 (thoseL q.1 q.1.2.2.1.2 0 (manyS q.1)))) hsi
  have hfi := rootL_in q.2.2.2
  have hfll : (rootL q.2.2.2).length ≤ manyG q.2.2.2 := upTo_length _ _
  obtain ⟨f2, e5⟩ := l12Pairs (c1, rootL q.2.2.2) (manyG q.2.2.2) n (by omega) (by omega) (by simp only; omega) hfi (t3, sortL (clsL v.2 (thoseL q.1 q.1.2.2.1.2 0 (manyS q.1)))) (by simp only; omega) hsi
  obtain ⟨g2, e6⟩ := against h n (by omega) (false, sortL (clsL v.2 (thoseL q.1 q.1.2.2.1.2 0 (manyS q.1)))) (by simp only; omega) hsi
  have hAl := pairsL_length (sortL (clsL v.2 (thoseL q.1 q.1.2.2.1.2 0 (manyS q.1)))) (rootL q.2.2.2) (manyG q.2.2.2 : Int) 40 (by omega)
  refine ⟨false, f2, f3, false, g2, g3, X2, Y1, pairsL (sortL (clsL v.2 (thoseL q.1 q.1.2.2.1.2 0 (manyS q.1)))) (rootL q.2.2.2) (manyG q.2.2.2 : Int), G, G', ?_, ?_, ?_, ?_, ?_, ?_, by omega⟩
  · rw [spec_l22Beside_eq, a1, some_bind, many1, some_bind]
    simp only [ew, Int.toNat_natCast, gT (show (0 : Int) ≤ ((n * manyG q.2.2.2 : Nat) : Int) by omega), gT (show ((n * manyG q.2.2.2 : Nat) : Int) ≤ (lim : Int) by omega), gT (Int.le_refl ((n * manyG q.2.2.2 : Nat) : Int)), s1', some_bind, u1', w1', e1, e3', e5, List.nil_append]
  · rw [impl_classBeside_eq, many2, some_bind, guesses q.2.2 h.tr, some_bind]
    simp only [ew, Int.toNat_natCast, gT (show (0 : Int) ≤ ((n * manyG q.2.2.2 : Nat) : Int) by omega), gT (show ((n * manyG q.2.2.2 : Nat) : Int) ≤ (lim : Int) by omega), gT (Int.le_refl ((n * manyG q.2.2.2 : Nat) : Int)), p1', some_bind, b1, r1', e2, e4', e6, List.nil_append]
  · refine rows_ext (by rw [l2, u2, l1]) fun k hk => ?_
    rw [row2 k (by omega), u3 k (by omega), if_neg (by omega), row1 k (by omega), rows_same h n hl k]
  · rw [r2, w2, List.drop_zero, List.drop_zero]
    have q1 : Z.map (fun g => pairsL ((List.range n).map Int.ofNat) g.2 (manyG q.2.2.2 : Int)) = (Z.map Prod.snd).map fun g => pairsL ((List.range n).map Int.ofNat) g (manyG q.2.2.2 : Int) := by rw [List.map_map]; rfl
    have q2 : X.map (fun g => pairsL ((List.range n).map Int.ofNat) g.2 (manyG q.2.2.2 : Int)) = (X.map Prod.snd).map fun g => pairsL ((List.range n).map Int.ofNat) g (manyG q.2.2.2 : Int) := by rw [List.map_map]; rfl
    rw [q1, q2, a2, b2]
  · refine sm_of_rows (by omega) (n := 100000) (by omega) fun k hk => ?_
    rw [row2 k (by omega)]
    have h1 := pick_length ((List.range' 0 n).flatMap (implS q v)) k
    have h2 := flat_length (List.range' 0 n) (implS q v) 2000 (fun c _ => by
      have h3 := stepsL_length hv (c : Int)
      have := flat_length (stepsL q.1 v.2 (c : Int)) (toS q (ltC q v (c : Int)) c) 32 (fun to _ => by rw [toS_length]; omega)
      rw [implS]
      omega)
    rw [List.length_range'] at h2
    omega
  · refine sm_of_map r2 (by simp; omega) fun l hlm => ?_
    obtain ⟨x, hx, rfl⟩ := List.mem_map.1 hlm
    have hx' : x.2 ∈ goalsL q.2.2.2 := by rw [← b2]; exact List.mem_map_of_mem (List.mem_of_mem_drop hx)
    have h1 := (goalsL_in _ _ hx').1
    have h2 := pairsL_length ((List.range n).map Int.ofNat) x.2 (manyG q.2.2.2 : Int) 40 (by omega)
    rw [List.length_map, List.length_range] at h2
    omega
theorem markSaidS_L0 (d : Nat) : ∀ (i : Nat) (b : Bool) (x : List DSaid) (k : Int), i + d = x.length → x.length ≤ 1048576 → 0 ≤ k → k + 2 * d ≤ 4000000000000000000 → ∃ y, laws_markSaidS_L0 (b, x) k (i : Int) = some ((b, y), k + 2 * d) := by
  induction d with
  | zero =>
    intro i b x k hi hl hk hk2
    exact ⟨x, by rw [laws_markSaidS_L0_eq, gF (by simp only; omega)]; simp⟩
  | succ d ih =>
    intro i b x k hi hl hk hk2
    have hlt : i < x.length := by omega
    have hw : IntKind.i64.wrap (k + 1) = k + 1 := wr (by omega)
    have hw2 : IntKind.i64.wrap (k + 1 + 1) = k + 2 := by rw [wr (by omega)]; omega
    obtain ⟨y, e⟩ := ih (i + 1) b ((x.set i (k, (x.getD i (0, 0)).2)).set i (((x.set i (k, (x.getD i (0, 0)).2)).getD i (0, 0)).1, k + 1)) (k + 2) (by simp; omega) (by simpa using hl) (by omega) (by omega)
    refine ⟨y, ?_⟩
    rw [laws_markSaidS_L0_eq]
    simp only [gT (show (i : Int) < (x.length : Int) by omega), gT (show (0 : Int) ≤ (i : Int) by omega), List.length_set, Int.toNat_natCast, hw, hw2, up1 i (by omega), bind_id, e]
    congr 2
    omega
theorem markSaidS (b : Bool) (x : List DSaid) (k : Int) (hl : x.length ≤ 1048576) (h0 : 0 ≤ k) (hk : k + 2 * x.length ≤ 4000000000000000000) : ∃ y, laws_markSaidS (b, x) k = some ((b, y), k + 2 * x.length) := by
  obtain ⟨y, e⟩ := markSaidS_L0 x.length 0 b x k (by omega) hl h0 hk
  have e' : laws_markSaidS_L0 (b, x) k 0 = _ := e
  exact ⟨y, by rw [laws_markSaidS_eq, e', some_bind]⟩
theorem markQuestion (q : DQuestion) (hs : SmQ q) : ∃ a b c d k, laws_markQuestion q.1.1 q.1.2.1 (q.1.2.2.1.1, q.1.2.2.1.2) (q.1.2.2.2.1, q.1.2.2.2.2) (q.2.1.1, q.2.1.2) (q.2.2.1, q.2.2.2) 1 = some (a, b, c, d, k) ∧ 1 ≤ k ∧ k ≤ 3100000000000000000 := by
  obtain ⟨y, z, k', e1, e2, e3⟩ := markProgram q.1 hs.prog 1 (by omega) (by omega)
  have hz := SmRows_size hs.rows
  have e4 := markNodeSS q.2.1.1 q.2.1.2 k' hs.rows (by omega) (by omega)
  have hl := hs.said
  obtain ⟨w, e5⟩ := markSaidS q.2.2.1 q.2.2.2 (k' + 2 * sizeSS q.2.1.2) hl (by omega) (by omega)
  refine ⟨(y.1, y.2), (z.1, z.2), (q.2.1.1, countSS k' q.2.1.2), (q.2.2.1, w), k' + 2 * sizeSS q.2.1.2 + 2 * q.2.2.2.length, by rw [laws_markQuestion_eq, e1, some_bind]; simp only [e4, some_bind, e5], ?_, ?_⟩ <;> omega
theorem eqGr_same (f g : Bool) (a b : List (Bool × List Int)) (hs : SmRowsI a) (h : a.map Prod.snd = b.map Prod.snd) : laws_eqGraph (f, a) (g, b) = some true := by
  rw [laws_eqGraph_eq, eqIntSS_same f g a b hs h, some_bind]
  rfl
theorem markGraph (b : Bool) (a : List (Bool × List Int)) (k : Int) (hs : SmRowsI a) (h0 : 0 ≤ k) (hk : k ≤ 3500000000000000000) : laws_markGraph (b, a) k = some ((b, countIS k a), k + sizeIS a) := by
  rw [laws_markGraph_eq, markIntSS b a k hs h0 hk, some_bind]
theorem heldGraph (b : Bool) (z : List (Bool × List Int)) (k : Int) (hs : SmRowsI z) (h0 : 0 ≤ k) (hk : k ≤ 3500000000000000000) : laws_heldGraph (b, countIS k z) k = some (k + sizeIS z) := by
  rw [laws_heldGraph_eq, heldIntSS b z k hs h0 hk, some_bind, gF (by omega)]
theorem classbeside_law (q : DQuestion) (h : LawQ q) (v : DSight) (hv : v.2.length ≤ 1048576) :
    ∃ f1 f2 f3 g1 g2 g3 N N' A G G' ok, spec_ClassBeside q v = some ((f1, N), (f2, A), (f3, G), ok) ∧ impl_ClassBeside q v = some ((g1, N'), (g2, A), (g3, G'), ok) ∧ N'.map Prod.snd = N.map Prod.snd ∧ G'.map Prod.snd = G.map Prod.snd ∧ SmRowsI N' ∧ SmRowsI G' ∧ A.length ≤ 1048576 := by
  have none' : ∃ f1 f2 f3 g1 g2 g3 N N' A G G' ok, (some ((true, []), (true, []), (true, []), false) : Option ((Bool × List (Bool × List Int)) × (Bool × List Int) × (Bool × List (Bool × List Int)) × Bool)) = some ((f1, N), (f2, A), (f3, G), ok) ∧ (some ((true, []), (true, []), (true, []), false) : Option ((Bool × List (Bool × List Int)) × (Bool × List Int) × (Bool × List (Bool × List Int)) × Bool)) = some ((g1, N'), (g2, A), (g3, G'), ok) ∧ N'.map Prod.snd = N.map Prod.snd ∧ G'.map Prod.snd = G.map Prod.snd ∧ SmRowsI N' ∧ SmRowsI G' ∧ A.length ≤ 1048576 :=
    ⟨true, true, true, true, true, true, [], [], [], [], [], false, rfl, rfl, rfl, rfl, ⟨by simp, fun x hx => by cases hx⟩, ⟨by simp, fun x hx => by cases hx⟩, by simp⟩
  rw [spec_ClassBeside_eq, impl_ClassBeside_eq, l22Sight q h.sm.prog h.wfp h.wf v hv, isSightOf q h.sm.prog v hv, some_bind, some_bind]
  cases h0 : isQV q v.2 with
  | false => exact none'
  | true =>
    rw [isQV, Bool.and_eq_true] at h0
    have ha := Asks_of h0.1 h.sm.prog h.wfp h.wf
    have hs := Sees_of h0.2 h.sm.prog h.wfp
    obtain ⟨b, e1, e2, e3⟩ := fit_both ha hs v.1 v.1
    have e1' : spec_l22Fit q v = some b := e1
    have e2' : impl_isFit q v = some b := e2
    rw [Bool.not_true, cond_false, cond_false, e1', e2', some_bind, some_bind]
    cases b with
    | false => exact none'
    | true =>
      obtain ⟨f1, f2, f3, g1, g2, g3, N, N', A, G, G', r1, r2, r3⟩ := beside_both ha hs h0.2 (e3.1 rfl)
      refine ⟨f1, f2, f3, g1, g2, g3, N, N', A, G, G', true, ?_, ?_, r3⟩
      · rw [Bool.not_true, cond_false, r1, some_bind]
      · rw [Bool.not_true, cond_false, r2, some_bind]
theorem pure_FnExactClassBeside (x0 : DQuestion) (x1 : DSight) (w0 : WfD tyQuestion x0) (w1 : WfD tySight x1) : laws_FnExactClassBeside x0 x1 = some true := by
  have w1' : x1.2.length ≤ big := w1.2.1
  rw [laws_FnExactClassBeside_eq]
  obtain ⟨r0, e0, h0⟩ := szQuestion x0 w0 1048576 (by omega)
  rw [e0, some_bind]
  rcases h0 with h0 | ⟨h0, h1, hs⟩
  · rw [gT h0]
  rw [gF (by omega), szSight x1 r0 (by omega) w1', some_bind]
  rcases Int.lt_or_le (r0) (x1.2.length : Int) with c1 | c1
  · rw [if_neg (by omega), gT (by omega)]
  rw [if_pos c1]
  rw [gF (by omega), toQuestion x0 hs, some_bind, toSight x1 (by omega), some_bind]
  obtain ⟨f1, f2, f3, g1, g2, g3, N, N', A, G, G', ok, e1, e2, hN, hG, sN, sG, hA⟩ := classbeside_law (cpQ x0) (LawQ_cp w0 hs) (false, x1.2) (by simp only; omega)
  have e1' : spec_ClassBeside (((cpProgram x0.1).1, (cpProgram x0.1).2.1, (false, (cpProgram x0.1).2.2.1.2), (false, (cpProgram x0.1).2.2.2.2)), (false, cpRows x0.2.1.2), (false, x0.2.2.2)) (false, x1.2) = _ := e1
  have e2' : impl_ClassBeside (((cpProgram x0.1).1, (cpProgram x0.1).2.1, (false, (cpProgram x0.1).2.2.1.2), (false, (cpProgram x0.1).2.2.2.2)), (false, cpRows x0.2.1.2), (false, x0.2.2.2)) (false, x1.2) = _ := e2
  have e3 : laws_eqQuestion (((cpProgram x0.1).1, (cpProgram x0.1).2.1, (false, (cpProgram x0.1).2.2.1.2), (false, (cpProgram x0.1).2.2.2.2)), (false, cpRows x0.2.1.2), (false, x0.2.2.2)) (((cpProgram x0.1).1, (cpProgram x0.1).2.1, (false, (cpProgram x0.1).2.2.1.2), (false, (cpProgram x0.1).2.2.2.2)), (false, cpRows x0.2.1.2), (false, x0.2.2.2)) = some true := eqQuestion_same (cpQ x0) (SmQ_cp hs)
  obtain ⟨a, b, c, d, k, e4, e5, e6⟩ := markQuestion (cpQ x0) (SmQ_cp hs)
  have e4' : laws_markQuestion (cpProgram x0.1).1 (cpProgram x0.1).2.1 (false, (cpProgram x0.1).2.2.1.2) (false, (cpProgram x0.1).2.2.2.2) (false, cpRows x0.2.1.2) (false, x0.2.2.2) 1 = _ := e4
  have q1 := eqGr_same g1 f1 N' N sN hN
  have q2 := eqIntS_same g2 f2 A hA
  have q3 := eqIntSS_same g3 f3 G' G sG hG
  have z1 := SmRowsI_size sN
  have z2 := SmRowsI_size sG
  have m1 := markGraph g1 N' 1 sN (by omega) (by omega)
  have m2 := markIntS g2 A (1 + sizeIS N') hA (by omega) (by omega)
  have m3 := markIntSS g3 G' (1 + sizeIS N' + A.length) sG (by omega) (by omega)
  have k1 := heldGraph g1 N' 1 sN (by omega) (by omega)
  have k2 := heldIntS g2 A.length (1 + sizeIS N') hA (by omega) (by omega)
  have k3 := heldIntSS g3 G' (1 + sizeIS N' + A.length) sG (by omega) (by omega)
  have sv := eqSight_same false false x1.2 (by omega)
  have mv := markSight false x1.2 k (by omega) (by omega) (by omega)
  simp only [e1', e2', some_bind, q1, q2, q3, beq_self_eq_true, bne_self_eq_false, Bool.not_true, cond_false, e3, sv, e4', mv, m1, m2, m3, k1, k2, k3, gF (show ¬ k + (x1.2.length : Int) < 0 by omega), gF (show ¬ (1 + (sizeIS N' : Int)) < 0 by omega), gF (show ¬ (1 + (sizeIS N' : Int) + (A.length : Int)) < 0 by omega), gF (show ¬ (1 + (sizeIS N' : Int) + (A.length : Int) + (sizeIS G' : Int)) < 0 by omega)]

end Go.Proofs.YtmfoobckeoaklaaGreat.R
