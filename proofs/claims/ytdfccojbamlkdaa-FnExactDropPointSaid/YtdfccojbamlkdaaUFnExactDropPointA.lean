/- The plain law of FnExactDropPoint: what the two functions compute is the same. -/
import Derived.Test.YtdfccojbamlkdaaEFnExactDropPoint
set_option linter.all false
namespace Go.Proofs.Ytdfccojbamlkdaa.R
open Go.Rf
theorem l1In_eq (n lo hi : Int) : spec_l1In n lo hi = some (decide (lo ≤ n ∧ n ≤ hi)) := by
  rw [spec_l1In_eq]
  by_cases h : n ≥ lo
  · rw [gT h]; congr 1; apply decide_eq_decide.mpr; omega
  · rw [gF h]; congr 1; symm; apply decide_eq_false; omega
/-- two loops over one list that find no difference -/
theorem eq_loop {α : Type} (l : List α) (F : Int → Option (Bool ⊕ Unit)) (hs : ∀ (i : Nat) (h : i < l.length), F (i : Int) = F ((i + 1 : Nat) : Int)) (he : F (l.length : Int) = some (.inr ())) : F 0 = some (.inr ()) := by
  have key : ∀ (d i : Nat), i + d = l.length → F (i : Int) = some (.inr ()) := by
    intro d
    induction d with
    | zero => intro i hi; obtain rfl : i = l.length := by omega
              exact he
    | succ d ih => intro i hi; rw [hs i (by omega)]; exact ih (i + 1) (by omega)
  simpa using key l.length 0 (by omega)
theorem toIntS (a : Bool × List Int) (hl : a.2.length ≤ 1048576) : laws_toIntS a = some (false, a.2) := by
  have hlim := lim_eq
  rw [laws_toIntS_eq, gT (by omega), gT (by omega), gT (by omega), gT (by omega)]
  have := loop_map a.2 (fun x => x) (fun o i => laws_toIntS_L0 a o i) false (fun i h x hx => by
    rw [laws_toIntS_L0_eq, gT (by omega), gT (by omega), gT (by omega), gT (by omega), gT (by simp only; omega), getD_at a.2 _ i h, up1 i (by omega), bind_id, Int.toNat_natCast]) (fun x hx => by
    rw [laws_toIntS_L0_eq, gF (by omega)]) (List.replicate (Int.toNat (a.2.length : Int)) (0 : Int)) (by simp)
  rw [this, some_bind, List.map_id']
theorem eqIntS_same (f g : Bool) (l : List Int) (hl : l.length ≤ 1048576) : laws_eqIntS (f, l) (g, l) = some true := by
  rw [laws_eqIntS_eq, bF (by simp), eq_loop l (fun i => laws_eqIntS_L0 (f, l) (g, l) i) (fun i h => by
    rw [laws_eqIntS_L0_eq, gT (by simp only; omega), gT (by omega), gT (by simp only; omega), gT (by omega), gT (by simp only; omega), bF (by simp), up1 i (by omega), bind_id]) (by rw [laws_eqIntS_L0_eq, gF (by simp)]), some_bind]
theorem szIntS (a : Bool × List Int) (left : Int) (h0 : 0 ≤ left ∧ left ≤ 1048576) (hl : a.2.length ≤ big) : laws_szIntS a left = some (if (a.2.length : Int) ≤ left then left - a.2.length else -1) := by
  rw [big_eq] at hl
  rw [laws_szIntS_eq, wr (by omega)]
  by_cases h : (a.2.length : Int) ≤ left
  · rw [gF (by omega), if_pos h]
  · rw [gT (by omega), if_neg h]
/-- the numbers from k on, n of them -/
def countL (k : Int) : Nat → List Int
  | 0 => []
  | n + 1 => k :: countL (k + 1) n
theorem countL_length (n : Nat) : ∀ k : Int, (countL k n).length = n := by
  induction n with
  | zero => intro k; rfl
  | succ n ih => intro k; simp [countL, ih]
theorem markIntS_L0 (d : Nat) : ∀ (i : Nat) (b : Bool) (x : List Int) (k : Int), i + d = x.length → x.length ≤ 1048576 → 0 ≤ k → k + d ≤ 4000000000000000000 → laws_markIntS_L0 (b, x) k (i : Int) = some ((b, x.take i ++ countL k d), k + d) := by
  induction d with
  | zero =>
    intro i b x k hi hl hk hk2
    rw [laws_markIntS_L0_eq, gF (by simp only; omega), List.take_of_length_le (by omega)]
    simp [countL]
  | succ d ih =>
    intro i b x k hi hl hk hk2
    rw [laws_markIntS_L0_eq, gT (by simp only; omega), gT (by omega), gT (by simp only; omega), up1 i (by omega), wr (by omega), bind_id, Int.toNat_natCast, ih (i + 1) b (x.set i k) (k + 1) (by simp; omega) (by simpa using hl) (by omega) (by omega)]
    have e : (x.set i k).take (i + 1) = x.take i ++ [k] := by
      rw [List.take_succ_eq_append_getElem (by simpa using (by omega : i < x.length)), List.getElem_set_self, List.take_set_of_le (Nat.le_refl _)]
    rw [e, countL, List.append_assoc, List.singleton_append, show k + 1 + (d : Int) = k + ((d + 1 : Nat) : Int) by omega]
theorem markIntS (b : Bool) (x : List Int) (k : Int) (hl : x.length ≤ 1048576) (h0 : 0 ≤ k) (hk : k + x.length ≤ 4000000000000000000) : laws_markIntS (b, x) k = some ((b, countL k x.length), k + x.length) := by
  have := markIntS_L0 x.length 0 b x k (by omega) hl h0 hk
  have h' : laws_markIntS_L0 (b, x) k 0 = _ := this
  rw [laws_markIntS_eq, h', some_bind, List.take_zero, List.nil_append]
theorem heldIntS_L0 (d : Nat) : ∀ (i : Nat) (b : Bool) (x : List Int) (k : Int), i + d = x.length → x.length ≤ 1048576 → 0 ≤ k → k + d ≤ 4000000000000000000 → x.drop i = countL k d → laws_heldIntS_L0 (b, x) k (i : Int) = some (.inr (k + d)) := by
  induction d with
  | zero =>
    intro i b x k hi hl hk hk2 hx
    rw [laws_heldIntS_L0_eq, gF (by simp only; omega)]
    simp
  | succ d ih =>
    intro i b x k hi hl hk hk2 hx
    have hlt : i < x.length := by omega
    rw [List.drop_eq_getElem_cons hlt, countL] at hx
    obtain ⟨hx1, hx2⟩ := List.cons.inj hx
    rw [laws_heldIntS_L0_eq, gT (by simp only; omega), gT (by omega), gT (by simp only; omega), getD_at x _ i hlt, hx1, bF (by simp), up1 i (by omega), wr (by omega), bind_id, ih (i + 1) b x (k + 1) (by omega) hl (by omega) (by omega) hx2]
    congr 2
    omega
theorem heldIntS (b : Bool) (n : Nat) (k : Int) (hl : n ≤ 1048576) (h0 : 0 ≤ k) (hk : k + n ≤ 4000000000000000000) : laws_heldIntS (b, countL k n) k = some (k + n) := by
  have h1 := countL_length n k
  have := heldIntS_L0 n 0 b (countL k n) k (by omega) (by omega) h0 (by omega) rfl
  have h' : laws_heldIntS_L0 (b, countL k n) k 0 = _ := this
  rw [laws_heldIntS_eq, h', some_bind]
theorem growInt (n : Nat) (h : n ≤ 1099511627776) : ∃ b, slices_Grow_int (n : Int) = some (b, []) := by
  have hlim := lim_eq
  have e : IntKind.i64.wrap ((n : Int) - IntKind.i64.wrap (0 - 0)) = (n : Int) := by
    rw [show IntKind.i64.wrap (0 - 0) = 0 from wr (by omega), wr (by omega)]
    omega
  rw [slices_Grow_int_eq, e, gF (by omega)]
  by_cases h0 : n = 0
  · rw [gF (by omega)]
    exact ⟨_, rfl⟩
  · rw [gT (by omega), gT (by omega), gT (by omega), gT (by simp; omega), gT (by omega)]
    exact ⟨_, rfl⟩
theorem concatInt_L0 (s l : Bool × List (Bool × List Int)) (d : Nat) : ∀ (i k : Nat), i + d = l.2.length → k + ((l.2.drop i).map fun x => x.2.length).sum ≤ 1099511627776 → l.2.length ≤ 1099511627776 →
    slices_Concat_int_L0 s (k : Int) l (l.2.length : Int) (i : Int) = some ((k + ((l.2.drop i).map fun x => x.2.length).sum : Nat) : Int) := by
  induction d with
  | zero =>
    intro i k hi hk hl
    rw [slices_Concat_int_L0_eq, gF (by omega), List.drop_of_length_le (by omega)]
    rfl
  | succ d ih =>
    intro i k hi hk hl
    have hlt : i < l.2.length := by omega
    rw [List.drop_eq_getElem_cons hlt] at hk ⊢
    simp only [List.map_cons, List.sum_cons] at hk ⊢
    rw [slices_Concat_int_L0_eq, gT (by omega), gT (by omega), gT (by omega), getD_at l.2 _ i hlt, show (k : Int) + (l.2[i].2.length : Int) = ((k + l.2[i].2.length : Nat) : Int) by omega, wr (by omega), gF (by omega), up1 i (by omega), bind_id, ih (i + 1) _ (by omega) (by omega) hl]
    congr 2
    omega
theorem concatInt_L2 (l : Bool × List (Bool × List Int)) (d : Nat) : ∀ (i : Nat) (b : Bool) (out : List Int), i + d = l.2.length → out.length + ((l.2.drop i).map fun x => x.2.length).sum ≤ 1099511627776 → l.2.length ≤ 1099511627776 →
    ∃ b', slices_Concat_int_L2 (b, out) l (l.2.length : Int) (i : Int) = some (b', out ++ ((l.2.drop i).map fun x => x.2).flatten) := by
  have hlim := lim_eq
  induction d with
  | zero =>
    intro i b out hi hk hl
    rw [slices_Concat_int_L2_eq, gF (by omega), List.drop_of_length_le (by omega)]
    exact ⟨b, by simp⟩
  | succ d ih =>
    intro i b out hi hk hl
    have hlt : i < l.2.length := by omega
    rw [List.drop_eq_getElem_cons hlt] at hk ⊢
    simp only [List.map_cons, List.sum_cons, List.flatten_cons] at hk ⊢
    rw [slices_Concat_int_L2_eq, gT (by omega), gT (by omega), gT (by omega), getD_at l.2 _ i hlt, gT (by simp only; omega), up1 i (by omega), bind_id]
    obtain ⟨b', g⟩ := ih (i + 1) (b && l.2[i].2.isEmpty) (out ++ l.2[i].2) (by omega) (by rw [List.length_append]; omega) hl
    exact ⟨b', by rw [g]; simp⟩
theorem concatInt (l : Bool × List (Bool × List Int)) (h : (l.2.map fun x => x.2.length).sum ≤ 1099511627776) (hl : l.2.length ≤ 1099511627776) : ∃ b, slices_Concat_int l = some (b, (l.2.map fun x => x.2).flatten) := by
  have h0 := concatInt_L0 l l l.2.length 0 0 (by omega) (by simpa using h) hl
  rw [List.drop_zero, Nat.zero_add] at h0
  have h0' : slices_Concat_int_L0 l 0 l (l.2.length : Int) 0 = _ := h0
  obtain ⟨b1, h1⟩ := growInt _ h
  obtain ⟨b2, h2⟩ := concatInt_L2 l l.2.length 0 b1 [] (by omega) (by simpa using h) hl
  rw [List.drop_zero, List.nil_append] at h2
  have h2' : slices_Concat_int_L2 (b1, []) l (l.2.length : Int) 0 = _ := h2
  exact ⟨b2, by rw [slices_Concat_int_eq, h0', some_bind, h1, some_bind, h2', some_bind]⟩
/-- a list without its k-th place -/
def dropAt (l : List Int) (k : Nat) : List Int := l.take k ++ l.drop (k + 1)
theorem dropAt_length (l : List Int) (k : Nat) : (dropAt l k).length ≤ l.length := by
  simp [dropAt]
  omega
theorem l23Without (b : Bool) (l : List Int) (k : Nat) (hk : k < l.length) (hl : l.length ≤ 1048576) : ∃ f, spec_l23Without (b, l) (k : Int) = some (f, dropAt l k) := by
  have hlim := lim_eq
  rw [spec_l23Without_eq, gT (by omega), gT (by simp only; omega), spec_l1Own_eq, gT (by simp; omega), some_bind, up1 k (by omega), gT (by omega), gT (by simp only; omega), gT (by simp; omega)]
  simp only [dropAt, List.nil_append, List.drop_zero, Int.toNat_natCast, List.take_length]
  exact ⟨_, rfl⟩
theorem dropPoint_1 (b : Bool) (l : List Int) (k : Nat) (hk : k < l.length) (hl : l.length ≤ 1048576) : ∃ f, impl_DropPoint_1 (b, l) (k : Int) = some (f, dropAt l k) := by
  rw [impl_DropPoint_1_eq, gT (by omega), gT (by simp only; omega), up1 k (by omega), gT (by omega), gT (by simp only; omega)]
  obtain ⟨f, e⟩ := concatInt (false, [(b, ((l.take (Int.toNat (k : Int))).drop 0)), (b, ((l.take l.length).drop (Int.toNat ((k + 1 : Nat) : Int))))]) (by simp; omega) (by simp)
  refine ⟨f, ?_⟩
  have e' : slices_Concat_int (false, [(b, ((l.take (Int.toNat (k : Int))).drop 0)), (b, ((l.take l.length).drop (Int.toNat ((k + 1 : Nat) : Int))))]) = some (f, dropAt l k) := by
    rw [e]
    simp [dropAt]
  rw [e', some_bind]
theorem drop_law (r : DProof) (k : Int) (hk : -9223372036854775808 ≤ k ∧ k < 9223372036854775808) (h1 : r.1.2.length ≤ 1048576) (h2 : r.2.1.2.length ≤ 1048576) (h3 : r.2.2.2.length ≤ 1048576) :
    ∃ f1 f2 f3 g1 g2 g3 a b c ok, spec_DropPoint r k = some ((f1, a), ((f2, b), ((f3, c), ok))) ∧ impl_DropPoint r k = some ((g1, a), ((g2, b), ((g3, c), ok))) ∧ a.length ≤ 1048576 ∧ b.length ≤ 1048576 ∧ c.length ≤ 1048576 := by
  have bad : ∃ f1 f2 f3 g1 g2 g3 a b c ok, some (((true, []), ((true, []), ((true, []), false))) : (Bool × List Int) × (Bool × List Int) × (Bool × List Int) × Bool) = some ((f1, a), ((f2, b), ((f3, c), ok))) ∧ some (((true, []), ((true, []), ((true, []), false))) : (Bool × List Int) × (Bool × List Int) × (Bool × List Int) × Bool) = some ((g1, a), ((g2, b), ((g3, c), ok))) ∧ a.length ≤ 1048576 ∧ b.length ≤ 1048576 ∧ c.length ≤ 1048576 :=
    ⟨true, true, true, true, true, true, [], [], [], false, rfl, rfl, by simp, by simp, by simp⟩
  have ko : spec_DropPoint r k = some ((true, []), ((true, []), ((true, []), false))) → impl_DropPoint r k = some ((true, []), ((true, []), ((true, []), false))) → ∃ f1 f2 f3 g1 g2 g3 a b c ok, spec_DropPoint r k = some ((f1, a), ((f2, b), ((f3, c), ok))) ∧ impl_DropPoint r k = some ((g1, a), ((g2, b), ((g3, c), ok))) ∧ a.length ≤ 1048576 ∧ b.length ≤ 1048576 ∧ c.length ≤ 1048576 :=
    fun e1 e2 => by rw [e1, e2]; exact bad
  by_cases c1 : (r.1.2.length : Int) > 1200
  · exact ko (by rw [spec_DropPoint_eq, gT c1]) (by rw [impl_DropPoint_eq, gT c1])
  by_cases c2 : r.2.1.2.length = r.1.2.length
  · have d2 : ((r.2.1.2.length : Int) != (r.1.2.length : Int)) = false := by simp [c2]
    by_cases c3 : r.2.2.2.length = r.1.2.length
    · have d3 : ((r.2.2.2.length : Int) != (r.1.2.length : Int)) = false := by simp [c3]
      by_cases c4 : 0 ≤ k ∧ k ≤ (r.1.2.length : Int) - 1
      · obtain ⟨n, rfl⟩ := Int.eq_ofNat_of_zero_le c4.1
        obtain ⟨f1, e1⟩ := l23Without r.1.1 r.1.2 n (by omega) h1
        obtain ⟨f2, e2⟩ := l23Without r.2.1.1 r.2.1.2 n (by omega) h2
        obtain ⟨f3, e3⟩ := l23Without r.2.2.1 r.2.2.2 n (by omega) h3
        obtain ⟨g1, i1⟩ := dropPoint_1 r.1.1 r.1.2 n (by omega) h1
        obtain ⟨g2, i2⟩ := dropPoint_1 r.2.1.1 r.2.1.2 n (by omega) h2
        obtain ⟨g3, i3⟩ := dropPoint_1 r.2.2.1 r.2.2.2 n (by omega) h3
        refine ⟨f1, f2, f3, g1, g2, g3, dropAt r.1.2 n, dropAt r.2.1.2 n, dropAt r.2.2.2 n, true, ?_, ?_, Nat.le_trans (dropAt_length _ _) h1, Nat.le_trans (dropAt_length _ _) h2, Nat.le_trans (dropAt_length _ _) h3⟩
        · rw [spec_DropPoint_eq, gF c1, d2, cond_false, d3, cond_false, wr (by omega), l1In_eq, some_bind, decide_eq_true c4, Bool.not_true, cond_false]
          have e1' : spec_l23Without r.1 (n : Int) = _ := e1
          have e2' : spec_l23Without r.2.1 (n : Int) = _ := e2
          have e3' : spec_l23Without r.2.2 (n : Int) = _ := e3
          rw [e1', some_bind, e2', some_bind, e3', some_bind]
        · rw [impl_DropPoint_eq, gF c1, d2, cond_false, d3, cond_false, gF (by omega), gF (by omega)]
          have e1' : impl_DropPoint_1 r.1 (n : Int) = _ := i1
          have e2' : impl_DropPoint_1 r.2.1 (n : Int) = _ := i2
          have e3' : impl_DropPoint_1 r.2.2 (n : Int) = _ := i3
          rw [e1', some_bind, e2', some_bind, e3', some_bind]
      · refine ko ?_ ?_
        · rw [spec_DropPoint_eq, gF c1, d2, cond_false, d3, cond_false, wr (by omega), l1In_eq, some_bind, decide_eq_false c4, Bool.not_false, cond_true]
        · rw [impl_DropPoint_eq, gF c1, d2, cond_false, d3, cond_false]
          by_cases c5 : k < 0
          · rw [gT c5]
          · rw [gF c5, gT (by omega)]
    · have d3 : ((r.2.2.2.length : Int) != (r.1.2.length : Int)) = true := by simp; omega
      exact ko (by rw [spec_DropPoint_eq, gF c1, d2, cond_false, d3, cond_true]) (by rw [impl_DropPoint_eq, gF c1, d2, cond_false, d3, cond_true])
  · have d2 : ((r.2.1.2.length : Int) != (r.1.2.length : Int)) = true := by simp; omega
    exact ko (by rw [spec_DropPoint_eq, gF c1, d2, cond_true]) (by rw [impl_DropPoint_eq, gF c1, d2, cond_true])
theorem eqProof_same (f1 f2 f3 g1 g2 g3 : Bool) (a b c : List Int) (ha : a.length ≤ 1048576) (hb : b.length ≤ 1048576) (hc : c.length ≤ 1048576) : laws_eqProof ((f1, a), ((f2, b), (f3, c))) ((g1, a), ((g2, b), (g3, c))) = some true := by
  rw [laws_eqProof_eq, eqIntS_same f1 g1 a ha, some_bind, Bool.not_true, cond_false, eqIntS_same f2 g2 b hb, some_bind, Bool.not_true, cond_false, eqIntS_same f3 g3 c hc]
  rfl
theorem pure_FnExactDropPoint (x0 : DProof) (x1 : Int) (w0 : WfD tyProof x0) (w1 : WfD (.int .i64) x1) : laws_FnExactDropPoint x0 x1 = some true := by
  have hk := WfD_i64 w1
  obtain ⟨v1, v2, v3⟩ := w0
  rw [laws_FnExactDropPoint_eq, laws_szProof_eq, szIntS x0.1 1048576 (by omega) v1.2.1, some_bind]
  by_cases c1 : (x0.1.2.length : Int) ≤ 1048576
  · rw [if_pos c1, gF (by omega), szIntS x0.2.1 _ (by omega) v2.2.1, some_bind]
    by_cases c2 : (x0.2.1.2.length : Int) ≤ 1048576 - x0.1.2.length
    · rw [if_pos c2, gF (by omega), szIntS x0.2.2 _ (by omega) v3.2.1, some_bind]
      by_cases c3 : (x0.2.2.2.length : Int) ≤ 1048576 - x0.1.2.length - x0.2.1.2.length
      · rw [if_pos c3, gF (by omega), some_bind, gF (by omega)]
        have et : laws_toProof x0 = some ((false, x0.1.2), ((false, x0.2.1.2), (false, x0.2.2.2))) := by
          rw [laws_toProof_eq, toIntS _ (by omega), some_bind, toIntS _ (by omega), some_bind, toIntS _ (by omega), some_bind]
        obtain ⟨f1, f2, f3, g1, g2, g3, a, b, c, ok, e1, e2, ha, hb, hc⟩ := drop_law ((false, x0.1.2), ((false, x0.2.1.2), (false, x0.2.2.2))) x1 hk (by simp only; omega) (by simp only; omega) (by simp only; omega)
        have em : ∀ (p q r : Bool) (u v w : List Int), u.length ≤ 1048576 → v.length ≤ 1048576 → w.length ≤ 1048576 → laws_markProof (p, u) (q, v) (r, w) 1 = some ((p, countL 1 u.length), ((q, countL (1 + u.length) v.length), ((r, countL (1 + u.length + v.length) w.length), (1 + u.length + v.length + w.length : Int)))) := by
          intro p q r u v w hu hv hw
          rw [laws_markProof_eq, markIntS p u 1 hu (by omega) (by omega), some_bind, markIntS q v _ hv (by omega) (by simp only; omega), some_bind, markIntS r w _ hw (by simp only; omega) (by simp only; omega), some_bind]
        have eh : laws_heldProof ((g1, countL 1 a.length), ((g2, countL (1 + a.length) b.length), (g3, countL (1 + a.length + b.length) c.length))) 1 = some (1 + a.length + b.length + c.length : Int) := by
          rw [laws_heldProof_eq, heldIntS g1 _ 1 ha (by omega) (by omega), some_bind, gF (by omega), heldIntS g2 _ _ hb (by omega) (by omega), some_bind, gF (by omega), heldIntS g3 _ _ hc (by omega) (by omega), some_bind, gF (by omega)]
        simp only [et, some_bind, e1, e2, eqProof_same g1 g2 g3 f1 f2 f3 a b c ha hb hc, Bool.not_true, cond_false, beq_self_eq_true]
        rw [eqProof_same _ _ _ _ _ _ _ _ _ (by omega) (by omega) (by omega), some_bind, Bool.not_true, cond_false, em _ _ _ _ _ _ (by omega) (by omega) (by omega), some_bind, gF (by simp only; omega), em _ _ _ _ _ _ ha hb hc, some_bind]
        simp only [eh, some_bind]
        rw [gF (by omega), bF (by simp), gF (by omega), bF (by simp)]
      · rw [if_neg c3, gT (by omega), some_bind, gT (by omega)]
    · rw [if_neg c2, gT (by omega), some_bind, gT (by omega)]
  · rw [if_neg c1, gT (by omega), some_bind, gT (by omega)]

end Go.Proofs.Ytdfccojbamlkdaa.R
