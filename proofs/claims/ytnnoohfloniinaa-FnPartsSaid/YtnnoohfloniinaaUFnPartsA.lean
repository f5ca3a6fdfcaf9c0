/- The plain law of FnParts: what the two functions compute is the same. -/
import Derived.Test.YtnnoohfloniinaaEFnParts
import Derived.Laws.MathBits
set_option linter.all false
namespace Go.Proofs.Ytnnoohfloniinaa.R
open Go.Rf
/-- The greatest word of a width. -/
def top (wide : Int) : Int := 2 ^ wide.toNat - 1
theorem Q4h {wide : Int} (h : 1 ≤ wide ∧ wide ≤ 64) : 1 ≤ top wide ∧ top wide ≤ 18446744073709551615 := by
  obtain ⟨n, rfl⟩ := Ke (show 0 ≤ wide by omega)
  have h1 := J4e (n := n) (by omega)
  have h2 : (2 : Nat) ^ 1 ≤ 2 ^ n := Nat.pow_le_pow_right (by decide) (by omega)
  have e : ((2 : Int) ^ n) = ((2 ^ n : Nat) : Int) := by simp
  simp only [top, K7, e]
  omega
theorem Q31 (n lo hi : Int) : Fv n lo hi = some (decide (lo ≤ n ∧ n ≤ hi)) := by
  rw [FvE]
  by_cases h : n ≥ lo
  · rw [gT h]; congr 1; apply decide_eq_decide.mpr; omega
  · rw [gF h]; congr 1; symm; apply decide_eq_false; omega
theorem Q1c (k : IntKind) (x : Int) (n : Nat) (h : n ≤ k.bits) : bShr k x (n : Int) = x / 2 ^ n := by
  unfold bShr
  rw [show min ((n : Int)).toNat k.bits = n by simp only [K7]; omega, Int.fdiv_eq_ediv_of_nonneg _ (Int.le_of_lt (Int.pow_pos (by decide)))]
theorem Q1w {wide a : Int} (hw : 1 ≤ wide ∧ wide ≤ 64) (ha : U64 a) : bAnd .u64 a (top wide) = a % (top wide + 1) := by
  obtain ⟨n, rfl⟩ := Ke (show 0 ≤ wide by omega)
  obtain ⟨m, rfl⟩ := Ke ha.1
  have e : ((2 : Int) ^ n) = ((2 ^ n : Nat) : Int) := by simp
  have hm : m < 2 ^ 64 := by have := ha.2; simp; omega
  have hp := J4e (n := n) (by omega)
  have h0 : 0 < (2 : Nat) ^ n := Nat.two_pow_pos _
  have e2 : top ((n : Nat) : Int) = ((2 ^ n - 1 : Nat) : Int) := by
    simp only [top, K7, e]
    omega
  have e3 : top ((n : Nat) : Int) + 1 = ((2 ^ n : Nat) : Int) := by rw [e2]; omega
  rw [e3, e2, J8c m (2 ^ n - 1) hm (by simp; omega), Nat.and_two_pow_sub_one_eq_mod]
  rfl
/-- Words of a width. -/
def W5 (wide a : Int) : Prop := 0 ≤ a ∧ a ≤ top wide
theorem W5.u64 {wide a : Int} (hw : 1 ≤ wide ∧ wide ≤ 64) (h : W5 wide a) : U64 a := ⟨h.1, by have := h.2; have := Q4h hw; omega⟩
inductive TypedV (wide : Int) : List Int → List Int → Prop
  | nil : TypedV wide [] []
  | snoc {ks st : List Int} {k v : Int} : TypedV wide ks st → W5 wide v → (k = 2 → v ≤ 1) → TypedV wide (ks ++ [k]) (st ++ [v])
theorem TypedV.inv {wide : Int} {ks st : List Int} (h : TypedV wide ks st) : (ks = [] ∧ st = []) ∨ ∃ ks' st' k v, ks = ks' ++ [k] ∧ st = st' ++ [v] ∧ TypedV wide ks' st' ∧ W5 wide v ∧ (k = 2 → v ≤ 1) := by
  cases h with
  | nil => exact .inl ⟨rfl, rfl⟩
  | snoc h1 h2 h3 => exact .inr ⟨_, _, _, _, rfl, rfl, h1, h2, h3⟩
theorem TypedV.len {wide : Int} {ks st : List Int} (h : TypedV wide ks st) : ks.length = st.length := by
  induction h with
  | nil => rfl
  | snoc _ _ _ ih => simp [ih]
theorem Q2d {α ρ : Type} (l : List α) (q : α → Bool) (y : ρ) (F : Int → Option (ρ ⊕ Unit))
    (hs : ∀ (i : Nat) (h : i < l.length), F (i : Int) = bif q l[i] then some (.inl y) else F ((i + 1 : Nat) : Int)) (he : F (l.length : Int) = some (.inr ())) : F 0 = some (bif l.any q then .inl y else .inr ()) := by
  have := J4c l (fun x => !q x) (β := ρ ⊕ Unit) (.inr ()) (.inl y) F (fun i h => by rw [hs i h]; cases q l[i] <;> rfl) he
  rw [this, List.any_eq_not_all_not]
  cases (l.all fun x => !q x) <;> rfl
theorem Q4i (l : Bool × List Int) (n : Int) (hl : l.2.length ≤ 1048576) : Fo l n = some (l.2.any fun x => x == n) := by
  rw [FoE, Q2d l.2 (fun x => x == n) true (fun i => F28 n l (l.2.length : Int) i) (fun i h => by
    rw [F28E, gT (by omega), gT (by omega), gT (by omega), J2 l.2 _ i h, up1 i (by omega), J1]) (by rw [F28E, gF (by omega)]), J0]
  cases (l.2.any fun x => x == n) <;> rfl
theorem Q3d {α : Type} (l : List α) (q : α → Bool) (F : Int → Option (Bool ⊕ Unit))
    (hs : ∀ (i : Nat) (h : i < l.length), F (i : Int) = bif !q l[i] then some (.inl false) else F ((i + 1 : Nat) : Int)) (he : F (l.length : Int) = some (.inr ())) : F 0 = some (if l.all q = true then .inr () else .inl false) := by
  have := J4c l q (β := Bool ⊕ Unit) (.inr ()) (.inl false) F (fun i h => by rw [hs i h]; cases q l[i] <;> rfl) he
  rw [this]
  cases l.all q <;> rfl
theorem Q2c (n : Nat) (q : Nat → Bool) (F : Int → Option (Bool ⊕ Unit)) (hs : ∀ (i : Nat), i < n → F (i : Int) = bif !q i then some (.inl false) else F ((i + 1 : Nat) : Int)) (he : F (n : Int) = some (.inr ())) :
    F 0 = some (if (List.range n).all q = true then .inr () else .inl false) :=
  Q3d (List.range n) q F (fun i h => by rw [List.getElem_range]; exact hs i (by simpa using h)) (by rw [List.length_range]; exact he)
/-- Do the numbers of a list rise from 0 on, below a bound? -/
def Qd (n : Int) (l : List Int) : Bool := (List.range l.length).all fun i => decide (0 ≤ l.getD i 0 ∧ l.getD i 0 < n) && (decide (i = 0) || decide (l.getD (i - 1) 0 < l.getD i 0))
theorem Q3p {n : Int} {l : List Int} (h : Qd n l = true) : ∀ x ∈ l, 0 ≤ x ∧ x < n := by
  intro x hx
  obtain ⟨i, hi, rfl⟩ := List.getElem_of_mem hx
  have := (Kz.1 h) i (K1v.2 hi)
  rw [K6, decide_eq_true_eq] at this
  have e : l.getD i 0 = l[i] := by simp [K1, hi]
  rw [e] at this
  exact this.1
theorem Qy {n : Int} {l : List Int} (h : Qd n l = true) (h0 : 0 ≤ n) : (l.length : Int) ≤ n := by
  have key : ∀ i : Nat, i < l.length → (i : Int) ≤ l.getD i 0 := by
    intro i
    induction i with
    | zero =>
      intro hi
      have := (Kz.1 h) 0 (K1v.2 hi)
      rw [K6, decide_eq_true_eq] at this
      exact this.1.1
    | succ i ih =>
      intro hi
      have := (Kz.1 h) (i + 1) (K1v.2 hi)
      rw [K6, decide_eq_true_eq, Bool.or_eq_true, decide_eq_true_eq, decide_eq_true_eq] at this
      have h2 := ih (by omega)
      rcases this.2 with h3 | h3
      · omega
      · simp only [Nat.add_sub_cancel] at h3
        omega
  by_cases hl : l.length = 0
  · omega
  · have h1 := key (l.length - 1) (by omega)
    have := (Kz.1 h) (l.length - 1) (K1v.2 (by omega))
    rw [K6, decide_eq_true_eq] at this
    have := this.1.2
    omega
theorem Q9 {α : Type} (l : List α) (z : α) (i : Nat) : l.getD (Int.toNat (i : Int)) z = l.getD i z := by rw [K7]
theorem Q3m (l : Bool × List Int) (n : Int) (hl : l.2.length ≤ 1048576) : Fi l 0 (n - 1) = some (Qd n l.2) := by
  rw [FiE, Q2c l.2.length (fun i => decide (0 ≤ l.2.getD i 0 ∧ l.2.getD i 0 < n) && (decide (i = 0) || decide (l.2.getD (i - 1) 0 < l.2.getD i 0))) (fun i => Fy l 0 (n - 1) l (l.2.length : Int) i) (fun i h => by
    rw [FyE, gT (by omega), gT (by omega), gT (by omega), Q9, Q31, J0, up1 i (by omega), J1]
    by_cases c1 : 0 ≤ l.2.getD i 0 ∧ l.2.getD i 0 < n
    · rw [decide_eq_true (show 0 ≤ l.2.getD i 0 ∧ l.2.getD i 0 ≤ n - 1 by omega), K5, cond_false, decide_eq_true c1, K15]
      by_cases c2 : i = 0
      · rw [gF (by omega), decide_eq_true c2]; rfl
      · rw [gT (by omega), gT (by rw [wr (by omega)]; omega), gT (by rw [wr (by omega)]; omega), dn1 i (by omega) (by omega), Q9, decide_eq_false c2, Bool.false_or]
        by_cases c3 : l.2.getD (i - 1) 0 < l.2.getD i 0
        · rw [gF (by omega), decide_eq_true c3]; rfl
        · rw [gT (by omega), decide_eq_false c3]; rfl
    · rw [decide_eq_false (show ¬ (0 ≤ l.2.getD i 0 ∧ l.2.getD i 0 ≤ n - 1) by omega), decide_eq_false c1]; rfl) (by rw [FyE, gF (by omega)]), J0]
  unfold Qd
  generalize (List.range l.2.length).all _ = q
  cases q <;> rfl
theorem Qh (l : Bool × List Int) (n : Int) (hl : l.2.length ≤ 1048576) : Fb l n = some (Qd n l.2) := by
  rw [FbE, Q2c l.2.length (fun i => decide (0 ≤ l.2.getD i 0 ∧ l.2.getD i 0 < n) && (decide (i = 0) || decide (l.2.getD (i - 1) 0 < l.2.getD i 0))) (fun i => F1f l n l (l.2.length : Int) i) (fun i h => by
    rw [F1fE, gT (by omega), gT (by omega), gT (by omega), Q9, up1 i (by omega), J1]
    by_cases c1 : 0 ≤ l.2.getD i 0 ∧ l.2.getD i 0 < n
    · rw [gF (by omega), gF (by omega), decide_eq_true c1, K15]
      by_cases c2 : i = 0
      · rw [gF (by omega), decide_eq_true c2]; rfl
      · rw [gT (by omega), gT (by rw [wr (by omega)]; omega), gT (by rw [wr (by omega)]; omega), dn1 i (by omega) (by omega), Q9, decide_eq_false c2, Bool.false_or]
        by_cases c3 : l.2.getD (i - 1) 0 < l.2.getD i 0
        · rw [gF (by omega), decide_eq_true c3]; rfl
        · rw [gT (by omega), decide_eq_false c3]; rfl
    · rw [decide_eq_false c1]
      by_cases c4 : l.2.getD i 0 < 0
      · rw [gT c4]; rfl
      · rw [gF c4, gT (by omega)]; rfl) (by rw [F1fE, gF (by omega)]), J0]
  unfold Qd
  generalize (List.range l.2.length).all _ = q
  cases q <;> rfl
theorem Q3s : top 32 = 4294967295 := by decide
theorem Q3o {x y : Int} (hx : 0 ≤ x ∧ x < 65536) (hy : 0 ≤ y ∧ y < 65536) : Fp x y = some (0, x * y) := by
  have a1 : bShr .u64 x 32 = 0 := by rw [show (32 : Int) = ((32 : Nat) : Int) from rfl, Q1c .u64 x 32 (by decide)]; exact Int.ediv_eq_zero_of_lt hx.1 (by omega)
  have a2 : bShr .u64 y 32 = 0 := by rw [show (32 : Int) = ((32 : Nat) : Int) from rfl, Q1c .u64 y 32 (by decide)]; exact Int.ediv_eq_zero_of_lt hy.1 (by omega)
  have b1 : bAnd .u64 x 4294967295 = x := by rw [← Q3s, Q1w (by omega) ⟨hx.1, by omega⟩, Q3s, Int.emod_eq_of_lt hx.1 (by omega)]
  have b2 : bAnd .u64 y 4294967295 = y := by rw [← Q3s, Q1w (by omega) ⟨hy.1, by omega⟩, Q3s, Int.emod_eq_of_lt hy.1 (by omega)]
  have h0 : 0 ≤ x * y := Int.mul_nonneg hx.1 hy.1
  have h1 : x * y < 65536 * 65536 := by
    have := Int.mul_le_mul (show x ≤ 65535 by omega) (show y ≤ 65535 by omega) hy.1 (by omega)
    omega
  have w0 : IntKind.u64.wrap 0 = 0 := wru (by omega)
  have w1 : IntKind.u64.wrap (x * y) = x * y := wru (by omega)
  have s1 : bShr .u64 (x * y) 32 = 0 := by rw [show (32 : Int) = ((32 : Nat) : Int) from rfl, Q1c .u64 _ 32 (by decide)]; exact Int.ediv_eq_zero_of_lt h0 (by omega)
  have s0 : bShr .u64 0 32 = 0 := by decide
  have c0 : bAnd .u64 0 4294967295 = 0 := by decide
  rw [FpE, F10E, a1, a2, b1, b2, w1, s1]
  simp only [Int.zero_mul, Int.mul_zero, Int.add_zero, w0, s0, c0, J0]
theorem Q33 {α : Type} (a b : Nat) (x : α) : List.replicate (a + b) x = List.replicate a x ++ List.replicate b x := by
  rw [List.replicate_append_replicate]
theorem Q2w (l : List Int) (m j : Nat) (h : j ≤ m) : (List.replicate m l).flatten.take (j * l.length) = (List.replicate j l).flatten := by
  obtain ⟨d, rfl⟩ := Nat.exists_eq_add_of_le h
  rw [Q33, List.flatten_append, List.take_left']
  simp
theorem Q34 (l : List Int) (c : Nat) (hl : 0 < l.length) (hc : c * l.length ≤ 10000000) (d : Nat) : ∀ (m : Nat) (b : Bool) (rest : List Int), m + d = c → 1 ≤ m → rest.length = d * l.length →
    F1p (b, (List.replicate m l).flatten ++ rest) ((m * l.length : Nat) : Int) = some (b, (List.replicate c l).flatten) := by
  induction d using Nat.strongRecOn with
  | _ d ih =>
    intro m b rest hm h1 hr
    have e0 : ((List.replicate m l).flatten).length = m * l.length := by simp
    have e1 : ((List.replicate m l).flatten ++ rest).length = c * l.length := by rw [Kj, e0, hr, ← hm, K18]
    rw [F1pE]
    simp only [e1]
    by_cases hd : d = 0
    · subst hd
      have : rest = [] := K1z (by simpa using hr)
      subst this
      obtain rfl : m = c := by omega
      rw [gF (by omega), K1o]
    · have hlt : m * l.length < c * l.length := (Nat.mul_lt_mul_right hl).2 (by omega)
      rw [gT (by omega), gT (by omega), gT (by omega), gT (by omega), gT (by omega), J1, K7, List.take_left' e0, Kg, e0]
      have hsub : c * l.length - m * l.length = d * l.length := by rw [← Nat.sub_mul]; congr 1; omega
      have hmin : min (m * l.length) (d * l.length) = (min m d) * l.length := by
        rcases Nat.le_total m d with h | h
        · rw [Nat.min_eq_left h, Nat.min_eq_left (Kp _ h)]
        · rw [Nat.min_eq_right h, Nat.min_eq_right (Kp _ h)]
      have htake : ((List.replicate m l).flatten).take (d * l.length) = (List.replicate (min m d) l).flatten := by
        rcases Nat.le_total m d with h | h
        · rw [Nat.min_eq_left h, K1i (by rw [e0]; exact Kp _ h)]
        · rw [Nat.min_eq_right h, Q2w l m d h]
      rw [hsub, hmin, htake, ← Kl, ← List.flatten_append, ← Q33, List.drop_append, K9 (by rw [e0]; exact Nat.le_add_right _ _), Kv, e0, show m * l.length + min m d * l.length - m * l.length = min m d * l.length by omega]
      have hadd : m * l.length + min m d * l.length = (m + min m d) * l.length := by rw [K18]
      have hle : (m + min m d) * l.length ≤ c * l.length := Kp _ (by omega)
      rw [wr (by omega), show ((m * l.length : Nat) : Int) + ((min m d * l.length : Nat) : Int) = (((m + min m d) * l.length : Nat) : Int) by rw [← hadd]; omega]
      exact ih (d - min m d) (by omega) (m + min m d) b (rest.drop (min m d * l.length)) (by omega) (by omega) (by rw [List.length_drop, hr, ← Nat.sub_mul])
theorem Q1a (l : Bool × List Int) (c : Nat) (hl : 0 < l.2.length) (hl2 : l.2.length ≤ 1000) (h1 : 1 ≤ c) (hc : c ≤ 10000) : Fj l (c : Int) = some (false, (List.replicate c l.2).flatten) := by
  have hlim := J6
  have hm : c * l.2.length ≤ 10000 * 1000 := Nat.mul_le_mul hc hl2
  have hmul : (l.2.length : Int) * (c : Int) = ((c * l.2.length : Nat) : Int) := by rw [Int.natCast_mul, Int.mul_comm]
  have e := Q34 l.2 c hl (by omega) (c - 1) 1 false ((List.replicate (c * l.2.length) (0 : Int)).drop l.2.length) (by omega) (by omega) (by
    rw [List.length_drop, K23, Nat.sub_mul, Nat.one_mul])
  have hle : l.2.length ≤ c * l.2.length := by
    have := Kp l.2.length h1
    omega
  have e1 : l.2.take (List.replicate (c * l.2.length) (0 : Int)).length = l.2 := by rw [K23, K1i hle]
  have e2 : min l.2.length (List.replicate (c * l.2.length) (0 : Int)).length = l.2.length := by rw [K23]; omega
  rw [FjE, gF (by omega), wru (by omega), wru (by omega), Q3o (by omega) (by omega), J0]
  simp only [hmul]
  rw [gF (by omega), gF (by omega), wr (by omega), gT (by omega), gT (by omega), gT (by omega), gT (by omega), K7, e1, e2]
  have e' : F1p (false, l.2 ++ (List.replicate (c * l.2.length) (0 : Int)).drop l.2.length) (l.2.length : Int) = some (false, (List.replicate c l.2).flatten) := by
    simpa using e
  rw [e', J0]
/-- a number put into its place in a rising list, unless it is there -/
def insL (n : Int) : List Int → List Int
  | [] => [n]
  | x :: l => if x < n then x :: insL n l else if x = n then x :: l else n :: x :: l
def Qc (l : List Int) : Prop := l.Pairwise (· < ·)
theorem Q2h (n : Int) (l : List Int) : ∀ x, x ∈ insL n l ↔ x = n ∨ x ∈ l := by
  induction l with
  | nil => intro x; simp [insL]
  | cons y l ih =>
    intro x
    unfold insL
    split
    · rw [Kd, ih, Kd]
      constructor
      · rintro (h | h | h)
        · exact .inr (.inl h)
        · exact .inl h
        · exact .inr (.inr h)
      · rintro (h | h | h)
        · exact .inr (.inl h)
        · exact .inl h
        · exact .inr (.inr h)
    · split
      · rename_i h1 h2
        constructor
        · exact .inr
        · rintro (h | h)
          · rw [h, ← h2]; exact Ki
          · exact h
      · rw [Kd]
theorem Q22 (n : Int) (l : List Int) (h : Qc l) : Qc (insL n l) := by
  induction l with
  | nil => exact List.pairwise_singleton _ _
  | cons y l ih =>
    obtain ⟨h1, h2⟩ := List.pairwise_cons.1 h
    unfold insL
    split
    · rename_i c
      refine List.pairwise_cons.2 ⟨fun x hx => ?_, ih h2⟩
      rcases (Q2h n l x).1 hx with rfl | hx
      · exact c
      · exact h1 x hx
    · split
      · exact h
      · rename_i c1 c2
        refine List.pairwise_cons.2 ⟨fun x hx => ?_, h⟩
        rcases Kd.1 hx with rfl | hx
        · omega
        · have := h1 x hx
          omega
def Qe (n : Int) (l : List Int) : Nat := (l.takeWhile fun x => decide (x < n)).length
theorem Q3t (n : Int) (l : List Int) : Qe n l ≤ l.length := by
  unfold Qe
  exact (List.takeWhile_sublist _).length_le
theorem Q41 (n : Int) (l : List Int) : insL n l = if Qe n l < l.length ∧ l.getD (Qe n l) 0 = n then l else l.take (Qe n l) ++ n :: l.drop (Qe n l) := by
  induction l with
  | nil => rfl
  | cons x l ih =>
    unfold insL
    by_cases h : x < n
    · have e : Qe n (x :: l) = Qe n l + 1 := by simp [Qe, h]
      rw [if_pos h, ih, e]
      by_cases c : Qe n l < l.length ∧ l.getD (Qe n l) 0 = n
      · rw [if_pos c, if_pos ⟨by simp; omega, by simpa using c.2⟩]
      · rw [if_neg c, if_neg (fun hh => c ⟨by have := hh.1; simp at this; omega, by simpa using hh.2⟩)]
        rfl
    · have e : Qe n (x :: l) = 0 := by simp [Qe, h]
      rw [if_neg h, e]
      by_cases c : x = n
      · rw [if_pos c, if_pos ⟨by simp, by simpa using c⟩]
      · rw [if_neg c, if_neg (fun hh => c (by simpa using hh.2))]
        rfl
/-- where the search for a place stops -/
theorem Q2q (n : Int) (l : List Int) (d : Nat) : ∀ i : Nat, i + d = l.length → (i < l.length ∧ l.getD i 0 < n → Qe n (l.drop i) = Qe n (l.drop (i + 1)) + 1) ∧ (¬ (i < l.length ∧ l.getD i 0 < n) → Qe n (l.drop i) = 0) := by
  intro i hi
  constructor
  · rintro ⟨h1, h2⟩
    have e : l.getD i 0 = l[i] := by simp [K1, h1]
    rw [e] at h2
    rw [K3 h1]
    unfold Qe
    rw [List.takeWhile_cons, if_pos (by simpa using h2), Kq]
  · intro h
    by_cases h1 : i < l.length
    · have e : l.getD i 0 = l[i] := by simp [K1, h1]
      have h2 : ¬ l[i] < n := fun hh => h ⟨h1, by rw [e]; exact hh⟩
      rw [K3 h1]
      unfold Qe
      rw [List.takeWhile_cons, if_neg (by simpa using h2)]
      rfl
    · rw [K9 (by omega)]
      rfl
theorem Q3l (b : Bool) (l : List Int) (n : Int) (hl : l.length ≤ 1048576) (d : Nat) : ∀ i : Nat, i + d = l.length → F22 (b, l) n (i : Int) = some ((i + Qe n (l.drop i) : Nat) : Int) := by
  induction d with
  | zero =>
    intro i hi
    rw [F22E, gF (by simp only; omega), K9 (by omega)]
    rfl
  | succ d ih =>
    intro i hi
    obtain ⟨h1, h2⟩ := Q2q n l (d + 1) i hi
    rw [F22E, gT (by simp only; omega), gT (by omega), gT (by simp only; omega), Q9, up1 i (by omega), J1]
    by_cases c : l.getD i 0 < n
    · rw [gT c, ih (i + 1) (by omega), h1 ⟨by omega, c⟩]
      congr 2
      omega
    · rw [gF c, h2 (fun h => c h.2)]
      rfl
theorem Q21 (n : Int) (l : List Int) : (insL n l).length ≤ l.length + 1 := by
  induction l with
  | nil => simp [insL]
  | cons x l ih =>
    unfold insL
    split
    · simp only [Kq]; omega
    · split <;> simp
theorem Q4b (b : Bool) (l : List Int) (n : Int) (hl : l.length ≤ 1000000) : ∃ f, Fk (b, l) n = some (f, insL n l) ∧ (f = true → b = true ∧ l ≠ []) := by
  have hlim := J6
  have h := Q3l b l n (by omega) l.length 0 (by omega)
  rw [Kg, K1g] at h
  have h' : F22 (b, l) n 0 = _ := h
  have hk := Q3t n l
  rw [FkE, h', J0, Q41]
  generalize Qe n l = k at hk
  have hfin : ∀ (x : Option (Bool × List Int)), x = (bif decide (0 ≤ (k : Int)) then
      bif decide ((k : Int) ≤ ((b, l).2.length : Int)) then
      bif decide (([] : List Int).length + (((b, l).2.take (Int.toNat (k : Int))).drop 0).length ≤ lim) then
      bif decide (([] ++ (((b, l).2.take (Int.toNat (k : Int))).drop 0)).length + [n].length ≤ lim) then
      bif decide (0 ≤ (k : Int)) then
      bif decide ((k : Int) ≤ ((b, l).2.length : Int)) then
      bif decide ((([] ++ (((b, l).2.take (Int.toNat (k : Int))).drop 0)) ++ [n]).length + (((b, l).2.take (b, l).2.length).drop (Int.toNat (k : Int))).length ≤ lim) then
      some (false, ((([] ++ (((b, l).2.take (Int.toNat (k : Int))).drop 0)) ++ [n]) ++ (((b, l).2.take (b, l).2.length).drop (Int.toNat (k : Int)))))
      else none else none else none else none else none else none else none) → x = some (false, l.take k ++ n :: l.drop k) := by
    rintro x rfl
    rw [gT (by omega), gT (by simp only; omega), gT (by simp; omega), gT (by simp; omega), gT (by omega), gT (by simp only; omega), gT (by simp; omega)]
    simp
  by_cases c : k < l.length
  · rw [gT (by simp only; omega), gT (by omega), gT (by simp only; omega), Q9]
    by_cases c2 : l.getD k 0 = n
    · rw [bT (by rw [beq_iff_eq]; exact c2), if_pos ⟨c, c2⟩]
      exact ⟨b, rfl, fun h => ⟨h, fun e => by rw [e] at c; simp at c⟩⟩
    · rw [bF (beqF c2), if_neg (fun h => c2 h.2)]
      exact ⟨false, hfin _ rfl, by simp⟩
  · rw [gF (by simp only; omega), if_neg (fun h => c h.1)]
    exact ⟨false, hfin _ rfl, by simp⟩
theorem Q1x (l : Bool × List Int) (n : Int) (hl : l.2.length ≤ 1048576) : F1h l n = some (l.2.any fun x => n == x) := by
  have h := Ja l.2 (fun x => n == x) (fun i => F26 l n (l.2.length : Int) i) (fun i h => by
    rw [F26E, gT (by omega), gT (by omega), gT (by omega), J2 l.2 _ i h, up1 i (by omega), J1]) (by rw [F26E, gF (by omega)])
  rw [F1hE, FeE]
  exact Je h
def negs (s : List Int) : Nat := s.countP fun x => decide (x < 0)
/-- an arrow from k to w is followed -/
def Q3 (k : Nat) (st : List Int × List Int) (w : Int) : List Int × List Int := if st.1.getD w.toNat 0 < 0 then (st.1.set w.toNat (st.1.getD k 0 + 1), st.2 ++ [w]) else st
def bfsL (G : List (List Int)) : Nat → List Int → List Int → List Int
  | 0, s, _ => s
  | _ + 1, s, [] => s
  | n + 1, s, k :: q => bfsL G n ((G.getD k.toNat []).foldl (Q3 k.toNat) (s, q)).1 ((G.getD k.toNat []).foldl (Q3 k.toNat) (s, q)).2
structure BInv (m : Nat) (s q : List Int) : Prop where
  len : s.length = m
  low : ∀ e ∈ s, -1 ≤ e
  high : ∀ e ∈ s, e + (negs s : Int) ≤ m
  que : ∀ w ∈ q, (0 ≤ w ∧ w < (m : Int)) ∧ 0 ≤ s.getD w.toNat 0
theorem Q0 (s : List Int) (i j : Nat) (a : Int) (hi : i < s.length) : (s.set i a).getD j 0 = if i = j then a else s.getD j 0 := by
  rw [K1, List.getElem?_set, K1]
  by_cases h : i = j
  · subst h; simp [hi]
  · simp [h]
theorem Q1f {s : List Int} {i : Nat} (h : i < s.length) : s.getD i 0 ∈ s := by
  have e : s.getD i 0 = s[i] := by simp [K1, h]
  rw [e]
  exact K4 h
theorem Q13 (s : List Int) : negs s ≤ s.length := List.countP_le_length
theorem Qq {m k : Nat} {s q : List Int} (h : BInv m s q) (hk : k < m) (hk2 : 0 ≤ s.getD k 0) {w : Int} (hw : 0 ≤ w ∧ w < (m : Int)) :
    BInv m (Q3 k (s, q) w).1 (Q3 k (s, q) w).2 ∧ (Q3 k (s, q) w).1.getD k 0 = s.getD k 0 ∧ 2 * negs (Q3 k (s, q) w).1 + (Q3 k (s, q) w).2.length ≤ 2 * negs s + q.length := by
  have hlen := h.len
  unfold Q3
  by_cases c : s.getD w.toNat 0 < 0
  · simp only [if_pos c]
    have hwl : w.toNat < s.length := by omega
    have hws : s[w.toNat] < 0 := by
      have e : s.getD w.toNat 0 = s[w.toNat] := by simp [K1, hwl]
      omega
    have hn : negs (s.set w.toNat (s.getD k 0 + 1)) + 1 = negs s := by
      unfold negs
      rw [List.countP_set hwl, if_pos (decide_eq_true hws), if_neg (by simp only [decide_eq_true_eq]; omega)]
      have : 0 < s.countP fun x => decide (x < 0) := List.countP_pos_iff.2 ⟨_, K4 hwl, decide_eq_true hws⟩
      omega
    have hkw : w.toNat ≠ k := by
      rintro rfl
      omega
    have hkm := Q1f (s := s) (i := k) (by omega)
    refine ⟨⟨by rw [Ks]; exact hlen, fun e he => ?_, fun e he => ?_, fun x hx => ?_⟩, ?_, ?_⟩
    · rcases List.mem_or_eq_of_mem_set he with he | rfl
      · exact h.low e he
      · omega
    · rcases List.mem_or_eq_of_mem_set he with he | rfl
      · have := h.high e he
        omega
      · have := h.high _ hkm
        omega
    · rw [Q0 s _ _ _ hwl]
      rcases Kh.1 hx with hx | hx
      · obtain ⟨h1, h2⟩ := h.que x hx
        refine ⟨h1, ?_⟩
        split <;> omega
      · rw [Kw] at hx
        subst hx
        exact ⟨hw, by rw [if_pos rfl]; omega⟩
    · rw [Q0 s _ _ _ hwl, if_neg hkw]
    · rw [Kj, K24]
      omega
  · simp only [if_neg c]
    exact ⟨h, trivial, K12 _⟩
theorem Qv {m k : Nat} (hk : k < m) (ws : List Int) : ∀ {s q : List Int}, BInv m s q → 0 ≤ s.getD k 0 → (∀ w ∈ ws, 0 ≤ w ∧ w < (m : Int)) →
    BInv m (ws.foldl (Q3 k) (s, q)).1 (ws.foldl (Q3 k) (s, q)).2 ∧ 2 * negs (ws.foldl (Q3 k) (s, q)).1 + (ws.foldl (Q3 k) (s, q)).2.length ≤ 2 * negs s + q.length := by
  induction ws with
  | nil => intro s q h _ _; exact ⟨h, K12 _⟩
  | cons w ws ih =>
    intro s q h h2 hw
    obtain ⟨g1, g2, g3⟩ := Qq h hk h2 (hw w Ki)
    rw [K19]
    obtain ⟨i1, i2⟩ := ih (s := (Q3 k (s, q) w).1) (q := (Q3 k (s, q) w).2) g1 (by rw [g2]; exact h2) fun x hx => hw x (K8 _ hx)
    exact ⟨i1, K10 i2 g3⟩
/-- a graph's rows, whatever their marks of nil -/
structure Gr (m : Nat) (G : List (List Int)) : Prop where
  len : G.length = m
  inn : ∀ l ∈ G, ∀ w ∈ l, 0 ≤ w ∧ w < (m : Int)
  short : ∀ l ∈ G, l.length ≤ 20000000
  small : m ≤ 10000
theorem Q1i {G : List (List Int)} {R : List (Bool × List Int)} (h : R.map Prod.snd = G) {k : Nat} (hk : k < G.length) : k < R.length ∧ (R.getD k (true, [])).2 = G.getD k [] ∧ G.getD k [] ∈ G := by
  subst h
  have hk' : k < R.length := by simpa using hk
  refine ⟨hk', ?_, ?_⟩
  · simp [K1, hk']
  · have e : (R.map Prod.snd).getD k [] = (R.map Prod.snd)[k] := by simp [K1, hk']
    rw [e]
    exact K4 _
theorem Q1t {m : Nat} (g : Bool × List (Bool × List Int)) (b ob : Bool) (hd : Int) (hhd : 0 ≤ hd ∧ hd < (m : Int)) (r : Bool × List Int) (hr : r.2.length ≤ 20000000) (hw : ∀ w ∈ r.2, 0 ≤ w ∧ w < (m : Int)) (hm : m ≤ 10000) (d : Nat) : ∀ (i : Nat) (s q : List Int), i + d = r.2.length → BInv m s q → 0 ≤ s.getD hd.toNat 0 → q.length + d ≤ 200000000 → ∀ ob, ∃ ob',
    F1a g (b, s) (ob, hd :: q) r (r.2.length : Int) (i : Int) = some ((b, ((r.2.drop i).foldl (Q3 hd.toNat) (s, q)).1), (ob', hd :: ((r.2.drop i).foldl (Q3 hd.toNat) (s, q)).2)) := by
  have hlim := J6
  induction d with
  | zero =>
    intro i s q hi hI hk hq ob
    rw [F1aE, gF (by omega), K9 (by omega)]
    exact ⟨ob, rfl⟩
  | succ d ih =>
    intro i s q hi hI hk hq ob
    have hlt : i < r.2.length := by omega
    have hx := hw _ (K4 hlt)
    obtain ⟨g1, g2, g3⟩ := Qq hI (show hd.toNat < m by omega) hk hx
    have hlen := hI.len
    have hh := hI.high _ (Q1f (s := s) (i := hd.toNat) (by omega))
    rw [F1aE, gT (by omega), gT (by omega), gT (by omega), J2 r.2 _ i hlt, gT hx.1, gT (by simp only; omega), up1 i (by omega), K3 hlt, K19]
    simp only [List.getD_cons_zero]
    by_cases c : s.getD (Int.toNat r.2[i]) 0 < 0
    · have e : Q3 hd.toNat (s, q) r.2[i] = (s.set (Int.toNat r.2[i]) (s.getD hd.toNat 0 + 1), q ++ [r.2[i]]) := by unfold Q3; exact if_pos c
      rw [e] at g1 g2 g3
      obtain ⟨ob', g⟩ := ih (i + 1) _ _ (by omega) g1 (by rw [g2]; exact hk) (by simp; omega) (ob && false)
      rw [gT c, gT (by simp), gT hhd.1, gT (by omega), gT hx.1, gT (by omega), gT (by simp; omega), wr (by omega), J1, e]
      exact ⟨ob', g⟩
    · have e : Q3 hd.toNat (s, q) r.2[i] = (s, q) := by unfold Q3; exact if_neg c
      obtain ⟨ob', g⟩ := ih (i + 1) s q (by omega) hI hk (by omega) ob
      rw [gF c, J1, e]
      exact ⟨ob', g⟩
theorem Q47 {m : Nat} (g : Bool × List (Bool × List Int)) (b : Bool) (hd : Int) (hhd : 0 ≤ hd ∧ hd < (m : Int)) (r : Bool × List Int) (hr : r.2.length ≤ 20000000) (hw : ∀ w ∈ r.2, 0 ≤ w ∧ w < (m : Int)) (hm : m ≤ 10000) (d : Nat) : ∀ (i : Nat) (s q : List Int), i + d = r.2.length → BInv m s q → 0 ≤ s.getD hd.toNat 0 → q.length + d ≤ 200000000 → ∀ ob, ∃ ob',
    F13 g (b, s) (ob, q) hd r (r.2.length : Int) (i : Int) = some ((b, ((r.2.drop i).foldl (Q3 hd.toNat) (s, q)).1), (ob', ((r.2.drop i).foldl (Q3 hd.toNat) (s, q)).2)) := by
  have hlim := J6
  induction d with
  | zero =>
    intro i s q hi hI hk hq ob
    rw [F13E, gF (by omega), K9 (by omega)]
    exact ⟨ob, rfl⟩
  | succ d ih =>
    intro i s q hi hI hk hq ob
    have hlt : i < r.2.length := by omega
    have hx := hw _ (K4 hlt)
    obtain ⟨g1, g2, g3⟩ := Qq hI (show hd.toNat < m by omega) hk hx
    have hlen := hI.len
    have hh := hI.high _ (Q1f (s := s) (i := hd.toNat) (by omega))
    rw [F13E, gT (by omega), gT (by omega), gT (by omega), J2 r.2 _ i hlt, gT hx.1, gT (by simp only; omega), up1 i (by omega), K3 hlt, K19]
    simp only
    by_cases c : s.getD (Int.toNat r.2[i]) 0 < 0
    · have e : Q3 hd.toNat (s, q) r.2[i] = (s.set (Int.toNat r.2[i]) (s.getD hd.toNat 0 + 1), q ++ [r.2[i]]) := by unfold Q3; exact if_pos c
      rw [e] at g1 g2 g3
      obtain ⟨ob', g⟩ := ih (i + 1) _ _ (by omega) g1 (by rw [g2]; exact hk) (by simp; omega) (ob && false)
      rw [gT c, gT hhd.1, gT (by omega), gT hx.1, gT (by omega), gT (by simp; omega), wr (by omega), J1, e]
      exact ⟨ob', g⟩
    · have e : Q3 hd.toNat (s, q) r.2[i] = (s, q) := by unfold Q3; exact if_neg c
      obtain ⟨ob', g⟩ := ih (i + 1) s q (by omega) hI hk (by omega) ob
      rw [gF c, J1, e]
      exact ⟨ob', g⟩
theorem Q1d {m : Nat} {G : List (List Int)} (hG : Gr m G) (gb gb2 : Bool) {R R2 : List (Bool × List Int)} (hR : R.map Prod.snd = G) (hR2 : R2.map Prod.snd = G) (n : Nat) : ∀ (s q : List Int) (b b2 ob ob2 : Bool), BInv m s q → 2 * negs s + q.length ≤ n → n ≤ 20000000 →
    F1v (gb, R) (b, s) (ob, q) = some (b, bfsL G n s q) ∧ F1l (gb2, R2) (b2, s) (ob2, q) = some (b2, bfsL G n s q) ∧ BInv m (bfsL G n s q) [] := by
  induction n with
  | zero =>
    intro s q b b2 ob ob2 hI hn _
    have : q = [] := List.length_eq_zero_iff.1 (by omega)
    subst this
    exact ⟨by rw [F1vE, gF (by simp)]; rfl, by rw [F1lE, gF (by simp)]; rfl, hI⟩
  | succ n ih =>
    intro s q b b2 ob ob2 hI hn hn2
    cases q with
    | nil => exact ⟨by rw [F1vE, gF (by simp)]; rfl, by rw [F1lE, gF (by simp)]; rfl, hI⟩
    | cons k q =>
      obtain ⟨hk1, hk2⟩ := hI.que k Ki
      have hI' : BInv m s q := ⟨hI.len, hI.low, hI.high, fun w hw => hI.que w (K8 _ hw)⟩
      have hkG : k.toNat < G.length := by rw [hG.len]; omega
      obtain ⟨r1, r2, r3⟩ := Q1i hR hkG
      obtain ⟨r4, r5, _⟩ := Q1i hR2 hkG
      have hin := hG.inn _ r3
      have hsh := hG.short _ r3
      have hsm := hG.small
      obtain ⟨v1, v2⟩ := Qv (show k.toNat < m by omega) (G.getD k.toNat []) hI' hk2 hin
      obtain ⟨i1, i2, i3⟩ := ih ((G.getD k.toNat []).foldl (Q3 k.toNat) (s, q)).1 ((G.getD k.toNat []).foldl (Q3 k.toNat) (s, q)).2 b b2 ob ob2 v1 (by simp only [Kq] at hn; omega) (by omega)
      simp only [Kq] at hn
      refine ⟨?_, ?_, i3⟩
      · obtain ⟨ob', e⟩ := Q1t (m := m) (gb, R) b ob k hk1 (R.getD k.toNat (true, [])) (by rw [r2]; exact hsh) (by rw [r2]; exact hin) hsm (R.getD k.toNat (true, [])).2.length 0 s q (by omega) hI' hk2 (by rw [r2]; omega) ob
        rw [r2, Kg] at e
        have e' : F1a (gb, R) (b, s) (ob, k :: q) (R.getD k.toNat (true, [])) ((G.getD k.toNat []).length : Int) 0 = _ := e
        rw [F1vE, gT (by simp), gT (by simp)]
        simp only [List.getD_cons_zero]
        rw [gT hk1.1, gT (by omega), r2, e', J0, gT (by simp; omega), J1]
        have et : ∀ (l : List Int), ((k :: l).take (k :: l).length).drop 1 = l := fun l => by simp
        simp only [et]
        obtain ⟨j1, _, _⟩ := ih ((G.getD k.toNat []).foldl (Q3 k.toNat) (s, q)).1 ((G.getD k.toNat []).foldl (Q3 k.toNat) (s, q)).2 b b2 ob' ob2 v1 (by omega) (by omega)
        exact j1
      · obtain ⟨ob', e⟩ := Q47 (m := m) (gb2, R2) b2 k hk1 (R2.getD k.toNat (true, [])) (by rw [r5]; exact hsh) (by rw [r5]; exact hin) hsm (R2.getD k.toNat (true, [])).2.length 0 s q (by omega) hI' hk2 (by rw [r5]; omega) ob2
        rw [r5, Kg] at e
        have e' : F13 (gb2, R2) (b2, s) (ob2, q) k (R2.getD k.toNat (true, [])) ((G.getD k.toNat []).length : Int) 0 = _ := e
        have et : ((k :: q).take (k :: q).length).drop 1 = q := by simp
        rw [F1lE, gT (by simp), gT (by simp), gT (by simp; omega)]
        simp only [List.getD_cons_zero, et]
        rw [gT hk1.1, gT (by omega), r5, e', J0, J1]
        obtain ⟨_, j2, _⟩ := ih ((G.getD k.toNat []).foldl (Q3 k.toNat) (s, q)).1 ((G.getD k.toNat []).foldl (Q3 k.toNat) (s, q)).2 b b2 ob ob' v1 (by omega) (by omega)
        exact j2
/-- the marks with which the search begins -/
def far0 (m : Nat) (l : List Int) : List Int := l.foldl (fun s w => s.set w.toNat 0) (List.replicate m (-1))
def farL (G : List (List Int)) (l : List Int) : List Int := bfsL G (2 * G.length + l.length) (far0 G.length l) l
theorem Ql (m : Nat) (l : List Int) (hl : ∀ w ∈ l, 0 ≤ w ∧ w < (m : Int)) : BInv m (far0 m l) l := by
  have key : ∀ (l : List Int) (s : List Int) (done : List Int), (∀ w ∈ l, 0 ≤ w ∧ w < (m : Int)) → s.length = m → (∀ e ∈ s, e = -1 ∨ e = 0) → (∀ w ∈ done, (0 ≤ w ∧ w < (m : Int)) ∧ 0 ≤ s.getD w.toNat 0) → (l.foldl (fun s w => s.set w.toNat 0) s).length = m ∧ (∀ e ∈ l.foldl (fun s w => s.set w.toNat 0) s, e = -1 ∨ e = 0) ∧ ∀ w, w ∈ done ∨ w ∈ l → (0 ≤ w ∧ w < (m : Int)) ∧ 0 ≤ (l.foldl (fun s w => s.set w.toNat 0) s).getD w.toNat 0 := by
    intro l
    induction l with
    | nil => intro s done _ h1 h2 h3; exact ⟨h1, h2, fun w hw => h3 w (hw.resolve_right (by simp))⟩
    | cons a l ih =>
      intro s done hw h1 h2 h3
      have ha := hw a Ki
      rw [K19]
      obtain ⟨g1, g2, g3⟩ := ih (s.set a.toNat 0) (a :: done) (fun w h => hw w (K8 _ h)) (by rw [Ks]; exact h1) (fun e he => by
        rcases List.mem_or_eq_of_mem_set he with he | rfl
        · exact h2 e he
        · exact .inr rfl) (fun w hwd => by
        rw [Q0 s _ _ _ (by omega)]
        rcases Kd.1 hwd with rfl | hwd
        · exact ⟨ha, by rw [if_pos rfl]; omega⟩
        · obtain ⟨q1, q2⟩ := h3 w hwd
          exact ⟨q1, by split <;> omega⟩)
      refine ⟨g1, g2, fun w hw2 => g3 w ?_⟩
      rcases hw2 with h | h
      · exact .inl (K8 _ h)
      · rcases Kd.1 h with rfl | h
        · exact .inl Ki
        · exact .inr h
  obtain ⟨g1, g2, g3⟩ := key l (List.replicate m (-1)) [] hl (by simp) (fun e he => .inl (List.eq_of_mem_replicate he)) (by simp)
  have hn := Q13 (far0 m l)
  refine ⟨g1, fun e he => by rcases g2 e he with h | h <;> omega, fun e he => ?_, fun w hw => g3 w (.inr hw)⟩
  have e1 : (far0 m l).length = m := g1
  rcases g2 e he with h | h <;> omega
theorem Q1s (g : Bool × List (Bool × List Int)) (b : Bool) (op : Bool × List Int) (m : Nat) (l : Bool × List Int) (hl : l.2.length ≤ 1048576) (hw : ∀ w ∈ l.2, 0 ≤ w ∧ w < (m : Int)) (s : List Int) (hs : s.length = m) : F21 g (b, s) op l (l.2.length : Int) 0 = some (b, l.2.foldl (fun s w => s.set w.toNat 0) s) :=
  Jx l.2 (fun (s : List Int) w => s.set w.toNat 0) (fun s => (b, s)) (fun s i => F21 g (b, s) op l (l.2.length : Int) i) (fun _ s => s.length = m) (fun i h s hs => by
    have hx := hw _ (K4 h)
    refine ⟨?_, by rw [Ks]; exact hs⟩
    rw [F21E, gT (by omega), gT (by omega), gT (by omega), J2 l.2 _ i h, gT hx.1, gT (by simp only; omega), up1 i (by omega), J1]) (fun s _ => by rw [F21E, gF (by omega)]) s hs
theorem Q46 (g : Bool × List (Bool × List Int)) (fr : Bool × List Int) (b : Bool) (m : Nat) (l : Bool × List Int) (hl : l.2.length ≤ 1048576) (hw : ∀ w ∈ l.2, 0 ≤ w ∧ w < (m : Int)) (s : List Int) (hs : s.length = m) : F1q g fr (b, s) l (l.2.length : Int) 0 = some (b, l.2.foldl (fun s w => s.set w.toNat 0) s) :=
  Jx l.2 (fun (s : List Int) w => s.set w.toNat 0) (fun s => (b, s)) (fun s i => F1q g fr (b, s) l (l.2.length : Int) i) (fun _ s => s.length = m) (fun i h s hs => by
    have hx := hw _ (K4 h)
    refine ⟨?_, by rw [Ks]; exact hs⟩
    rw [F1qE, gT (by omega), gT (by omega), gT (by omega), J2 l.2 _ i h, gT hx.1, gT (by simp only; omega), up1 i (by omega), J1]) (fun s _ => by rw [F1qE, gF (by omega)]) s hs
theorem Q45 (g : Bool × List (Bool × List Int)) (fr : Bool × List Int) (b : Bool) (m : Nat) (hm : m ≤ 10000) (d : Nat) : ∀ (i : Nat) (s : List Int), i + d = m → s.length = m → F20 g fr (b, s) (m : Int) (i : Int) = some (b, s.take i ++ List.replicate d (-1)) := by
  induction d with
  | zero =>
    intro i s hi hs
    rw [F20E, gF (by omega), K1i (by omega)]
    simp
  | succ d ih =>
    intro i s hi hs
    rw [F20E, gT (by omega), gT (by omega), gT (by simp only; omega), K7, up1 i (by omega), J1, ih (i + 1) (s.set i (-1)) (by omega) (by rw [Ks]; exact hs)]
    have e : (s.set i (-1)).take (i + 1) = s.take i ++ [-1] := by
      rw [K1d (by rw [Ks]; omega), List.getElem_set_self, List.take_set_of_le (K12 _)]
    rw [e, Kl, List.replicate_succ]
    rfl
theorem Q2p {m : Nat} {G : List (List Int)} (hG : Gr m G) (hm : 1 ≤ m) (gb : Bool) {R : List (Bool × List Int)} (hR : R.map Prod.snd = G) (l : List Int) (hl : l.length ≤ 10000) (hw : ∀ w ∈ l, 0 ≤ w ∧ w < (m : Int)) (fb : Bool) (hfb : fb = true → l = []) : F2 (gb, R) (fb, l) = some (false, farL G l) := by
  have hlim := J6
  have hRl : R.length = m := by rw [← hG.len, ← hR, Ky]
  have hsm := hG.small
  have e1 := Q1a (false, [-1]) m (by simp) (by simp) hm hsm
  have e1' : Fj (false, [-1]) (m : Int) = some (false, List.replicate m (-1)) := by
    rw [e1]
    congr 2
    clear e1 hR hRl hG hw hm hsm
    induction m with
    | zero => rfl
    | succ n ih => rw [List.replicate_succ, List.flatten_cons, ih]; rfl
  have e2 : Fx (fb, l) = some (fb, l) := by
    rw [FxE]
    cases fb with
    | false => rw [cond_false, gT (by simp; omega), Kv]
    | true => rw [hfb rfl]; rfl
  have e3 := Q1s (gb, R) false (fb, l) m (fb, l) (by simp only; omega) hw (List.replicate m (-1)) (by simp)
  have e3' : F21 (gb, R) (false, List.replicate m (-1)) (fb, l) (fb, l) (l.length : Int) 0 = some (false, far0 m l) := e3
  have hI := Ql m l hw
  have hn := Q13 (far0 m l)
  obtain ⟨e4, _, _⟩ := Q1d hG gb gb hR hR (2 * m + l.length) (far0 m l) l false false fb false hI (by rw [hI.len] at hn; omega) (by omega)
  rw [F2E]
  simp only [hRl, e1', J0, e2, e3', e4]
  rw [farL, hG.len]
theorem Q4a {m : Nat} {G : List (List Int)} (hG : Gr m G) (gb fb : Bool) {R : List (Bool × List Int)} (hR : R.map Prod.snd = G) (l : List Int) (hl : l.length ≤ 10000) (hw : ∀ w ∈ l, 0 ≤ w ∧ w < (m : Int)) : F0 (gb, R) (fb, l) = some (false, farL G l) := by
  have hlim := J6
  have hRl : R.length = m := by rw [← hG.len, ← hR, Ky]
  have hsm := hG.small
  have e1 := Q45 (gb, R) (fb, l) false m hsm m 0 (List.replicate m 0) (by omega) (by simp)
  have e1' : F20 (gb, R) (fb, l) (false, List.replicate m 0) (m : Int) 0 = some (false, List.replicate m (-1)) := by simpa using e1
  have e3 := Q46 (gb, R) (fb, l) false m (fb, l) (by simp only; omega) hw (List.replicate m (-1)) (by simp)
  have e3' : F1q (gb, R) (fb, l) (false, List.replicate m (-1)) (fb, l) (l.length : Int) 0 = some (false, far0 m l) := e3
  have hI := Ql m l hw
  have hn := Q13 (far0 m l)
  have eo : ∃ ob, F19 (fb, l) = some (ob, l) := ⟨false, by rw [F19E, gT (by simp; omega), Kv]⟩
  obtain ⟨ob, eo⟩ := eo
  obtain ⟨_, e4, _⟩ := Q1d hG gb gb hR hR (2 * m + l.length) (far0 m l) l false false false ob hI (by rw [hI.len] at hn; omega) (by omega)
  rw [F0E]
  simp only [hRl, K23, K7]
  rw [gT (by omega), gT (by omega), gT (by omega), gT (by omega), e1', J0, e3', J0, eo, J0, e4, J0, farL, hG.len]
theorem Q1e {m : Nat} {G : List (List Int)} (hG : Gr m G) (l : List Int) (hl : l.length ≤ 10000) (hw : ∀ w ∈ l, 0 ≤ w ∧ w < (m : Int)) : BInv m (farL G l) [] := by
  have hI := Ql m l hw
  have hn := Q13 (far0 m l)
  have hsm := hG.small
  have hRl : (G.map fun l => (false, l)).map Prod.snd = G := by rw [List.map_map]; exact List.map_id'' (fun _ => rfl) G
  rw [farL, hG.len]
  exact (Q1d hG false false hRl hRl (2 * m + l.length) (far0 m l) l false false false false hI (by rw [hI.len] at hn; omega) (by omega)).2.2
/-- the points that are reached -/
def Q6 (G : List (List Int)) (l : List Int) : List Int := ((List.range (farL G l).length).filter fun i => decide ((farL G l).getD i 0 ≥ 0)).map Int.ofNat
theorem Q2i (t : Bool × List Int) (hl : t.2.length ≤ 200000000) (d : Nat) : ∀ (i : Nat) (o : List Int), i + d = t.2.length → o.length ≤ i →
    (F1e (false, o) t (t.2.length : Int) (i : Int) = some (false, o ++ ((List.range' i d).filter fun j => decide (t.2.getD j 0 ≥ 0)).map Int.ofNat)) ∧ ∀ b, ∃ b', F1c (b, o) t (t.2.length : Int) (i : Int) = some (b', o ++ ((List.range' i d).filter fun j => decide (t.2.getD j 0 ≥ 0)).map Int.ofNat) := by
  have hlim := J6
  induction d with
  | zero =>
    intro i o hi ho
    exact ⟨by rw [F1eE, gF (by omega)]; simp, fun b => ⟨b, by rw [F1cE, gF (by omega)]; simp⟩⟩
  | succ d ih =>
    intro i o hi ho
    have hlt : i < t.2.length := by omega
    by_cases c : t.2.getD i 0 ≥ 0
    · obtain ⟨g1, g2⟩ := ih (i + 1) (o ++ [(i : Int)]) (by omega) (by simp; omega)
      constructor
      · rw [F1eE, gT (by omega), gT (by omega), gT (by omega), Q9, up1 i (by omega), gT c, gT (by simp; omega), J1, K1t, g1, K1b, K1p, if_pos (decide_eq_true c)]
        simp
      · intro b
        obtain ⟨b', g3⟩ := g2 (b && false)
        refine ⟨b', ?_⟩
        rw [F1cE, gT (by omega), gT (by omega), gT (by omega), Q9, up1 i (by omega), gT c, gT (by simp; omega), J1, g3, K1b, K1p, if_pos (decide_eq_true c)]
        simp
    · obtain ⟨g1, g2⟩ := ih (i + 1) o (by omega) (by omega)
      constructor
      · rw [F1eE, gT (by omega), gT (by omega), gT (by omega), Q9, up1 i (by omega), gF c, J1, g1, K1b, K1p, if_neg (by simpa using c)]
      · intro b
        obtain ⟨b', g3⟩ := g2 b
        refine ⟨b', ?_⟩
        rw [F1cE, gT (by omega), gT (by omega), gT (by omega), Q9, up1 i (by omega), gF c, J1, g3, K1b, K1p, if_neg (by simpa using c)]
theorem Qx {m : Nat} {G : List (List Int)} (hG : Gr m G) (hm : 1 ≤ m) (gb : Bool) {R : List (Bool × List Int)} (hR : R.map Prod.snd = G) (l : List Int) (hl : l.length ≤ 10000) (hw : ∀ w ∈ l, 0 ≤ w ∧ w < (m : Int)) (fb : Bool) (hfb : fb = true → l = []) : Fc (gb, R) (fb, l) = some (false, Q6 G l) := by
  have hI := Q1e hG l hl hw
  have hsm := hG.small
  have hlen := hI.len
  have e := (Q2i (false, farL G l) (by simp only; omega) (farL G l).length 0 [] (by simp) (by simp)).1
  have e' : F1e (false, []) (false, farL G l) ((farL G l).length : Int) 0 = _ := e
  rw [FcE, Q2p hG hm gb hR l hl hw fb hfb, J0]
  simp only [e', J0, Kv]
  rw [Q6, K1e]
theorem Q27 {m : Nat} {G : List (List Int)} (hG : Gr m G) (hm : 1 ≤ m) (gb : Bool) {R : List (Bool × List Int)} (hR : R.map Prod.snd = G) (l : List Int) (hl : l.length ≤ 10000) (hw : ∀ w ∈ l, 0 ≤ w ∧ w < (m : Int)) : Fc (gb, R) (false, l) = some (false, Q6 G l) := Qx hG hm gb hR l hl hw false (by simp)
theorem Q3k {m : Nat} {G : List (List Int)} (hG : Gr m G) (gb fb : Bool) {R : List (Bool × List Int)} (hR : R.map Prod.snd = G) (l : List Int) (hl : l.length ≤ 10000) (hw : ∀ w ∈ l, 0 ≤ w ∧ w < (m : Int)) : ∃ b, Fg (gb, R) (fb, l) = some (b, Q6 G l) := by
  have hI := Q1e hG l hl hw
  have hsm := hG.small
  have hlen := hI.len
  obtain ⟨b, e⟩ := (Q2i (false, farL G l) (by simp only; omega) (farL G l).length 0 [] (by simp) (by simp)).2 true
  have e' : F1c (true, []) (false, farL G l) ((farL G l).length : Int) 0 = _ := e
  rw [FgE, Q4a hG gb fb hR l hl hw, J0]
  simp only [e', J0, Kv]
  rw [Q6, K1e]
  exact ⟨b, rfl⟩
theorem Qp {m : Nat} {G : List (List Int)} (hG : Gr m G) (l : List Int) (hl : l.length ≤ 10000) (hw : ∀ w ∈ l, 0 ≤ w ∧ w < (m : Int)) : (Q6 G l).length ≤ m ∧ ∀ x ∈ Q6 G l, 0 ≤ x ∧ x < (m : Int) := by
  have hlen := (Q1e hG l hl hw).len
  constructor
  · rw [Q6, Ky]
    refine K10 (K1s _ _) ?_
    rw [List.length_range, hlen]
    exact K12 _
  · intro x hx
    obtain ⟨i, hi, rfl⟩ := Ku.1 hx
    have := K1v.1 (K1k.1 hi).1
    exact ⟨Int.natCast_nonneg _, by simp; omega⟩
/-- each point at some steps has a point ahead of it -/
def Pred (G : List (List Int)) (s : List Int) : Prop := ∀ v : Nat, v < s.length → 0 < s.getD v 0 → ∃ u : Nat, u < s.length ∧ (v : Int) ∈ G.getD u [] ∧ s.getD u 0 = s.getD v 0 - 1
theorem Q2r {G : List (List Int)} {m k : Nat} {s q : List Int} (h : BInv m s q) (hk : k < m) (hk2 : 0 ≤ s.getD k 0) {w : Int} (hw : 0 ≤ w ∧ w < (m : Int)) (hwG : w ∈ G.getD k []) (hP : Pred G s) : Pred G (Q3 k (s, q) w).1 := by
  have hlen := h.len
  unfold Q3
  by_cases c : s.getD w.toNat 0 < 0
  · simp only [if_pos c]
    have hwl : w.toNat < s.length := by omega
    have hkw : w.toNat ≠ k := by
      rintro rfl
      omega
    intro v hv h0
    rw [Ks] at hv ⊢
    rw [Q0 s _ _ _ hwl] at h0
    by_cases e : w.toNat = v
    · refine ⟨k, by omega, ?_, ?_⟩
      · rw [← e, K1n hw.1]; exact hwG
      · rw [Q0 s _ _ _ hwl, Q0 s _ _ _ hwl, if_neg hkw, if_pos e]
        omega
    · rw [if_neg e] at h0
      obtain ⟨u, u1, u2, u3⟩ := hP v hv h0
      refine ⟨u, u1, u2, ?_⟩
      have hne : w.toNat ≠ u := by
        rintro rfl
        omega
      rw [Q0 s _ _ _ hwl, Q0 s _ _ _ hwl, if_neg hne, if_neg e]
      exact u3
  · simp only [if_neg c]
    exact hP
theorem Q2b {G : List (List Int)} {m k : Nat} (hk : k < m) (ws : List Int) (hwG : ∀ w ∈ ws, w ∈ G.getD k []) : ∀ {s q : List Int}, BInv m s q → 0 ≤ s.getD k 0 → (∀ w ∈ ws, 0 ≤ w ∧ w < (m : Int)) → Pred G s → Pred G (ws.foldl (Q3 k) (s, q)).1 := by
  induction ws with
  | nil => intro s q _ _ _ h; exact h
  | cons w ws ih =>
    intro s q h h2 hw hP
    obtain ⟨g1, g2, _⟩ := Qq h hk h2 (hw w Ki)
    rw [K19]
    exact ih (fun x hx => hwG x (K8 _ hx)) (s := (Q3 k (s, q) w).1) (q := (Q3 k (s, q) w).2) g1 (by rw [g2]; exact h2) (fun x hx => hw x (K8 _ hx)) (Q2r h hk h2 (hw w Ki) (hwG w Ki) hP)
theorem Q3e {m : Nat} {G : List (List Int)} (hG : Gr m G) (n : Nat) : ∀ (s q : List Int), BInv m s q → Pred G s → Pred G (bfsL G n s q) := by
  induction n with
  | zero => intro s q _ h; exact h
  | succ n ih =>
    intro s q hI hP
    cases q with
    | nil => exact hP
    | cons k q =>
      obtain ⟨hk1, hk2⟩ := hI.que k Ki
      have hI' : BInv m s q := ⟨hI.len, hI.low, hI.high, fun w hw => hI.que w (K8 _ hw)⟩
      have hkG : k.toNat < G.length := by rw [hG.len]; omega
      have e : G.getD k.toNat [] ∈ G := by
        have e : G.getD k.toNat [] = G[k.toNat] := by simp [K1, hkG]
        rw [e]
        exact K4 _
      have hin := hG.inn _ e
      obtain ⟨v1, _⟩ := Qv (show k.toNat < m by omega) (G.getD k.toNat []) hI' hk2 hin
      exact ih _ _ v1 (Q2b (show k.toNat < m by omega) _ (fun _ h => h) hI' hk2 hin hP)
theorem Q1z (m : Nat) (l : List Int) : ∀ v, (far0 m l).getD v 0 ≤ 0 := by
  have key : ∀ (l s : List Int), (∀ v, s.getD v 0 ≤ 0) → ∀ v, (l.foldl (fun s w => s.set w.toNat 0) s).getD v 0 ≤ 0 := by
    intro l
    induction l with
    | nil => intro s h; exact h
    | cons a l ih =>
      intro s h
      rw [K19]
      refine ih _ fun v => ?_
      by_cases c : a.toNat < s.length
      · rw [Q0 s _ _ _ c]
        split
        · omega
        · exact h v
      · rw [List.set_eq_of_length_le (by omega)]
        exact h v
  refine key l _ fun v => ?_
  rw [K1, List.getElem?_replicate]
  split <;> simp
theorem Q2u {m : Nat} {G : List (List Int)} (hG : Gr m G) (l : List Int) (hw : ∀ w ∈ l, 0 ≤ w ∧ w < (m : Int)) : Pred G (farL G l) := by
  rw [farL, hG.len]
  refine Q3e hG _ _ _ (Ql m l hw) fun v _ h => ?_
  have := Q1z m l v
  omega
/-! graphs turned around -/
def Qa (v : Int) (row : List Int) (o : List (List Int)) : List (List Int) := row.foldl (fun o w => o.set w.toNat (o.getD w.toNat [] ++ [v])) o
def Q8 (g : List (List Int)) : List (List Int) := (List.range g.length).foldl (fun o (v : Nat) => Qa (v : Int) (g.getD v []) o) (List.replicate g.length [])
def tot (o : List (List Int)) : Nat := (o.map List.length).sum
theorem Qg (s : List (List Int)) (i j : Nat) (a : List Int) (hi : i < s.length) : (s.set i a).getD j [] = if i = j then a else s.getD j [] := by
  rw [K1, List.getElem?_set, K1]
  by_cases h : i = j
  · subst h; simp [hi]
  · simp [h]
theorem Q38 (o : List (List Int)) (i : Nat) (v : Int) (hi : i < o.length) : tot (o.set i (o.getD i [] ++ [v])) = tot o + 1 := by
  induction o generalizing i with
  | nil => simp at hi
  | cons a o ih =>
    cases i with
    | zero => simp [tot]; omega
    | succ i =>
      have := ih i (by simpa using hi)
      simp only [tot, List.set_cons_succ, K14, List.sum_cons, List.getD_cons_succ] at this ⊢
      omega
theorem Q29 (v : Int) (row : List Int) : ∀ o : List (List Int), (∀ w ∈ row, 0 ≤ w ∧ w < (o.length : Int)) →
    (Qa v row o).length = o.length ∧ tot (Qa v row o) = tot o + row.length ∧ ∀ (j : Nat) (x : Int), x ∈ (Qa v row o).getD j [] ↔ x ∈ o.getD j [] ∨ (x = v ∧ (j : Int) ∈ row) := by
  induction row with
  | nil => intro o _; exact ⟨rfl, rfl, fun j x => by simp [Qa]⟩
  | cons w row ih =>
    intro o hw
    have h0 := hw w Ki
    obtain ⟨g1, g2, g3⟩ := ih (o.set w.toNat (o.getD w.toNat [] ++ [v])) (fun x hx => by rw [Ks]; exact hw x (K8 _ hx))
    refine ⟨by rw [Qa, K19]; rw [Qa] at g1; rw [g1, Ks], ?_, fun j x => ?_⟩
    · rw [Qa, K19]
      rw [Qa] at g2
      rw [g2, Q38 _ _ _ (by omega), Kq]
      omega
    · rw [Qa, K19]
      have := g3 j x
      rw [Qa] at this
      rw [this, Qg o _ _ _ (by omega)]
      by_cases e : w.toNat = j
      · have e2 : (j : Int) = w := by omega
        rw [if_pos e, e, Kh, Kw, Kd]
        constructor
        · rintro ((h | h) | ⟨h, h2⟩)
          · exact .inl h
          · exact .inr ⟨h, .inl e2⟩
          · exact .inr ⟨h, .inr h2⟩
        · rintro (h | ⟨h, h2⟩)
          · exact .inl (.inl h)
          · exact .inl (.inr h)
      · have e2 : (j : Int) ≠ w := by omega
        rw [if_neg e, Kd]
        constructor
        · rintro (h | ⟨h, h2⟩)
          · exact .inl h
          · exact .inr ⟨h, .inr h2⟩
        · rintro (h | ⟨h, h2⟩)
          · exact .inl h
          · exact .inr ⟨h, h2.resolve_left e2⟩
theorem Q5 (g : List (List Int)) (hg : ∀ l ∈ g, ∀ w ∈ l, 0 ≤ w ∧ w < (g.length : Int)) (n : Nat) (hn : n ≤ g.length) :
    ((List.range n).foldl (fun o (v : Nat) => Qa (v : Int) (g.getD v []) o) (List.replicate g.length [])).length = g.length ∧
    tot ((List.range n).foldl (fun o (v : Nat) => Qa (v : Int) (g.getD v []) o) (List.replicate g.length [])) ≤ tot (g.take n) ∧
    ∀ (j : Nat) (x : Int), x ∈ ((List.range n).foldl (fun o (v : Nat) => Qa (v : Int) (g.getD v []) o) (List.replicate g.length [])).getD j [] ↔ ∃ v : Nat, v < n ∧ x = (v : Int) ∧ (j : Int) ∈ g.getD v [] := by
  induction n with
  | zero =>
    refine ⟨by simp, ?_, fun j x => ?_⟩
    · have : ∀ k, tot (List.replicate k ([] : List Int)) = 0 := by
        intro k
        induction k with
        | zero => rfl
        | succ k ih => simp only [tot, List.replicate_succ, K14, List.sum_cons, List.length_nil, K1g] at ih ⊢; exact ih
      simp only [List.range_zero, List.foldl_nil, this]
      exact Nat.zero_le _
    · constructor
      · intro h
        rw [List.range_zero, List.foldl_nil, K1, List.getElem?_replicate] at h
        split at h <;> simp at h
      · rintro ⟨v, h, _⟩; omega
  | succ n ih =>
    obtain ⟨h1, h2, h3⟩ := ih (by omega)
    have hlt : n < g.length := by omega
    have e : g.getD n [] = g[n] := by simp [K1, hlt]
    rw [List.range_succ, List.foldl_append, K19, List.foldl_nil]
    obtain ⟨g1, g2, g3⟩ := Q29 (n : Int) (g.getD n []) _ (fun w hw => by rw [h1]; exact hg _ (by rw [e]; exact K4 hlt) w hw)
    refine ⟨by rw [g1, h1], ?_, fun j x => ?_⟩
    · rw [g2, K1d hlt, e]
      simp only [tot, List.map_append, List.sum_append, K14, List.map_nil, List.sum_cons, List.sum_nil] at h2 ⊢
      omega
    · rw [g3, h3]
      constructor
      · rintro (⟨v, q1, q2, q3⟩ | ⟨q1, q2⟩)
        · exact ⟨v, by omega, q2, q3⟩
        · exact ⟨n, by omega, q1, q2⟩
      · rintro ⟨v, q1, q2, q3⟩
        by_cases hv : v = n
        · subst hv; exact .inr ⟨q2, q3⟩
        · exact .inl ⟨v, by omega, q2, q3⟩
theorem Q1b (o : List (List Int)) : ∀ l ∈ o, l.length ≤ tot o := by
  intro l hl
  induction o with
  | nil => cases hl
  | cons a o ih =>
    simp only [tot, K14, List.sum_cons]
    rcases Kd.1 hl with rfl | hl
    · omega
    · have := ih hl
      simp only [tot] at this
      omega
theorem Q3w (o : List (List Int)) (B : Nat) (h : ∀ l ∈ o, l.length ≤ B) : tot o ≤ o.length * B := by
  induction o with
  | nil => simp [tot]
  | cons a o ih =>
    have h1 := h a Ki
    have h2 := ih fun l hl => h l (K8 _ hl)
    simp only [tot, K14, List.sum_cons, Kq, Nat.succ_mul] at h2 ⊢
    omega
theorem Qo {g : List (List Int)} (hg : ∀ l ∈ g, ∀ w ∈ l, 0 ≤ w ∧ w < (g.length : Int)) (j : Nat) (x : Int) : x ∈ (Q8 g).getD j [] ↔ ∃ v : Nat, v < g.length ∧ x = (v : Int) ∧ (j : Int) ∈ g.getD v [] := (Q5 g hg g.length (K12 _)).2.2 j x
theorem Q2k {m : Nat} {g : List (List Int)} (hG : Gr m g) (hs : ∀ l ∈ g, l.length ≤ 2000) : Gr m (Q8 g) := by
  have hg : ∀ l ∈ g, ∀ w ∈ l, 0 ≤ w ∧ w < (g.length : Int) := by rw [hG.len]; exact hG.inn
  obtain ⟨h1, h2, h3⟩ := Q5 g hg g.length (K12 _)
  have hsm := hG.small
  refine ⟨by rw [← hG.len]; exact h1, fun l hl w hw => ?_, fun l hl => ?_, hsm⟩
  · obtain ⟨j, hj, rfl⟩ := List.getElem_of_mem hl
    have e : (Q8 g).getD j [] = (Q8 g)[j] := by simp [K1, hj]
    rw [← e] at hw
    obtain ⟨v, hv, rfl, _⟩ := (Qo hg j w).1 hw
    rw [← hG.len]
    exact ⟨Int.natCast_nonneg _, by omega⟩
  · have q1 := Q1b _ l hl
    have q2 := Q3w g 2000 hs
    rw [K1i (K12 _)] at h2
    have q3 : tot (Q8 g) ≤ tot g := h2
    rw [hG.len] at q2
    have : m * 2000 ≤ 10000 * 2000 := Kp _ hsm
    omega
/-- where a graph's rows are turned, as the two functions do it -/
theorem Q39 (t11 : Bool × List (Bool × List Int)) (t12 : Int) (t13 : Int) (v : Int) (b : Bool) (m : Nat) (hm : m ≤ 10000) (r : Bool × List Int) (hr : r.2.length ≤ 20000000) (hw : ∀ w ∈ r.2, 0 ≤ w ∧ w < (m : Int)) (d : Nat) : ∀ (i : Nat) (R : List (Bool × List Int)), i + d = r.2.length → R.length = m → tot (R.map Prod.snd) + d ≤ 200000000 →
    ∃ R' : List (Bool × List Int), R'.length = m ∧ R'.map Prod.snd = Qa v (r.2.drop i) (R.map Prod.snd) ∧ F24 (b, R) v t11 t12 t13 r (r.2.length : Int) (i : Int) = some (b, R') ∧ F1u (b, R) v t11 t12 t13 r (r.2.length : Int) (i : Int) = some (b, R') := by
  have hlim := J6
  induction d with
  | zero =>
    intro i R hi hR ht
    exact ⟨R, hR, by rw [K9 (by omega)]; rfl, by rw [F24E, gF (by omega)], by rw [F1uE, gF (by omega)]⟩
  | succ d ih =>
    intro i R hi hR ht
    have hlt : i < r.2.length := by omega
    have hx := hw _ (K4 hlt)
    have hj : Int.toNat r.2[i] < R.length := by omega
    have hrow : ((R.getD (Int.toNat r.2[i]) (true, [])).2).length ≤ tot (R.map Prod.snd) := by
      refine Q1b _ _ (Ku.2 ⟨R.getD (Int.toNat r.2[i]) (true, []), ?_, rfl⟩)
      have e : R.getD (Int.toNat r.2[i]) (true, []) = R[Int.toNat r.2[i]] := by simp [K1, hj]
      rw [e]
      exact K4 _
    have esnd : (R.map Prod.snd).getD (Int.toNat r.2[i]) [] = (R.getD (Int.toNat r.2[i]) (true, [])).2 := by simp [K1, hj]
    have emap : (R.set (Int.toNat r.2[i]) ((R.getD (Int.toNat r.2[i]) (true, [])).1 && false, (R.getD (Int.toNat r.2[i]) (true, [])).2 ++ [v])).map Prod.snd = (R.map Prod.snd).set (Int.toNat r.2[i]) ((R.map Prod.snd).getD (Int.toNat r.2[i]) [] ++ [v]) := by
      rw [List.map_set, esnd]
    have htot : tot ((R.set (Int.toNat r.2[i]) ((R.getD (Int.toNat r.2[i]) (true, [])).1 && false, (R.getD (Int.toNat r.2[i]) (true, [])).2 ++ [v])).map Prod.snd) = tot (R.map Prod.snd) + 1 := by
      rw [emap]
      exact Q38 _ _ _ (by simpa using hj)
    obtain ⟨R', g1, g2, g3, g4⟩ := ih (i + 1) (R.set (Int.toNat r.2[i]) ((R.getD (Int.toNat r.2[i]) (true, [])).1 && false, (R.getD (Int.toNat r.2[i]) (true, [])).2 ++ [v])) (by omega) (by rw [Ks]; exact hR) (by rw [htot]; omega)
    refine ⟨R', g1, ?_, ?_, ?_⟩
    · rw [g2, emap, K3 hlt, Qa, Qa, K19]
    · rw [F24E, gT (by omega), gT (by omega), gT (by omega), J2 r.2 _ i hlt, gT hx.1, gT (by simp only; omega), gT (by simp only [K24]; omega), gT hx.1, gT (by simp only; omega), bT (by simp), up1 i (by omega), J1, g3]
    · rw [F1uE, gT (by omega), gT (by omega), gT (by omega), J2 r.2 _ i hlt, gT hx.1, gT (by simp only; omega), gT (by simp only [K24]; omega), gT hx.1, gT (by simp only; omega), bT (by simp), up1 i (by omega), J1, g4]
theorem Q14 {m : Nat} {G : List (List Int)} (hG : Gr m G) (hs : ∀ l ∈ G, l.length ≤ 2000) (gb : Bool) {R : List (Bool × List Int)} (hR : R.map Prod.snd = G) : ∃ R' : List (Bool × List Int), R'.map Prod.snd = Q8 G ∧ F6 (gb, R) = some (false, R') ∧ F5 (gb, R) = some (false, R') := by
  have hlim := J6
  have hsm := hG.small
  have hRl : R.length = m := by rw [← hG.len, ← hR, Ky]
  have hg : ∀ l ∈ G, ∀ w ∈ l, 0 ≤ w ∧ w < (G.length : Int) := by rw [hG.len]; exact hG.inn
  have ht : ∀ n, n ≤ m → tot (G.take n) ≤ 20000000 := by
    intro n hn
    have q := Q3w (G.take n) 2000 fun l hl => hs l (List.mem_of_mem_take hl)
    have q2 : (G.take n).length ≤ 10000 := by rw [K1u, hG.len]; omega
    have : (G.take n).length * 2000 ≤ 10000 * 2000 := Kp _ q2
    omega
  have key : ∀ (d i : Nat) (Q : List (Bool × List Int)), i + d = m → Q.length = m → Q.map Prod.snd = (List.range i).foldl (fun o (v : Nat) => Qa (v : Int) (G.getD v []) o) (List.replicate G.length []) →
      ∃ R' : List (Bool × List Int), R'.map Prod.snd = Q8 G ∧ F1o (false, Q) (gb, R) (m : Int) (i : Int) = some (false, R') ∧ F27 (false, Q) (gb, R) (m : Int) (i : Int) = some (false, R') := by
    intro d
    induction d with
    | zero =>
      intro i Q hi hQ hq
      obtain rfl : i = m := by omega
      exact ⟨Q, by rw [hq, Q8, hG.len], by rw [F1oE, gF (by omega)], by rw [F27E, gF (by omega)]⟩
    | succ d ih =>
      intro i Q hi hQ hq
      have hlt : i < G.length := by rw [hG.len]; omega
      obtain ⟨r1, r2, r3⟩ := Q1i hR hlt
      obtain ⟨f1, f2, _⟩ := Q5 G hg i (by omega)
      have hti := ht i (by omega)
      have hsh := hs _ r3
      obtain ⟨Q', g1, g2, g3, g4⟩ := Q39 (gb, R) (m : Int) (i : Int) (i : Int) false m hsm (R.getD i (true, [])) (by rw [r2]; omega) (by rw [r2]; exact hG.inn _ r3) (R.getD i (true, [])).2.length 0 Q (by omega) hQ (by rw [hq, r2]; omega)
      have g3' : F24 (false, Q) (i : Int) (gb, R) (m : Int) (i : Int) (R.getD i (true, [])) ((R.getD i (true, [])).2.length : Int) 0 = _ := g3
      have g4' : F1u (false, Q) (i : Int) (gb, R) (m : Int) (i : Int) (R.getD i (true, [])) ((R.getD i (true, [])).2.length : Int) 0 = _ := g4
      obtain ⟨R', k1, k2, k3⟩ := ih (i + 1) Q' (by omega) g1 (by rw [g2, Kg, r2, hq, List.range_succ, List.foldl_append]; rfl)
      refine ⟨R', k1, ?_, ?_⟩
      · rw [F1oE, gT (by omega), gT (by omega), gT (by simp only; omega), K7]
        simp only [g3', J0]
        rw [up1 i (by omega), J1, k2]
      · rw [F27E, gT (by omega), gT (by omega), gT (by simp only; omega), K7]
        simp only [g4', J0]
        rw [up1 i (by omega), J1, k3]
  have hrep : (List.replicate m ((true, []) : Bool × List Int)).map Prod.snd = List.replicate m [] := by simp
  obtain ⟨R', k1, k2, k3⟩ := key m 0 (List.replicate m (true, [])) (by omega) (by simp) (by rw [hrep, hG.len]; rfl)
  have k2' : F1o (false, List.replicate m (true, [])) (gb, R) (m : Int) 0 = _ := k2
  have k3' : F27 (false, List.replicate m (true, [])) (gb, R) (m : Int) 0 = _ := k3
  refine ⟨R', k1, ?_, ?_⟩
  · rw [F6E]
    simp only [hRl, K7]
    rw [gT (by omega), gT (by omega), gT (by omega), gT (by omega), k2', J0]
  · rw [F5E]
    simp only [hRl, K7]
    rw [gT (by omega), gT (by omega), gT (by omega), gT (by omega), k3', J0]
/-! the way -/
theorem Qt {l : List Int} {i : Nat} (h : i < l.length) : l.getD i 0 = l[i] := by simp [K1, h]
theorem Q3i (l : Bool × List Int) (n : Int) (hl : l.2.length ≤ 1048576) : Fe l n = some (bif l.2.any (fun x => n == x) then (l.2.findIdx (fun x => n == x) : Int) else -1) := by
  have h := Ja l.2 (fun x => n == x) (fun i => F26 l n (l.2.length : Int) i) (fun i h => by
    rw [F26E, gT (by omega), gT (by omega), gT (by omega), J2 l.2 _ i h, up1 i (by omega), J1]) (by rw [F26E, gF (by omega)])
  rw [FeE, h, J0]
  cases l.2.any (fun x => n == x) <;> rfl
def Q2o (X : List (Bool × List Int)) (k : Nat) : List Int := (X.getD k (true, [])).2
/-- what some puts hand to a row -/
def pick (S : List (Nat × Int)) (k : Nat) : List Int := (S.filter fun e => e.1 == k).map Prod.snd
theorem Q25 (S S' : List (Nat × Int)) (k : Nat) : pick (S ++ S') k = pick S k ++ pick S' k := by
  simp [pick]
theorem Q26 (S : List (Nat × Int)) (k : Nat) : (pick S k).length ≤ S.length := by
  rw [pick, Ky]
  exact K1s _ _
/-- rows, with some puts done -/
structure Did (X X' : List (Bool × List Int)) (S : List (Nat × Int)) : Prop where
  len : X'.length = X.length
  row : ∀ k : Nat, k < X.length → Q2o X' k = Q2o X k ++ pick S k
def Bnd (X : List (Bool × List Int)) (n : Nat) : Prop := ∀ k : Nat, k < X.length → (Q2o X k).length ≤ n
theorem Did.refl (X : List (Bool × List Int)) : Did X X [] := ⟨rfl, fun k _ => by simp [pick]⟩
theorem Did.trans {X X' X'' : List (Bool × List Int)} {S S' : List (Nat × Int)} (h : Did X X' S) (h' : Did X' X'' S') : Did X X'' (S ++ S') := by
  refine ⟨by rw [h'.len, h.len], fun k hk => ?_⟩
  rw [h'.row k (by rw [h.len]; exact hk), h.row k hk, Q25, Kl]
theorem Did.bnd {X X' : List (Bool × List Int)} {S : List (Nat × Int)} (h : Did X X' S) {n : Nat} (hb : Bnd X n) : Bnd X' (n + S.length) := by
  intro k hk
  rw [h.len] at hk
  rw [h.row k hk, Kj]
  have := hb k hk
  have := Q26 S k
  omega
theorem Did.put {X : List (Bool × List Int)} {k : Nat} (hk : k < X.length) (b : Bool) (z : Int) : Did X (X.set k (b, Q2o X k ++ [z])) [(k, z)] := by
  refine ⟨Ks, fun j hj => ?_⟩
  by_cases e : k = j
  · subst e
    simp [Q2o, K1, hk, pick]
  · have e' : (k == j) = false := by rw [beq_eq_false_iff_ne]; exact e
    simp [Q2o, K1, List.getElem?_set_ne e, pick, e']
theorem findIdx?_lt {α : Type} {K : List α} {q : α → Bool} {i : Nat} (h : K.findIdx? q = some i) : i < K.length := by
  rw [List.findIdx?_eq_some_iff_getElem] at h
  exact h.1
theorem findIdx?_more {α : Type} {K L : List α} {q : α → Bool} {i : Nat} (h : K.findIdx? q = some i) : (K ++ L).findIdx? q = some i := by
  rw [List.findIdx?_append, h]
  rfl
theorem findIdx?_new {α : Type} {K : List α} {q : α → Bool} {x : α} (h : K.findIdx? q = none) (hx : q x = true) : (K ++ [x]).findIdx? q = some K.length := by
  rw [List.findIdx?_append, h, List.findIdx?_cons, hx]
  simp
theorem findIdx?_at {α : Type} [BEq α] [LawfulBEq α] {K : List α} {x : α} {i : Nat} (h : K.findIdx? (fun y => x == y) = some i) : K[i]? = some x := by
  rw [List.findIdx?_eq_some_iff_getElem] at h
  obtain ⟨h1, h2, _⟩ := h
  rw [Kc h1]
  exact congrArg some (eq_of_beq h2).symm
/-- what can be reached along arrows -/
inductive Way (g : Int → List Int) : Int → Int → Prop
  | here (a : Int) : Way g a a
  | step {a b c : Int} : b ∈ g a → Way g b c → Way g a c
theorem Way.trans {g : Int → List Int} {a b c : Int} (h : Way g a b) (h2 : Way g b c) : Way g a c := by
  induction h with
  | here a => exact h2
  | step e _ ih => exact Way.step e (ih h2)
theorem Way.arc {g : Int → List Int} {a b : Int} (h : b ∈ g a) : Way g a b := Way.step h (Way.here b)
theorem Way.snoc {g : Int → List Int} {a b c : Int} (h : Way g a b) (h2 : c ∈ g b) : Way g a c := h.trans (Way.arc h2)
/-- what is closed along arrows keeps its ways in -/
theorem Way.closed {g : Int → List Int} {P : Int → Prop} (hc : ∀ x, P x → ∀ y ∈ g x, P y) {a b : Int} (h : Way g a b) : P a → P b := by
  induction h with
  | here a => exact id
  | step e _ ih => exact fun h => ih (hc _ h _ e)
theorem Way.turn {g r : Int → List Int} (hr : ∀ x y, y ∈ r x → x ∈ g y) {a b : Int} (h : Way r a b) : Way g b a := by
  induction h with
  | here a => exact Way.here a
  | step e _ ih => exact ih.trans (Way.arc (hr _ _ e))
/-- each leads to the other -/
def Scc (g : Int → List Int) (a b : Int) : Prop := Way g a b ∧ Way g b a
theorem Scc.refl (g : Int → List Int) (a : Int) : Scc g a a := ⟨Way.here a, Way.here a⟩
theorem Scc.symm {g : Int → List Int} {a b : Int} (h : Scc g a b) : Scc g b a := ⟨h.2, h.1⟩
theorem Scc.trans {g : Int → List Int} {a b c : Int} (h : Scc g a b) (h2 : Scc g b c) : Scc g a c := ⟨h.1.trans h2.1, h2.2.trans h.2⟩
/-- the least of a part -/
def IsL (g : Int → List Int) (x m : Int) : Prop := Scc g x m ∧ ∀ y, Scc g x y → m ≤ y
theorem IsL.one {g : Int → List Int} {x m k : Int} (h : IsL g x m) (h2 : IsL g x k) : m = k := Int.le_antisymm (h.2 k h2.1) (h2.2 m h.1)
theorem IsL.of {g : Int → List Int} {x y m : Int} (h : IsL g x m) (e : Scc g x y) : IsL g y m := ⟨e.symm.trans h.1, fun z hz => h.2 z (e.trans hz)⟩
/-- the last of a list with a property -/
theorem Q42 {α : Type} (P : α → Prop) : ∀ (l : List α), (∃ x ∈ l, P x) → ∃ A u B, l = A ++ u :: B ∧ P u ∧ ∀ x ∈ B, ¬ P x := by
  intro l
  induction l with
  | nil => rintro ⟨x, hx, _⟩; cases hx
  | cons a l ih =>
    intro h
    by_cases c : ∃ x ∈ l, P x
    · obtain ⟨A, u, B, e, h1, h2⟩ := ih c
      exact ⟨a :: A, u, B, by rw [e, List.cons_append], h1, h2⟩
    · obtain ⟨x, hx, px⟩ := h
      rcases Kd.1 hx with rfl | hx
      · exact ⟨[], x, l, rfl, px, fun y hy py => c ⟨y, hy, py⟩⟩
      · exact absurd ⟨x, hx, px⟩ c
theorem Q23 {α : Type} {A X A2 B : List α} {u : α} (hn : (A ++ u :: X).Nodup) (e : A ++ u :: X = A2 ++ u :: B) : A = A2 := by
  rcases List.append_eq_append_iff.1 e with ⟨t, e1, e2⟩ | ⟨t, e1, e2⟩
  · cases t with
    | nil => rw [e1, K1o]
    | cons c t =>
      rw [List.cons_append, Kr] at e2
      obtain ⟨rfl, e3⟩ := e2
      rw [e3] at hn
      have := (K17.1 hn).2.1
      rw [K1l] at this
      exact absurd (by simp) this.1
  · cases t with
    | nil => rw [e1, K1o]
    | cons c t =>
      rw [List.cons_append, Kr] at e2
      obtain ⟨rfl, e3⟩ := e2
      rw [e1, Kl, List.cons_append] at hn
      have := (K17.1 hn).2.1
      rw [K1l] at this
      exact absurd (by simp) this.1
/-! the order in which a walk in depth leaves the points -/
structure FinI (g : Int → List Int) (G S : Int → Prop) (o : List Int) : Prop where
  see : ∀ x, S x ↔ (x ∈ o ∨ G x)
  dis : ∀ x ∈ o, ¬ G x
  suc : ∀ x ∈ o, ∀ y ∈ g x, S y
  star : ∀ A z B, o = A ++ z :: B → (∀ w, Way g z w → w ∈ A ∨ w = z) ∨ ∃ y, Scc g z y ∧ y ∉ A ∧ y ≠ z
  nod : o.Nodup
theorem FinI.enter {g : Int → List Int} {G S : Int → Prop} {o : List Int} (h : FinI g G S o) {k : Int} (hk : ¬ S k) : FinI g (fun x => G x ∨ x = k) (fun x => S x ∨ x = k) o := by
  refine ⟨fun x => ?_, fun x hx hc => ?_, fun x hx y hy => Or.inl (h.suc x hx y hy), h.star, h.nod⟩
  · rw [h.see]
    constructor
    · rintro ((a | a) | a)
      · exact Or.inl a
      · exact Or.inr (Or.inl a)
      · exact Or.inr (Or.inr a)
    · rintro (a | a | a)
      · exact Or.inl (Or.inl a)
      · exact Or.inl (Or.inr a)
      · exact Or.inr a
  · rcases hc with hc | hc
    · exact h.dis x hx hc
    · subst hc
      exact hk ((h.see x).2 (Or.inl hx))
theorem FinI.leave {g : Int → List Int} {G S : Int → Prop} {o : List Int} {k : Int} (h : FinI g (fun x => G x ∨ x = k) S o) (hg : ¬ G k) (hs : ∀ y ∈ g k, S y) (hw : ∀ x, G x → Way g x k) : FinI g G S (o ++ [k]) := by
  have hko : k ∉ o := fun c => h.dis k c (Or.inr rfl)
  refine ⟨fun x => ?_, fun x hx hc => ?_, fun x hx y hy => ?_, fun A z B e => ?_, ?_⟩
  · rw [h.see, Kh, Kw]
    constructor
    · rintro (a | a | a)
      · exact Or.inl (Or.inl a)
      · exact Or.inr a
      · exact Or.inl (Or.inr a)
    · rintro ((a | a) | a)
      · exact Or.inl a
      · exact Or.inr (Or.inr a)
      · exact Or.inr (Or.inl a)
  · rw [Kh, Kw] at hx
    rcases hx with hx | hx
    · exact h.dis x hx (Or.inl hc)
    · subst hx
      exact hg hc
  · rw [Kh, Kw] at hx
    rcases hx with hx | hx
    · exact h.suc x hx y hy
    · subst hx
      exact hs y hy
  · rcases List.eq_nil_or_concat B with hB | ⟨B2, b, hB⟩
    · subst hB
      obtain ⟨e1, e2⟩ := List.append_inj' e rfl
      simp only [Kr, and_true] at e2
      subst e1 e2
      by_cases c : ∃ y, G y ∧ Way g k y
      · obtain ⟨y, hy, hy2⟩ := c
        refine Or.inr ⟨y, ⟨hy2, hw y hy⟩, fun q => h.dis y q (Or.inl hy), fun q => ?_⟩
        subst q
        exact hg hy
      · refine Or.inl fun w hkw => ?_
        have key : Way g k w ∧ (w ∈ o ∨ w = k) := Way.closed (P := fun x => Way g k x ∧ (x ∈ o ∨ x = k)) (fun x hx y hy => by
          have hky := hx.1.snoc hy
          have hsy : S y := by
            rcases hx.2 with q | q
            · exact h.suc x q y hy
            · subst q
              exact hs y hy
          refine ⟨hky, ?_⟩
          rcases (h.see y).1 hsy with q | q | q
          · exact Or.inl q
          · exact absurd ⟨y, q, hky⟩ c
          · exact Or.inr q) hkw ⟨Way.here k, Or.inr rfl⟩
        exact key.2
    · subst hB
      rw [List.concat_eq_append] at e
      have e' : o ++ [k] = (A ++ z :: B2) ++ [b] := by rw [e]; simp
      obtain ⟨e1, _⟩ := List.append_inj' e' rfl
      exact h.star A z B2 e1
  · rw [K17]
    refine ⟨h.nod, List.pairwise_singleton _ _, fun a ha b hb => ?_⟩
    rw [Kw] at hb
    rintro rfl
    subst hb
    exact hko ha
/-- J93 the walk: what leads to a point and is in no part of a later one is in its part -/
theorem Q3z {g : Int → List Int} {S ok : Int → Prop} {o : List Int} (h : FinI g (fun _ => False) S o) (all : ∀ x, ok x → x ∈ o) (okc : ∀ x, ok x → ∀ y ∈ g x, ok y) {A B : List Int} {z y : Int} (ho : o = A ++ z :: B) (hy : ok y) (hyz : Way g y z) (hB : ∀ b ∈ B, ¬ Scc g y b) : Way g z y := by
  obtain ⟨A2, u, B2, e, hu, hl⟩ := Q42 (fun x => Scc g y x) o ⟨y, all y hy, Scc.refl g y⟩
  have oku : ok u := Way.closed okc hu.1 hy
  rcases h.star A2 u B2 e with c | ⟨y2, c1, c2, c3⟩
  · rcases c z (hu.2.trans hyz) with cz | cz
    · have huo : u ∈ A ++ z :: B := by rw [← ho]; exact all u oku
      rw [Kh, Kd] at huo
      rcases huo with q | q | q
      · exfalso
        obtain ⟨A1, X, eA⟩ := List.append_of_mem q
        have e3 : A1 ++ u :: (X ++ z :: B) = A2 ++ u :: B2 := by rw [← e, ho, eA]; simp
        have hn : (A1 ++ u :: (X ++ z :: B)).Nodup := by rw [e3, ← e]; exact h.nod
        have e4 := Q23 hn e3
        subst e4
        exact (K17.1 hn).2.2 z cz z (by simp) rfl
      · subst q
        exact hu.2
      · exact absurd hu (hB u q)
    · subst cz
      exact hu.2
  · exfalso
    have o2 : y2 ∈ A2 ++ u :: B2 := by rw [← e]; exact all y2 (Way.closed okc c1.1 oku)
    rw [Kh, Kd] at o2
    rcases o2 with q | q | q
    · exact c2 q
    · exact c3 q
    · exact hl y2 q (hu.trans c1)
/-! a walk that gathers what is not seen yet -/
structure ColI (g : Int → List Int) (r : Int) (Base G S : Int → Prop) (o : List Int) : Prop where
  see : ∀ x, S x ↔ (Base x ∨ x ∈ o ∨ G x)
  new : ∀ x, x ∈ o ∨ G x → ¬ Base x ∧ Way g r x
  suc : ∀ x ∈ o, ∀ y ∈ g x, S y
theorem ColI.enter {g : Int → List Int} {r : Int} {Base G S : Int → Prop} {o : List Int} (h : ColI g r Base G S o) {k : Int} (hk : ¬ S k) (hr : Way g r k) : ColI g r Base (fun x => G x ∨ x = k) (fun x => S x ∨ x = k) o := by
  refine ⟨fun x => ?_, fun x hx => ?_, fun x hx y hy => Or.inl (h.suc x hx y hy)⟩
  · rw [h.see]
    constructor
    · rintro ((a | a | a) | a)
      · exact Or.inl a
      · exact Or.inr (Or.inl a)
      · exact Or.inr (Or.inr (Or.inl a))
      · exact Or.inr (Or.inr (Or.inr a))
    · rintro (a | a | a | a)
      · exact Or.inl (Or.inl a)
      · exact Or.inl (Or.inr (Or.inl a))
      · exact Or.inl (Or.inr (Or.inr a))
      · exact Or.inr a
  · rcases hx with a | a | a
    · exact h.new x (Or.inl a)
    · exact h.new x (Or.inr a)
    · subst a
      exact ⟨fun c => hk ((h.see x).2 (Or.inl c)), hr⟩
theorem ColI.leave {g : Int → List Int} {r : Int} {Base G S : Int → Prop} {o : List Int} {k : Int} (h : ColI g r Base (fun x => G x ∨ x = k) S o) (hs : ∀ y ∈ g k, S y) : ColI g r Base G S (o ++ [k]) := by
  refine ⟨fun x => ?_, fun x hx => ?_, fun x hx y hy => ?_⟩
  · rw [h.see, Kh, Kw]
    constructor
    · rintro (a | a | a | a)
      · exact Or.inl a
      · exact Or.inr (Or.inl (Or.inl a))
      · exact Or.inr (Or.inr a)
      · exact Or.inr (Or.inl (Or.inr a))
    · rintro (a | (a | a) | a)
      · exact Or.inl a
      · exact Or.inr (Or.inl a)
      · exact Or.inr (Or.inr (Or.inr a))
      · exact Or.inr (Or.inr (Or.inl a))
  · rw [Kh, Kw] at hx
    rcases hx with (a | a) | a
    · exact h.new x (Or.inl a)
    · exact h.new x (Or.inr (Or.inr a))
    · exact h.new x (Or.inr (Or.inl a))
  · rw [Kh, Kw] at hx
    rcases hx with a | a
    · exact h.suc x a y hy
    · subst a
      exact hs y hy
/-- what a walk against the arrows gathers from the last point that is not seen yet: its part -/
theorem Q3y {g r : Int → List Int} {ok S T : Int → Prop} {o q : List Int} (h : FinI g (fun _ => False) S o) (all : ∀ x, ok x → x ∈ o) (okc : ∀ x, ok x → ∀ y ∈ g x, ok y) (okr : ∀ x, ok x → ∀ y ∈ r x, ok y) (hr : ∀ x y, ok x → (y ∈ r x ↔ x ∈ g y)) {A B : List Int} {z : Int} (ho : o = A ++ z :: B) (hz : ok z)
    {Base : Int → Prop} (hb : ∀ x, ok x → (Base x ↔ ∃ b ∈ B, Scc g x b)) (hc : ColI r z Base (fun _ => False) T q) (hzb : ¬ Base z) (hzq : z ∈ q) (x : Int) (hx : ok x) : x ∈ q ↔ Scc g z x := by
  have turn : ∀ a b, ok a → Way r a b → Way g b a := by
    intro a b ha hw
    induction hw with
    | here a => exact Way.here a
    | step e _ ih => exact (ih (okr _ ha _ e)).trans (Way.arc ((hr _ _ ha).1 e))
  constructor
  · intro hq
    obtain ⟨h1, h2⟩ := hc.new x (Or.inl hq)
    have h3 := turn _ _ hz h2
    exact ⟨Q3z h all okc ho hx h3 (fun b hb2 hs => h1 ((hb x hx).2 ⟨b, hb2, hs⟩)), h3⟩
  · intro hs
    have back : ∀ a b, ok a → Way g a b → Way r b a := by
      intro a b ha hw
      induction hw with
      | here a => exact Way.here a
      | step e _ ih => exact (ih (okc _ ha _ e)).snoc ((hr _ _ (okc _ ha _ e)).2 e)
    have key : ∀ a, Way r a x → ok a → a ∈ q → Scc g z a → x ∈ q := by
      intro a hw
      induction hw with
      | here a => exact fun _ hq _ => hq
      | step e hw ih =>
        intro ha hq hsa
        have okb := okr _ ha _ e
        have hsb := hc.suc _ hq _ e
        have sb : Scc g z _ := ⟨hs.1.trans (turn _ _ okb hw), (Way.arc ((hr _ _ ha).1 e)).trans hsa.2⟩
        rcases (hc.see _).1 hsb with c | c | c
        · exfalso
          obtain ⟨b, hb1, hb2⟩ := (hb _ okb).1 c
          exact hzb ((hb z hz).2 ⟨b, hb1, sb.trans hb2⟩)
        · exact ih hx hs okb c sb
        · exact c.elim
    exact key z (back _ _ hx hs.2) hz hzq (Scc.refl g z)
/-- a function with another value at one place -/
def updI (f : Int → Int) (k v : Int) : Int → Int := fun x => if x = k then v else f x
theorem Q1 (f : Int → Int) (k v : Int) : updI f k v k = v := if_pos rfl
theorem Q2 (f : Int → Int) {k x : Int} (v : Int) (h : ¬ x = k) : updI f k v x = f x := if_neg h
/-- the walk with a stack: what holds between calls (G: the points that are being visited) -/
structure TarI (g : Int → List Int) (G : Int → Prop) (fo pa : Int → Int) (st : List Int) (vis : Int) : Prop where
  fr : ∀ x, 0 ≤ fo x ∧ fo x ≤ vis
  see : ∀ x, fo x ≠ 0 ↔ (0 ≤ pa x ∨ x ∈ st)
  dis : ∀ x ∈ st, pa x < 0
  nn : ∀ x ∈ st, 0 ≤ x
  inc : st.Pairwise fun a b => fo a < fo b
  gs : ∀ x, G x → x ∈ st
  cl : ∀ x, 0 ≤ pa x → ∀ y ∈ g x, 0 ≤ pa y
  val : ∀ x, 0 ≤ pa x → IsL g x (pa x)
  blk : ∀ x ∈ st, ¬ G x → (∀ y ∈ g x, fo y ≠ 0) ∧ ∃ y ∈ st, fo y < fo x ∧ Way g x y
theorem TarI.enter {g : Int → List Int} {G : Int → Prop} {fo pa : Int → Int} {st : List Int} {vis v : Int} (h : TarI g G fo pa st vis) (hv : fo v = 0) (hv0 : 0 ≤ v) : TarI g (fun x => G x ∨ x = v) (updI fo v (vis + 1)) pa (st ++ [v]) (vis + 1) := by
  have hvis := h.fr v
  have hns : v ∉ st := fun c => (h.see v).2 (Or.inr c) hv
  have hne : ∀ x ∈ st, ¬ x = v := fun x hx e => by
    subst e
    exact hns hx
  have hup : ∀ y, fo y ≠ 0 → updI fo v (vis + 1) y ≠ 0 := fun y hy => by
    by_cases c : y = v
    · subst c
      exact absurd hv hy
    · rwa [Q2 _ _ c]
  refine ⟨fun x => ?_, fun x => ?_, fun x hx => ?_, fun x hx => ?_, ?_, fun x hx => ?_, h.cl, h.val, fun x hx hg => ?_⟩
  · by_cases c : x = v
    · subst c
      rw [Q1]
      omega
    · rw [Q2 _ _ c]
      have := h.fr x
      omega
  · by_cases c : x = v
    · subst c
      rw [Q1]
      exact ⟨fun _ => Or.inr (by simp), fun _ => by omega⟩
    · rw [Q2 _ _ c, h.see, Kh, Kw]
      constructor
      · rintro (a | a)
        · exact Or.inl a
        · exact Or.inr (Or.inl a)
      · rintro (a | a | a)
        · exact Or.inl a
        · exact Or.inr a
        · exact absurd a c
  · rw [Kh, Kw] at hx
    rcases hx with hx | hx
    · exact h.dis x hx
    · subst hx
      rcases Int.lt_or_le (pa x) 0 with c | c
      · exact c
      · exact absurd hv ((h.see x).2 (Or.inl c))
  · rw [Kh, Kw] at hx
    rcases hx with hx | hx
    · exact h.nn x hx
    · omega
  · rw [List.pairwise_append]
    refine ⟨h.inc.imp_of_mem fun {a b} ha hb hab => ?_, List.pairwise_singleton _ _, fun a ha b hb => ?_⟩
    · rw [Q2 _ _ (hne a ha), Q2 _ _ (hne b hb)]
      exact hab
    · rw [Kw] at hb
      subst hb
      rw [Q2 _ _ (hne a ha), Q1]
      have := h.fr a
      omega
  · rw [Kh, Kw]
    rcases hx with hx | hx
    · exact Or.inl (h.gs x hx)
    · exact Or.inr hx
  · rw [Kh, Kw] at hx
    rcases hx with hx | hx
    · obtain ⟨h1, y, h2, h3, h4⟩ := h.blk x hx (fun c => hg (Or.inl c))
      refine ⟨fun z hz => hup z (h1 z hz), y, Kb _ h2, ?_, h4⟩
      rw [Q2 _ _ (hne y h2), Q2 _ _ (hne x hx)]
      exact h3
    · exact absurd (Or.inr hx) hg
/-- within a visit: some arrows are done -/
structure TarL (g : Int → List Int) (G : Int → Prop) (v : Int) (S0 : List Int) (fo0 lo0 : Int → Int) (vis0 : Int) (fo lo pa : Int → Int) (st : List Int) (vis : Int) (done : List Int) : Prop where
  inv : TarI g (fun x => G x ∨ x = v) fo pa st vis
  gs0 : ∀ x, G x → x ∈ S0
  stk : ∃ M, st = S0 ++ v :: M ∧ ∀ x ∈ M, Way g v x ∧ ∀ y ∈ g x, y ∈ S0 → lo v ≤ fo y
  keep : ∀ x, fo0 x ≠ 0 → fo x = fo0 x ∧ lo x = lo0 x
  fv : vis0 < fo v
  vs : vis0 ≤ vis
  lv : lo v ≤ fo v
  low : ∃ u ∈ st, fo u = lo v ∧ Way g v u
  dn : ∀ w ∈ done, fo w ≠ 0 ∧ (w ∈ S0 → lo v ≤ fo w)
/-- J93 a visit -/
structure TarP (g : Int → List Int) (G : Int → Prop) (v : Int) (S0 : List Int) (fo0 lo0 : Int → Int) (vis0 : Int) (fo lo pa : Int → Int) (st : List Int) (vis : Int) : Prop where
  inv : TarI g G fo pa st vis
  keep : ∀ x, fo0 x ≠ 0 → fo x = fo0 x ∧ lo x = lo0 x
  fv : vis0 < fo v
  vs : vis0 ≤ vis
  out : ∃ N, st = S0 ++ N ∧ (∀ x ∈ N, Way g v x ∧ ∀ y ∈ g x, y ∈ S0 → lo v ≤ fo y) ∧ ((N = [] ∧ fo v ≤ lo v) ∨ ∃ u ∈ st, fo u = lo v ∧ Way g v u)
theorem TarL.start {g : Int → List Int} {G : Int → Prop} {fo lo pa : Int → Int} {st : List Int} {vis v : Int} (h : TarI g G fo pa st vis) (hv : fo v = 0) (hv0 : 0 ≤ v) : TarL g G v st fo lo vis (updI fo v (vis + 1)) (updI lo v (vis + 1)) pa (st ++ [v]) (vis + 1) [] := by
  refine ⟨h.enter hv hv0, h.gs, ⟨[], rfl, fun x hx => by cases hx⟩, fun x hx => ?_, ?_, by omega, ?_, ⟨v, by simp, ?_, Way.here v⟩, fun w hw => by cases hw⟩
  · have : ¬ x = v := fun e => hx (by rw [e]; exact hv)
    exact ⟨Q2 _ _ this, Q2 _ _ this⟩
  · rw [Q1]; omega
  · rw [Q1, Q1]; omega
  · rw [Q1, Q1]
theorem TarL.skip {g : Int → List Int} {G : Int → Prop} {fo0 lo0 fo lo pa : Int → Int} {S0 st done : List Int} {vis0 vis v w : Int} (h : TarL g G v S0 fo0 lo0 vis0 fo lo pa st vis done) (hp : 0 ≤ pa w) : TarL g G v S0 fo0 lo0 vis0 fo lo pa st vis (w :: done) := by
  refine { h with dn := fun x hx => ?_ }
  rcases Kd.1 hx with rfl | hx
  · refine ⟨(h.inv.see x).2 (Or.inl hp), fun hs => ?_⟩
    obtain ⟨M, e, _⟩ := h.stk
    have := h.inv.dis x (by rw [e]; exact Kb _ hs)
    omega
  · exact h.dn x hx
theorem TarL.seen {g : Int → List Int} {G : Int → Prop} {fo0 lo0 fo lo pa : Int → Int} {S0 st done : List Int} {vis0 vis v w : Int} (h : TarL g G v S0 fo0 lo0 vis0 fo lo pa st vis done) (hw : w ∈ g v) (h1 : fo w ≠ 0) (hp : pa w < 0) (hv0 : fo0 v = 0) :
    TarL g G v S0 fo0 lo0 vis0 fo (updI lo v (min (lo v) (fo w))) pa st vis (w :: done) := by
  obtain ⟨M, e, hM⟩ := h.stk
  have hlv := h.lv
  refine ⟨h.inv, h.gs0, ⟨M, e, fun x hx => ⟨(hM x hx).1, fun y hy hs => ?_⟩⟩, fun x hx => ?_, h.fv, h.vs, ?_, ?_, fun x hx => ?_⟩
  · rw [Q1]
    have := (hM x hx).2 y hy hs
    omega
  · have : ¬ x = v := fun e => hx (by rw [e]; exact hv0)
    rw [Q2 _ _ this]
    exact h.keep x hx
  · rw [Q1]
    omega
  · rw [Q1]
    rcases Int.le_total (lo v) (fo w) with c | c
    · obtain ⟨u, h2, h3, h4⟩ := h.low
      exact ⟨u, h2, by omega, h4⟩
    · refine ⟨w, ?_, by omega, Way.arc hw⟩
      rcases (h.inv.see w).1 h1 with q | q
      · omega
      · exact q
  · rw [Q1]
    rcases Kd.1 hx with rfl | hx
    · exact ⟨h1, fun _ => by omega⟩
    · have := h.dn x hx
      exact ⟨this.1, fun q => by have := this.2 q; omega⟩
theorem TarL.call {g : Int → List Int} {G : Int → Prop} {fo0 lo0 fo lo pa fo2 lo2 pa2 : Int → Int} {S0 st done st2 : List Int} {vis0 vis vis2 v w : Int} (h : TarL g G v S0 fo0 lo0 vis0 fo lo pa st vis done) (hw : w ∈ g v) (h1 : fo w = 0) (hv0 : fo0 v = 0)
    (p : TarP g (fun x => G x ∨ x = v) w st fo lo vis fo2 lo2 pa2 st2 vis2) : TarL g G v S0 fo0 lo0 vis0 fo2 (updI lo2 v (min (lo2 v) (lo2 w))) pa2 st2 vis2 (w :: done) := by
  obtain ⟨M, e, hM⟩ := h.stk
  obtain ⟨N, e2, hN, hout⟩ := p.out
  have hlv := h.lv
  have hfv := h.fv
  have hvs := h.vs
  have hvs2 := p.vs
  have hpfv := p.fv
  have hvr := h.inv.fr v
  have hvv : v ∈ st := by rw [e]; simp
  have hfv0 : fo v ≠ 0 := (h.inv.see v).2 (Or.inr hvv)
  obtain ⟨k1, k2⟩ := p.keep v hfv0
  have kst : ∀ x ∈ st, fo2 x = fo x ∧ lo2 x = lo x := fun x hx => p.keep x ((h.inv.see x).2 (Or.inr hx))
  have hS : ∀ y, y ∈ S0 → y ∈ st := fun y hy => by rw [e]; exact Kb _ hy
  refine ⟨p.inv, h.gs0, ⟨M ++ N, by rw [e2, e]; simp, fun x hx => ?_⟩, fun x hx => ?_, by omega, by omega, ?_, ?_, fun x hx => ?_⟩
  · rw [Q1, k2]
    rcases Kh.1 hx with hx | hx
    · refine ⟨(hM x hx).1, fun y hy hs => ?_⟩
      have a := (hM x hx).2 y hy hs
      have b := (kst y (hS y hs)).1
      omega
    · refine ⟨Way.step hw (hN x hx).1, fun y hy hs => ?_⟩
      have a := (hN x hx).2 y hy (hS y hs)
      omega
  · have hne : ¬ x = v := fun e => hx (by rw [e]; exact hv0)
    obtain ⟨a1, a2⟩ := h.keep x hx
    obtain ⟨b1, b2⟩ := p.keep x (by rw [a1]; exact hx)
    rw [Q2 _ _ hne, b1, b2, a1, a2]
    exact ⟨rfl, rfl⟩
  · rw [Q1, k2, k1]
    omega
  · rw [Q1, k2]
    have old : ∃ u ∈ st2, fo2 u = lo v ∧ Way g v u := by
      obtain ⟨u, h2, h3, h4⟩ := h.low
      exact ⟨u, by rw [e2]; exact Kb _ h2, by rw [(kst u h2).1]; exact h3, h4⟩
    rcases Int.le_total (lo v) (lo2 w) with c | c
    · rw [Int.min_eq_left c]
      exact old
    · rw [Int.min_eq_right c]
      rcases hout with ⟨_, q⟩ | ⟨u, q1, q2, q3⟩
      · have : lo2 w = lo v := by omega
        rw [this]
        exact old
      · exact ⟨u, q1, q2, Way.step hw q3⟩
  · rw [Q1, k2]
    rcases Kd.1 hx with rfl | hx
    · refine ⟨by omega, fun hs => ?_⟩
      exact absurd h1 ((h.inv.see x).2 (Or.inr (hS x hs)))
    · obtain ⟨a1, a2⟩ := h.dn x hx
      obtain ⟨b1, b2⟩ := p.keep x a1
      rw [b1]
      exact ⟨a1, fun q => by have := a2 q; omega⟩
/-- a visit ends, and its point stays on the stack -/
theorem TarL.stay {g : Int → List Int} {G : Int → Prop} {fo0 lo0 fo lo pa : Int → Int} {S0 st done : List Int} {vis0 vis v : Int} (h : TarL g G v S0 fo0 lo0 vis0 fo lo pa st vis done) (hd : ∀ y ∈ g v, y ∈ done) (hl : lo v < fo v) : TarP g G v S0 fo0 lo0 vis0 fo lo pa st vis := by
  obtain ⟨M, e, hM⟩ := h.stk
  refine ⟨{ h.inv with gs := fun x hx => h.inv.gs x (Or.inl hx), blk := fun x hx hg => ?_ }, h.keep, h.fv, h.vs, ⟨v :: M, e, fun x hx => ?_, Or.inr h.low⟩⟩
  · by_cases c : x = v
    · subst c
      obtain ⟨u, h2, h3, h4⟩ := h.low
      exact ⟨fun y hy => (h.dn y (hd y hy)).1, u, h2, by omega, h4⟩
    · exact h.inv.blk x hx (fun q => q.elim hg c)
  · rcases Kd.1 hx with rfl | hx
    · exact ⟨Way.here x, fun y hy hs => (h.dn y (hd y hy)).2 hs⟩
    · exact hM x hx
/-- a visit ends, and its part is taken off the stack -/
theorem TarL.pop {g : Int → List Int} {G : Int → Prop} {fo0 lo0 fo lo pa : Int → Int} {S0 M done : List Int} {vis0 vis v m : Int} (h : TarL g G v S0 fo0 lo0 vis0 fo lo pa (S0 ++ v :: M) vis done) (hd : ∀ y ∈ g v, y ∈ done) (hl : fo v ≤ lo v) (hm : m ∈ v :: M) (hle : ∀ x ∈ v :: M, m ≤ x)
    {pa2 : Int → Int} (hp1 : ∀ x ∈ v :: M, pa2 x = m) (hp2 : ∀ x, x ∉ v :: M → pa2 x = pa x) : TarP g G v S0 fo0 lo0 vis0 fo lo pa2 S0 vis := by
  obtain ⟨M2, e, hM⟩ := h.stk
  obtain rfl : M = M2 := by simpa using e
  obtain ⟨i1, i2, i3⟩ := List.pairwise_append.1 h.inv.inc
  rw [List.pairwise_cons] at i2
  have hvN : ∀ x ∈ v :: M, fo v ≤ fo x := fun x hx => by
    rcases Kd.1 hx with rfl | hx
    · exact Int.le_refl _
    · exact Int.le_of_lt (i2.1 x hx)
  have dj : ∀ x ∈ S0, x ∉ v :: M := fun x hx c => by
    have := i3 x hx x c
    omega
  have mem : ∀ x ∈ v :: M, x ∈ S0 ++ v :: M := fun x hx => Ko _ hx
  have edge : ∀ x ∈ v :: M, ∀ y ∈ g x, 0 ≤ pa y ∨ y ∈ v :: M := by
    intro x hx y hy
    have hfy : fo y ≠ 0 ∧ (y ∈ S0 → lo v ≤ fo y) := by
      rcases Kd.1 hx with rfl | hx2
      · exact h.dn y (hd y hy)
      · have ng : ¬ (G x ∨ x = v) := by
          rintro (c | c)
          · exact dj x (h.gs0 x c) hx
          · subst c
            have := i2.1 x hx2
            omega
        exact ⟨(h.inv.blk x (mem x hx) ng).1 y hy, (hM x hx2).2 y hy⟩
    rcases (h.inv.see y).1 hfy.1 with c | c
    · exact Or.inl c
    · rcases Kh.1 c with c | c
      · have a := hfy.2 c
        have b := i3 y c v (by simp)
        omega
      · exact Or.inr c
  have clo : ∀ x, Way g v x → 0 ≤ pa x ∨ x ∈ v :: M := fun x hw => Way.closed (P := fun x => 0 ≤ pa x ∨ x ∈ v :: M) (fun x hx y hy => by
    rcases hx with hx | hx
    · exact Or.inl (h.inv.cl x hx y hy)
    · exact edge x hx y hy) hw (Or.inr (by simp))
  have down : ∀ x ∈ v :: M, Way g v x := fun x hx => by
    rcases Kd.1 hx with rfl | hx
    · exact Way.here x
    · exact (hM x hx).1
  have up : ∀ (n : Nat) (x : Int), (fo x).toNat = n → x ∈ v :: M → Way g x v := by
    intro n
    induction n using Nat.strongRecOn with
    | _ n ih =>
      intro x hn hx
      by_cases c : x = v
      · subst c
        exact Way.here x
      · have ng : ¬ (G x ∨ x = v) := by
          rintro (q | q)
          · exact dj x (h.gs0 x q) hx
          · exact c q
        obtain ⟨_, y, h2, h3, h4⟩ := h.inv.blk x (mem x hx) ng
        have hy : y ∈ v :: M := by
          rcases clo y ((down x hx).trans h4) with q | q
          · have := h.inv.dis y h2
            omega
          · exact q
        have f1 := h.inv.fr y
        have f2 := h.inv.fr x
        exact h4.trans (ih _ (by omega) y rfl hy)
  have scc1 : ∀ x ∈ v :: M, Scc g v x := fun x hx => ⟨down x hx, up _ x rfl hx⟩
  have scc2 : ∀ x, Scc g v x → x ∈ v :: M := fun x hs => by
    rcases clo x hs.1 with q | q
    · have a : 0 ≤ pa v := Way.closed (P := fun x => 0 ≤ pa x) (fun x hx y hy => h.inv.cl x hx y hy) hs.2 q
      have b := h.inv.dis v (mem v (by simp))
      omega
    · exact q
  have m0 : 0 ≤ m := h.inv.nn m (mem m hm)
  have isl : ∀ x ∈ v :: M, IsL g x m := fun x hx => ⟨(scc1 x hx).symm.trans (scc1 m hm), fun y hy => hle y (scc2 y ((scc1 x hx).trans hy))⟩
  have pos : ∀ x, 0 ≤ pa x → 0 ≤ pa2 x := fun x hx => by
    by_cases c : x ∈ v :: M
    · rw [hp1 x c]; exact m0
    · rw [hp2 x c]; exact hx
  refine ⟨⟨h.inv.fr, fun x => ?_, fun x hx => ?_, fun x hx => h.inv.nn x (Kb _ hx), i1, h.gs0, fun x hx y hy => ?_, fun x hx => ?_, fun x hx hg => ?_⟩, h.keep, h.fv, h.vs, ⟨[], by simp, (fun x hx => by cases hx), Or.inl ⟨rfl, hl⟩⟩⟩
  · rw [h.inv.see x, Kh]
    by_cases c : x ∈ v :: M
    · rw [hp1 x c]
      exact ⟨fun _ => Or.inl m0, fun _ => Or.inr (Or.inr c)⟩
    · rw [hp2 x c]
      constructor
      · rintro (a | a | a)
        · exact Or.inl a
        · exact Or.inr a
        · exact absurd a c
      · rintro (a | a)
        · exact Or.inl a
        · exact Or.inr (Or.inl a)
  · rw [hp2 x (dj x hx)]
    exact h.inv.dis x (Kb _ hx)
  · by_cases c : x ∈ v :: M
    · rcases edge x c y hy with q | q
      · exact pos y q
      · rw [hp1 y q]; exact m0
    · rw [hp2 x c] at hx
      exact pos y (h.inv.cl x hx y hy)
  · by_cases c : x ∈ v :: M
    · rw [hp1 x c]
      exact isl x c
    · rw [hp2 x c] at hx ⊢
      exact h.inv.val x hx
  · have ng : ¬ (G x ∨ x = v) := by
      rintro (q | q)
      · exact hg q
      · subst q
        exact dj x hx (by simp)
    obtain ⟨b1, y, b2, b3, b4⟩ := h.inv.blk x (Kb _ hx) ng
    refine ⟨b1, y, ?_, b3, b4⟩
    rcases Kh.1 b2 with q | q
    · exact q
    · have := i3 x hx y q
      omega
/-- nothing is left on the stack where nothing is being visited -/
theorem TarI.empty {g : Int → List Int} {fo pa : Int → Int} {st : List Int} {vis : Int} (h : TarI g (fun _ => False) fo pa st vis) : st = [] := by
  cases st with
  | nil => rfl
  | cons a l =>
    obtain ⟨_, y, h2, h3, _⟩ := h.blk a (by simp) (fun c => c)
    have := (List.pairwise_cons.1 h.inc).1
    rcases Kd.1 h2 with rfl | h2
    · omega
    · have := this y h2
      omega
/-- a row as a function, with a value wherever the row has none -/
def vw (d : Int) (l : List Int) : Int → Int := fun x => if 0 ≤ x then l.getD x.toNat d else d
theorem Qr (d : Int) (l : List Int) {x : Int} (h : 0 ≤ x) : vw d l x = l.getD x.toNat d := if_pos h
theorem Q43 (d e : Int) (l : List Int) {x : Int} (h : 0 ≤ x ∧ x < (l.length : Int)) : vw d l x = l.getD x.toNat e := by
  have h2 : x.toNat < l.length := by omega
  rw [Qr d l h.1]
  simp [K1, h2]
theorem Q2l (d : Int) (l : List Int) {x : Int} (h : x < 0 ∨ (l.length : Int) ≤ x) : vw d l x = d := by
  unfold vw
  by_cases c : 0 ≤ x
  · rw [if_pos c, K1, K1m (by omega)]
    rfl
  · rw [if_neg c]
theorem Q10 (d : Int) (l : List Int) {k : Int} (v : Int) (h : 0 ≤ k ∧ k < (l.length : Int)) : vw d (l.set k.toNat v) = updI (vw d l) k v := by
  funext x
  by_cases c : 0 ≤ x
  · rw [Qr d _ c, K1, List.getElem?_set]
    by_cases e : x = k
    · subst e
      rw [if_pos rfl, if_pos (by omega), Q1]
      rfl
    · rw [if_neg (by omega), Q2 _ _ e, Qr d l c, K1]
  · rw [Q2l d _ (Or.inl (by omega)), Q2 _ _ (by omega), Q2l d l (Or.inl (by omega))]
theorem Qz (d v : Int) (n : Nat) {x : Int} (h : 0 ≤ x ∧ x < (n : Int)) : vw d (List.replicate n v) x = v := by
  have h2 : x.toNat < n := by omega
  rw [Qr d _ h.1]
  simp [K1, h2]
/-- a graph's arrows -/
def gOf (R : List (Bool × List Int)) : Int → List Int := fun x => if 0 ≤ x then (R.getD x.toNat (true, [])).2 else []
theorem Q3v (R : List (Bool × List Int)) {x : Int} (h : 0 ≤ x) : gOf R x = (R.getD x.toNat (true, [])).2 := if_pos h
/-- how many points are not visited yet -/
def Qs (l : List Int) : Nat := l.countP fun x => x == 0
theorem Q3b {l : List Int} {k : Int} {v : Int} (h : 0 ≤ k ∧ k < (l.length : Int)) (h0 : l.getD k.toNat 0 = 0) (hv : v ≠ 0) : Qs (l.set k.toNat v) + 1 = Qs l := by
  have h2 : k.toNat < l.length := by omega
  have e : l.getD k.toNat 0 = l[k.toNat] := by simp [K1, h2]
  rw [e] at h0
  unfold Qs
  have hp : 0 < l.countP fun x => x == 0 := List.countP_pos_iff.2 ⟨l[k.toNat], K4 h2, by rw [h0]; rfl⟩
  rw [List.countP_set h2, h0, if_pos (by rfl), if_neg (by simpa using hv)]
  omega
/-- the least of a row -/
def minL : List Int → Int
  | [] => 0
  | a :: l => l.foldl (fun m x => if x < m then x else m) a
theorem Q1m (l : List Int) : ∀ a, (l.foldl (fun m x => if x < m then x else m) a = a ∨ l.foldl (fun m x => if x < m then x else m) a ∈ l) ∧ l.foldl (fun m x => if x < m then x else m) a ≤ a ∧ ∀ y ∈ l, l.foldl (fun m x => if x < m then x else m) a ≤ y := by
  induction l with
  | nil => intro a; exact ⟨Or.inl rfl, Int.le_refl _, fun y hy => by cases hy⟩
  | cons b l ih =>
    intro a
    obtain ⟨h1, h2, h3⟩ := ih (if b < a then b else a)
    rw [K19]
    refine ⟨?_, ?_, fun y hy => ?_⟩
    · rcases h1 with h1 | h1
      · rw [h1]
        by_cases c : b < a
        · rw [if_pos c]
          exact Or.inr (by simp)
        · rw [if_neg c]
          exact Or.inl rfl
      · exact Or.inr (K8 _ h1)
    · refine Int.le_trans h2 ?_
      split <;> omega
    · rcases Kd.1 hy with rfl | hy
      · refine Int.le_trans h2 ?_
        split <;> omega
      · exact h3 y hy
theorem Q32 {l : List Int} (h : l ≠ []) : minL l ∈ l ∧ ∀ y ∈ l, minL l ≤ y := by
  cases l with
  | nil => exact absurd rfl h
  | cons a l =>
    obtain ⟨h1, h2, h3⟩ := Q1m l a
    refine ⟨?_, fun y hy => ?_⟩
    · show l.foldl (fun m x => if x < m then x else m) a ∈ a :: l
      rcases h1 with h1 | h1
      · rw [h1]
        exact Ki
      · exact K8 _ h1
    · rcases Kd.1 hy with rfl | hy
      · exact h2
      · exact h3 y hy
theorem Q4d (x : Bool × List Int) (hx : x.2.length ≤ 1048576) (d : Nat) : ∀ (i : Nat) (m : Int), i + d = x.2.length → F1n x m (i : Int) = some ((x.2.drop i).foldl (fun m x => if x < m then x else m) m) := by
  induction d with
  | zero =>
    intro i m hi
    rw [F1nE, gF (by omega), K9 (by omega)]
    rfl
  | succ d ih =>
    intro i m hi
    have hlt : i < x.2.length := by omega
    rw [F1nE, gT (by omega), gT (by omega), gT (by omega), J2 x.2 _ i hlt, up1 i (by omega), J1, ih (i + 1) _ (by omega), K3 hlt, K19]
    by_cases c : x.2[i] < m
    · rw [gT c, if_pos c]
    · rw [gF c, if_neg c]
theorem Q4c (b : Bool) (l : List Int) (h : l ≠ []) (hl : l.length ≤ 1048576) : Fm (b, l) = some (minL l) := by
  cases l with
  | nil => exact absurd rfl h
  | cons a l =>
    have e := Q4d (b, a :: l) hl l.length 1 a (by simp; omega)
    rw [FmE, gF (by simp only [Kq]; omega), gT (by simp only [Kq]; omega)]
    have e' : F1n (b, a :: l) ((a :: l).getD 0 0) 1 = _ := e
    rw [e', J0]
    rfl
/-- what holds between calls, for the rows themselves -/
structure TRow (m : Nat) (fo lo pa st : List Int) (vis : Int) : Prop where
  l1 : fo.length = m
  l2 : lo.length = m
  l3 : pa.length = m
  l4 : (st.length : Int) ≤ vis
  l5 : ∀ x ∈ st, 0 ≤ x ∧ x < (m : Int)
  l6 : vis + (Qs fo : Int) ≤ (m : Int)
theorem Q4g (m : Nat) (t0 : Bool × List (Bool × List Int)) (fo lo : Bool × List Int) (bp bs : Bool) (st : List Int) (vis : Int) (k : Nat) (k_ least : Int) (hk : k ≤ st.length) (hst : st.length ≤ 100000) (hin : ∀ x ∈ st, 0 ≤ x ∧ x < (m : Int)) (d : Nat) : ∀ (i : Nat) (pa : List Int), i + d = st.length - k → pa.length = m →
    ∃ pa2 : List Int, pa2.length = m ∧ (∀ x ∈ st.drop (k + i), vw (-1) pa2 x = least) ∧ (∀ x, x ∉ st.drop (k + i) → vw (-1) pa2 x = vw (-1) pa x) ∧
      F25 t0 fo lo (bp, pa) (bs, st) vis k_ least (k : Int) (st.length : Int) ((st.length - k : Nat) : Int) (i : Int) = some (t0, (fo, (lo, ((bp, pa2), ((bs, st), vis))))) := by
  induction d with
  | zero =>
    intro i pa hi hp
    refine ⟨pa, hp, fun x hx => ?_, fun x _ => rfl, by rw [F25E, gF (by first | omega | (simp only; omega))]⟩
    rw [K9 (by omega)] at hx
    cases hx
  | succ d ih =>
    intro i pa hi hp
    have hlt : k + i < st.length := by omega
    have hx := hin _ (K4 hlt)
    obtain ⟨pa2, h1, h2, h3, h4⟩ := ih (i + 1) (pa.set (Int.toNat st[k + i]) least) (by omega) (by rw [Ks]; exact hp)
    have e : st.getD (k + i) 0 = st[k + i] := by simp [K1, hlt]
    refine ⟨pa2, h1, fun x hx2 => ?_, fun x hx2 => ?_, ?_⟩
    · rw [K3 hlt] at hx2
      by_cases c : x ∈ st.drop (k + (i + 1))
      · exact h2 x c
      · rw [h3 x c, Q10 (-1) pa least (by omega)]
        rcases Kd.1 hx2 with rfl | hx2
        · exact Q1 _ _ _
        · exact absurd hx2 c
    · rw [K3 hlt] at hx2
      have n1 : ¬ x = st[k + i] := fun q => hx2 (by rw [q]; exact Ki)
      have n2 : x ∉ st.drop (k + (i + 1)) := fun q => hx2 (K8 _ q)
      rw [h3 x n2, Q10 (-1) pa least (by omega), Q2 _ _ n1]
    · rw [F25E, gT (by first | omega | (simp only; omega)), gT (by first | omega | (simp only; omega)), gT (by simp only [K7]; omega)]
      simp only [K7, e]
      rw [gT hx.1, gT (by first | omega | (simp only; omega)), up1 i (by omega), J1]
      exact h4
theorem Q20 {A B : List Int} {v : Int} (h : v ∉ A) : ((A ++ v :: B).any fun x => v == x) = true ∧ (A ++ v :: B).findIdx (fun x => v == x) = A.length := by
  constructor
  · rw [K11]
    exact ⟨v, by simp, by simp⟩
  · induction A with
    | nil => simp [List.findIdx_cons]
    | cons a A ih =>
      have n : ¬ v = a := fun q => h (by rw [q]; exact Ki)
      have e : (v == a) = false := by simpa using n
      rw [List.cons_append, List.findIdx_cons, e, cond_false, ih (fun q => h (K8 _ q)), Kq]
/-- one visit, with all that it calls -/
def Q2s (m : Nat) (R : List (Bool × List Int)) (nb : Bool) (N : Nat) : Prop :=
  ∀ (G : Int → Prop) (fo lo pa st : List Int) (vis v : Int) (b1 b2 b3 b4 : Bool), TRow m fo lo pa st vis → TarI (gOf R) G (vw 0 fo) (vw (-1) pa) st vis → 0 ≤ v ∧ v < (m : Int) → vw 0 fo v = 0 → Qs fo ≤ N →
    ∃ (fo2 lo2 pa2 st2 : List Int) (vis2 : Int) (c4 : Bool), F4 (nb, R) (b1, fo) (b2, lo) (b3, pa) (b4, st) vis v = some ((nb, R), ((b1, fo2), ((b2, lo2), ((b3, pa2), ((c4, st2), vis2))))) ∧
      TRow m fo2 lo2 pa2 st2 vis2 ∧ TarP (gOf R) G v st (vw 0 fo) (vw 0 lo) vis (vw 0 fo2) (vw 0 lo2) (vw (-1) pa2) st2 vis2 ∧ Qs fo2 ≤ Qs fo
theorem Q4f {m : Nat} {R : List (Bool × List Int)} (hm : m ≤ 100000) (nb : Bool) {N : Nat} (ih : Q2s m R nb N) (hin : ∀ x, ∀ y ∈ gOf R x, 0 ≤ y ∧ y < (m : Int)) {G : Int → Prop} {v : Int} {S0 : List Int} {fo0 lo0 : Int → Int} {vis0 : Int} (hv : 0 ≤ v ∧ v < (m : Int)) (hv0 : fo0 v = 0) (r : Bool × List Int) (hr : r.2 = gOf R v) (hrl : r.2.length ≤ 20000000) (b1 b2 b3 : Bool) (d : Nat) :
    ∀ (i : Nat) (fo lo pa st done : List Int) (vis : Int) (b4 : Bool), i + d = r.2.length → TRow m fo lo pa st vis → TarL (gOf R) G v S0 fo0 lo0 vis0 (vw 0 fo) (vw 0 lo) (vw (-1) pa) st vis done → (∀ y ∈ r.2.take i, y ∈ done) → Qs fo ≤ N →
      ∃ (fo2 lo2 pa2 st2 done2 : List Int) (vis2 : Int) (c4 : Bool), Ft (nb, R) (b1, fo) (b2, lo) (b3, pa) (b4, st) vis v r (r.2.length : Int) (i : Int) = some ((nb, R), ((b1, fo2), ((b2, lo2), ((b3, pa2), ((c4, st2), vis2))))) ∧
        TRow m fo2 lo2 pa2 st2 vis2 ∧ TarL (gOf R) G v S0 fo0 lo0 vis0 (vw 0 fo2) (vw 0 lo2) (vw (-1) pa2) st2 vis2 done2 ∧ (∀ y ∈ r.2, y ∈ done2) ∧ Qs fo2 ≤ Qs fo := by
  induction d with
  | zero =>
    intro i fo lo pa st done vis b4 hi hR hL hd hN
    rw [K1i (by omega)] at hd
    exact ⟨fo, lo, pa, st, done, vis, b4, by rw [FtE, gF (by first | omega | (simp only; omega))], hR, hL, hd, K12 _⟩
  | succ d ihd =>
    intro i fo lo pa st done vis b4 hi hR hL hd hN
    have hlt : i < r.2.length := by omega
    have hwg : r.2[i] ∈ gOf R v := by rw [← hr]; exact K4 hlt
    have hw := hin v _ hwg
    have hl1 := hR.l1
    have hl2 := hR.l2
    have hl3 := hR.l3
    have hnext : ∀ done2 : List Int, (∀ y ∈ done, y ∈ done2) → r.2[i] ∈ done2 → ∀ y ∈ r.2.take (i + 1), y ∈ done2 := by
      intro done2 h1 h2 y hy
      rw [K1d hlt] at hy
      rcases Kh.1 hy with hy | hy
      · exact h1 y (hd y hy)
      · rw [Kw] at hy
        rw [hy]
        exact h2
    rw [FtE, gT (by first | omega | (simp only; omega)), gT (by first | omega | (simp only; omega)), gT (by first | omega | (simp only; omega)), J2 r.2 _ i hlt, gT hw.1, gT (by first | omega | (simp only; omega)), up1 i (by omega)]
    simp only
    have ef : vw 0 fo r.2[i] = fo.getD (Int.toNat r.2[i]) 0 := Qr 0 fo hw.1
    by_cases c : vw 0 fo r.2[i] = 0
    · rw [bT (by rw [beq_iff_eq, ← ef]; exact c)]
      obtain ⟨fo2, lo2, pa2, st2, vis2, c4, e1, hR2, hP, hz⟩ := ih (fun x => G x ∨ x = v) fo lo pa st vis r.2[i] b1 b2 b3 b4 hR hL.inv hw c hN
      have hk1 := hR2.l1
      have hk2 := hR2.l2
      have e2 : vw 0 lo2 v = lo2.getD v.toNat 0 := Qr 0 lo2 hv.1
      have e3 : vw 0 lo2 r.2[i] = lo2.getD (Int.toNat r.2[i]) 0 := Qr 0 lo2 hw.1
      have hL2 := hL.call hwg c hv0 hP
      have em : (bif decide (lo2.getD (Int.toNat r.2[i]) 0 < lo2.getD v.toNat 0) then lo2.getD (Int.toNat r.2[i]) 0 else lo2.getD v.toNat 0) = min (vw 0 lo2 v) (vw 0 lo2 r.2[i]) := by
        rw [e2, e3]
        by_cases q : lo2.getD (Int.toNat r.2[i]) 0 < lo2.getD v.toNat 0
        · rw [gT q]; omega
        · rw [gF q]; omega
      rw [← Q10 0 lo2 _ (by omega)] at hL2
      obtain ⟨fo3, lo3, pa3, st3, done3, vis3, c5, g1, g2, g3, g4, g5⟩ := ihd (i + 1) fo2 _ pa2 st2 _ vis2 c4 (by omega) ⟨hR2.l1, by rw [Ks]; exact hR2.l2, hR2.l3, hR2.l4, hR2.l5, hR2.l6⟩ hL2 (hnext _ (fun y hy => K8 _ hy) Ki) (by omega)
      refine ⟨fo3, lo3, pa3, st3, done3, vis3, c5, ?_, g2, g3, g4, by omega⟩
      simp only [e1, J0, em]
      rw [gT hv.1, gT (by first | omega | (simp only; omega)), gT hw.1, gT (by first | omega | (simp only; omega)), gT hv.1, gT (by first | omega | (simp only; omega)), J1]
      exact g1
    · rw [bF (by rw [beq_eq_false_iff_ne, ← ef]; exact c), gT hw.1, gT (by first | omega | (simp only; omega))]
      have ep : vw (-1) pa r.2[i] = pa.getD (Int.toNat r.2[i]) 0 := Q43 (-1) 0 pa (by omega)
      by_cases cp : vw (-1) pa r.2[i] < 0
      · have e2 : vw 0 lo v = lo.getD v.toNat 0 := Qr 0 lo hv.1
        have hL2 := hL.seen hwg c cp hv0
        have em : (bif decide (fo.getD (Int.toNat r.2[i]) 0 < lo.getD v.toNat 0) then fo.getD (Int.toNat r.2[i]) 0 else lo.getD v.toNat 0) = min (vw 0 lo v) (vw 0 fo r.2[i]) := by
          rw [e2, ef]
          by_cases q : fo.getD (Int.toNat r.2[i]) 0 < lo.getD v.toNat 0
          · rw [gT q]; omega
          · rw [gF q]; omega
        rw [← Q10 0 lo _ (by omega)] at hL2
        obtain ⟨fo3, lo3, pa3, st3, done3, vis3, c5, g1, g2, g3, g4, g5⟩ := ihd (i + 1) fo _ pa st _ vis b4 (by omega) ⟨hR.l1, by rw [Ks]; exact hR.l2, hR.l3, hR.l4, hR.l5, hR.l6⟩ hL2 (hnext _ (fun y hy => K8 _ hy) Ki) hN
        refine ⟨fo3, lo3, pa3, st3, done3, vis3, c5, ?_, g2, g3, g4, g5⟩
        rw [gT (by rw [← ep]; exact cp), gT hv.1, gT (by first | omega | (simp only; omega)), gT hw.1, gT (by first | omega | (simp only; omega)), gT hv.1, gT (by first | omega | (simp only; omega)), J1, em]
        exact g1
      · have hL2 := hL.skip (w := r.2[i]) (by omega)
        obtain ⟨fo3, lo3, pa3, st3, done3, vis3, c5, g1, g2, g3, g4, g5⟩ := ihd (i + 1) fo lo pa st _ vis b4 (by omega) hR hL2 (hnext _ (fun y hy => K8 _ hy) Ki) hN
        refine ⟨fo3, lo3, pa3, st3, done3, vis3, c5, ?_, g2, g3, g4, g5⟩
        rw [gF (by rw [← ep]; exact cp), J1]
        exact g1
theorem Q37 {m : Nat} {R : List (Bool × List Int)} (hm : m ≤ 100000) (hlen : R.length = m) (nb : Bool) (hin : ∀ x, ∀ y ∈ gOf R x, 0 ≤ y ∧ y < (m : Int)) (hrl : ∀ x, (gOf R x).length ≤ 20000000) (N : Nat) : Q2s m R nb N := by
  have hlim := J6
  induction N with
  | zero =>
    intro G fo lo pa st vis v b1 b2 b3 b4 hR hI hv h0 hN
    exfalso
    have hl1 := hR.l1
    have h2 : v.toNat < fo.length := by omega
    have e : vw 0 fo v = fo[v.toNat] := by rw [Qr 0 fo hv.1]; simp [K1, h2]
    have hp : 0 < fo.countP fun x => x == 0 := List.countP_pos_iff.2 ⟨fo[v.toNat], K4 h2, by rw [← e, h0]; rfl⟩
    unfold Qs at hN
    omega
  | succ N ih =>
    intro G fo lo pa st vis v b1 b2 b3 b4 hR hI hv h0 hN
    have hl1 := hR.l1
    have hl2 := hR.l2
    have hl3 := hR.l3
    have hl4 := hR.l4
    have hl6 := hR.l6
    have hvr := hI.fr v
    have hz := Q3b (l := fo) (k := v) (v := vis + 1) (by omega) (by rw [← Qr 0 fo hv.1]; exact h0) (by omega)
    have hew : IntKind.i64.wrap (vis + 1) = vis + 1 := wr (by omega)
    have hL := TarL.start (lo := vw 0 lo) hI h0 hv.1
    rw [← Q10 0 fo _ (by omega), ← Q10 0 lo _ (by omega)] at hL
    have hR1 : TRow m (fo.set v.toNat (vis + 1)) (lo.set v.toNat (vis + 1)) pa (st ++ [v]) (vis + 1) := by
      refine ⟨by rw [Ks]; exact hl1, by rw [Ks]; exact hl2, hl3, by simp; omega, fun x hx => ?_, by omega⟩
      rcases Kh.1 hx with hx | hx
      · exact hR.l5 x hx
      · rw [Kw] at hx
        rw [hx]
        exact hv
    have hrow : (R.getD v.toNat (true, [])).2 = gOf R v := (Q3v R hv.1).symm
    obtain ⟨fo2, lo2, pa2, st2, done2, vis2, c4, e1, hR2, hL2, hd2, hz2⟩ := Q4f hm nb ih hin hv h0 (R.getD v.toNat (true, [])) hrow (by rw [hrow]; exact hrl v) b1 b2 b3 (R.getD v.toNat (true, [])).2.length 0 _ _ pa (st ++ [v]) [] (vis + 1) (b4 && false) (by omega) hR1 hL (by simp) (by omega)
    have e1' : Ft (nb, R) (b1, fo.set v.toNat (vis + 1)) (b2, lo.set v.toNat (vis + 1)) (b3, pa) (b4 && false, st ++ [v]) (vis + 1) v (R.getD v.toNat (true, [])) ((R.getD v.toNat (true, [])).2.length : Int) 0 = _ := e1
    have hd3 : ∀ y ∈ gOf R v, y ∈ done2 := by rw [← hrow]; exact hd2
    have hk1 := hR2.l1
    have hk2 := hR2.l2
    have hk4 := hR2.l4
    have hk6 := hR2.l6
    have ea : vw 0 lo2 v = lo2.getD v.toNat 0 := Qr 0 lo2 hv.1
    have eb : vw 0 fo2 v = fo2.getD v.toNat 0 := Qr 0 fo2 hv.1
    rw [F4E]
    simp only [hew]
    rw [gT hv.1, gT (by first | omega | (simp only; omega)), gT hv.1, gT (by first | omega | (simp only; omega)), gT (by simp; omega), gT hv.1, gT (by first | omega | (simp only; omega))]
    simp only [e1', J0]
    rw [gT hv.1, gT (by first | omega | (simp only; omega)), gT hv.1, gT (by first | omega | (simp only; omega))]
    by_cases c : vw 0 lo2 v < vw 0 fo2 v
    · rw [gT (by rw [← ea, ← eb]; exact c)]
      exact ⟨fo2, lo2, pa2, st2, vis2, c4, rfl, hR2, hL2.stay hd3 c, by omega⟩
    · rw [gF (by rw [← ea, ← eb]; exact c)]
      obtain ⟨M, est, hM⟩ := hL2.stk
      have hinc := (List.pairwise_append.1 (by rw [← est]; exact hL2.inv.inc : (st ++ v :: M).Pairwise fun a b => vw 0 fo2 a < vw 0 fo2 b)).2.2
      have hns : v ∉ st := fun q => by
        have := hinc v q v (by simp)
        omega
      obtain ⟨i1, i2⟩ := Q20 (B := M) hns
      have hsl : st2.length ≤ 100000 := by omega
      have ei := Q3i (c4, st2) v (by simp only; omega)
      simp only at ei
      rw [est, i1, i2, cond_true] at ei
      have hdrop : (st ++ v :: M).drop st.length = v :: M := by rw [List.drop_left]
      have htake : (st ++ v :: M).take st.length = st := by rw [List.take_left]
      have hne : v :: M ≠ [] := by simp
      obtain ⟨m1, m2⟩ := Q32 hne
      have hlenst : (st ++ v :: M).length = st2.length := by rw [est]
      have hmin := Q4c c4 (v :: M) hne (by rw [← hdrop, List.length_drop]; omega)
      obtain ⟨pa3, p1, p2, p3, p4⟩ := Q4g m (nb, R) (b1, fo2) (b2, lo2) b3 c4 (st ++ v :: M) vis2 st.length (st.length : Int) (minL (v :: M)) (by simp) (by omega) (by rw [← est]; exact hR2.l5) ((st ++ v :: M).length - st.length) 0 pa2 (by omega) hR2.l3
      rw [K25, hdrop] at p2 p3
      have p4' : F25 (nb, R) (b1, fo2) (b2, lo2) (b3, pa2) (c4, st ++ v :: M) vis2 (st.length : Int) (minL (v :: M)) (st.length : Int) ((st ++ v :: M).length : Int) (((st ++ v :: M).length - st.length : Nat) : Int) 0 = _ := p4
      subst est
      have hP := hL2.pop hd3 (by omega) m1 m2 p2 p3
      simp only [ei, J0, K7, List.take_length, hdrop, hmin, p4', htake, Kg]
      have hle : (st.length : Int) ≤ ((st ++ v :: M).length : Int) := by rw [Kj]; omega
      have h00 : (0 : Int) ≤ (st.length : Int) := by omega
      rw [gT h00, gT hle, gT h00, gT hle, gT h00, gT hle]
      refine ⟨fo2, lo2, pa3, st, vis2, c4, rfl, ⟨hk1, hk2, p1, ?_, hR.l5, hk6⟩, hP, by omega⟩
      simp only [Kj, Kq] at hk4
      omega
theorem Q1u {m : Nat} {R : List (Bool × List Int)} (hm : m ≤ 100000) (hlen : R.length = m) (nb : Bool) (hin : ∀ x, ∀ y ∈ gOf R x, 0 ≤ y ∧ y < (m : Int)) (hrl : ∀ x, (gOf R x).length ≤ 20000000) (b1 b2 b3 : Bool) (d : Nat) : ∀ (i : Nat) (fo lo pa : List Int) (vis : Int) (b4 : Bool), i + d = m → TRow m fo lo pa [] vis → TarI (gOf R) (fun _ => False) (vw 0 fo) (vw (-1) pa) [] vis → (∀ x, 0 ≤ x ∧ x < (i : Int) → vw 0 fo x ≠ 0) →
    ∃ (fo2 lo2 pa2 : List Int) (vis2 : Int) (c4 : Bool), F1b (nb, R) (b1, fo) (b2, lo) (b3, pa) (b4, []) vis (m : Int) (i : Int) = some ((nb, R), ((b1, fo2), ((b2, lo2), ((b3, pa2), ((c4, []), vis2))))) ∧ pa2.length = m ∧ ∀ x, 0 ≤ x ∧ x < (m : Int) → IsL (gOf R) x (vw (-1) pa2 x) := by
  induction d with
  | zero =>
    intro i fo lo pa vis b4 hi hR hI hs
    obtain rfl : i = m := by omega
    refine ⟨fo, lo, pa, vis, b4, by rw [F1bE, gF (by first | omega | (simp only; omega))], hR.l3, fun x hx => ?_⟩
    rcases (hI.see x).1 (hs x hx) with q | q
    · exact hI.val x q
    · cases q
  | succ d ih =>
    intro i fo lo pa vis b4 hi hR hI hs
    have hl1 := hR.l1
    have ef : vw 0 fo (i : Int) = fo.getD i 0 := Qr 0 fo (by omega)
    rw [F1bE, gT (by first | omega | (simp only; omega)), gT (by first | omega | (simp only; omega)), gT (by simp only; omega), K7, up1 i (by omega)]
    simp only
    by_cases c : vw 0 fo (i : Int) = 0
    · rw [bT (by rw [beq_iff_eq, ← ef]; exact c)]
      obtain ⟨fo2, lo2, pa2, st2, vis2, c4, e1, hR2, hP, hz⟩ := Q37 hm hlen nb hin hrl (Qs fo) (fun _ => False) fo lo pa [] vis (i : Int) b1 b2 b3 b4 hR hI (by omega) c (K12 _)
      have hst := hP.inv.empty
      subst hst
      obtain ⟨fo3, lo3, pa3, vis3, c5, g1, g2, g3⟩ := ih (i + 1) fo2 lo2 pa2 vis2 c4 (by omega) hR2 hP.inv (fun x hx => by
        by_cases q : x = (i : Int)
        · rw [q]
          have := hP.fv
          have := hI.fr (i : Int)
          omega
        · rw [(hP.keep x (hs x (by omega))).1]
          exact hs x (by omega))
      refine ⟨fo3, lo3, pa3, vis3, c5, ?_, g2, g3⟩
      simp only [e1, J0]
      rw [J1]
      exact g1
    · rw [bF (by rw [beq_eq_false_iff_ne, ← ef]; exact c), J1]
      exact ih (i + 1) fo lo pa vis b4 (by omega) hR hI (fun x hx => by
        by_cases q : x = (i : Int)
        · rw [q]; exact c
        · exact hs x (by omega))
theorem Q2v (m : Nat) (a : Int) : (List.replicate m [a]).flatten = List.replicate m a := by
  induction m with
  | zero => rfl
  | succ m ih => rw [List.replicate_succ, List.replicate_succ, List.flatten_cons, ih]; rfl
theorem Q15 (m : Nat) : Qs (List.replicate m 0) = m := by
  unfold Qs
  rw [List.countP_replicate]
  rfl
theorem Q36 {m : Nat} {R : List (Bool × List Int)} (h1 : 1 ≤ m) (hm : m ≤ 10000) (hlen : R.length = m) (nb : Bool) (hin : ∀ x, ∀ y ∈ gOf R x, 0 ≤ y ∧ y < (m : Int)) (hrl : ∀ x, (gOf R x).length ≤ 20000000) :
    ∃ b P, Ff (nb, R) = some (b, P) ∧ P.length = m ∧ ∀ x, 0 ≤ x ∧ x < (m : Int) → IsL (gOf R) x (vw (-1) P x) := by
  have hlim := J6
  have hf : ∀ x, vw 0 (List.replicate m 0) x = 0 := fun x => by
    by_cases c : 0 ≤ x ∧ x < (m : Int)
    · exact Qz 0 0 m c
    · exact Q2l 0 _ (by rw [K23]; omega)
  have hp : ∀ x, vw (-1) (List.replicate m (-1)) x = -1 := fun x => by
    by_cases c : 0 ≤ x ∧ x < (m : Int)
    · exact Qz (-1) (-1) m c
    · exact Q2l (-1) _ (by rw [K23]; omega)
  have hR : TRow m (List.replicate m 0) (List.replicate m 0) (List.replicate m (-1)) [] 0 := ⟨by simp, by simp, by simp, by simp, fun x hx => (by cases hx), by rw [Q15]; omega⟩
  have hI : TarI (gOf R) (fun _ => False) (vw 0 (List.replicate m 0)) (vw (-1) (List.replicate m (-1))) [] 0 := by
    refine ⟨fun x => ?_, fun x => ?_, fun x hx => (by cases hx), fun x hx => (by cases hx), List.Pairwise.nil, fun x hx => hx.elim, fun x hx => ?_, fun x hx => ?_, fun x hx => (by cases hx)⟩
    · rw [hf]; omega
    · rw [hf, hp]
      constructor
      · intro q; exact absurd rfl q
      · rintro (q | q)
        · omega
        · cases q
    · rw [hp] at hx; omega
    · rw [hp] at hx; omega
  obtain ⟨fo2, lo2, pa2, vis2, c4, e1, e2, e3⟩ := Q1u (by omega) hlen nb hin hrl false false false m 0 _ _ _ 0 true (by omega) hR hI (fun x hx => by omega)
  have e1' : F1b (nb, R) (false, List.replicate m 0) (false, List.replicate m 0) (false, List.replicate m (-1)) (true, []) 0 (m : Int) 0 = _ := e1
  have er := Q1a (false, [-1]) m (by simp) (by simp) h1 hm
  simp only [Q2v] at er
  refine ⟨false, pa2, ?_, e2, e3⟩
  rw [FfE]
  simp only [hlen, K7, er, J0, e1']
  rw [gT (by omega), gT (by omega), gT (by omega), gT (by omega), gT (by omega), gT (by omega), gT (by omega), gT (by omega)]
/-! walks in depth -/
def sB (S : List Bool) : Int → Prop := fun x => 0 ≤ x ∧ S.getD x.toNat false = true
theorem Q35 (S : List Bool) {k : Int} (h : 0 ≤ k ∧ k < (S.length : Int)) : sB (S.set k.toNat true) = fun x => sB S x ∨ x = k := by
  funext x
  apply propext
  unfold sB
  constructor
  · rintro ⟨h1, h2⟩
    by_cases e : x = k
    · exact Or.inr e
    · refine Or.inl ⟨h1, ?_⟩
      rw [K1, List.getElem?_set_ne (by omega), ← K1] at h2
      exact h2
  · rintro (⟨h1, h2⟩ | rfl)
    · refine ⟨h1, ?_⟩
      by_cases e : x = k
      · subst e
        rw [K1, List.getElem?_set_self (by omega)]
        rfl
      · rw [K1, List.getElem?_set_ne (by omega), ← K1]
        exact h2
    · refine ⟨h.1, ?_⟩
      rw [K1, List.getElem?_set_self (by omega)]
      rfl
def Q4 (S : List Bool) : Nat := S.countP fun x => !x
theorem Q16 {S : List Bool} {k : Int} (h : 0 ≤ k ∧ k < (S.length : Int)) (h0 : S.getD k.toNat false = false) : Q4 (S.set k.toNat true) + 1 = Q4 S := by
  have h2 : k.toNat < S.length := by omega
  have e : S.getD k.toNat false = S[k.toNat] := by simp [K1, h2]
  rw [e] at h0
  unfold Q4
  have hp : 0 < S.countP fun x => !x := List.countP_pos_iff.2 ⟨S[k.toNat], K4 h2, by rw [h0]; rfl⟩
  rw [List.countP_set h2, h0, if_pos (by rfl), if_neg (by simp)]
  omega
/-- what a walk keeps -/
structure WalkI (g : Int → List Int) (Al : Int → Prop) (I : (Int → Prop) → (Int → Prop) → List Int → Prop) : Prop where
  al : ∀ x, Al x → ∀ y ∈ g x, Al y
  sub : ∀ G s o x, I G s o → G x → s x
  enter : ∀ G s o k, I G s o → ¬ s k → Al k → I (fun x => G x ∨ x = k) (fun x => s x ∨ x = k) o
  leave : ∀ G s o k, I (fun x => G x ∨ x = k) s o → ¬ G k → (∀ y ∈ g k, s y) → (∀ x, G x → Way g x k) → I G s (o ++ [k])
def Q3u (m : Nat) (R : List (Bool × List Int)) (nb : Bool) (Al : Int → Prop) (I : (Int → Prop) → (Int → Prop) → List Int → Prop) (N : Nat) : Prop :=
  ∀ (G : Int → Prop) (S : List Bool) (O : List Int) (k : Int) (bs bo : Bool), S.length = m → I G (sB S) O → 0 ≤ k ∧ k < (m : Int) → Al k → (∀ x, G x → Way (gOf R) x k) → Q4 S ≤ N → O.length + Q4 S ≤ 1000000 →
    ∃ S2 O2 bo2, Fd (nb, R) (bs, S) (bo, O) k = some ((nb, R), ((bs, S2), (bo2, O2))) ∧ S2.length = m ∧ I G (sB S2) O2 ∧ sB S2 k ∧ (∀ x, sB S x → sB S2 x) ∧ Q4 S2 ≤ Q4 S ∧ O2.length + Q4 S2 ≤ O.length + Q4 S
theorem Q44 {m : Nat} {R : List (Bool × List Int)} (nb : Bool) {Al : Int → Prop} {I : (Int → Prop) → (Int → Prop) → List Int → Prop} {N : Nat} (ih : Q3u m R nb Al I N) (hin : ∀ x, ∀ y ∈ gOf R x, 0 ≤ y ∧ y < (m : Int)) (W : WalkI (gOf R) Al I) {G : Int → Prop} {k : Int} (hk : Al k) (hG : ∀ x, G x ∨ x = k → Way (gOf R) x k) (r : Bool × List Int) (hr : r.2 = gOf R k) (hrl : r.2.length ≤ 20000000) (bs : Bool) (d : Nat) :
    ∀ (i : Nat) (S : List Bool) (O : List Int) (bo : Bool), i + d = r.2.length → S.length = m → I (fun x => G x ∨ x = k) (sB S) O → (∀ y ∈ r.2.take i, sB S y) → Q4 S ≤ N → O.length + Q4 S ≤ 1000000 →
      ∃ S2 O2 bo2, F1i (nb, R) (bs, S) (bo, O) k r (r.2.length : Int) (i : Int) = some ((nb, R), ((bs, S2), (bo2, O2))) ∧ S2.length = m ∧ I (fun x => G x ∨ x = k) (sB S2) O2 ∧ (∀ y ∈ r.2, sB S2 y) ∧ (∀ x, sB S x → sB S2 x) ∧ Q4 S2 ≤ Q4 S ∧ O2.length + Q4 S2 ≤ O.length + Q4 S := by
  induction d with
  | zero =>
    intro i S O bo hi hS hI hd hN hO
    rw [K1i (by omega)] at hd
    exact ⟨S, O, bo, by rw [F1iE, gF (by omega)], hS, hI, hd, fun x h => h, K12 _, K12 _⟩
  | succ d ihd =>
    intro i S O bo hi hS hI hd hN hO
    have hlt : i < r.2.length := by omega
    have hwg : r.2[i] ∈ gOf R k := by rw [← hr]; exact K4 hlt
    obtain ⟨S2, O2, bo2, e1, e2, e3, e4, e5, e6, e7⟩ := ih (fun x => G x ∨ x = k) S O r.2[i] bs bo hS hI (hin k _ hwg) (W.al k hk _ hwg) (fun x hx => (hG x hx).snoc hwg) hN hO
    obtain ⟨S3, O3, bo3, g1, g2, g3, g4, g5, g6, g7⟩ := ihd (i + 1) S2 O2 bo2 (by omega) e2 e3 (fun y hy => by
      rw [K1d hlt] at hy
      rcases Kh.1 hy with hy | hy
      · exact e5 y (hd y hy)
      · rw [Kw] at hy
        rw [hy]
        exact e4) (by omega) (by omega)
    refine ⟨S3, O3, bo3, ?_, g2, g3, g4, fun x hx => g5 x (e5 x hx), by omega, by omega⟩
    rw [F1iE, gT (by omega), gT (by omega), gT (by omega), J2 r.2 _ i hlt, up1 i (by omega)]
    simp only [e1, J0]
    rw [J1]
    exact g1
theorem Q3a {m : Nat} {R : List (Bool × List Int)} (hlen : R.length = m) (nb : Bool) {Al : Int → Prop} {I : (Int → Prop) → (Int → Prop) → List Int → Prop} (hin : ∀ x, ∀ y ∈ gOf R x, 0 ≤ y ∧ y < (m : Int)) (hrl : ∀ x, (gOf R x).length ≤ 20000000) (W : WalkI (gOf R) Al I) (N : Nat) : Q3u m R nb Al I N := by
  have hlim := J6
  have seen : ∀ (N : Nat) (G : Int → Prop) (S : List Bool) (O : List Int) (k : Int) (bs bo : Bool), S.length = m → I G (sB S) O → 0 ≤ k ∧ k < (m : Int) → S.getD k.toNat false = true →
      ∃ S2 O2 bo2, Fd (nb, R) (bs, S) (bo, O) k = some ((nb, R), ((bs, S2), (bo2, O2))) ∧ S2.length = m ∧ I G (sB S2) O2 ∧ sB S2 k ∧ (∀ x, sB S x → sB S2 x) ∧ Q4 S2 ≤ Q4 S ∧ O2.length + Q4 S2 ≤ O.length + Q4 S := by
    intro N G S O k bs bo hS hI hk h
    refine ⟨S, O, bo, ?_, hS, hI, ⟨hk.1, h⟩, fun x h => h, K12 _, K12 _⟩
    rw [FdE, gT hk.1, gT (by simp only; omega), bT h]
  induction N with
  | zero =>
    intro G S O k bs bo hS hI hk hal hG hN hO
    cases h : S.getD k.toNat false with
    | true => exact seen 0 G S O k bs bo hS hI hk h
    | false =>
      have := Q16 (k := k) (by omega) h
      omega
  | succ N ih =>
    intro G S O k bs bo hS hI hk hal hG hN hO
    cases h : S.getD k.toNat false with
    | true => exact seen 0 G S O k bs bo hS hI hk h
    | false =>
      have hf := Q16 (S := S) (k := k) (by omega) h
      have hns : ¬ sB S k := fun q => by
        have := q.2
        rw [h] at this
        cases this
      have hng : ¬ G k := fun q => hns (W.sub _ _ _ _ hI q)
      have hI2 := W.enter G (sB S) O k hI hns hal
      rw [← Q35 S (by omega)] at hI2
      have hrow : (R.getD k.toNat (true, [])).2 = gOf R k := (Q3v R hk.1).symm
      obtain ⟨S2, O2, bo2, e1, e2, e3, e4, e5, e6, e7⟩ := Q44 nb ih hin W hal (G := G) (fun x hx => by
        rcases hx with hx | hx
        · exact hG x hx
        · rw [hx]; exact Way.here k) (R.getD k.toNat (true, [])) hrow (by rw [hrow]; exact hrl k) bs (R.getD k.toNat (true, [])).2.length 0 (S.set k.toNat true) O bo (by omega) (by rw [Ks]; exact hS) hI2 (by simp) (by omega) (by omega)
      have e1' : F1i (nb, R) (bs, S.set k.toNat true) (bo, O) k (R.getD k.toNat (true, [])) ((R.getD k.toNat (true, [])).2.length : Int) 0 = _ := e1
      have hk1 : sB (S.set k.toNat true) k := by rw [Q35 S (by omega)]; exact Or.inr rfl
      refine ⟨S2, O2 ++ [k], bo2 && false, ?_, e2, W.leave G (sB S2) O2 k e3 hng (fun y hy => e4 y (by rw [hrow]; exact hy)) hG, e5 k hk1, fun x hx => e5 x (by rw [Q35 S (by omega)]; exact Or.inl hx), by omega, by simp; omega⟩
      rw [FdE, gT hk.1, gT (by simp only; omega), bF h, gT hk.1, gT (by simp only; omega), gT hk.1, gT (by simp only; omega)]
      simp only [e1', J0]
      rw [gT (by simp; omega)]
theorem Q11 (m : Nat) : Q4 (List.replicate m false) = m := by
  unfold Q4
  rw [List.countP_replicate]
  rfl
theorem Q28 (m : Nat) (x : Int) : ¬ sB (List.replicate m false) x := by
  rintro ⟨h1, h2⟩
  rw [K1, List.getElem?_replicate] at h2
  split at h2 <;> cases h2
/-- the first walk, over all points -/
theorem Q48 {m : Nat} {R : List (Bool × List Int)} (hm : m ≤ 10000) (hlen : R.length = m) (nb : Bool) (hin : ∀ x, ∀ y ∈ gOf R x, 0 ≤ y ∧ y < (m : Int)) (hrl : ∀ x, (gOf R x).length ≤ 20000000) (nx : Bool × List (Bool × List Int)) (bs : Bool) (d : Nat) :
    ∀ (i : Nat) (S : List Bool) (O : List Int) (bo : Bool), i + d = m → S.length = m → FinI (gOf R) (fun _ => False) (sB S) O → (∀ x, 0 ≤ x ∧ x < (i : Int) → sB S x) → O.length + Q4 S ≤ m →
      ∃ S2 O2 bo2, F1s nx (nb, R) (bs, S) (bo, O) (m : Int) (i : Int) = some ((nb, R), ((bs, S2), (bo2, O2))) ∧ FinI (gOf R) (fun _ => False) (sB S2) O2 ∧ (∀ x, 0 ≤ x ∧ x < (m : Int) → x ∈ O2) ∧ O2.length ≤ m ∧ S2.length = m := by
  have W : WalkI (gOf R) (fun _ => True) (FinI (gOf R)) := ⟨fun _ _ _ _ => trivial, fun G s o x h hx => (h.see x).2 (Or.inr hx), fun G s o k h hk _ => h.enter hk, fun G s o k h h1 h2 h3 => h.leave h1 h2 h3⟩
  induction d with
  | zero =>
    intro i S O bo hi hS hI hs hO
    obtain rfl : i = m := by omega
    refine ⟨S, O, bo, by rw [F1sE, gF (by omega)], hI, fun x hx => ?_, by omega, hS⟩
    rcases (hI.see x).1 (hs x hx) with q | q
    · exact q
    · exact q.elim
  | succ d ih =>
    intro i S O bo hi hS hI hs hO
    obtain ⟨S2, O2, bo2, e1, e2, e3, e4, e5, e6, e7⟩ := Q3a hlen nb hin hrl W (Q4 S) (fun _ => False) S O (i : Int) bs bo hS hI (by omega) trivial (fun x hx => hx.elim) (K12 _) (by omega)
    obtain ⟨S3, O3, bo3, g1, g2, g3, g4, g5⟩ := ih (i + 1) S2 O2 bo2 (by omega) e2 e3 (fun x hx => by
      by_cases q : x = (i : Int)
      · rw [q]; exact e4
      · exact e5 x (hs x (by omega))) (by omega)
    refine ⟨S3, O3, bo3, ?_, g2, g3, g4, g5⟩
    rw [F1sE, gT (by omega), up1 i (by omega)]
    simp only [e1, J0]
    rw [J1]
    exact g1
theorem Q3n (nx : Bool × List (Bool × List Int)) (w b : Dl11Walk) (out : Bool × List Int) (i : Int) (t : Bool × List Int) (ht : t.2.length ≤ 1048576) (d : Nat) : ∀ (j : Nat) (m : Int), j + d = t.2.length →
    F12 nx w b out i m t (t.2.length : Int) (j : Int) = some ((t.2.drop j).foldl (fun m x => if x < m then x else m) m) := by
  induction d with
  | zero =>
    intro j m hj
    rw [F12E, gF (by omega), K9 (by omega)]
    rfl
  | succ d ih =>
    intro j m hj
    have hlt : j < t.2.length := by omega
    rw [F12E, gT (by omega), gT (by omega), gT (by omega), J2 t.2 _ j hlt, up1 j (by omega), K3 hlt, K19]
    by_cases c : t.2[j] < m
    · rw [gT c, if_pos c, J1, ih (j + 1) _ (by omega)]
    · rw [gF c, if_neg c, J1, ih (j + 1) _ (by omega)]
theorem Q4e (nx : Bool × List (Bool × List Int)) (w b : Dl11Walk) (i least : Int) (bo : Bool) (m : Nat) (t : Bool × List Int) (ht : t.2.length ≤ 1048576) (hin : ∀ x ∈ t.2, 0 ≤ x ∧ x < (m : Int)) (d : Nat) : ∀ (j : Nat) (out : List Int), j + d = t.2.length → out.length = m →
    ∃ out2 : List Int, out2.length = m ∧ (∀ x ∈ t.2.drop j, vw 0 out2 x = least) ∧ (∀ x, x ∉ t.2.drop j → vw 0 out2 x = vw 0 out x) ∧ F1y nx w b (bo, out) i least t (t.2.length : Int) (j : Int) = some (bo, out2) := by
  induction d with
  | zero =>
    intro j out hj ho
    refine ⟨out, ho, fun x hx => ?_, fun x _ => rfl, by rw [F1yE, gF (by omega)]⟩
    rw [K9 (by omega)] at hx
    cases hx
  | succ d ih =>
    intro j out hj ho
    have hlt : j < t.2.length := by omega
    have hx := hin _ (K4 hlt)
    obtain ⟨out2, h1, h2, h3, h4⟩ := ih (j + 1) (out.set (Int.toNat t.2[j]) least) (by omega) (by rw [Ks]; exact ho)
    refine ⟨out2, h1, fun x hx2 => ?_, fun x hx2 => ?_, ?_⟩
    · rw [K3 hlt] at hx2
      by_cases c : x ∈ t.2.drop (j + 1)
      · exact h2 x c
      · rw [h3 x c, Q10 0 out least (by omega)]
        rcases Kd.1 hx2 with rfl | hx2
        · exact Q1 _ _ _
        · exact absurd hx2 c
    · rw [K3 hlt] at hx2
      have n1 : ¬ x = t.2[j] := fun q => hx2 (by rw [q]; exact Ki)
      have n2 : x ∉ t.2.drop (j + 1) := fun q => hx2 (K8 _ q)
      rw [h3 x n2, Q10 0 out least (by omega), Q2 _ _ n1]
    · rw [F1yE, gT (by omega), gT (by omega), gT (by omega), J2 t.2 _ j hlt, gT hx.1, gT (by simp only; omega), up1 j (by omega), J1]
      exact h4
/-- the second walk: the J6k, from the last point on -/
theorem Q49 {m : Nat} {R RT : List (Bool × List Int)} (hm : m ≤ 10000) (hlen : R.length = m) (hlenT : RT.length = m) (nbT : Bool) (hin : ∀ x, ∀ y ∈ gOf R x, 0 ≤ y ∧ y < (m : Int)) (hinT : ∀ x, ∀ y ∈ gOf RT x, 0 ≤ y ∧ y < (m : Int)) (hrlT : ∀ x, (gOf RT x).length ≤ 20000000) (hr : ∀ x y, 0 ≤ x ∧ x < (m : Int) → (y ∈ gOf RT x ↔ x ∈ gOf R y)) (nb : Bool)
    (w0 : Bool × List (Bool × List Int)) (w1 : Bool × List Bool) (bO : Bool) (O : List Int) {S0 : List Bool} (hF : FinI (gOf R) (fun _ => False) (sB S0) O) (hall : ∀ x, 0 ≤ x ∧ x < (m : Int) → x ∈ O) (hO : ∀ x ∈ O, 0 ≤ x ∧ x < (m : Int)) (hOl : O.length ≤ m) (bs bo : Bool) (n : Nat) :
    ∀ (S : List Bool) (out q : List Int) (bq : Bool), n ≤ O.length → S.length = m → out.length = m → (∀ x, 0 ≤ x ∧ x < (m : Int) → (sB S x ↔ ∃ b ∈ O.drop n, Scc (gOf R) x b)) → (∀ x, 0 ≤ x ∧ x < (m : Int) → sB S x → IsL (gOf R) x (vw 0 out x)) →
      ∃ (P : List Int) (z : Dl11Walk), F1w (nb, R) (w0, (w1, (bO, O))) (nbT, RT) (bs, S) (bq, q) (bo, out) ((n : Int) - 1) = some ((bo, P), z) ∧ P.length = m ∧ ∀ x, 0 ≤ x ∧ x < (m : Int) → IsL (gOf R) x (vw 0 P x) := by
  have hlim := J6
  have okc : ∀ x, (0 ≤ x ∧ x < (m : Int)) → ∀ y ∈ gOf R x, 0 ≤ y ∧ y < (m : Int) := fun x _ => hin x
  have okr : ∀ x, (0 ≤ x ∧ x < (m : Int)) → ∀ y ∈ gOf RT x, 0 ≤ y ∧ y < (m : Int) := fun x _ => hinT x
  induction n with
  | zero =>
    intro S out q bq hn hS hout hs hv
    refine ⟨out, ((nbT, RT), ((bs, S), (bq, q))), by rw [F1wE, gF (by omega)], hout, fun x hx => hv x hx ?_⟩
    rw [hs x hx, Kg]
    exact ⟨x, hall x hx, Scc.refl _ _⟩
  | succ n ih =>
    intro S out q bq hn hS hout hs hv
    have hlt : n < O.length := by omega
    have hz := hO _ (K4 hlt)
    have ho : O = O.take n ++ O[n] :: O.drop (n + 1) := by rw [← K3 hlt, List.take_append_drop]
    have ek : ((n + 1 : Nat) : Int) - 1 = (n : Int) := by omega
    by_cases c : sB S O[n]
    · have e1 : Fd (nbT, RT) (bs, S) (true, []) O[n] = some ((nbT, RT), ((bs, S), (true, []))) := by
        rw [FdE, gT hz.1, gT (by simp only; omega), bT c.2]
      have e4 : F12 (nb, R) (w0, (w1, (bO, O))) ((nbT, RT), ((bs, S), (true, []))) (bo, out) (n : Int) (m : Int) (true, []) (([] : List Int).length : Int) 0 = some (m : Int) := by
        rw [F12E, gF (by simp)]
      have e6 : F1y (nb, R) (w0, (w1, (bO, O))) ((nbT, RT), ((bs, S), (true, []))) (bo, out) (n : Int) (m : Int) (true, []) (([] : List Int).length : Int) 0 = some (bo, out) := by
        rw [F1yE, gF (by simp)]
      obtain ⟨b, hb1, hb2⟩ := (hs _ hz).1 c
      obtain ⟨P, z, g1, g2, g3⟩ := ih S out [] true (by omega) hS hout (fun x hx => by
        rw [K3 hlt, hs x hx]
        constructor
        · rintro ⟨b2, q1, q2⟩
          exact ⟨b2, K8 _ q1, q2⟩
        · rintro ⟨b2, q1, q2⟩
          rcases Kd.1 q1 with rfl | q1
          · exact ⟨b, hb1, q2.trans hb2⟩
          · exact ⟨b2, q1, q2⟩) hv
      refine ⟨P, z, ?_, g2, g3⟩
      rw [F1wE, ek, gT (by omega), gT (by omega), gT (by simp only; omega)]
      simp only [K7, Qt hlt, e1, J0, hlen, e4, e6]
      rw [wr (by omega), J1]
      exact g1
    have W : WalkI (gOf RT) (fun x => Way (gOf RT) O[n] x) (ColI (gOf RT) O[n] (sB S)) := ⟨fun x h y hy => h.snoc hy, fun G s o x h hx => (h.see x).2 (Or.inr (Or.inr hx)), fun G s o k h hk ha => h.enter hk ha, fun G s o k h _ h2 _ => h.leave h2⟩
    have hC0 : ColI (gOf RT) O[n] (sB S) (fun _ => False) (sB S) [] := ⟨fun x => ⟨fun h => Or.inl h, fun h => h.elim id (fun h => h.elim (fun h => by cases h) (fun h => h.elim))⟩, fun x h => h.elim (fun h => by cases h) (fun h => h.elim), fun x hx => by cases hx⟩
    have hfl : Q4 S ≤ m := by rw [← hS]; exact List.countP_le_length
    obtain ⟨S2, Q, bQ, e1, e2, e3, e4, e5, e6, e7⟩ := Q3a hlenT nbT hinT hrlT W (Q4 S) (fun _ => False) S [] O[n] bs true hS hC0 hz (Way.here _) (fun x hx => hx.elim) (K12 _) (by simp; omega)
    have hQin : ∀ x ∈ Q, 0 ≤ x ∧ x < (m : Int) := fun x hx => Way.closed okr (e3.new x (Or.inl hx)).2 hz
    have hQl : Q.length ≤ 1048576 := by
      simp only [List.length_nil, K1g] at e7
      omega
    have hlast := Q3n (nb, R) (w0, (w1, (bO, O))) ((nbT, RT), ((bs, S2), (bQ, Q))) (bo, out) (n : Int) (bQ, Q) hQl Q.length 0 (m : Int) (by simp)
    obtain ⟨out2, p1, p2, p3, p4⟩ := Q4e (nb, R) (w0, (w1, (bO, O))) ((nbT, RT), ((bs, S2), (bQ, Q))) (n : Int) (Q.foldl (fun m x => if x < m then x else m) (m : Int)) bo m (bQ, Q) hQl hQin Q.length 0 out (by simp) hout
    rw [Kg] at hlast p2 p3
    have hlast' : F12 (nb, R) (w0, (w1, (bO, O))) ((nbT, RT), ((bs, S2), (bQ, Q))) (bo, out) (n : Int) (m : Int) (bQ, Q) (Q.length : Int) 0 = _ := hlast
    have p4' : F1y (nb, R) (w0, (w1, (bO, O))) ((nbT, RT), ((bs, S2), (bQ, Q))) (bo, out) (n : Int) (Q.foldl (fun m x => if x < m then x else m) (m : Int)) (bQ, Q) (Q.length : Int) 0 = _ := p4
    have hzq : O[n] ∈ Q := by
      rcases (e3.see O[n]).1 e4 with k | k | k
      · exact absurd k c
      · exact k
      · exact k.elim
    have hscc : ∀ x, 0 ≤ x ∧ x < (m : Int) → (x ∈ Q ↔ Scc (gOf R) O[n] x) := fun x hx => Q3y hF hall okc okr (fun x y hx => hr x y hx) ho hz (fun x hx => hs x hx) e3 c hzq x hx
    have hs2 : ∀ x, 0 ≤ x ∧ x < (m : Int) → (sB S2 x ↔ ∃ b ∈ O.drop n, Scc (gOf R) x b) := by
      intro x hx
      rw [K3 hlt]
      constructor
      · intro h
        rcases (e3.see x).1 h with k | k | k
        · obtain ⟨b2, q1, q2⟩ := (hs x hx).1 k
          exact ⟨b2, K8 _ q1, q2⟩
        · exact ⟨O[n], Ki, ((hscc x hx).1 k).symm⟩
        · exact k.elim
      · rintro ⟨b2, q1, q2⟩
        rcases Kd.1 q1 with rfl | q1
        · exact (e3.see x).2 (Or.inr (Or.inl ((hscc x hx).2 q2.symm)))
        · exact e5 x ((hs x hx).2 ⟨b2, q1, q2⟩)
    obtain ⟨f1, f2, f3⟩ := Q1m Q (m : Int)
    have hleast : Q.foldl (fun m x => if x < m then x else m) (m : Int) ∈ Q := by
      rcases f1 with k | k
      · have := f3 _ hzq
        omega
      · exact k
    have hv2 : ∀ x, 0 ≤ x ∧ x < (m : Int) → sB S2 x → IsL (gOf R) x (vw 0 out2 x) := by
      intro x hx h
      by_cases k : x ∈ Q
      · rw [p2 x k]
        refine ⟨((hscc x hx).1 k).symm.trans ((hscc _ (hQin _ hleast)).1 hleast), fun y hy => f3 y ?_⟩
        exact (hscc y (Way.closed okc hy.1 hx)).2 (((hscc x hx).1 k).trans hy)
      · rw [p3 x k]
        rcases (e3.see x).1 h with k2 | k2 | k2
        · exact hv x hx k2
        · exact absurd k2 k
        · exact k2.elim
    obtain ⟨P, z, g1, g2, g3⟩ := ih S2 out2 Q bQ (by omega) e2 p1 hs2 hv2
    refine ⟨P, z, ?_, g2, g3⟩
    rw [F1wE, ek, gT (by omega), gT (by omega), gT (by simp only; omega)]
    simp only [K7, Qt hlt, e1, J0, hlen, hlast', p4']
    rw [wr (by omega), J1]
    exact g1
theorem Q7 {R : List (Bool × List Int)} {G : List (List Int)} (h : R.map Prod.snd = G) (x : Int) : gOf R x = if 0 ≤ x then G.getD x.toNat [] else [] := by
  unfold gOf
  subst h
  by_cases c : 0 ≤ x
  · rw [if_pos c, if_pos c]
    by_cases q : x.toNat < R.length
    · simp [K1, q]
    · simp [K1, K1m (Nat.le_of_not_lt q)]
  · rw [if_neg c, if_neg c]
theorem Qw {G : List (List Int)} {k : Nat} {y : Int} (h : y ∈ G.getD k []) : ∃ l ∈ G, y ∈ l ∧ k < G.length := by
  by_cases q : k < G.length
  · have e : G.getD k [] = G[k] := by simp [K1, q]
    rw [e] at h
    exact ⟨_, K4 q, h, q⟩
  · rw [K1, K1m (Nat.le_of_not_lt q)] at h
    cases h
/-- the J6k of a graph, as the two functions find them -/
theorem Q19 {m : Nat} {G : List (List Int)} (h1 : 1 ≤ m) (hG : Gr m G) (hs : ∀ l ∈ G, l.length ≤ 2000) (nb nb2 : Bool) {R R2 : List (Bool × List Int)} (hR : R.map Prod.snd = G) (hR2 : R2.map Prod.snd = G) :
    ∃ b b2 P, Ff (nb, R) = some (b, P) ∧ F1 (nb2, R2) = some (b2, P) ∧ P.length = m ∧ ∀ x, 0 ≤ x ∧ x < (m : Int) → IsL (gOf R) x (P.getD x.toNat 0) := by
  have hlim := J6
  have hsm := hG.small
  have hlen : R.length = m := by rw [← hG.len, ← hR, Ky]
  have hlen2 : R2.length = m := by rw [← hG.len, ← hR2, Ky]
  have eg : gOf R2 = gOf R := by funext x; rw [Q7 hR2, Q7 hR]
  have hin : ∀ x, ∀ y ∈ gOf R x, 0 ≤ y ∧ y < (m : Int) := by
    intro x y hy
    rw [Q7 hR] at hy
    split at hy
    · obtain ⟨l, hl, hyl, _⟩ := Qw hy
      exact hG.inn l hl y hyl
    · cases hy
  have hrl : ∀ x, (gOf R x).length ≤ 20000000 := by
    intro x
    rw [Q7 hR]
    split
    · by_cases q : x.toNat < G.length
      · have e : G.getD x.toNat [] = G[x.toNat] := by simp [K1, q]
        rw [e]
        have := hs _ (K4 q)
        omega
      · rw [K1, K1m (Nat.le_of_not_lt q)]
        simp
    · simp
  obtain ⟨b, P, e1, e2, e3⟩ := Q36 h1 hsm hlen nb hin hrl
  obtain ⟨Q, q1, _, q3⟩ := Q14 hG hs nb2 hR2
  have hg : ∀ l ∈ G, ∀ w ∈ l, 0 ≤ w ∧ w < (G.length : Int) := by rw [hG.len]; exact hG.inn
  have hTl := Q5 G hg G.length (K12 _)
  have hlenT : Q.length = m := by
    have := congrArg List.length q1
    rw [Ky] at this
    rw [this, ← hG.len]
    exact hTl.1
  have hmT : ∀ x y, 0 ≤ x ∧ x < (m : Int) → (y ∈ gOf Q x ↔ x ∈ gOf R2 y) := by
    intro x y hx
    rw [Q7 q1, if_pos hx.1, Qo hg, Q7 hR2]
    have ex : ((x.toNat : Nat) : Int) = x := K1n hx.1
    constructor
    · rintro ⟨v, hv1, rfl, hv3⟩
      rw [if_pos (by omega), K7, ← ex]
      exact hv3
    · intro h
      split at h
      · rename_i hy
        obtain ⟨l, _, _, hk⟩ := Qw h
        exact ⟨y.toNat, hk, (K1n hy).symm, by rw [ex]; exact h⟩
      · cases h
  have hinT : ∀ x, ∀ y ∈ gOf Q x, 0 ≤ y ∧ y < (m : Int) := by
    intro x y hy
    by_cases hx : 0 ≤ x
    · rw [Q7 q1, if_pos hx, Qo hg] at hy
      obtain ⟨v, hv1, rfl, _⟩ := hy
      rw [← hG.len]
      omega
    · rw [Q7 q1, if_neg hx] at hy
      cases hy
  have hgT := Q2k hG hs
  have hrlT : ∀ x, (gOf Q x).length ≤ 20000000 := by
    intro x
    rw [Q7 q1]
    split
    · by_cases q : x.toNat < (Q8 G).length
      · have e : (Q8 G).getD x.toNat [] = (Q8 G)[x.toNat] := by simp [K1, q]
        rw [e]
        exact hgT.short _ (K4 q)
      · rw [K1, K1m (Nat.le_of_not_lt q)]
        simp
    · simp
  have hin2 := hin
  rw [← eg] at hin2
  have hrl2 := hrl
  rw [← eg] at hrl2
  have hF0 : FinI (gOf R2) (fun _ => False) (sB (List.replicate m false)) [] := ⟨fun x => ⟨fun h => absurd h (Q28 m x), fun h => h.elim (fun h => (by cases h)) (fun h => h.elim)⟩, fun x hx => (by cases hx), fun x hx => (by cases hx), fun A z B e => (by cases A <;> cases e), List.nodup_nil⟩
  obtain ⟨S2, O2, bo2, k1, k2, k3, k4, k5⟩ := Q48 hsm hlen2 nb2 hin2 hrl2 (nb2, R2) false m 0 (List.replicate m false) [] true (by omega) (by simp) hF0 (fun x hx => by omega) (by rw [Q11]; simp)
  have k1' : F1s (nb2, R2) (nb2, R2) (false, List.replicate m false) (true, []) (m : Int) 0 = _ := k1
  have hO : ∀ x ∈ O2, 0 ≤ x ∧ x < (m : Int) := fun x hx => by
    obtain ⟨a, b⟩ := (k2.see x).2 (Or.inl hx)
    refine ⟨a, ?_⟩
    rcases Int.lt_or_le x (m : Int) with q | q
    · exact q
    · rw [K1, K1m (by omega)] at b
      cases b
  obtain ⟨P2, z, j1, j2, j3⟩ := Q49 hsm hlen2 hlenT false hin2 hinT hrlT hmT nb2 (nb2, R2) (false, S2) bo2 O2 k2 k3 hO k4 false false O2.length (List.replicate m false) (List.replicate m 0) [] true (K12 _) (by simp) (by simp) (fun x hx => by
    rw [List.drop_length]
    exact ⟨fun h => absurd h (Q28 m x), fun ⟨b, hb, _⟩ => by cases hb⟩) (fun x hx h => absurd h (Q28 m x))
  have ePP : P2 = P := by
    apply List.ext_getElem (by rw [j2, e2])
    intro i hi1 hi2
    have a := e3 (i : Int) (by omega)
    have b := j3 (i : Int) (by omega)
    rw [eg] at b
    have c := a.one b
    rw [Q43 (-1) 0 P (by omega), Qr 0 P2 (by omega), K7] at c
    rw [Qt hi2, Qt hi1] at c
    exact c.symm
  refine ⟨b, false, P, e1, ?_, e2, fun x hx => by rw [← Q43 (-1) 0 P (by omega)]; exact e3 x hx⟩
  have ew : IntKind.i64.wrap ((O2.length : Int) - 1) = (O2.length : Int) - 1 := wr (by omega)
  rw [F1E]
  simp only [hlen2, K7, k1', J0, q3, ew, j1]
  rw [gT (by omega), gT (by omega), gT (by omega), gT (by omega), gT (by omega), gT (by omega), gT (by omega), gT (by omega), gT (by omega), gT (by omega), gT (by omega), gT (by omega), ePP]
/-- the place from which choices are read: what is known of it -/
def Qj (c : Dl1Cur) (B : Int) : Prop := c.1.2.length ≤ 1048576 ∧ (∀ x ∈ c.1.2, 0 ≤ x ∧ x ≤ 255) ∧ 0 ≤ c.2.1 ∧ c.2.1 ≤ B
theorem Qj.mono {c : Dl1Cur} {B C : Int} (h : Qj c B) (hb : B ≤ C) : Qj c C := ⟨h.1, h.2.1, h.2.2.1, Int.le_trans h.2.2.2 hb⟩
theorem top8 : top 8 = 255 := by decide
theorem Q3x (s : Int) (hs : 0 ≤ s ∧ s < 18446744073709551616) : ∃ b, IntKind.i64.wrap (bAnd .u64 (bShr .u64 s 40) 255) = b ∧ 0 ≤ b ∧ b ≤ 255 := by
  have e1 : bShr .u64 s 40 = s / 2 ^ 40 := Q1c .u64 s 40 (by decide)
  have h1 : 0 ≤ s / 2 ^ 40 := Int.ediv_nonneg hs.1 (by decide)
  have h2 : s / 2 ^ 40 ≤ s := Int.ediv_le_self _ hs.1
  have e2 : bAnd .u64 (s / 2 ^ 40) 255 = s / 2 ^ 40 % 256 := by
    rw [← top8, Q1w (by omega) ⟨h1, by omega⟩, top8]
    rfl
  refine ⟨s / 2 ^ 40 % 256, ?_, by omega, by omega⟩
  rw [e1, e2, wr (by omega)]
theorem Q2e (c : Dl1Cur) (B : Int) (h : Qj c B) (hB : B ≤ 1000000000000) : ∃ c' b, Fu c.1 c.2.1 c.2.2 = some (c', b) ∧ Qj c' (B + 1) ∧ 0 ≤ b ∧ b ≤ 255 := by
  obtain ⟨h1, h2, h3, h4⟩ := h
  have hw : ∀ n : Int, 0 ≤ IntKind.u64.wrap n ∧ IntKind.u64.wrap n < 18446744073709551616 := fun n => by rw [J50]; omega
  rw [FuE]
  by_cases c1 : c.2.1 < (c.1.2.length : Int)
  · have hx : 0 ≤ c.1.2.getD (Int.toNat c.2.1) 0 ∧ c.1.2.getD (Int.toNat c.2.1) 0 ≤ 255 := by
      have hlt : Int.toNat c.2.1 < c.1.2.length := by omega
      have e : c.1.2.getD (Int.toNat c.2.1) 0 = c.1.2[Int.toNat c.2.1] := by simp [K1, hlt]
      rw [e]
      exact h2 _ (K4 hlt)
    rw [gT c1, gT h3, gT c1, gT (by rw [wr (by omega)]; omega)]
    exact ⟨_, _, rfl, ⟨h1, h2, by simp only; rw [wr (by omega)]; omega, by simp only; rw [wr (by omega)]; omega⟩, by rw [wr (by omega)]; exact hx.1, by rw [wr (by omega)]; exact hx.2⟩
  · rw [gF c1, gF (by rw [wr (by omega)]; omega)]
    obtain ⟨b, e1, e2, e3⟩ := Q3x (IntKind.u64.wrap ((IntKind.u64.wrap ((IntKind.u64.wrap (c.2.2 * 6364136223846793005)) + (IntKind.u64.wrap 0))) + 1442695040888963407)) (hw _)
    exact ⟨_, _, rfl, ⟨h1, h2, by simp only; rw [wr (by omega)]; omega, by simp only; rw [wr (by omega)]; omega⟩, by rw [e1]; exact e2, by rw [e1]; exact e3⟩
theorem Qk (c : Dl1Cur) (n : Int) (B : Int) (h : Qj c B) (hB : B ≤ 900000000000) (hn : n ≤ 9000000000000000000) : ∃ c' x, Fq c n = some (c', x) ∧ Qj c' (B + 2) ∧ 0 ≤ x ∧ (1 ≤ n → x < n) := by
  rw [FqE]
  by_cases c1 : n ≤ 1
  · rw [gT c1]
    exact ⟨c, 0, rfl, h.mono (by omega), by omega, fun h => by omega⟩
  · rw [gF c1]
    obtain ⟨c2, b, e1, h1, b1, b2⟩ := Q2e c B h (by omega)
    rw [e1, J0]
    have hz : (n == 0) = false := beqF (by omega)
    by_cases c3 : n > 200
    · obtain ⟨c4, b', e2, h2, b3, b4⟩ := Q2e c2 (B + 1) h1 (by omega)
      rw [gT c3, e2, J0, bF hz]
      have e3 : IntKind.i64.wrap (IntKind.i64.wrap (b * 256) + b') = b * 256 + b' := by rw [wr (show -9223372036854775808 ≤ b * 256 ∧ b * 256 < 9223372036854775808 by omega), wr (by omega)]
      simp only [e3]
      refine ⟨_, _, rfl, h2.mono (by omega), Int.tmod_nonneg _ (by omega), fun _ => ?_⟩
      rw [Int.tmod_eq_emod_of_nonneg (by omega)]
      exact Int.emod_lt_of_pos _ (by omega)
    · rw [gF c3, bF hz]
      refine ⟨_, _, rfl, h1.mono (by omega), Int.tmod_nonneg _ b1, fun _ => ?_⟩
      rw [Int.tmod_eq_emod_of_nonneg b1]
      exact Int.emod_lt_of_pos _ (by omega)
/-- a drawn list of points -/
def Pts (n : Int) (k : Nat) (l : List Int) : Prop := Qc l ∧ (∀ x ∈ l, 0 ≤ x ∧ x < n) ∧ l.length ≤ k
theorem Pts.ins {n : Int} {k : Nat} {l : List Int} (h : Pts n k l) {x : Int} (hx : 0 ≤ x ∧ x < n) : Pts n (k + 1) (insL x l) := by
  refine ⟨Q22 x l h.1, fun y hy => ?_, ?_⟩
  · rcases (Q2h x l y).1 hy with rfl | hy
    · exact hx
    · exact h.2.1 y hy
  · have := Q21 x l
    have := h.2.2
    omega
theorem Q3g (n k_ : Int) (hn : 1 ≤ n ∧ n ≤ 1000000) (d : Nat) : ∀ (c : Dl1Cur) (B : Int) (b : Bool) (l : List Int) (k : Nat), Qj c B → B + 2 * d ≤ 900000000000 → Pts n k l → k + d ≤ 1000 → (b = true → l = []) →
    ∃ c' b' l', F1t c n k_ (b, l) (d : Int) = some (c', (b', l')) ∧ Qj c' (B + 2 * d) ∧ Pts n (k + d) l' ∧ (b' = true → l' = []) := by
  induction d with
  | zero =>
    intro c B b l k hc hB hl hk hfl
    exact ⟨c, b, l, by rw [F1tE, gF (by omega)], hc.mono (by omega), hl, hfl⟩
  | succ d ih =>
    intro c B b l k hc hB hl hk hfl
    obtain ⟨c2, x, e1, h1, x1, x2⟩ := Qk c n B hc (by omega) (by omega)
    have hl2 := hl.2.2
    obtain ⟨f, e2, e4⟩ := Q4b b l x (by omega)
    obtain ⟨c3, b3, l3, g1, g2, g3, g4⟩ := ih c2 (B + 2) f (insL x l) (k + 1) h1 (by omega) (hl.ins ⟨x1, x2 hn.1⟩) (by omega) (fun h => absurd (hfl (e4 h).1) (e4 h).2)
    refine ⟨c3, b3, l3, ?_, g2.mono (by omega), ?_, g4⟩
    · rw [F1tE, gT (by omega), e1, J0]
      simp only [e2, J0]
      rw [wr (by omega), J1, show ((d + 1 : Nat) : Int) - 1 = (d : Int) by omega]
      exact g1
    · rw [show k + (d + 1) = k + 1 + d by omega]
      exact g3
theorem Q3f (n : Nat) (hn : 1 ≤ n ∧ n ≤ 12) (d : Nat) : ∀ (i : Nat) (c : Dl1Cur) (B : Int) (b : Bool) (R : List (Bool × List Int)), i + d = n → Qj c B → B + 10 * d ≤ 800000000000 → R.length = i → (∀ r ∈ R, Pts n 3 r.2 ∧ (r.1 = true → r.2 = [])) →
    ∃ c' b' R', F1z c (n : Int) (b, R) (i : Int) = some (c', (b', R')) ∧ Qj c' (B + 10 * d) ∧ R'.length = n ∧ ∀ r ∈ R', Pts n 3 r.2 ∧ (r.1 = true → r.2 = []) := by
  have hlim := J6
  induction d with
  | zero =>
    intro i c B b R hi hc hB hR hr
    exact ⟨c, b, R, by rw [F1zE, gF (by omega)], hc.mono (by omega), by omega, hr⟩
  | succ d ih =>
    intro i c B b R hi hc hB hR hr
    obtain ⟨c2, x, e1, h1, x1, x2⟩ := Qk c 4 B hc (by omega) (by omega)
    have x3 := x2 (by omega)
    obtain ⟨k, rfl⟩ := Ke x1
    obtain ⟨c3, b3, l3, e2, h2, p2, p3⟩ := Q3g (n : Int) (i : Int) (by omega) k c2 (B + 2) true [] 0 h1 (by omega) ⟨List.Pairwise.nil, fun x hx => (by cases hx), by simp⟩ (by omega) (fun _ => rfl)
    obtain ⟨c4, b4, R4, g1, g2, g3, g4⟩ := ih (i + 1) c3 (B + 10) (b && false) (R ++ [(b3, l3)]) (by omega) (h2.mono (by omega)) (by omega) (by simp; omega) (fun r hr2 => by
      rcases Kh.1 hr2 with q | q
      · exact hr r q
      · rw [Kw] at q
        rw [q]
        exact ⟨⟨p2.1, p2.2.1, by have := p2.2.2; simp only; omega⟩, p3⟩)
    refine ⟨c4, b4, R4, ?_, g2.mono (by omega), g3, g4⟩
    rw [F1zE, gT (by omega), e1, J0, e2, J0]
    simp only
    rw [gT (by simp; omega), up1 i (by omega), J1]
    exact g1
theorem Q3h (d : Nat) : ∀ (c : Dl1Cur) (B : Int) (b : Bool) (R : List (Bool × List Int)), Qj c B → B + 2 * d ≤ 800000000000 → R.length + d = 1202 → R.length ≤ 1201 →
    ∃ c' b' k, F29 c (b, R) = some (c', (b', R ++ List.replicate k (true, []))) ∧ Qj c' (B + 2 * d) ∧ R.length + k ≤ 1201 := by
  have hlim := J6
  induction d with
  | zero => intro c B b R hc hB hR h1; omega
  | succ d ih =>
    intro c B b R hc hB hR h1
    obtain ⟨c2, x, e1, h2, x1, x2⟩ := Qk c 2 B hc (by omega) (by omega)
    have x3 := x2 (by omega)
    rw [F29E, e1, J0]
    simp only
    rw [wr (by omega)]
    by_cases q : (R.length : Int) < 1200 + x
    · obtain ⟨c4, b4, k, g1, g2, g3⟩ := ih c2 (B + 2) (b && false) (R ++ [(true, [])]) h2 (by omega) (by simp; omega) (by simp; omega)
      refine ⟨c4, b4, k + 1, ?_, g2.mono (by omega), by simp at g3; omega⟩
      rw [gT q, gT (by simp; omega), J1, g1, List.replicate_succ, Kl]
      rfl
    · refine ⟨c2, b, 0, ?_, h2.mono (by omega), by omega⟩
      rw [gF q]
      simp
/-- what is known of a drawn graph -/
structure Drawn (R : List (Bool × List Int)) : Prop where
  one : 1 ≤ R.length
  most : R.length ≤ 1201
  rows : ∀ r ∈ R, r.2.length ≤ 4 ∧ (∀ x ∈ r.2, 0 ≤ x ∧ x ≤ 12) ∧ (r.1 = true → r.2 = [])
theorem Q2m (c : Dl1Cur) (B : Int) (hc : Qj c B) (hB : B ≤ 100000000000) : ∃ c' b R, F3 c = some (c', (b, R)) ∧ Qj c' (B + 10000) ∧ Drawn R := by
  have hlim := J6
  obtain ⟨c1, x, e1, h1, x1, x2⟩ := Qk c 12 B hc (by omega) (by omega)
  have x3 := x2 (by omega)
  obtain ⟨k, rfl⟩ := Ke x1
  have ew : IntKind.i64.wrap (1 + (k : Int)) = ((k + 1 : Nat) : Int) := by rw [wr (by omega)]; omega
  obtain ⟨c2, b2, R, e2, h2, r1, r2⟩ := Q3f (k + 1) (by omega) (k + 1) 0 c1 (B + 2) true [] (by omega) h1 (by omega) rfl (fun r hr => by cases hr)
  have e2' : F1z c1 ((k + 1 : Nat) : Int) (true, []) 0 = _ := e2
  obtain ⟨c3, y, e3, h3, y1, y2⟩ := Qk c2 40 _ h2 (by omega) (by omega)
  have old : ∀ r ∈ R, r.2.length ≤ 4 ∧ (∀ x ∈ r.2, 0 ≤ x ∧ x ≤ 12) ∧ (r.1 = true → r.2 = []) := fun r hr => by
    obtain ⟨⟨a1, a2, a3⟩, a4⟩ := r2 r hr
    exact ⟨by omega, fun x hx => by have := a2 x hx; omega, a4⟩
  rw [F3E, e1, J0]
  simp only [ew, e2', J0, e3]
  obtain ⟨r0, R', rfl⟩ : ∃ r0 R', R = r0 :: R' := by
    cases R with
    | nil => simp at r1
    | cons r0 R' => exact ⟨r0, R', rfl⟩
  have hr0 := r2 r0 Ki
  by_cases q0 : y = 0
  · subst q0
    have h03 := hr0.1.2.2
    rw [bT (by simp), gT (by omega), gT (by simp only [List.getD_cons_zero, Kq, List.length_nil]; omega), gT (by omega), bT (by simp)]
    refine ⟨_, _, _, rfl, h3.mono (by omega), ⟨by simp, by simp only [List.set_cons_zero, Kq] at r1 ⊢; omega, fun r hr => ?_⟩⟩
    simp only [List.set_cons_zero, List.getD_cons_zero] at hr
    rcases Kd.1 hr with rfl | hr
    · refine ⟨by simp; omega, fun x hx => ?_, by simp⟩
      rcases Kh.1 hx with hx | hx
      · exact (old r0 Ki).2.1 x hx
      · rw [Kw] at hx
        rw [hx]
        omega
    · exact old r (K8 _ hr)
  · rw [bF (by simpa using q0)]
    by_cases q1 : y = 1
    · subst q1
      rw [bT (by simp), gT (by omega)]
      refine ⟨_, _, _, rfl, h3.mono (by omega), ⟨by simp, by simp only [List.set_cons_zero, Kq] at r1 ⊢; omega, fun r hr => ?_⟩⟩
      simp only [List.set_cons_zero] at hr
      rcases Kd.1 hr with rfl | hr
      · refine ⟨by simp, fun x hx => ?_, by simp⟩
        simp only [Kd, List.not_mem_nil, or_false] at hx
        rcases hx with rfl | rfl <;> omega
      · exact old r (K8 _ hr)
    · rw [bF (by simpa using q1)]
      by_cases q2 : y = 2
      · subst q2
        obtain ⟨c4, b4, k4, g1, g2, g3⟩ := Q3h (1202 - (r0 :: R').length) c3 _ b2 (r0 :: R') h3 (by omega) (by omega) (by omega)
        rw [bT (by simp), g1, J0]
        refine ⟨_, _, _, rfl, g2.mono (by omega), ⟨by simp, by rw [Kj, K23]; exact g3, fun r hr => ?_⟩⟩
        rcases Kh.1 hr with hr | hr
        · exact old r hr
        · rw [(List.mem_replicate.1 hr).2]
          exact ⟨by simp, fun x hx => (by cases hx), fun _ => rfl⟩
      · rw [bF (by simpa using q2)]
        exact ⟨_, _, _, rfl, h3.mono (by omega), ⟨by omega, by omega, old⟩⟩
/-- the arrows of a graph given by its rows -/
def gG (G : List (List Int)) : Int → List Int := fun x => if 0 ≤ x then G.getD x.toNat [] else []
theorem Q40 (G : List (List Int)) {x : Int} (h : 0 ≤ x) : gG G x = G.getD x.toNat [] := if_pos h
/-- one arrow: what is known stays, what is new waits -/
structure Step1 (k : Nat) (s q : List Int) (s2 q2 : List Int) : Prop where
  len : s2.length = s.length
  same : ∀ v, v < s.length → 0 ≤ s.getD v 0 → s2.getD v 0 = s.getD v 0
  new : ∀ v, v < s.length → 0 ≤ s2.getD v 0 → 0 ≤ s.getD v 0 ∨ ((v : Int) ∈ q2 ∧ 1 ≤ s2.getD v 0)
  que : ∀ w ∈ q, w ∈ q2
theorem Step1.refl (k : Nat) (s q : List Int) : Step1 k s q s q := ⟨rfl, fun _ _ _ => rfl, fun _ _ h => Or.inl h, fun _ h => h⟩
theorem Step1.trans {k : Nat} {s q s2 q2 s3 q3 : List Int} (h : Step1 k s q s2 q2) (h2 : Step1 k s2 q2 s3 q3) : Step1 k s q s3 q3 := by
  refine ⟨by rw [h2.len, h.len], fun v hv h0 => ?_, fun v hv h0 => ?_, fun w hw => h2.que w (h.que w hw)⟩
  · rw [h2.same v (by rw [h.len]; exact hv) (by rw [h.same v hv h0]; exact h0), h.same v hv h0]
  · rcases h2.new v (by rw [h.len]; exact hv) h0 with a | ⟨a, b⟩
    · rcases h.new v hv a with c | ⟨c, d⟩
      · exact Or.inl c
      · refine Or.inr ⟨h2.que _ c, ?_⟩
        rw [h2.same v (by rw [h.len]; exact hv) a]
        exact d
    · exact Or.inr ⟨a, b⟩
theorem Q3r {k : Nat} {s q : List Int} (hk : k < s.length) (hk0 : 0 ≤ s.getD k 0) {w : Int} (hw : 0 ≤ w ∧ w < (s.length : Int)) : Step1 k s q (Q3 k (s, q) w).1 (Q3 k (s, q) w).2 ∧ 0 ≤ (Q3 k (s, q) w).1.getD w.toNat 0 := by
  have hwl : w.toNat < s.length := by omega
  unfold Q3
  by_cases c : s.getD w.toNat 0 < 0
  · simp only [if_pos c]
    refine ⟨⟨by rw [Ks], fun v hv h0 => ?_, fun v hv h0 => ?_, fun x hx => Kb _ hx⟩, ?_⟩
    · rw [Q0 s _ _ _ hwl]
      split
      · rename_i e
        subst e
        omega
      · rfl
    · rw [Q0 s _ _ _ hwl] at h0 ⊢
      split
      · rename_i e
        refine Or.inr ⟨?_, by omega⟩
        have : (v : Int) = w := by omega
        rw [this]
        simp
      · rename_i e
        rw [if_neg e] at h0
        exact Or.inl h0
    · rw [Q0 s _ _ _ hwl, if_pos rfl]
      omega
  · simp only [if_neg c]
    exact ⟨Step1.refl k s q, by omega⟩
theorem Q3q {k : Nat} (ws : List Int) : ∀ {s q : List Int}, k < s.length → 0 ≤ s.getD k 0 → (∀ w ∈ ws, 0 ≤ w ∧ w < (s.length : Int)) → Step1 k s q (ws.foldl (Q3 k) (s, q)).1 (ws.foldl (Q3 k) (s, q)).2 ∧ ∀ w ∈ ws, 0 ≤ (ws.foldl (Q3 k) (s, q)).1.getD w.toNat 0 := by
  induction ws with
  | nil => intro s q _ _ _; exact ⟨Step1.refl k s q, fun w hw => by cases hw⟩
  | cons a ws ih =>
    intro s q hk hk0 hw
    obtain ⟨h1, h2⟩ := Q3r (q := q) hk hk0 (hw a Ki)
    have hl := h1.len
    obtain ⟨h3, h4⟩ := ih (s := (Q3 k (s, q) a).1) (q := (Q3 k (s, q) a).2) (by omega) (by rw [h1.same k hk hk0]; exact hk0) (fun w hw2 => by rw [hl]; exact hw w (K8 _ hw2))
    rw [K19]
    refine ⟨h1.trans h3, fun w hw2 => ?_⟩
    rcases Kd.1 hw2 with rfl | hw2
    · have ha := hw w Ki
      rw [h3.same w.toNat (by omega) h2]
      exact h2
    · exact h4 w hw2
/-- what has been left has no arrow to what is not known -/
def Q3c (G : List (List Int)) (s q : List Int) : Prop := ∀ v : Nat, v < s.length → 0 ≤ s.getD v 0 → (v : Int) ∈ q ∨ ∀ w ∈ G.getD v [], 0 ≤ s.getD w.toNat 0
/-- no steps but at the beginning -/
def Zero (l s : List Int) : Prop := ∀ v : Nat, v < s.length → s.getD v 0 = 0 → (v : Int) ∈ l
theorem Q2t {m : Nat} {G : List (List Int)} (hG : Gr m G) (l : List Int) (n : Nat) : ∀ (s q : List Int), BInv m s q → Q3c G s q → Zero l s → 2 * negs s + q.length ≤ n → Q3c G (bfsL G n s q) [] ∧ Zero l (bfsL G n s q) ∧ (bfsL G n s q).length = m ∧ ∀ v, v < m → 0 ≤ s.getD v 0 → (bfsL G n s q).getD v 0 = s.getD v 0 := by
  induction n with
  | zero =>
    intro s q hI hS hZ hn
    have : q = [] := List.length_eq_zero_iff.1 (by omega)
    subst this
    exact ⟨hS, hZ, hI.len, fun _ _ _ => rfl⟩
  | succ n ih =>
    intro s q hI hS hZ hn
    cases q with
    | nil => exact ⟨hS, hZ, hI.len, fun _ _ _ => rfl⟩
    | cons k q =>
      obtain ⟨hk1, hk2⟩ := hI.que k Ki
      have hlen := hI.len
      have hI' : BInv m s q := ⟨hI.len, hI.low, hI.high, fun w hw => hI.que w (K8 _ hw)⟩
      have hkG : k.toNat < G.length := by rw [hG.len]; omega
      have e : G.getD k.toNat [] ∈ G := by
        have e : G.getD k.toNat [] = G[k.toNat] := by simp [K1, hkG]
        rw [e]
        exact K4 _
      have hin := hG.inn _ e
      obtain ⟨v1, v2⟩ := Qv (show k.toNat < m by omega) (G.getD k.toNat []) hI' hk2 hin
      obtain ⟨t1, t2⟩ := Q3q (q := q) (G.getD k.toNat []) (k := k.toNat) (s := s) (by omega) hk2 (by rw [hlen]; exact hin)
      have hl2 := t1.len
      simp only [Kq] at hn
      obtain ⟨a1, a2, a3, a4⟩ := ih _ _ v1 (fun v hv h0 => by
        rcases t1.new v (by omega) h0 with c | ⟨c, _⟩
        · rcases hS v (by omega) c with d | d
          · rcases Kd.1 d with d | d
            · right
              have ev : k.toNat = v := by omega
              rw [← ev]
              exact t2
            · exact Or.inl (t1.que _ d)
          · right
            intro w hw
            have hvG : v < G.length := by rw [hG.len]; omega
            have e2 : G.getD v [] ∈ G := by
              have e : G.getD v [] = G[v] := by simp [K1, hvG]
              rw [e]
              exact K4 _
            have hwi := hG.inn _ e2 w hw
            rw [t1.same w.toNat (by omega) (d w hw)]
            exact d w hw
        · exact Or.inl c) (fun v hv h0 => by
        rcases t1.new v (by omega) (by omega) with c | ⟨_, c⟩
        · exact hZ v (by omega) (by rw [← t1.same v (by omega) c]; exact h0)
        · omega) (by omega)
      refine ⟨a1, a2, a3, fun v hv h0 => ?_⟩
      have := t1.same v (by omega) h0
      show (bfsL G n _ _).getD v 0 = _
      rw [a4 v hv (by rw [this]; exact h0), this]
theorem Q1y (m : Nat) (l : List Int) (hl : ∀ w ∈ l, 0 ≤ w ∧ w < (m : Int)) (v : Nat) (hv : v < m) : (far0 m l).getD v 0 = if (v : Int) ∈ l then 0 else -1 := by
  have key : ∀ (l s : List Int), (∀ w ∈ l, 0 ≤ w ∧ w < (m : Int)) → s.length = m → (l.foldl (fun s w => s.set w.toNat 0) s).getD v 0 = if (v : Int) ∈ l then 0 else s.getD v 0 := by
    intro l
    induction l with
    | nil => intro s _ _; rfl
    | cons a l ih =>
      intro s hw hs
      have ha := hw a Ki
      rw [K19, ih _ (fun w h => hw w (K8 _ h)) (by rw [Ks]; exact hs), Q0 s _ _ _ (by omega)]
      by_cases c : (v : Int) ∈ l
      · rw [if_pos c, if_pos (K8 _ c)]
      · rw [if_neg c]
        by_cases e : a.toNat = v
        · rw [if_pos e, if_pos (by have : (v : Int) = a := by omega
                                   rw [this]; exact Ki)]
        · rw [if_neg e, if_neg (fun q => by
            rcases Kd.1 q with q | q
            · omega
            · exact c q)]
  have := key l (List.replicate m (-1)) hl (by simp)
  rw [far0, this]
  congr 1
  simp [K1, hv]
/-- the steps tell what is reached -/
theorem Q17 {m : Nat} {G : List (List Int)} (hG : Gr m G) (l : List Int) (hw : ∀ w ∈ l, 0 ≤ w ∧ w < (m : Int)) : (farL G l).length = m ∧ Q3c G (farL G l) [] ∧ Zero l (farL G l) ∧ (∀ w ∈ l, (farL G l).getD w.toNat 0 = 0) ∧ Pred G (farL G l) := by
  have hI := Ql m l hw
  have hn := Q13 (far0 m l)
  have hlen := hI.len
  have hS : Q3c G (far0 m l) l := fun v hv h0 => by
    rw [Q1y m l hw v (by omega)] at h0
    split at h0
    · rename_i h; exact Or.inl h
    · omega
  have hZ : Zero l (far0 m l) := fun v hv h0 => by
    rw [Q1y m l hw v (by omega)] at h0
    split at h0
    · rename_i h; exact h
    · omega
  have hb := Q2t hG l (2 * m + l.length) (far0 m l) l hI hS hZ (by omega)
  have hP := Q2u hG l hw
  rw [farL, hG.len] at hP ⊢
  obtain ⟨b1, b2, b3, b4⟩ := hb
  refine ⟨b3, b1, b2, fun w hwl => ?_, hP⟩
  have hwi := hw w hwl
  have e : (far0 m l).getD w.toNat 0 = 0 := by
    rw [Q1y m l hw w.toNat (by omega), if_pos (by rw [K1n hwi.1]; exact hwl)]
  rw [b4 w.toNat (by omega) (by omega), e]
theorem Q2x {m : Nat} {G : List (List Int)} (hG : Gr m G) : ∀ x, ∀ y ∈ gG G x, 0 ≤ y ∧ y < (m : Int) := by
  intro x y hy
  unfold gG at hy
  split at hy
  · by_cases q : x.toNat < G.length
    · have e : G.getD x.toNat [] = G[x.toNat] := by simp [K1, q]
      rw [e] at hy
      exact hG.inn _ (K4 q) y hy
    · rw [K1, K1m (Nat.le_of_not_lt q)] at hy
      cases hy
  · cases hy
theorem Q2f {m : Nat} {G : List (List Int)} (hG : Gr m G) (l : List Int) (hw : ∀ w ∈ l, 0 ≤ w ∧ w < (m : Int)) (v : Int) (hv : 0 ≤ v ∧ v < (m : Int)) : 0 ≤ (farL G l).getD v.toNat 0 ↔ ∃ u ∈ l, Way (gG G) u v := by
  obtain ⟨h1, h2, h3, h4, h5⟩ := Q17 hG l hw
  constructor
  · have key : ∀ (n : Nat) (v : Nat), v < m → (farL G l).getD v 0 = (n : Int) → ∃ u ∈ l, Way (gG G) u (v : Int) := by
      intro n
      induction n with
      | zero =>
        intro v hv h0
        exact ⟨(v : Int), h3 v (by omega) h0, Way.here _⟩
      | succ n ih =>
        intro v hv h0
        obtain ⟨u, u1, u2, u3⟩ := h5 v (by omega) (by omega)
        obtain ⟨a, a1, a2⟩ := ih u (by omega) (by omega)
        exact ⟨a, a1, a2.snoc (by rw [Q40 G (by omega), K7]; exact u2)⟩
    intro h0
    obtain ⟨n, hn⟩ := Ke h0
    have := key n v.toNat (by omega) hn
    rwa [K1n hv.1] at this
  · rintro ⟨u, hu, huv⟩
    have hui := hw u hu
    have key : (0 ≤ v ∧ v < (m : Int)) ∧ 0 ≤ (farL G l).getD v.toNat 0 := Way.closed (P := fun x => (0 ≤ x ∧ x < (m : Int)) ∧ 0 ≤ (farL G l).getD x.toNat 0) (fun x hx y hy => by
      have hyi := Q2x hG x y hy
      refine ⟨hyi, ?_⟩
      rcases h2 x.toNat (by omega) hx.2 with c | c
      · cases c
      · rw [Q40 G hx.1.1] at hy
        exact c y hy) huv ⟨hui, by rw [h4 u hu]; omega⟩
    exact key.2
theorem Q18 {m : Nat} {G : List (List Int)} (hG : Gr m G) (l : List Int) (hw : ∀ w ∈ l, 0 ≤ w ∧ w < (m : Int)) (v : Int) : v ∈ Q6 G l ↔ (0 ≤ v ∧ v < (m : Int)) ∧ ∃ u ∈ l, Way (gG G) u v := by
  obtain ⟨h1, _⟩ := Q17 hG l hw
  unfold Q6
  simp only [Ku, K1k, K1v, decide_eq_true_eq, h1]
  constructor
  · rintro ⟨i, ⟨hi, h0⟩, rfl⟩
    have hv : 0 ≤ Int.ofNat i ∧ Int.ofNat i < (m : Int) := ⟨Int.natCast_nonneg _, by simp; omega⟩
    exact ⟨hv, (Q2f hG l hw (Int.ofNat i) hv).1 (by simpa using h0)⟩
  · rintro ⟨hv, h⟩
    exact ⟨v.toNat, ⟨by omega, (Q2f hG l hw v hv).2 h⟩, K1n hv.1⟩
/-- a graph as the laws want it -/
def Qm (G : List (List Int)) : Bool := decide ((G.length : Int) ≤ 1200) && (G.all (fun l => Qd (G.length : Int) l) && decide ((tot G : Int) ≤ 20000))
theorem Q2j (a : List Int) (G : List (List Int)) : tot (a :: G) = a.length + tot G := by simp [tot]
theorem Q1n (g : DGraph) (hr : ∀ r ∈ g.2, r.2.length ≤ 100000) (hn : g.2.length ≤ 100000) (d : Nat) : ∀ (i : Nat) (A : Int), i + d = g.2.length → 0 ≤ A → A + 100000 * d ≤ 100000000000 →
    F1j g A g (g.2.length : Int) (i : Int) = some (bif (g.2.drop i).all (fun r => Qd (g.2.length : Int) r.2) then .inr (A + (tot ((g.2.drop i).map Prod.snd) : Int)) else .inl false) := by
  induction d with
  | zero =>
    intro i A hi hA hB
    rw [F1jE, gF (by omega), K9 (by omega)]
    simp [tot]
  | succ d ih =>
    intro i A hi hA hB
    have hlt : i < g.2.length := by omega
    have hx := hr _ (K4 hlt)
    rw [F1jE, gT (by omega), gT (by omega), gT (by omega), J2 g.2 _ i hlt, Qh _ _ (by omega), J0, K3 hlt, List.all_cons]
    cases hh : Qd (g.2.length : Int) (g.2[i]).2 with
    | false => rfl
    | true =>
      rw [K5, cond_false, up1 i (by omega), J1, wr (by omega), ih (i + 1) _ (by omega) (by omega) (by omega), K15, K14, Q2j]
      congr 3
      omega
theorem Q1o (g : DGraph) (hr : ∀ r ∈ g.2, r.2.length ≤ 100000) (hn : g.2.length ≤ 1200) (d : Nat) : ∀ (i : Nat) (A : Int), i + d = g.2.length → 0 ≤ A → A + 100000 * d ≤ 100000000000 →
    F1x g A g (g.2.length : Int) (i : Int) = some (bif (g.2.drop i).all (fun r => Qd (g.2.length : Int) r.2) then .inr (A + (tot ((g.2.drop i).map Prod.snd) : Int)) else .inl false) := by
  induction d with
  | zero =>
    intro i A hi hA hB
    rw [F1xE, gF (by omega), K9 (by omega)]
    simp [tot]
  | succ d ih =>
    intro i A hi hA hB
    have hlt : i < g.2.length := by omega
    have hx := hr _ (K4 hlt)
    rw [F1xE, gT (by omega), gT (by omega), gT (by omega), J2 g.2 _ i hlt, K3 hlt, List.all_cons]
    by_cases c : ((g.2[i]).2.length : Int) > 1200
    · rw [gT c]
      cases hh : Qd (g.2.length : Int) (g.2[i]).2 with
      | false => rfl
      | true =>
        have := Qy hh (by omega)
        omega
    · rw [gF c, F17E, wr (by omega), Q3m _ _ (by omega), J0, J0]
      cases hh : Qd (g.2.length : Int) (g.2[i]).2 with
      | false => rfl
      | true =>
        rw [K5, cond_false, up1 i (by omega), J1, wr (by omega), ih (i + 1) _ (by omega) (by omega) (by omega), K15, K14, Q2j]
        congr 3
        omega
theorem Qn (g : DGraph) (hr : ∀ r ∈ g.2, r.2.length ≤ 100000) (hn : g.2.length ≤ 100000) : Fa g = some (Qm (g.2.map Prod.snd)) ∧ F9 g = some (Qm (g.2.map Prod.snd)) := by
  have ea : ((g.2.map Prod.snd).all fun l => Qd ((g.2.map Prod.snd).length : Int) l) = g.2.all fun r => Qd (g.2.length : Int) r.2 := by rw [List.all_map, Ky]; rfl
  unfold Qm
  rw [ea, Ky, FaE, F9E]
  by_cases c : (g.2.length : Int) > 1200
  · rw [gT c, gT c, decide_eq_false (by omega)]
    exact ⟨rfl, rfl⟩
  · have e1 := Q1n g hr hn g.2.length 0 0 (by omega) (by omega) (by omega)
    have e2 := Q1o g hr (by omega) g.2.length 0 0 (by omega) (by omega) (by omega)
    have e1' : F1j g 0 g (g.2.length : Int) 0 = _ := e1
    have e2' : F1x g 0 g (g.2.length : Int) 0 = _ := e2
    rw [gF c, gF c, e1', e2', J0, Kg, decide_eq_true (by omega), K15, Int.zero_add]
    cases g.2.all fun r => Qd (g.2.length : Int) r.2 <;> exact ⟨rfl, rfl⟩
theorem Q2g {G : List (List Int)} (h : Qm G = true) : G.length ≤ 1200 ∧ (∀ l ∈ G, Qd (G.length : Int) l = true) ∧ tot G ≤ 20000 := by
  simp only [Qm, K6, decide_eq_true_eq, Kz] at h
  exact ⟨by omega, h.2.1, by omega⟩
theorem Qf {G : List (List Int)} (h : Qm G = true) : Gr G.length G ∧ ∀ l ∈ G, l.length ≤ 2000 := by
  obtain ⟨h1, h2, h3⟩ := Q2g h
  have hl : ∀ l ∈ G, l.length ≤ 1200 := fun l hl => by
    have := Qy (h2 l hl) (by omega)
    omega
  exact ⟨⟨rfl, fun l hl w hw => Q3p (h2 l hl) w hw, fun l h => by have := hl l h; omega, by omega⟩, fun l h => by have := hl l h; omega⟩
/-! what the laws ask -/
theorem Qb (f g : Bool) (l : List Int) (hl : l.length ≤ 1048576) : F8 (f, l) (g, l) = some true := by
  have key : ∀ (d i : Nat), i + d = l.length → F2a (f, l) (g, l) (l.length : Int) (i : Int) = some (.inr ()) := by
    intro d
    induction d with
    | zero => intro i hi; rw [F2aE, gF (by omega)]
    | succ d ih =>
      intro i hi
      have hlt : i < l.length := by omega
      rw [F2aE, gT (by omega), gT (by omega), gT (by simp only; omega), gT (by omega), gT (by simp only; omega), bF (by simp), up1 i (by omega), J1, ih (i + 1) (by omega)]
  have := key l.length 0 (by omega)
  have h' : F2a (f, l) (g, l) (l.length : Int) 0 = _ := this
  rw [F8E, bF (by simp), h', J0]
theorem Q30 (b : Bool) (l : List Int) (n : Int) (hl : l.length ≤ 1048576) : F7 (b, l) n = some (l.any fun x => x == n) := by
  have h := Q2d l (fun x => x == n) true (fun i => F1m n (b, l) (l.length : Int) i) (fun i h => by
    rw [F1mE, gT (by omega), gT (by omega), gT (by simp only; omega), J2 l _ i h, up1 i (by omega), J1]) (by rw [F1mE, gF (by omega)])
  rw [F7E]
  simp only [h, J0]
  cases l.any fun x => x == n <;> rfl
theorem Q2y {m : Nat} {G : List (List Int)} (hG : Gr m G) : ∀ x y, 0 ≤ x ∧ x < (m : Int) → (y ∈ gG (Q8 G) x ↔ x ∈ gG G y) := by
  have hg : ∀ l ∈ G, ∀ w ∈ l, 0 ≤ w ∧ w < (G.length : Int) := by rw [hG.len]; exact hG.inn
  intro x y hx
  rw [Q40 _ hx.1, Qo hg]
  have ex : ((x.toNat : Nat) : Int) = x := K1n hx.1
  unfold gG
  constructor
  · rintro ⟨v, hv1, rfl, hv3⟩
    rw [if_pos (by omega), K7, ← ex]
    exact hv3
  · intro h
    split at h
    · rename_i hy
      by_cases q : y.toNat < G.length
      · exact ⟨y.toNat, q, (K1n hy).symm, by rw [ex]; exact h⟩
      · rw [K1, K1m (Nat.le_of_not_lt q)] at h
        cases h
    · cases h
/-- ways in a graph that is turned around -/
theorem Q1k {m : Nat} {G : List (List Int)} (hG : Gr m G) {a b : Int} (hb : 0 ≤ b ∧ b < (m : Int)) : Way (gG G) a b → Way (gG (Q8 G)) b a := by
  intro h
  induction h with
  | here a => exact Way.here a
  | step e _ ih => exact (ih hb).snoc ((Q2y hG _ _ (Q2x hG _ _ e)).2 e)
theorem Q1j {m : Nat} {G : List (List Int)} (hG : Gr m G) (hT : Gr m (Q8 G)) {a b : Int} (ha : 0 ≤ a ∧ a < (m : Int)) : Way (gG (Q8 G)) a b → Way (gG G) b a := by
  intro h
  induction h with
  | here a => exact Way.here a
  | step e _ ih => exact (ih (Q2x hT _ _ e)).snoc ((Q2y hG _ _ ha).1 e)
/-- a row of a graph that is turned around Qd -/
theorem Q2a {G : List (List Int)} (hg : ∀ l ∈ G, ∀ w ∈ l, 0 ≤ w ∧ w < (G.length : Int)) (hn : ∀ l ∈ G, l.Nodup) : ∀ l ∈ Q8 G, Qc l := by
  have key1 : ∀ (row : List Int) (v : Int) (o : List (List Int)), row.Nodup → (∀ w ∈ row, 0 ≤ w ∧ w < (o.length : Int)) → (∀ j, Qc (o.getD j []) ∧ ∀ x ∈ o.getD j [], x < v) → ∀ j, Qc ((Qa v row o).getD j []) ∧ ∀ x ∈ (Qa v row o).getD j [], x ≤ v := by
    intro row
    induction row with
    | nil => intro v o _ _ h j; exact ⟨(h j).1, fun x hx => Int.le_of_lt ((h j).2 x hx)⟩
    | cons w row ih =>
      intro v o hnd hw h j
      rw [K1l] at hnd
      have hw0 := hw w Ki
      have key2 : ∀ (row : List Int) (o : List (List Int)), (∀ x ∈ row, 0 ≤ x ∧ x < (o.length : Int)) → row.Nodup → (∀ j : Nat, (j : Int) ∈ row → ∀ x ∈ o.getD j [], x < v) → (∀ j, Qc (o.getD j []) ∧ ∀ x ∈ o.getD j [], x ≤ v) → ∀ j, Qc ((Qa v row o).getD j []) ∧ ∀ x ∈ (Qa v row o).getD j [], x ≤ v := by
        intro row
        induction row with
        | nil => intro o _ _ _ h j; exact h j
        | cons a row ih2 =>
          intro o hin hnd hlt h
          rw [K1l] at hnd
          have ha := hin a Ki
          have ea : ((a.toNat : Nat) : Int) = a := K1n ha.1
          rw [Qa, K19]
          refine ih2 (o.set a.toNat (o.getD a.toNat [] ++ [v])) (fun x hx => by rw [Ks]; exact hin x (K8 _ hx)) hnd.2 (fun j hj x hx => ?_) (fun j => ?_)
          · have hne : a.toNat ≠ j := fun q => hnd.1 (by rw [← ea, q]; exact hj)
            rw [Qg o _ _ _ (by omega), if_neg hne] at hx
            exact hlt j (K8 _ hj) x hx
          · rw [Qg o _ _ _ (by omega)]
            split
            · refine ⟨?_, fun x hx => ?_⟩
              · rw [Qc, List.pairwise_append]
                refine ⟨(h a.toNat).1, List.pairwise_singleton _ _, fun x hx y hy => ?_⟩
                rw [Kw] at hy
                rw [hy]
                exact hlt a.toNat (by rw [ea]; exact Ki) x hx
              · rcases Kh.1 hx with hx | hx
                · exact (h a.toNat).2 x hx
                · rw [Kw] at hx
                  omega
            · exact h j
      exact key2 (w :: row) o hw (K1l.2 hnd) (fun j _ x hx => (h j).2 x hx) (fun j => ⟨(h j).1, fun x hx => Int.le_of_lt ((h j).2 x hx)⟩) j
  have key : ∀ n, n ≤ G.length → ∀ j, Qc (((List.range n).foldl (fun o (v : Nat) => Qa (v : Int) (G.getD v []) o) (List.replicate G.length [])).getD j []) ∧ ∀ x ∈ ((List.range n).foldl (fun o (v : Nat) => Qa (v : Int) (G.getD v []) o) (List.replicate G.length [])).getD j [], x < (n : Int) := by
    intro n
    induction n with
    | zero =>
      intro _ j
      have e : (List.replicate G.length ([] : List Int)).getD j [] = [] := by
        rw [K1, List.getElem?_replicate]
        split <;> rfl
      rw [List.range_zero, List.foldl_nil, e]
      exact ⟨List.Pairwise.nil, fun x hx => by cases hx⟩
    | succ n ih =>
      intro hn2 j
      have hlt : n < G.length := by omega
      have e : G.getD n [] = G[n] := by simp [K1, hlt]
      obtain ⟨t1, _, _⟩ := Q5 G hg n (by omega)
      rw [List.range_succ, List.foldl_append, K19, List.foldl_nil]
      obtain ⟨a, b⟩ := key1 (G.getD n []) (n : Int) _ (by rw [e]; exact hn _ (K4 hlt)) (fun w hw => by rw [t1]; exact hg _ (by rw [e]; exact K4 hlt) w hw) (ih (by omega)) j
      exact ⟨a, fun x hx => by have := b x hx; omega⟩
  intro l hl
  obtain ⟨j, hj, rfl⟩ := List.getElem_of_mem hl
  have e : (Q8 G).getD j [] = (Q8 G)[j] := by simp [K1, hj]
  rw [← e]
  exact (key G.length (K12 _) j).1
theorem Q1l {l : List Int} (h : Qc l) : l.Nodup := h.imp fun h => Int.ne_of_lt h
theorem Q2z {l : List Int} {i j : Nat} (h : Qc l) (hi : i < j) (hj : j < l.length) : l.getD i 0 < l.getD j 0 := by
  have e1 : l.getD i 0 = l[i]'(by omega) := by simp [K1, show i < l.length by omega]
  have e2 : l.getD j 0 = l[j] := by simp [K1, hj]
  rw [e1, e2]
  exact List.pairwise_iff_getElem.1 h i j (by omega) hj hi
theorem Q1h {n : Int} {l : List Int} (h : Qc l) (hr : ∀ x ∈ l, 0 ≤ x ∧ x < n) : Qd n l = true := by
  unfold Qd
  rw [Kz]
  intro i hi
  rw [K1v] at hi
  have e : l.getD i 0 = l[i] := by simp [K1, hi]
  have hx := hr _ (K4 hi)
  rw [K6]
  refine ⟨decide_eq_true (by rw [e]; exact hx), ?_⟩
  by_cases c : i = 0
  · rw [decide_eq_true c]; rfl
  · rw [decide_eq_true (Q2z h (show i - 1 < i by omega) hi), Bool.or_true]
theorem Q1r {n : Int} {l : List Int} (h : Qd n l = true) : Qc l := by
  unfold Qd at h
  rw [Kz] at h
  have key : ∀ (j : Nat), j < l.length → ∀ i, i < j → l.getD i 0 < l.getD j 0 := by
    intro j
    induction j with
    | zero => intro _ i hi; omega
    | succ j ih =>
      intro hj i hi
      have := h (j + 1) (K1v.2 hj)
      simp only [K6, Bool.or_eq_true, decide_eq_true_eq, Nat.add_sub_cancel] at this
      have h2 : l.getD j 0 < l.getD (j + 1) 0 := by
        rcases this.2 with q | q
        · omega
        · exact q
      by_cases c : i = j
      · rw [c]; exact h2
      · exact Int.lt_trans (ih (by omega) i (by omega)) h2
  rw [Qc, List.pairwise_iff_getElem]
  intro i j hi hj hij
  have := key j hj i hij
  simpa [K1, hi, hj] using this
/-- a good graph, turned around, is good -/
theorem Q2n {G : List (List Int)} (h : Qm G = true) : Qm (Q8 G) = true := by
  obtain ⟨h1, h2, h3⟩ := Q2g h
  obtain ⟨hG, hs⟩ := Qf h
  have hg : ∀ l ∈ G, ∀ w ∈ l, 0 ≤ w ∧ w < (G.length : Int) := hG.inn
  obtain ⟨t1, t2, t3⟩ := Q5 G hg G.length (K12 _)
  have t1' : (Q8 G).length = G.length := t1
  have t2' : tot (Q8 G) ≤ tot (G.take G.length) := t2
  rw [K1i (K12 _)] at t2'
  have hT := Q2k hG hs
  have hr := Q2a hg (fun l hl => Q1l (Q1r (h2 l hl)))
  simp only [Qm, K6, decide_eq_true_eq, Kz]
  refine ⟨by omega, fun l hl => Q1h (hr l hl) (fun x hx => ?_), by omega⟩
  rw [t1']
  exact hT.inn l hl x hx
theorem Q1v {G : List (List Int)} (h : Qm G = true) : (Q8 G).length = G.length := (Q5 G (Qf h).1.inn G.length (K12 _)).1
theorem Q24 (b : Bool × List Int) (hl : b.2.length ≤ 1048576) (hx : ∀ x ∈ b.2, 0 ≤ x ∧ x ≤ 255) : ∃ n, Fh b = some n ∧ 0 ≤ n ∧ n < 1000003 := by
  have key : ∀ (d i : Nat) (n : Int), i + d = b.2.length → 0 ≤ n ∧ n < 1000003 → ∃ k, F1k n b (b.2.length : Int) (i : Int) = some k ∧ 0 ≤ k ∧ k < 1000003 := by
    intro d
    induction d with
    | zero => intro i n hi hn; exact ⟨n, by rw [F1kE, gF (by omega)], hn⟩
    | succ d ih =>
      intro i n hi hn
      have hlt : i < b.2.length := by omega
      have hb := hx _ (K4 hlt)
      have e : IntKind.i64.wrap (IntKind.i64.wrap (31 * n) + IntKind.i64.wrap b.2[i]) = 31 * n + b.2[i] := by
        rw [wr (show -9223372036854775808 ≤ 31 * n ∧ 31 * n < 9223372036854775808 by omega), wr (show -9223372036854775808 ≤ b.2[i] ∧ b.2[i] < 9223372036854775808 by omega), wr (by omega)]
      have e2 : Int.tmod (31 * n + b.2[i]) 1000003 = (31 * n + b.2[i]) % 1000003 := Int.tmod_eq_emod_of_nonneg (by omega)
      obtain ⟨k, k1, k2⟩ := ih (i + 1) ((31 * n + b.2[i]) % 1000003) (by omega) (by omega)
      refine ⟨k, ?_, k2⟩
      rw [F1kE, gT (by omega), gT (by omega), gT (by omega), J2 b.2 _ i hlt, e, e2, up1 i (by omega), J1, k1]
  obtain ⟨k, k1, k2, k3⟩ := key b.2.length 0 0 (by omega) (by omega)
  have k1' : F1k 0 b (b.2.length : Int) 0 = _ := k1
  exact ⟨k, by rw [FhE, k1', J0], k2, k3⟩
theorem Qi (f g : Bool) (R : List (Bool × List Int)) (hl : R.length ≤ 1048576) (hr : ∀ r ∈ R, r.2.length ≤ 1048576) : Fl (f, R) (g, R) = some true := by
  have key : ∀ (d i : Nat), i + d = R.length → F23 (f, R) (g, R) (R.length : Int) (i : Int) = some (.inr ()) := by
    intro d
    induction d with
    | zero => intro i hi; rw [F23E, gF (by omega)]
    | succ d ih =>
      intro i hi
      have hlt : i < R.length := by omega
      rw [F23E, gT (by omega), gT (by omega), gT (by simp only; omega), gT (by omega), gT (by simp only; omega)]
      simp only [J2 R _ i hlt]
      have := Qb (R[i]).1 (R[i]).1 (R[i]).2 (hr _ (K4 hlt))
      have h2 : F8 R[i] R[i] = some true := this
      rw [h2, J0, K5, cond_false, up1 i (by omega), J1, ih (i + 1) (by omega)]
  have := key R.length 0 (by omega)
  have h' : F23 (f, R) (g, R) (R.length : Int) 0 = _ := this
  rw [FlE, bF (by simp), h', J0]
/-- a graph that is good: what is found from one point -/
theorem Qu {R : List (Bool × List Int)} {G : List (List Int)} (hR : R.map Prod.snd = G) (b : Bool) (h : Qm G = true) (h1 : 1 ≤ G.length) {a : Int} (ha : 0 ≤ a ∧ a < (G.length : Int)) : Fr (b, R) (false, [a]) = some ((false, Q6 G [a]), true) := by
  obtain ⟨hG, hs⟩ := Qf h
  have hsm := hG.small
  have hlen : R.length = G.length := by rw [← hR, Ky]
  have hrow : ∀ r ∈ R, r.2.length ≤ 100000 := fun r hr => by
    have := hs r.2 (by rw [← hR]; exact K21 hr)
    omega
  have eg := (Qn (b, R) hrow (by simp only; omega)).1
  simp only [hR, h] at eg
  have er : Qd (G.length : Int) [a] = true := Q1h (List.pairwise_singleton _ _) (fun x hx => by rw [Kw] at hx; rw [hx]; exact ha)
  rw [FrE, FwE, eg, J0, cond_true, Qh _ _ (by simp)]
  simp only [hlen, er, J0, K5, cond_false]
  rw [Q27 hG h1 b hR [a] (by simp) (fun w hw => by rw [Kw] at hw; rw [hw]; exact ha), J0]
theorem Q12 {m : Nat} {G : List (List Int)} (hG : Gr m G) {a : Int} (ha : 0 ≤ a ∧ a < (m : Int)) {b : Int} (hb : 0 ≤ b ∧ b < (m : Int)) : ((Q6 G [a]).any fun x => x == b) = true ↔ Way (gG G) a b := by
  have hw : ∀ w ∈ [a], 0 ≤ w ∧ w < (m : Int) := fun w hw => by rw [Kw] at hw; rw [hw]; exact ha
  rw [K11]
  constructor
  · rintro ⟨x, hx, e⟩
    have e2 : x = b := by simpa using e
    subst e2
    obtain ⟨_, u, hu, huw⟩ := (Q18 hG [a] hw x).1 hx
    rw [Kw] at hu
    rw [← hu]
    exact huw
  · intro h
    exact ⟨b, (Q18 hG [a] hw b).2 ⟨hb, a, by simp, h⟩, by simp⟩
theorem Q1g {R : List (Bool × List Int)} {G : List (List Int)} (hR : R.map Prod.snd = G) (b : Bool) (h : Qm G = true) (h1 : 1 ≤ G.length) (hfl : ∀ r ∈ R, r.1 = true → r.2 = []) {a : Int} (ha : 0 ≤ a ∧ a < (G.length : Int)) : ∃ c, F15 (b, R) a = some (c, true) ∧ F1d (b, R) a = some (c, true) := by
  obtain ⟨hG, hs⟩ := Qf h
  have hsm := hG.small
  have hlen : R.length = G.length := by rw [← hR, Ky]
  have hrow : ∀ r ∈ R, r.2.length ≤ 100000 := fun r hr => by
    have := hs r.2 (by rw [← hR]; exact K21 hr)
    omega
  obtain ⟨eg, eg2⟩ := Qn (b, R) hrow (by simp only; omega)
  simp only [hR, h] at eg eg2
  have er : Qd (G.length : Int) [a] = true := Q1h (List.pairwise_singleton _ _) (fun x hx => by rw [Kw] at hx; rw [hx]; exact ha)
  obtain ⟨q1, q2, q3⟩ := Q1i hR (k := a.toNat) (by omega)
  have hin := hG.inn _ q3
  have hsl := hs _ q3
  have hmem : R.getD a.toNat (true, []) ∈ R := by
    have e : R.getD a.toNat (true, []) = R[a.toNat] := by simp [K1, q1]
    rw [e]
    exact K4 _
  have e5 := Qx hG h1 b hR (G.getD a.toNat []) (by omega) hin (R.getD a.toNat (true, [])).1 (fun q => by rw [← q2]; exact hfl _ hmem q)
  rw [← q2] at e5
  have e5' : Fc (b, R) (R.getD a.toNat (true, [])) = _ := e5
  obtain ⟨b6, e6⟩ := Q3k hG b (R.getD a.toNat (true, [])).1 hR (G.getD a.toNat []) (by omega) hin
  rw [← q2] at e6
  have e6' : Fg (b, R) (R.getD a.toNat (true, [])) = _ := e6
  obtain ⟨z1, z2⟩ := Qp hG (G.getD a.toNat []) (by omega) hin
  rw [← q2] at z1
  refine ⟨(Q6 G (R.getD a.toNat (true, [])).2).any fun x => x == a, ?_, ?_⟩
  · rw [F15E, FwE, eg, J0, cond_true, Qh _ _ (by simp)]
    simp only [hlen, er, J0, K5, cond_false, e5']
    rw [gT ha.1, gT ha.2, Q1x _ _ (by simp only; omega), J0]
    congr 2
    congr 1
    funext x
    rw [K1y, beq_iff_eq, beq_iff_eq]
    exact eq_comm
  · rw [F1dE, eg2, J0, K5, cond_false, Q31, J0]
    simp only [hlen, e6', J0]
    rw [decide_eq_true (show 0 ≤ a ∧ a ≤ IntKind.i64.wrap ((G.length : Int) - 1) by rw [wr (by omega)]; omega), K5, cond_false, gT ha.1, gT ha.2, Q4i _ _ (by simp only; omega), J0]
theorem Q1p {R : List (Bool × List Int)} {G : List (List Int)} (hR : R.map Prod.snd = G) (b : Bool) (h : Qm G = true) (h1 : 1 ≤ G.length) : ∃ c P, Fs (b, R) = some ((c, P), true) ∧ P.length = G.length ∧ ∀ x, 0 ≤ x ∧ x < (G.length : Int) → IsL (gG G) x (P.getD x.toNat 0) := by
  obtain ⟨hG, hs⟩ := Qf h
  have hsm := hG.small
  have hlen : R.length = G.length := by rw [← hR, Ky]
  have hrow : ∀ r ∈ R, r.2.length ≤ 100000 := fun r hr => by
    have := hs r.2 (by rw [← hR]; exact K21 hr)
    omega
  obtain ⟨eg, _⟩ := Qn (b, R) hrow (by simp only; omega)
  simp only [hR, h] at eg
  obtain ⟨c, _, P, e1, _, e3, e4⟩ := Q19 h1 hG hs b b hR hR
  have egg : gOf R = gG G := by funext x; rw [Q7 hR]; rfl
  rw [egg] at e4
  exact ⟨c, P, by rw [FsE, eg, J0, K5, cond_false, e1, J0], e3, e4⟩
theorem Q3j {g : Int → List Int} {x y m k : Int} (h : IsL g x m) (h2 : IsL g y k) : m = k ↔ Scc g x y := by
  constructor
  · rintro rfl
    exact h.1.trans h2.1.symm
  · intro e
    exact (h.of e).one h2
theorem Q1q (x0 : Bool × List Int) (x1 : Bool × List Int) (w0 : WfD (.sl (.int .u8)) x0) (w1 : WfD (.sl (.int .u8)) x1) : F1r x0 x1 = some true := by
  have hlim := J6
  obtain ⟨_, _, w03⟩ := w0
  obtain ⟨_, w12, w13⟩ := w1
  have w12' : (x1.2.length : Int) ≤ 9223372036854775807 := by have : x1.2.length ≤ 9223372036854775807 := w12; omega
  rw [F1rE, F14E]
  by_cases c0 : (x0.2.length : Int) > 1048576
  · rw [gT c0, J0]; rfl
  rw [gF c0, J0, wr (by omega)]
  by_cases c1 : (x1.2.length : Int) > 1048576 - (x0.2.length : Int)
  · rw [decide_eq_true c1]; rfl
  rw [decide_eq_false c1, cond_false]
  obtain ⟨c', b, R, e1, _, hD⟩ := Q2m (x0, (0, 0)) 0 ⟨by simp only; omega, fun x hx => w03 x hx, by simp, by simp⟩ (by omega)
  have h1 := hD.one
  have h2 := hD.most
  have hrow : ∀ r ∈ R, r.2.length ≤ 100000 := fun r hr => by have := (hD.rows r hr).1; omega
  obtain ⟨g1, g2⟩ := Qn (b, R) hrow (by simp only; omega)
  simp only at g1 g2
  rw [F18E, FzE, e1, J0, J0, J0]
  simp only
  cases hgood : Qm (R.map Prod.snd) with
  | false =>
    rw [hgood] at g1 g2
    have s0 : F8 (true, []) (true, []) = some true := Qb true true [] (by simp)
    have s1 : Fl (true, []) (true, []) = some true := Qi true true [] (by simp) (by simp)
    simp only [FsE, F16E, F11E, F1gE, g1, g2, J0, Bool.not_false, cond_true, beq_self_eq_true, K5, cond_false, s0, s1]
  | true =>
    rw [hgood] at g1 g2
    obtain ⟨hG, hs⟩ := Qf hgood
    have hsm := hG.small
    have hlen : R.length = (R.map Prod.snd).length := by rw [Ky]
    obtain ⟨b1, b2, P, p1, p2, p3, p4⟩ := Q19 (m := (R.map Prod.snd).length) (by omega) hG hs b b rfl rfl
    have egg : gOf R = gG (R.map Prod.snd) := by funext x; rw [Q7 rfl]; rfl
    rw [egg] at p4
    obtain ⟨T, t1, t2, t3⟩ := Q14 hG hs b (R := R) rfl
    have hgT := Q2n hgood
    have hlT := Q1v hgood
    obtain ⟨hGT, hsT⟩ := Qf hgT
    have hTr : ∀ r ∈ T, r.2.length ≤ 1048576 := fun r hr => by
      have := hsT r.2 (by rw [← t1]; exact K21 hr)
      omega
    have hTl : T.length = R.length := by have := congrArg List.length t1; rw [Ky] at this; omega
    have hPl : P.length ≤ 1048576 := by omega
    obtain ⟨n, n1, n2, n3⟩ := Q24 x1 (by omega) (fun x hx => w13 x hx)
    have ePI : Fs (b, R) = some ((b1, P), true) := by rw [FsE, g1, J0, K5, cond_false, p1, J0]
    have ePS : F16 (b, R) = some ((b2, P), true) := by rw [F16E, g2, J0, K5, cond_false, p2, J0]
    have eTI : F11 (b, R) = some ((false, T), true) := by rw [F11E, g1, J0, K5, cond_false, t2, J0]
    have eTS : F1g (b, R) = some ((false, T), true) := by rw [F1gE, g2, J0, K5, cond_false, t3, J0]
    have hPpos : ((P.length : Int) == 0) = false := beqF (by omega)
    have hA : 0 ≤ Int.tmod n (P.length : Int) ∧ Int.tmod n (P.length : Int) < (P.length : Int) := by
      rw [Int.tmod_eq_emod_of_nonneg n2]
      exact ⟨Int.emod_nonneg _ (by omega), Int.emod_lt_of_pos _ (by omega)⟩
    have h7 : 0 ≤ Int.tdiv n 7 ∧ Int.tdiv n 7 < 1000003 := by
      rw [Int.tdiv_eq_ediv_of_nonneg n2]
      omega
    have hB : 0 ≤ Int.tmod (IntKind.i64.wrap (Int.tdiv n 7)) (P.length : Int) ∧ Int.tmod (IntKind.i64.wrap (Int.tdiv n 7)) (P.length : Int) < (P.length : Int) := by
      rw [wr (by omega), Int.tmod_eq_emod_of_nonneg h7.1]
      exact ⟨Int.emod_nonneg _ (by omega), Int.emod_lt_of_pos _ (by omega)⟩
    have s0 := Qb b1 b2 P hPl
    have s1 := Qi false false T (by omega) hTr
    simp only [ePI, ePS, eTI, eTS, g1, g2, n1, J0, beq_self_eq_true, K5, cond_false, s0, s1, hPpos]
    generalize Int.tmod n (P.length : Int) = A at hA ⊢
    generalize Int.tmod (IntKind.i64.wrap (Int.tdiv n 7)) (P.length : Int) = B at hB ⊢
    rw [p3] at hA hB
    have m1 : 1 ≤ (R.map Prod.snd).length := by omega
    have r1 := Qu (R := R) rfl b hgood m1 hA
    have r2 := Qu (R := R) rfl b hgood m1 hB
    have r3 := Qu t1 false hgT (by omega) (a := A) (by omega)
    obtain ⟨cP, P2, r4, r5, r6⟩ := Q1p t1 false hgT (by omega)
    obtain ⟨cc, r7, r8⟩ := Q1g (R := R) rfl b hgood m1 (fun r hr => (hD.rows r hr).2.2) hA
    have hw1 : ∀ w ∈ [A], 0 ≤ w ∧ w < ((R.map Prod.snd).length : Int) := fun w hw => by rw [Kw] at hw; rw [hw]; exact hA
    have hw2 : ∀ w ∈ [B], 0 ≤ w ∧ w < ((R.map Prod.snd).length : Int) := fun w hw => by rw [Kw] at hw; rw [hw]; exact hB
    have l1 := (Qp hG [A] (by simp) hw1).1
    have l2 := (Qp hG [B] (by simp) hw2).1
    have l3 := (Qp hGT [A] (by simp) (by rw [hlT]; exact hw1)).1
    have k1 := Q30 false (Q6 (R.map Prod.snd) [A]) B (by omega)
    have k2 := Q30 false (Q6 (R.map Prod.snd) [B]) A (by omega)
    have k3 := Q30 false (Q6 (Q8 (R.map Prod.snd)) [A]) B (by omega)
    have q1 := Q12 hG hA hB
    have q2 := Q12 hG hB hA
    have q3 : ((Q6 (Q8 (R.map Prod.snd)) [A]).any fun x => x == B) = true ↔ Way (gG (R.map Prod.snd)) B A := by
      rw [Q12 hGT (by rw [hlT]; exact hA) (by rw [hlT]; exact hB)]
      exact ⟨fun h => Q1j hG (hlT ▸ hGT) hA h, fun h => Q1k hG hA h⟩
    have q4 : (P.getD (Int.toNat A) 0 == P.getD (Int.toNat B) 0) = true ↔ Scc (gG (R.map Prod.snd)) A B := by
      rw [beq_iff_eq]
      exact Q3j (p4 A hA) (p4 B hB)
    have hPP : P2 = P := by
      apply List.ext_getElem (by omega)
      intro i hi1 hi2
      have a := p4 (i : Int) (by omega)
      have a2 := r6 (i : Int) (by omega)
      have sc : ∀ u v, (0 ≤ u ∧ u < ((R.map Prod.snd).length : Int)) → (0 ≤ v ∧ v < ((R.map Prod.snd).length : Int)) → (Scc (gG (Q8 (R.map Prod.snd))) u v ↔ Scc (gG (R.map Prod.snd)) u v) := fun u v hu hv =>
        ⟨fun h => ⟨Q1j hG (hlT ▸ hGT) hv h.2, Q1j hG (hlT ▸ hGT) hu h.1⟩, fun h => ⟨Q1k hG hu h.2, Q1k hG hv h.1⟩⟩
      have hi : 0 ≤ (i : Int) ∧ (i : Int) < ((R.map Prod.snd).length : Int) := by omega
      have inT : ∀ y, Way (gG (Q8 (R.map Prod.snd))) (i : Int) y → 0 ≤ y ∧ y < ((R.map Prod.snd).length : Int) := fun y hy => Way.closed (P := fun y => 0 ≤ y ∧ y < ((R.map Prod.snd).length : Int)) (fun x _ y hy => by have := Q2x hGT x y hy; omega) hy hi
      have inG : ∀ y, Way (gG (R.map Prod.snd)) (i : Int) y → 0 ≤ y ∧ y < ((R.map Prod.snd).length : Int) := fun y hy => Way.closed (P := fun y => 0 ≤ y ∧ y < ((R.map Prod.snd).length : Int)) (fun x _ y hy => Q2x hG x y hy) hy hi
      have a3 : IsL (gG (R.map Prod.snd)) (i : Int) (P2.getD (Int.toNat (i : Int)) 0) := ⟨(sc _ _ hi (inT _ a2.1.1)).1 a2.1, fun y hy => a2.2 y ((sc _ _ hi (inG _ hy.1)).2 hy)⟩
      have := a3.one a
      rw [K7, Qt hi1, Qt hi2] at this
      exact this
    subst hPP
    have s2 := Qb cP b1 P2 hPl
    have z1 : (0 : Int) ≤ A := hA.1
    have z2 : A < (P2.length : Int) := by omega
    have z3 : (0 : Int) ≤ B := hB.1
    have z4 : B < (P2.length : Int) := by omega
    simp only [r1, r2, r3, r4, r7, r8, J0, cond_true, beq_self_eq_true, gT z1, gT z2, gT z3, gT z4, k1, k2, k3, s2]
    generalize (P2.getD (Int.toNat A) 0 == P2.getD (Int.toNat B) 0) = u0 at q4 ⊢
    generalize ((Q6 (R.map Prod.snd) [A]).any fun x => x == B) = u1 at q1 ⊢
    generalize ((Q6 (R.map Prod.snd) [B]).any fun x => x == A) = u2 at q2 ⊢
    generalize ((Q6 (Q8 (R.map Prod.snd)) [A]).any fun x => x == B) = u3 at q3 ⊢
    have v1 : u0 = (u1 && u2) := by
      rw [K1y, K6, q4, q1, q2]
      exact Iff.rfl
    have v2 : u3 = u2 := by rw [K1y, q3, q2]
    subst v1 v2
    cases u1 <;> cases u3 <;> rfl

end Go.Proofs.Ytnnoohfloniinaa.R
