/- The plain law of FnShort: what the two functions compute is the same. -/
import Derived.Test.YtnnoohfloniinaaEFnShort
import Derived.Laws.MathBits
set_option linter.all false
namespace Go.Proofs.Ytnnoohfloniinaa.R
open Go.Rf
/-- The greatest word of a width. -/
def top (wide : Int) : Int := 2 ^ wide.toNat - 1
theorem Q3i {wide : Int} (h : 1 ≤ wide ∧ wide ≤ 64) : 1 ≤ top wide ∧ top wide ≤ 18446744073709551615 := by
  obtain ⟨n, rfl⟩ := Ke (show 0 ≤ wide by omega)
  have h1 := J4e (n := n) (by omega)
  have h2 : (2 : Nat) ^ 1 ≤ 2 ^ n := Nat.pow_le_pow_right (by decide) (by omega)
  have e : ((2 : Int) ^ n) = ((2 ^ n : Nat) : Int) := by simp
  simp only [top, K7, e]
  omega
theorem Q3b (n lo hi : Int) : F17 n lo hi = some (decide (lo ≤ n ∧ n ≤ hi)) := by
  rw [F17E]
  by_cases h : n ≥ lo
  · rw [gT h]; congr 1; apply decide_eq_decide.mpr; omega
  · rw [gF h]; congr 1; symm; apply decide_eq_false; omega
theorem Qz (k : IntKind) (x : Int) (n : Nat) (h : n ≤ k.bits) : bShr k x (n : Int) = x / 2 ^ n := by
  unfold bShr
  rw [show min ((n : Int)).toNat k.bits = n by simp only [K7]; omega, Int.fdiv_eq_ediv_of_nonneg _ (Int.le_of_lt (Int.pow_pos (by decide)))]
theorem Q1f {wide a : Int} (hw : 1 ≤ wide ∧ wide ≤ 64) (ha : U64 a) : bAnd .u64 a (top wide) = a % (top wide + 1) := by
  obtain ⟨n, rfl⟩ := Ke (show 0 ≤ wide by omega)
  obtain ⟨m, rfl⟩ := Ke ha.1
  have e : ((2 : Int) ^ n) = ((2 ^ n : Nat) : Int) := by simp
  have hm : m < 2 ^ 64 := by have := ha.2; simp; omega
  have hp := J4e (n := n) (by omega)
  have h0 : 0 < (2 : Nat) ^ n := Nat.two_pow_pos _
  have e2 : top ((n : Nat) : Int) = ((2 ^ n - 1 : Nat) : Int) := by
    simp only [top, K7, e]
    omega
  have e3 : top ((n : Nat) : Int) + 1 = ((2 ^ n : Nat) : Int) := by rw [e2]; omega
  rw [e3, e2, J8c m (2 ^ n - 1) hm (by simp; omega), Nat.and_two_pow_sub_one_eq_mod]
  rfl
/-- Words of a width. -/
def W5 (wide a : Int) : Prop := 0 ≤ a ∧ a ≤ top wide
theorem W5.u64 {wide a : Int} (hw : 1 ≤ wide ∧ wide ≤ 64) (h : W5 wide a) : U64 a := ⟨h.1, by have := h.2; have := Q3i hw; omega⟩
inductive TypedV (wide : Int) : List Int → List Int → Prop
  | nil : TypedV wide [] []
  | snoc {ks st : List Int} {k v : Int} : TypedV wide ks st → W5 wide v → (k = 2 → v ≤ 1) → TypedV wide (ks ++ [k]) (st ++ [v])
theorem TypedV.inv {wide : Int} {ks st : List Int} (h : TypedV wide ks st) : (ks = [] ∧ st = []) ∨ ∃ ks' st' k v, ks = ks' ++ [k] ∧ st = st' ++ [v] ∧ TypedV wide ks' st' ∧ W5 wide v ∧ (k = 2 → v ≤ 1) := by
  cases h with
  | nil => exact .inl ⟨rfl, rfl⟩
  | snoc h1 h2 h3 => exact .inr ⟨_, _, _, _, rfl, rfl, h1, h2, h3⟩
theorem TypedV.len {wide : Int} {ks st : List Int} (h : TypedV wide ks st) : ks.length = st.length := by
  induction h with
  | nil => rfl
  | snoc _ _ _ ih => simp [ih]
theorem Q2i {α ρ : Type} (l : List α) (q : α → Bool) (y : ρ) (F : Int → Option (ρ ⊕ Unit))
    (hs : ∀ (i : Nat) (h : i < l.length), F (i : Int) = bif q l[i] then some (.inl y) else F ((i + 1 : Nat) : Int)) (he : F (l.length : Int) = some (.inr ())) : F 0 = some (bif l.any q then .inl y else .inr ()) := by
  have := J4c l (fun x => !q x) (β := ρ ⊕ Unit) (.inr ()) (.inl y) F (fun i h => by rw [hs i h]; cases q l[i] <;> rfl) he
  rw [this, List.any_eq_not_all_not]
  cases (l.all fun x => !q x) <;> rfl
theorem Q2h {α : Type} (l : List α) (q : α → Bool) (F : Int → Option (Bool ⊕ Unit))
    (hs : ∀ (i : Nat) (h : i < l.length), F (i : Int) = bif !q l[i] then some (.inl false) else F ((i + 1 : Nat) : Int)) (he : F (l.length : Int) = some (.inr ())) : F 0 = some (if l.all q = true then .inr () else .inl false) := by
  have := J4c l q (β := Bool ⊕ Unit) (.inr ()) (.inl false) F (fun i h => by rw [hs i h]; cases q l[i] <;> rfl) he
  rw [this]
  cases l.all q <;> rfl
theorem Q1t (n : Nat) (q : Nat → Bool) (F : Int → Option (Bool ⊕ Unit)) (hs : ∀ (i : Nat), i < n → F (i : Int) = bif !q i then some (.inl false) else F ((i + 1 : Nat) : Int)) (he : F (n : Int) = some (.inr ())) :
    F 0 = some (if (List.range n).all q = true then .inr () else .inl false) :=
  Q2h (List.range n) q F (fun i h => by rw [List.getElem_range]; exact hs i (by simpa using h)) (by rw [List.length_range]; exact he)
/-- Do the numbers of a list rise from 0 on, below a bound? -/
def Qa (n : Int) (l : List Int) : Bool := (List.range l.length).all fun i => decide (0 ≤ l.getD i 0 ∧ l.getD i 0 < n) && (decide (i = 0) || decide (l.getD (i - 1) 0 < l.getD i 0))
theorem Q13 {n : Int} {l : List Int} (h : Qa n l = true) : ∀ x ∈ l, 0 ≤ x ∧ x < n := by
  intro x hx
  obtain ⟨i, hi, rfl⟩ := List.getElem_of_mem hx
  have := (Ky.1 h) i (K1v.2 hi)
  rw [K6, decide_eq_true_eq] at this
  have e : l.getD i 0 = l[i] := by simp [K1, hi]
  rw [e] at this
  exact this.1
theorem Qp {n : Int} {l : List Int} (h : Qa n l = true) (h0 : 0 ≤ n) : (l.length : Int) ≤ n := by
  have key : ∀ i : Nat, i < l.length → (i : Int) ≤ l.getD i 0 := by
    intro i
    induction i with
    | zero =>
      intro hi
      have := (Ky.1 h) 0 (K1v.2 hi)
      rw [K6, decide_eq_true_eq] at this
      exact this.1.1
    | succ i ih =>
      intro hi
      have := (Ky.1 h) (i + 1) (K1v.2 hi)
      rw [K6, decide_eq_true_eq, Bool.or_eq_true, decide_eq_true_eq, decide_eq_true_eq] at this
      have h2 := ih (by omega)
      rcases this.2 with h3 | h3
      · omega
      · simp only [Nat.add_sub_cancel] at h3
        omega
  by_cases hl : l.length = 0
  · omega
  · have h1 := key (l.length - 1) (by omega)
    have := (Ky.1 h) (l.length - 1) (K1v.2 (by omega))
    rw [K6, decide_eq_true_eq] at this
    have := this.1.2
    omega
theorem Q5 {α : Type} (l : List α) (z : α) (i : Nat) : l.getD (Int.toNat (i : Int)) z = l.getD i z := by rw [K7]
theorem Q12 (l : Bool × List Int) (n : Int) (hl : l.2.length ≤ 1048576) : Fd l 0 (n - 1) = some (Qa n l.2) := by
  rw [FdE, Q1t l.2.length (fun i => decide (0 ≤ l.2.getD i 0 ∧ l.2.getD i 0 < n) && (decide (i = 0) || decide (l.2.getD (i - 1) 0 < l.2.getD i 0))) (fun i => Fx l 0 (n - 1) l (l.2.length : Int) i) (fun i h => by
    rw [FxE, gT (by omega), gT (by omega), gT (by omega), Q5, Q3b, J0, up1 i (by omega), J1]
    by_cases c1 : 0 ≤ l.2.getD i 0 ∧ l.2.getD i 0 < n
    · rw [decide_eq_true (show 0 ≤ l.2.getD i 0 ∧ l.2.getD i 0 ≤ n - 1 by omega), K5, cond_false, decide_eq_true c1, K15]
      by_cases c2 : i = 0
      · rw [gF (by omega), decide_eq_true c2]; rfl
      · rw [gT (by omega), gT (by rw [wr (by omega)]; omega), gT (by rw [wr (by omega)]; omega), dn1 i (by omega) (by omega), Q5, decide_eq_false c2, Bool.false_or]
        by_cases c3 : l.2.getD (i - 1) 0 < l.2.getD i 0
        · rw [gF (by omega), decide_eq_true c3]; rfl
        · rw [gT (by omega), decide_eq_false c3]; rfl
    · rw [decide_eq_false (show ¬ (0 ≤ l.2.getD i 0 ∧ l.2.getD i 0 ≤ n - 1) by omega), decide_eq_false c1]; rfl) (by rw [FxE, gF (by omega)]), J0]
  unfold Qa
  generalize (List.range l.2.length).all _ = q
  cases q <;> rfl
theorem Qe (l : Bool × List Int) (n : Int) (hl : l.2.length ≤ 1048576) : F9 l n = some (Qa n l.2) := by
  rw [F9E, Q1t l.2.length (fun i => decide (0 ≤ l.2.getD i 0 ∧ l.2.getD i 0 < n) && (decide (i = 0) || decide (l.2.getD (i - 1) 0 < l.2.getD i 0))) (fun i => Fw l n l (l.2.length : Int) i) (fun i h => by
    rw [FwE, gT (by omega), gT (by omega), gT (by omega), Q5, up1 i (by omega), J1]
    by_cases c1 : 0 ≤ l.2.getD i 0 ∧ l.2.getD i 0 < n
    · rw [gF (by omega), gF (by omega), decide_eq_true c1, K15]
      by_cases c2 : i = 0
      · rw [gF (by omega), decide_eq_true c2]; rfl
      · rw [gT (by omega), gT (by rw [wr (by omega)]; omega), gT (by rw [wr (by omega)]; omega), dn1 i (by omega) (by omega), Q5, decide_eq_false c2, Bool.false_or]
        by_cases c3 : l.2.getD (i - 1) 0 < l.2.getD i 0
        · rw [gF (by omega), decide_eq_true c3]; rfl
        · rw [gT (by omega), decide_eq_false c3]; rfl
    · rw [decide_eq_false c1]
      by_cases c4 : l.2.getD i 0 < 0
      · rw [gT c4]; rfl
      · rw [gF c4, gT (by omega)]; rfl) (by rw [FwE, gF (by omega)]), J0]
  unfold Qa
  generalize (List.range l.2.length).all _ = q
  cases q <;> rfl
theorem Q2z : top 32 = 4294967295 := by decide
theorem Q2s {x y : Int} (hx : 0 ≤ x ∧ x < 65536) (hy : 0 ≤ y ∧ y < 65536) : Fl x y = some (0, x * y) := by
  have a1 : bShr .u64 x 32 = 0 := by rw [show (32 : Int) = ((32 : Nat) : Int) from rfl, Qz .u64 x 32 (by decide)]; exact Int.ediv_eq_zero_of_lt hx.1 (by omega)
  have a2 : bShr .u64 y 32 = 0 := by rw [show (32 : Int) = ((32 : Nat) : Int) from rfl, Qz .u64 y 32 (by decide)]; exact Int.ediv_eq_zero_of_lt hy.1 (by omega)
  have b1 : bAnd .u64 x 4294967295 = x := by rw [← Q2z, Q1f (by omega) ⟨hx.1, by omega⟩, Q2z, Int.emod_eq_of_lt hx.1 (by omega)]
  have b2 : bAnd .u64 y 4294967295 = y := by rw [← Q2z, Q1f (by omega) ⟨hy.1, by omega⟩, Q2z, Int.emod_eq_of_lt hy.1 (by omega)]
  have h0 : 0 ≤ x * y := Int.mul_nonneg hx.1 hy.1
  have h1 : x * y < 65536 * 65536 := by
    have := Int.mul_le_mul (show x ≤ 65535 by omega) (show y ≤ 65535 by omega) hy.1 (by omega)
    omega
  have w0 : IntKind.u64.wrap 0 = 0 := wru (by omega)
  have w1 : IntKind.u64.wrap (x * y) = x * y := wru (by omega)
  have s1 : bShr .u64 (x * y) 32 = 0 := by rw [show (32 : Int) = ((32 : Nat) : Int) from rfl, Qz .u64 _ 32 (by decide)]; exact Int.ediv_eq_zero_of_lt h0 (by omega)
  have s0 : bShr .u64 0 32 = 0 := by decide
  have c0 : bAnd .u64 0 4294967295 = 0 := by decide
  rw [FlE, FvE, a1, a2, b1, b2, w1, s1]
  simp only [Int.zero_mul, Int.mul_zero, Int.add_zero, w0, s0, c0, J0]
theorem Q2b {α : Type} (a b : Nat) (x : α) : List.replicate (a + b) x = List.replicate a x ++ List.replicate b x := by
  rw [List.replicate_append_replicate]
theorem Q27 (l : List Int) (m j : Nat) (h : j ≤ m) : (List.replicate m l).flatten.take (j * l.length) = (List.replicate j l).flatten := by
  obtain ⟨d, rfl⟩ := Nat.exists_eq_add_of_le h
  rw [Q2b, List.flatten_append, List.take_left']
  simp
theorem Q2c (l : List Int) (c : Nat) (hl : 0 < l.length) (hc : c * l.length ≤ 10000000) (d : Nat) : ∀ (m : Nat) (b : Bool) (rest : List Int), m + d = c → 1 ≤ m → rest.length = d * l.length →
    F1w (b, (List.replicate m l).flatten ++ rest) ((m * l.length : Nat) : Int) = some (b, (List.replicate c l).flatten) := by
  induction d using Nat.strongRecOn with
  | _ d ih =>
    intro m b rest hm h1 hr
    have e0 : ((List.replicate m l).flatten).length = m * l.length := by simp
    have e1 : ((List.replicate m l).flatten ++ rest).length = c * l.length := by rw [Kj, e0, hr, ← hm, K18]
    rw [F1wE]
    simp only [e1]
    by_cases hd : d = 0
    · subst hd
      have : rest = [] := K20 (by simpa using hr)
      subst this
      obtain rfl : m = c := by omega
      rw [gF (by omega), K1k]
    · have hlt : m * l.length < c * l.length := (Nat.mul_lt_mul_right hl).2 (by omega)
      rw [gT (by omega), gT (by omega), gT (by omega), gT (by omega), gT (by omega), J1, K7, List.take_left' e0, Kg, e0]
      have hsub : c * l.length - m * l.length = d * l.length := by rw [← Nat.sub_mul]; congr 1; omega
      have hmin : min (m * l.length) (d * l.length) = (min m d) * l.length := by
        rcases Nat.le_total m d with h | h
        · rw [Nat.min_eq_left h, Nat.min_eq_left (Kp _ h)]
        · rw [Nat.min_eq_right h, Nat.min_eq_right (Kp _ h)]
      have htake : ((List.replicate m l).flatten).take (d * l.length) = (List.replicate (min m d) l).flatten := by
        rcases Nat.le_total m d with h | h
        · rw [Nat.min_eq_left h, K1i (by rw [e0]; exact Kp _ h)]
        · rw [Nat.min_eq_right h, Q27 l m d h]
      rw [hsub, hmin, htake, ← Kk, ← List.flatten_append, ← Q2b, List.drop_append, K9 (by rw [e0]; exact Nat.le_add_right _ _), Kw, e0, show m * l.length + min m d * l.length - m * l.length = min m d * l.length by omega]
      have hadd : m * l.length + min m d * l.length = (m + min m d) * l.length := by rw [K18]
      have hle : (m + min m d) * l.length ≤ c * l.length := Kp _ (by omega)
      rw [wr (by omega), show ((m * l.length : Nat) : Int) + ((min m d * l.length : Nat) : Int) = (((m + min m d) * l.length : Nat) : Int) by rw [← hadd]; omega]
      exact ih (d - min m d) (by omega) (m + min m d) b (rest.drop (min m d * l.length)) (by omega) (by omega) (by rw [List.length_drop, hr, ← Nat.sub_mul])
theorem Q22 (l : Bool × List Int) (c : Nat) (hl : 0 < l.2.length) (hl2 : l.2.length ≤ 1000) (h1 : 1 ≤ c) (hc : c ≤ 10000) : Fh l (c : Int) = some (false, (List.replicate c l.2).flatten) := by
  have hlim := J6
  have hm : c * l.2.length ≤ 10000 * 1000 := Nat.mul_le_mul hc hl2
  have hmul : (l.2.length : Int) * (c : Int) = ((c * l.2.length : Nat) : Int) := by rw [Int.natCast_mul, Int.mul_comm]
  have e := Q2c l.2 c hl (by omega) (c - 1) 1 false ((List.replicate (c * l.2.length) (0 : Int)).drop l.2.length) (by omega) (by omega) (by
    rw [List.length_drop, K24, Nat.sub_mul, Nat.one_mul])
  have hle : l.2.length ≤ c * l.2.length := by
    have := Kp l.2.length h1
    omega
  have e1 : l.2.take (List.replicate (c * l.2.length) (0 : Int)).length = l.2 := by rw [K24, K1i hle]
  have e2 : min l.2.length (List.replicate (c * l.2.length) (0 : Int)).length = l.2.length := by rw [K24]; omega
  rw [FhE, gF (by omega), wru (by omega), wru (by omega), Q2s (by omega) (by omega), J0]
  simp only [hmul]
  rw [gF (by omega), gF (by omega), wr (by omega), gT (by omega), gT (by omega), gT (by omega), gT (by omega), K7, e1, e2]
  have e' : F1w (false, l.2 ++ (List.replicate (c * l.2.length) (0 : Int)).drop l.2.length) (l.2.length : Int) = some (false, (List.replicate c l.2).flatten) := by
    simpa using e
  rw [e', J0]
/-- a number put into its place in a rising list, unless it is there -/
def insL (n : Int) : List Int → List Int
  | [] => [n]
  | x :: l => if x < n then x :: insL n l else if x = n then x :: l else n :: x :: l
def Qv (l : List Int) : Prop := l.Pairwise (· < ·)
theorem Q1v (n : Int) (l : List Int) : ∀ x, x ∈ insL n l ↔ x = n ∨ x ∈ l := by
  induction l with
  | nil => intro x; simp [insL]
  | cons y l ih =>
    intro x
    unfold insL
    split
    · rw [Kd, ih, Kd]
      constructor
      · rintro (h | h | h)
        · exact .inr (.inl h)
        · exact .inl h
        · exact .inr (.inr h)
      · rintro (h | h | h)
        · exact .inr (.inl h)
        · exact .inl h
        · exact .inr (.inr h)
    · split
      · rename_i h1 h2
        constructor
        · exact .inr
        · rintro (h | h)
          · rw [h, ← h2]; exact Ki
          · exact h
      · rw [Kd]
theorem Q1l (n : Int) (l : List Int) (h : Qv l) : Qv (insL n l) := by
  induction l with
  | nil => exact List.pairwise_singleton _ _
  | cons y l ih =>
    obtain ⟨h1, h2⟩ := List.pairwise_cons.1 h
    unfold insL
    split
    · rename_i c
      refine List.pairwise_cons.2 ⟨fun x hx => ?_, ih h2⟩
      rcases (Q1v n l x).1 hx with rfl | hx
      · exact c
      · exact h1 x hx
    · split
      · exact h
      · rename_i c1 c2
        refine List.pairwise_cons.2 ⟨fun x hx => ?_, h⟩
        rcases Kd.1 hx with rfl | hx
        · omega
        · have := h1 x hx
          omega
def Qb (n : Int) (l : List Int) : Nat := (l.takeWhile fun x => decide (x < n)).length
theorem Q30 (n : Int) (l : List Int) : Qb n l ≤ l.length := by
  unfold Qb
  exact (List.takeWhile_sublist _).length_le
theorem Q3a (n : Int) (l : List Int) : insL n l = if Qb n l < l.length ∧ l.getD (Qb n l) 0 = n then l else l.take (Qb n l) ++ n :: l.drop (Qb n l) := by
  induction l with
  | nil => rfl
  | cons x l ih =>
    unfold insL
    by_cases h : x < n
    · have e : Qb n (x :: l) = Qb n l + 1 := by simp [Qb, h]
      rw [if_pos h, ih, e]
      by_cases c : Qb n l < l.length ∧ l.getD (Qb n l) 0 = n
      · rw [if_pos c, if_pos ⟨by simp; omega, by simpa using c.2⟩]
      · rw [if_neg c, if_neg (fun hh => c ⟨by have := hh.1; simp at this; omega, by simpa using hh.2⟩)]
        rfl
    · have e : Qb n (x :: l) = 0 := by simp [Qb, h]
      rw [if_neg h, e]
      by_cases c : x = n
      · rw [if_pos c, if_pos ⟨by simp, by simpa using c⟩]
      · rw [if_neg c, if_neg (fun hh => c (by simpa using hh.2))]
        rfl
/-- where the search for a place stops -/
theorem Q24 (n : Int) (l : List Int) (d : Nat) : ∀ i : Nat, i + d = l.length → (i < l.length ∧ l.getD i 0 < n → Qb n (l.drop i) = Qb n (l.drop (i + 1)) + 1) ∧ (¬ (i < l.length ∧ l.getD i 0 < n) → Qb n (l.drop i) = 0) := by
  intro i hi
  constructor
  · rintro ⟨h1, h2⟩
    have e : l.getD i 0 = l[i] := by simp [K1, h1]
    rw [e] at h2
    rw [K3 h1]
    unfold Qb
    rw [List.takeWhile_cons, if_pos (by simpa using h2), Kq]
  · intro h
    by_cases h1 : i < l.length
    · have e : l.getD i 0 = l[i] := by simp [K1, h1]
      have h2 : ¬ l[i] < n := fun hh => h ⟨h1, by rw [e]; exact hh⟩
      rw [K3 h1]
      unfold Qb
      rw [List.takeWhile_cons, if_neg (by simpa using h2)]
      rfl
    · rw [K9 (by omega)]
      rfl
theorem Q2r (b : Bool) (l : List Int) (n : Int) (hl : l.length ≤ 1048576) (d : Nat) : ∀ i : Nat, i + d = l.length → F1n (b, l) n (i : Int) = some ((i + Qb n (l.drop i) : Nat) : Int) := by
  induction d with
  | zero =>
    intro i hi
    rw [F1nE, gF (by simp only; omega), K9 (by omega)]
    rfl
  | succ d ih =>
    intro i hi
    obtain ⟨h1, h2⟩ := Q24 n l (d + 1) i hi
    rw [F1nE, gT (by simp only; omega), gT (by omega), gT (by simp only; omega), Q5, up1 i (by omega), J1]
    by_cases c : l.getD i 0 < n
    · rw [gT c, ih (i + 1) (by omega), h1 ⟨by omega, c⟩]
      congr 2
      omega
    · rw [gF c, h2 (fun h => c h.2)]
      rfl
theorem Q1k (n : Int) (l : List Int) : (insL n l).length ≤ l.length + 1 := by
  induction l with
  | nil => simp [insL]
  | cons x l ih =>
    unfold insL
    split
    · simp only [Kq]; omega
    · split <;> simp
theorem Q34 (b : Bool) (l : List Int) (n : Int) (hl : l.length ≤ 1000000) : ∃ f, Ff (b, l) n = some (f, insL n l) ∧ (f = true → b = true ∧ l ≠ []) := by
  have hlim := J6
  have h := Q2r b l n (by omega) l.length 0 (by omega)
  rw [Kg, K1g] at h
  have h' : F1n (b, l) n 0 = _ := h
  have hk := Q30 n l
  rw [FfE, h', J0, Q3a]
  generalize Qb n l = k at hk
  have hfin : ∀ (x : Option (Bool × List Int)), x = (bif decide (0 ≤ (k : Int)) then
      bif decide ((k : Int) ≤ ((b, l).2.length : Int)) then
      bif decide (([] : List Int).length + (((b, l).2.take (Int.toNat (k : Int))).drop 0).length ≤ lim) then
      bif decide (([] ++ (((b, l).2.take (Int.toNat (k : Int))).drop 0)).length + [n].length ≤ lim) then
      bif decide (0 ≤ (k : Int)) then
      bif decide ((k : Int) ≤ ((b, l).2.length : Int)) then
      bif decide ((([] ++ (((b, l).2.take (Int.toNat (k : Int))).drop 0)) ++ [n]).length + (((b, l).2.take (b, l).2.length).drop (Int.toNat (k : Int))).length ≤ lim) then
      some (false, ((([] ++ (((b, l).2.take (Int.toNat (k : Int))).drop 0)) ++ [n]) ++ (((b, l).2.take (b, l).2.length).drop (Int.toNat (k : Int)))))
      else none else none else none else none else none else none else none) → x = some (false, l.take k ++ n :: l.drop k) := by
    rintro x rfl
    rw [gT (by omega), gT (by simp only; omega), gT (by simp; omega), gT (by simp; omega), gT (by omega), gT (by simp only; omega), gT (by simp; omega)]
    simp
  by_cases c : k < l.length
  · rw [gT (by simp only; omega), gT (by omega), gT (by simp only; omega), Q5]
    by_cases c2 : l.getD k 0 = n
    · rw [bT (by rw [beq_iff_eq]; exact c2), if_pos ⟨c, c2⟩]
      exact ⟨b, rfl, fun h => ⟨h, fun e => by rw [e] at c; simp at c⟩⟩
    · rw [bF (beqF c2), if_neg (fun h => c2 h.2)]
      exact ⟨false, hfin _ rfl, by simp⟩
  · rw [gF (by simp only; omega), if_neg (fun h => c h.1)]
    exact ⟨false, hfin _ rfl, by simp⟩
def negs (s : List Int) : Nat := s.countP fun x => decide (x < 0)
/-- an arrow from k to w is followed -/
def Q3 (k : Nat) (st : List Int × List Int) (w : Int) : List Int × List Int := if st.1.getD w.toNat 0 < 0 then (st.1.set w.toNat (st.1.getD k 0 + 1), st.2 ++ [w]) else st
def bfsL (G : List (List Int)) : Nat → List Int → List Int → List Int
  | 0, s, _ => s
  | _ + 1, s, [] => s
  | n + 1, s, k :: q => bfsL G n ((G.getD k.toNat []).foldl (Q3 k.toNat) (s, q)).1 ((G.getD k.toNat []).foldl (Q3 k.toNat) (s, q)).2
structure BInv (m : Nat) (s q : List Int) : Prop where
  len : s.length = m
  low : ∀ e ∈ s, -1 ≤ e
  high : ∀ e ∈ s, e + 1 + (negs s : Int) ≤ m
  que : ∀ w ∈ q, (0 ≤ w ∧ w < (m : Int)) ∧ 0 ≤ s.getD w.toNat 0
theorem Q0 (s : List Int) (i j : Nat) (a : Int) (hi : i < s.length) : (s.set i a).getD j 0 = if i = j then a else s.getD j 0 := by
  rw [K1, List.getElem?_set, K1]
  by_cases h : i = j
  · subst h; simp [hi]
  · simp [h]
theorem Qh {s : List Int} {i : Nat} (h : i < s.length) : s.getD i 0 ∈ s := by
  have e : s.getD i 0 = s[i] := by simp [K1, h]
  rw [e]
  exact K4 h
theorem Qs (s : List Int) : negs s ≤ s.length := List.countP_le_length
theorem Qm {m k : Nat} {s q : List Int} (h : BInv m s q) (hk : k < m) (hk2 : 0 ≤ s.getD k 0) {w : Int} (hw : 0 ≤ w ∧ w < (m : Int)) :
    BInv m (Q3 k (s, q) w).1 (Q3 k (s, q) w).2 ∧ (Q3 k (s, q) w).1.getD k 0 = s.getD k 0 ∧ 2 * negs (Q3 k (s, q) w).1 + (Q3 k (s, q) w).2.length ≤ 2 * negs s + q.length := by
  have hlen := h.len
  unfold Q3
  by_cases c : s.getD w.toNat 0 < 0
  · simp only [if_pos c]
    have hwl : w.toNat < s.length := by omega
    have hws : s[w.toNat] < 0 := by
      have e : s.getD w.toNat 0 = s[w.toNat] := by simp [K1, hwl]
      omega
    have hn : negs (s.set w.toNat (s.getD k 0 + 1)) + 1 = negs s := by
      unfold negs
      rw [List.countP_set hwl, if_pos (decide_eq_true hws), if_neg (by simp only [decide_eq_true_eq]; omega)]
      have : 0 < s.countP fun x => decide (x < 0) := List.countP_pos_iff.2 ⟨_, K4 hwl, decide_eq_true hws⟩
      omega
    have hkw : w.toNat ≠ k := by
      rintro rfl
      omega
    have hkm := Qh (s := s) (i := k) (by omega)
    refine ⟨⟨by rw [Ks]; exact hlen, fun e he => ?_, fun e he => ?_, fun x hx => ?_⟩, ?_, ?_⟩
    · rcases List.mem_or_eq_of_mem_set he with he | rfl
      · exact h.low e he
      · omega
    · rcases List.mem_or_eq_of_mem_set he with he | rfl
      · have := h.high e he
        omega
      · have := h.high _ hkm
        omega
    · rw [Q0 s _ _ _ hwl]
      rcases Kh.1 hx with hx | hx
      · obtain ⟨h1, h2⟩ := h.que x hx
        refine ⟨h1, ?_⟩
        split <;> omega
      · rw [Kx] at hx
        subst hx
        exact ⟨hw, by rw [if_pos rfl]; omega⟩
    · rw [Q0 s _ _ _ hwl, if_neg hkw]
    · rw [Kj, K25]
      omega
  · simp only [if_neg c]
    exact ⟨h, trivial, K12 _⟩
theorem Qo {m k : Nat} (hk : k < m) (ws : List Int) : ∀ {s q : List Int}, BInv m s q → 0 ≤ s.getD k 0 → (∀ w ∈ ws, 0 ≤ w ∧ w < (m : Int)) →
    BInv m (ws.foldl (Q3 k) (s, q)).1 (ws.foldl (Q3 k) (s, q)).2 ∧ 2 * negs (ws.foldl (Q3 k) (s, q)).1 + (ws.foldl (Q3 k) (s, q)).2.length ≤ 2 * negs s + q.length := by
  induction ws with
  | nil => intro s q h _ _; exact ⟨h, K12 _⟩
  | cons w ws ih =>
    intro s q h h2 hw
    obtain ⟨g1, g2, g3⟩ := Qm h hk h2 (hw w Ki)
    rw [K19]
    obtain ⟨i1, i2⟩ := ih (s := (Q3 k (s, q) w).1) (q := (Q3 k (s, q) w).2) g1 (by rw [g2]; exact h2) fun x hx => hw x (K8 _ hx)
    exact ⟨i1, K11 i2 g3⟩
/-- a graph's rows, whatever their marks of nil -/
structure Gr (m : Nat) (G : List (List Int)) : Prop where
  len : G.length = m
  inn : ∀ l ∈ G, ∀ w ∈ l, 0 ≤ w ∧ w < (m : Int)
  short : ∀ l ∈ G, l.length ≤ 20000000
  small : m ≤ 10000
theorem Qt {G : List (List Int)} {R : List (Bool × List Int)} (h : R.map Prod.snd = G) {k : Nat} (hk : k < G.length) : k < R.length ∧ (R.getD k (true, [])).2 = G.getD k [] ∧ G.getD k [] ∈ G := by
  subst h
  have hk' : k < R.length := by simpa using hk
  refine ⟨hk', ?_, ?_⟩
  · simp [K1, hk']
  · have e : (R.map Prod.snd).getD k [] = (R.map Prod.snd)[k] := by simp [K1, hk']
    rw [e]
    exact K4 _
theorem Q1e {m : Nat} (g : Bool × List (Bool × List Int)) (b ob : Bool) (hd : Int) (hhd : 0 ≤ hd ∧ hd < (m : Int)) (r : Bool × List Int) (hr : r.2.length ≤ 20000000) (hw : ∀ w ∈ r.2, 0 ≤ w ∧ w < (m : Int)) (hm : m ≤ 10000) (d : Nat) : ∀ (i : Nat) (s q : List Int), i + d = r.2.length → BInv m s q → 0 ≤ s.getD hd.toNat 0 → q.length + d ≤ 200000000 → ∀ ob, ∃ ob',
    Fu g (b, s) (ob, hd :: q) r (r.2.length : Int) (i : Int) = some ((b, ((r.2.drop i).foldl (Q3 hd.toNat) (s, q)).1), (ob', hd :: ((r.2.drop i).foldl (Q3 hd.toNat) (s, q)).2)) := by
  have hlim := J6
  induction d with
  | zero =>
    intro i s q hi hI hk hq ob
    rw [FuE, gF (by omega), K9 (by omega)]
    exact ⟨ob, rfl⟩
  | succ d ih =>
    intro i s q hi hI hk hq ob
    have hlt : i < r.2.length := by omega
    have hx := hw _ (K4 hlt)
    obtain ⟨g1, g2, g3⟩ := Qm hI (show hd.toNat < m by omega) hk hx
    have hlen := hI.len
    have hh := hI.high _ (Qh (s := s) (i := hd.toNat) (by omega))
    rw [FuE, gT (by omega), gT (by omega), gT (by omega), J2 r.2 _ i hlt, gT hx.1, gT (by simp only; omega), up1 i (by omega), K3 hlt, K19]
    simp only [List.getD_cons_zero]
    by_cases c : s.getD (Int.toNat r.2[i]) 0 < 0
    · have e : Q3 hd.toNat (s, q) r.2[i] = (s.set (Int.toNat r.2[i]) (s.getD hd.toNat 0 + 1), q ++ [r.2[i]]) := by unfold Q3; exact if_pos c
      rw [e] at g1 g2 g3
      obtain ⟨ob', g⟩ := ih (i + 1) _ _ (by omega) g1 (by rw [g2]; exact hk) (by simp; omega) (ob && false)
      rw [gT c, gT (by simp), gT hhd.1, gT (by omega), gT hx.1, gT (by omega), gT (by simp; omega), wr (by omega), J1, e]
      exact ⟨ob', g⟩
    · have e : Q3 hd.toNat (s, q) r.2[i] = (s, q) := by unfold Q3; exact if_neg c
      obtain ⟨ob', g⟩ := ih (i + 1) s q (by omega) hI hk (by omega) ob
      rw [gF c, J1, e]
      exact ⟨ob', g⟩
theorem Q3g {m : Nat} (g : Bool × List (Bool × List Int)) (b : Bool) (hd : Int) (hhd : 0 ≤ hd ∧ hd < (m : Int)) (r : Bool × List Int) (hr : r.2.length ≤ 20000000) (hw : ∀ w ∈ r.2, 0 ≤ w ∧ w < (m : Int)) (hm : m ≤ 10000) (d : Nat) : ∀ (i : Nat) (s q : List Int), i + d = r.2.length → BInv m s q → 0 ≤ s.getD hd.toNat 0 → q.length + d ≤ 200000000 → ∀ ob, ∃ ob',
    F14 g (b, s) (ob, q) hd r (r.2.length : Int) (i : Int) = some ((b, ((r.2.drop i).foldl (Q3 hd.toNat) (s, q)).1), (ob', ((r.2.drop i).foldl (Q3 hd.toNat) (s, q)).2)) := by
  have hlim := J6
  induction d with
  | zero =>
    intro i s q hi hI hk hq ob
    rw [F14E, gF (by omega), K9 (by omega)]
    exact ⟨ob, rfl⟩
  | succ d ih =>
    intro i s q hi hI hk hq ob
    have hlt : i < r.2.length := by omega
    have hx := hw _ (K4 hlt)
    obtain ⟨g1, g2, g3⟩ := Qm hI (show hd.toNat < m by omega) hk hx
    have hlen := hI.len
    have hh := hI.high _ (Qh (s := s) (i := hd.toNat) (by omega))
    rw [F14E, gT (by omega), gT (by omega), gT (by omega), J2 r.2 _ i hlt, gT hx.1, gT (by simp only; omega), up1 i (by omega), K3 hlt, K19]
    simp only
    by_cases c : s.getD (Int.toNat r.2[i]) 0 < 0
    · have e : Q3 hd.toNat (s, q) r.2[i] = (s.set (Int.toNat r.2[i]) (s.getD hd.toNat 0 + 1), q ++ [r.2[i]]) := by unfold Q3; exact if_pos c
      rw [e] at g1 g2 g3
      obtain ⟨ob', g⟩ := ih (i + 1) _ _ (by omega) g1 (by rw [g2]; exact hk) (by simp; omega) (ob && false)
      rw [gT c, gT hhd.1, gT (by omega), gT hx.1, gT (by omega), gT (by simp; omega), wr (by omega), J1, e]
      exact ⟨ob', g⟩
    · have e : Q3 hd.toNat (s, q) r.2[i] = (s, q) := by unfold Q3; exact if_neg c
      obtain ⟨ob', g⟩ := ih (i + 1) s q (by omega) hI hk (by omega) ob
      rw [gF c, J1, e]
      exact ⟨ob', g⟩
theorem Q10 {m : Nat} {G : List (List Int)} (hG : Gr m G) (gb gb2 : Bool) {R R2 : List (Bool × List Int)} (hR : R.map Prod.snd = G) (hR2 : R2.map Prod.snd = G) (n : Nat) : ∀ (s q : List Int) (b b2 ob ob2 : Bool), BInv m s q → 2 * negs s + q.length ≤ n → n ≤ 20000000 →
    F1c (gb, R) (b, s) (ob, q) = some (b, bfsL G n s q) ∧ F1h (gb2, R2) (b2, s) (ob2, q) = some (b2, bfsL G n s q) ∧ BInv m (bfsL G n s q) [] := by
  induction n with
  | zero =>
    intro s q b b2 ob ob2 hI hn _
    have : q = [] := List.length_eq_zero_iff.1 (by omega)
    subst this
    exact ⟨by rw [F1cE, gF (by simp)]; rfl, by rw [F1hE, gF (by simp)]; rfl, hI⟩
  | succ n ih =>
    intro s q b b2 ob ob2 hI hn hn2
    cases q with
    | nil => exact ⟨by rw [F1cE, gF (by simp)]; rfl, by rw [F1hE, gF (by simp)]; rfl, hI⟩
    | cons k q =>
      obtain ⟨hk1, hk2⟩ := hI.que k Ki
      have hI' : BInv m s q := ⟨hI.len, hI.low, hI.high, fun w hw => hI.que w (K8 _ hw)⟩
      have hkG : k.toNat < G.length := by rw [hG.len]; omega
      obtain ⟨r1, r2, r3⟩ := Qt hR hkG
      obtain ⟨r4, r5, _⟩ := Qt hR2 hkG
      have hin := hG.inn _ r3
      have hsh := hG.short _ r3
      have hsm := hG.small
      obtain ⟨v1, v2⟩ := Qo (show k.toNat < m by omega) (G.getD k.toNat []) hI' hk2 hin
      obtain ⟨i1, i2, i3⟩ := ih ((G.getD k.toNat []).foldl (Q3 k.toNat) (s, q)).1 ((G.getD k.toNat []).foldl (Q3 k.toNat) (s, q)).2 b b2 ob ob2 v1 (by simp only [Kq] at hn; omega) (by omega)
      simp only [Kq] at hn
      refine ⟨?_, ?_, i3⟩
      · obtain ⟨ob', e⟩ := Q1e (m := m) (gb, R) b ob k hk1 (R.getD k.toNat (true, [])) (by rw [r2]; exact hsh) (by rw [r2]; exact hin) hsm (R.getD k.toNat (true, [])).2.length 0 s q (by omega) hI' hk2 (by rw [r2]; omega) ob
        rw [r2, Kg] at e
        have e' : Fu (gb, R) (b, s) (ob, k :: q) (R.getD k.toNat (true, [])) ((G.getD k.toNat []).length : Int) 0 = _ := e
        rw [F1cE, gT (by simp), gT (by simp)]
        simp only [List.getD_cons_zero]
        rw [gT hk1.1, gT (by omega), r2, e', J0, gT (by simp; omega), J1]
        have et : ∀ (l : List Int), ((k :: l).take (k :: l).length).drop 1 = l := fun l => by simp
        simp only [et]
        obtain ⟨j1, _, _⟩ := ih ((G.getD k.toNat []).foldl (Q3 k.toNat) (s, q)).1 ((G.getD k.toNat []).foldl (Q3 k.toNat) (s, q)).2 b b2 ob' ob2 v1 (by omega) (by omega)
        exact j1
      · obtain ⟨ob', e⟩ := Q3g (m := m) (gb2, R2) b2 k hk1 (R2.getD k.toNat (true, [])) (by rw [r5]; exact hsh) (by rw [r5]; exact hin) hsm (R2.getD k.toNat (true, [])).2.length 0 s q (by omega) hI' hk2 (by rw [r5]; omega) ob2
        rw [r5, Kg] at e
        have e' : F14 (gb2, R2) (b2, s) (ob2, q) k (R2.getD k.toNat (true, [])) ((G.getD k.toNat []).length : Int) 0 = _ := e
        have et : ((k :: q).take (k :: q).length).drop 1 = q := by simp
        rw [F1hE, gT (by simp), gT (by simp), gT (by simp; omega)]
        simp only [List.getD_cons_zero, et]
        rw [gT hk1.1, gT (by omega), r5, e', J0, J1]
        obtain ⟨_, j2, _⟩ := ih ((G.getD k.toNat []).foldl (Q3 k.toNat) (s, q)).1 ((G.getD k.toNat []).foldl (Q3 k.toNat) (s, q)).2 b b2 ob ob' v1 (by omega) (by omega)
        exact j2
/-- the marks with which the search begins -/
def far0 (m : Nat) (l : List Int) : List Int := l.foldl (fun s w => s.set w.toNat 0) (List.replicate m (-1))
def farL (G : List (List Int)) (l : List Int) : List Int := bfsL G (2 * G.length + l.length) (far0 G.length l) l
theorem Qj (m : Nat) (l : List Int) (hl : ∀ w ∈ l, 0 ≤ w ∧ w < (m : Int)) : BInv m (far0 m l) l := by
  have key : ∀ (l : List Int) (s : List Int) (done : List Int), (∀ w ∈ l, 0 ≤ w ∧ w < (m : Int)) → s.length = m → (∀ e ∈ s, e = -1 ∨ e = 0) → (∀ w ∈ done, (0 ≤ w ∧ w < (m : Int)) ∧ 0 ≤ s.getD w.toNat 0) → (l.foldl (fun s w => s.set w.toNat 0) s).length = m ∧ (∀ e ∈ l.foldl (fun s w => s.set w.toNat 0) s, e = -1 ∨ e = 0) ∧ ∀ w, w ∈ done ∨ w ∈ l → (0 ≤ w ∧ w < (m : Int)) ∧ 0 ≤ (l.foldl (fun s w => s.set w.toNat 0) s).getD w.toNat 0 := by
    intro l
    induction l with
    | nil => intro s done _ h1 h2 h3; exact ⟨h1, h2, fun w hw => h3 w (hw.resolve_right (by simp))⟩
    | cons a l ih =>
      intro s done hw h1 h2 h3
      have ha := hw a Ki
      rw [K19]
      obtain ⟨g1, g2, g3⟩ := ih (s.set a.toNat 0) (a :: done) (fun w h => hw w (K8 _ h)) (by rw [Ks]; exact h1) (fun e he => by
        rcases List.mem_or_eq_of_mem_set he with he | rfl
        · exact h2 e he
        · exact .inr rfl) (fun w hwd => by
        rw [Q0 s _ _ _ (by omega)]
        rcases Kd.1 hwd with rfl | hwd
        · exact ⟨ha, by rw [if_pos rfl]; omega⟩
        · obtain ⟨q1, q2⟩ := h3 w hwd
          exact ⟨q1, by split <;> omega⟩)
      refine ⟨g1, g2, fun w hw2 => g3 w ?_⟩
      rcases hw2 with h | h
      · exact .inl (K8 _ h)
      · rcases Kd.1 h with rfl | h
        · exact .inl Ki
        · exact .inr h
  obtain ⟨g1, g2, g3⟩ := key l (List.replicate m (-1)) [] hl (by simp) (fun e he => .inl (List.eq_of_mem_replicate he)) (by simp)
  have hn := Qs (far0 m l)
  refine ⟨g1, fun e he => by rcases g2 e he with h | h <;> omega, fun e he => ?_, fun w hw => g3 w (.inr hw)⟩
  have e1 : (far0 m l).length = m := g1
  rcases g2 e he with h | h
  · omega
  · have hne : negs (far0 m l) ≠ (far0 m l).length := fun q => by
      have := List.countP_eq_length.1 q e he
      simp only [decide_eq_true_eq] at this
      omega
    omega
theorem Q1d (g : Bool × List (Bool × List Int)) (b : Bool) (op : Bool × List Int) (m : Nat) (l : Bool × List Int) (hl : l.2.length ≤ 1048576) (hw : ∀ w ∈ l.2, 0 ≤ w ∧ w < (m : Int)) (s : List Int) (hs : s.length = m) : F1i g (b, s) op l (l.2.length : Int) 0 = some (b, l.2.foldl (fun s w => s.set w.toNat 0) s) :=
  Jx l.2 (fun (s : List Int) w => s.set w.toNat 0) (fun s => (b, s)) (fun s i => F1i g (b, s) op l (l.2.length : Int) i) (fun _ s => s.length = m) (fun i h s hs => by
    have hx := hw _ (K4 h)
    refine ⟨?_, by rw [Ks]; exact hs⟩
    rw [F1iE, gT (by omega), gT (by omega), gT (by omega), J2 l.2 _ i h, gT hx.1, gT (by simp only; omega), up1 i (by omega), J1]) (fun s _ => by rw [F1iE, gF (by omega)]) s hs
theorem Q3f (g : Bool × List (Bool × List Int)) (fr : Bool × List Int) (b : Bool) (m : Nat) (l : Bool × List Int) (hl : l.2.length ≤ 1048576) (hw : ∀ w ∈ l.2, 0 ≤ w ∧ w < (m : Int)) (s : List Int) (hs : s.length = m) : F1m g fr (b, s) l (l.2.length : Int) 0 = some (b, l.2.foldl (fun s w => s.set w.toNat 0) s) :=
  Jx l.2 (fun (s : List Int) w => s.set w.toNat 0) (fun s => (b, s)) (fun s i => F1m g fr (b, s) l (l.2.length : Int) i) (fun _ s => s.length = m) (fun i h s hs => by
    have hx := hw _ (K4 h)
    refine ⟨?_, by rw [Ks]; exact hs⟩
    rw [F1mE, gT (by omega), gT (by omega), gT (by omega), J2 l.2 _ i h, gT hx.1, gT (by simp only; omega), up1 i (by omega), J1]) (fun s _ => by rw [F1mE, gF (by omega)]) s hs
theorem Q3e (g : Bool × List (Bool × List Int)) (fr : Bool × List Int) (b : Bool) (m : Nat) (hm : m ≤ 10000) (d : Nat) : ∀ (i : Nat) (s : List Int), i + d = m → s.length = m → F1l g fr (b, s) (m : Int) (i : Int) = some (b, s.take i ++ List.replicate d (-1)) := by
  induction d with
  | zero =>
    intro i s hi hs
    rw [F1lE, gF (by omega), K1i (by omega)]
    simp
  | succ d ih =>
    intro i s hi hs
    rw [F1lE, gT (by omega), gT (by omega), gT (by simp only; omega), K7, up1 i (by omega), J1, ih (i + 1) (s.set i (-1)) (by omega) (by rw [Ks]; exact hs)]
    have e : (s.set i (-1)).take (i + 1) = s.take i ++ [-1] := by
      rw [K1d (by rw [Ks]; omega), List.getElem_set_self, List.take_set_of_le (K12 _)]
    rw [e, Kk, List.replicate_succ]
    rfl
theorem Qy {m : Nat} {G : List (List Int)} (hG : Gr m G) (hm : 1 ≤ m) (gb : Bool) {R : List (Bool × List Int)} (hR : R.map Prod.snd = G) (l : List Int) (hl : l.length ≤ 10000) (hw : ∀ w ∈ l, 0 ≤ w ∧ w < (m : Int)) (fb : Bool) (hfb : fb = true → l = []) : F3 (gb, R) (fb, l) = some (false, farL G l) := by
  have hlim := J6
  have hRl : R.length = m := by rw [← hG.len, ← hR, Kv]
  have hsm := hG.small
  have e1 := Q22 (false, [-1]) m (by simp) (by simp) hm hsm
  have e1' : Fh (false, [-1]) (m : Int) = some (false, List.replicate m (-1)) := by
    rw [e1]
    congr 2
    clear e1 hR hRl hG hw hm hsm
    induction m with
    | zero => rfl
    | succ n ih => rw [List.replicate_succ, List.flatten_cons, ih]; rfl
  have e2 : F12 (fb, l) = some (fb, l) := by
    rw [F12E]
    cases fb with
    | false => rw [cond_false, gT (by simp; omega), Kw]
    | true => rw [hfb rfl]; rfl
  have e3 := Q1d (gb, R) false (fb, l) m (fb, l) (by simp only; omega) hw (List.replicate m (-1)) (by simp)
  have e3' : F1i (gb, R) (false, List.replicate m (-1)) (fb, l) (fb, l) (l.length : Int) 0 = some (false, far0 m l) := e3
  have hI := Qj m l hw
  have hn := Qs (far0 m l)
  obtain ⟨e4, _, _⟩ := Q10 hG gb gb hR hR (2 * m + l.length) (far0 m l) l false false fb false hI (by rw [hI.len] at hn; omega) (by omega)
  rw [F3E]
  simp only [hRl, e1', J0, e2, e3', e4]
  rw [farL, hG.len]
theorem Q33 {m : Nat} {G : List (List Int)} (hG : Gr m G) (gb fb : Bool) {R : List (Bool × List Int)} (hR : R.map Prod.snd = G) (l : List Int) (hl : l.length ≤ 10000) (hw : ∀ w ∈ l, 0 ≤ w ∧ w < (m : Int)) : F0 (gb, R) (fb, l) = some (false, farL G l) := by
  have hlim := J6
  have hRl : R.length = m := by rw [← hG.len, ← hR, Kv]
  have hsm := hG.small
  have e1 := Q3e (gb, R) (fb, l) false m hsm m 0 (List.replicate m 0) (by omega) (by simp)
  have e1' : F1l (gb, R) (fb, l) (false, List.replicate m 0) (m : Int) 0 = some (false, List.replicate m (-1)) := by simpa using e1
  have e3 := Q3f (gb, R) (fb, l) false m (fb, l) (by simp only; omega) hw (List.replicate m (-1)) (by simp)
  have e3' : F1m (gb, R) (fb, l) (false, List.replicate m (-1)) (fb, l) (l.length : Int) 0 = some (false, far0 m l) := e3
  have hI := Qj m l hw
  have hn := Qs (far0 m l)
  have eo : ∃ ob, F11 (fb, l) = some (ob, l) := ⟨false, by rw [F11E, gT (by simp; omega), Kw]⟩
  obtain ⟨ob, eo⟩ := eo
  obtain ⟨_, e4, _⟩ := Q10 hG gb gb hR hR (2 * m + l.length) (far0 m l) l false false false ob hI (by rw [hI.len] at hn; omega) (by omega)
  rw [F0E]
  simp only [hRl, K24, K7]
  rw [gT (by omega), gT (by omega), gT (by omega), gT (by omega), e1', J0, e3', J0, eo, J0, e4, J0, farL, hG.len]
theorem Qk {m : Nat} {G : List (List Int)} (hG : Gr m G) (l : List Int) (hl : l.length ≤ 10000) (hw : ∀ w ∈ l, 0 ≤ w ∧ w < (m : Int)) : BInv m (farL G l) [] := by
  have hI := Qj m l hw
  have hn := Qs (far0 m l)
  have hsm := hG.small
  have hRl : (G.map fun l => (false, l)).map Prod.snd = G := by rw [List.map_map]; exact List.map_id'' (fun _ => rfl) G
  rw [farL, hG.len]
  exact (Q10 hG false false hRl hRl (2 * m + l.length) (far0 m l) l false false false false hI (by rw [hI.len] at hn; omega) (by omega)).2.2
/-- the points that are reached -/
def Q9 (G : List (List Int)) (l : List Int) : List Int := ((List.range (farL G l).length).filter fun i => decide ((farL G l).getD i 0 ≥ 0)).map Int.ofNat
theorem Q1w (t : Bool × List Int) (hl : t.2.length ≤ 200000000) (d : Nat) : ∀ (i : Nat) (o : List Int), i + d = t.2.length → o.length ≤ i →
    (F13 (false, o) t (t.2.length : Int) (i : Int) = some (false, o ++ ((List.range' i d).filter fun j => decide (t.2.getD j 0 ≥ 0)).map Int.ofNat)) ∧ ∀ b, ∃ b', F16 (b, o) t (t.2.length : Int) (i : Int) = some (b', o ++ ((List.range' i d).filter fun j => decide (t.2.getD j 0 ≥ 0)).map Int.ofNat) := by
  have hlim := J6
  induction d with
  | zero =>
    intro i o hi ho
    exact ⟨by rw [F13E, gF (by omega)]; simp, fun b => ⟨b, by rw [F16E, gF (by omega)]; simp⟩⟩
  | succ d ih =>
    intro i o hi ho
    have hlt : i < t.2.length := by omega
    by_cases c : t.2.getD i 0 ≥ 0
    · obtain ⟨g1, g2⟩ := ih (i + 1) (o ++ [(i : Int)]) (by omega) (by simp; omega)
      constructor
      · rw [F13E, gT (by omega), gT (by omega), gT (by omega), Q5, up1 i (by omega), gT c, gT (by simp; omega), J1, K1t, g1, K1b, K1p, if_pos (decide_eq_true c)]
        simp
      · intro b
        obtain ⟨b', g3⟩ := g2 (b && false)
        refine ⟨b', ?_⟩
        rw [F16E, gT (by omega), gT (by omega), gT (by omega), Q5, up1 i (by omega), gT c, gT (by simp; omega), J1, g3, K1b, K1p, if_pos (decide_eq_true c)]
        simp
    · obtain ⟨g1, g2⟩ := ih (i + 1) o (by omega) (by omega)
      constructor
      · rw [F13E, gT (by omega), gT (by omega), gT (by omega), Q5, up1 i (by omega), gF c, J1, g1, K1b, K1p, if_neg (by simpa using c)]
      · intro b
        obtain ⟨b', g3⟩ := g2 b
        refine ⟨b', ?_⟩
        rw [F16E, gT (by omega), gT (by omega), gT (by omega), Q5, up1 i (by omega), gF c, J1, g3, K1b, K1p, if_neg (by simpa using c)]
theorem Q1c {m : Nat} {G : List (List Int)} (hG : Gr m G) (hm : 1 ≤ m) (gb : Bool) {R : List (Bool × List Int)} (hR : R.map Prod.snd = G) (l : List Int) (hl : l.length ≤ 10000) (hw : ∀ w ∈ l, 0 ≤ w ∧ w < (m : Int)) (fb : Bool) (hfb : fb = true → l = []) : Fc (gb, R) (fb, l) = some (false, Q9 G l) := by
  have hI := Qk hG l hl hw
  have hsm := hG.small
  have hlen := hI.len
  have e := (Q1w (false, farL G l) (by simp only; omega) (farL G l).length 0 [] (by simp) (by simp)).1
  have e' : F13 (false, []) (false, farL G l) ((farL G l).length : Int) 0 = _ := e
  rw [FcE, Qy hG hm gb hR l hl hw fb hfb, J0]
  simp only [e', J0, Kw]
  rw [Q9, K1e]
theorem Q2q {m : Nat} {G : List (List Int)} (hG : Gr m G) (gb fb : Bool) {R : List (Bool × List Int)} (hR : R.map Prod.snd = G) (l : List Int) (hl : l.length ≤ 10000) (hw : ∀ w ∈ l, 0 ≤ w ∧ w < (m : Int)) : ∃ b, Fa (gb, R) (fb, l) = some (b, Q9 G l) := by
  have hI := Qk hG l hl hw
  have hsm := hG.small
  have hlen := hI.len
  obtain ⟨b, e⟩ := (Q1w (false, farL G l) (by simp only; omega) (farL G l).length 0 [] (by simp) (by simp)).2 true
  have e' : F16 (true, []) (false, farL G l) ((farL G l).length : Int) 0 = _ := e
  rw [FaE, Q33 hG gb fb hR l hl hw, J0]
  simp only [e', J0, Kw]
  rw [Q9, K1e]
  exact ⟨b, rfl⟩
theorem Q2a {m : Nat} {G : List (List Int)} (hG : Gr m G) (l : List Int) (hl : l.length ≤ 10000) (hw : ∀ w ∈ l, 0 ≤ w ∧ w < (m : Int)) : (Q9 G l).length ≤ m ∧ ∀ x ∈ Q9 G l, 0 ≤ x ∧ x < (m : Int) := by
  have hlen := (Qk hG l hl hw).len
  constructor
  · rw [Q9, Kv]
    refine K11 (K1s _ _) ?_
    rw [List.length_range, hlen]
    exact K12 _
  · intro x hx
    obtain ⟨i, hi, rfl⟩ := Ku.1 hx
    have := K1v.1 (K1l.1 hi).1
    exact ⟨Int.natCast_nonneg _, by simp; omega⟩
/-- each point at some steps has a point ahead of it -/
def Pred (G : List (List Int)) (s : List Int) : Prop := ∀ v : Nat, v < s.length → 0 < s.getD v 0 → ∃ u : Nat, u < s.length ∧ (v : Int) ∈ G.getD u [] ∧ s.getD u 0 = s.getD v 0 - 1
theorem Q25 {G : List (List Int)} {m k : Nat} {s q : List Int} (h : BInv m s q) (hk : k < m) (hk2 : 0 ≤ s.getD k 0) {w : Int} (hw : 0 ≤ w ∧ w < (m : Int)) (hwG : w ∈ G.getD k []) (hP : Pred G s) : Pred G (Q3 k (s, q) w).1 := by
  have hlen := h.len
  unfold Q3
  by_cases c : s.getD w.toNat 0 < 0
  · simp only [if_pos c]
    have hwl : w.toNat < s.length := by omega
    have hkw : w.toNat ≠ k := by
      rintro rfl
      omega
    intro v hv h0
    rw [Ks] at hv ⊢
    rw [Q0 s _ _ _ hwl] at h0
    by_cases e : w.toNat = v
    · refine ⟨k, by omega, ?_, ?_⟩
      · rw [← e, K1o hw.1]; exact hwG
      · rw [Q0 s _ _ _ hwl, Q0 s _ _ _ hwl, if_neg hkw, if_pos e]
        omega
    · rw [if_neg e] at h0
      obtain ⟨u, u1, u2, u3⟩ := hP v hv h0
      refine ⟨u, u1, u2, ?_⟩
      have hne : w.toNat ≠ u := by
        rintro rfl
        omega
      rw [Q0 s _ _ _ hwl, Q0 s _ _ _ hwl, if_neg hne, if_neg e]
      exact u3
  · simp only [if_neg c]
    exact hP
theorem Q1s {G : List (List Int)} {m k : Nat} (hk : k < m) (ws : List Int) (hwG : ∀ w ∈ ws, w ∈ G.getD k []) : ∀ {s q : List Int}, BInv m s q → 0 ≤ s.getD k 0 → (∀ w ∈ ws, 0 ≤ w ∧ w < (m : Int)) → Pred G s → Pred G (ws.foldl (Q3 k) (s, q)).1 := by
  induction ws with
  | nil => intro s q _ _ _ h; exact h
  | cons w ws ih =>
    intro s q h h2 hw hP
    obtain ⟨g1, g2, _⟩ := Qm h hk h2 (hw w Ki)
    rw [K19]
    exact ih (fun x hx => hwG x (K8 _ hx)) (s := (Q3 k (s, q) w).1) (q := (Q3 k (s, q) w).2) g1 (by rw [g2]; exact h2) (fun x hx => hw x (K8 _ hx)) (Q25 h hk h2 (hw w Ki) (hwG w Ki) hP)
theorem Q2j {m : Nat} {G : List (List Int)} (hG : Gr m G) (n : Nat) : ∀ (s q : List Int), BInv m s q → Pred G s → Pred G (bfsL G n s q) := by
  induction n with
  | zero => intro s q _ h; exact h
  | succ n ih =>
    intro s q hI hP
    cases q with
    | nil => exact hP
    | cons k q =>
      obtain ⟨hk1, hk2⟩ := hI.que k Ki
      have hI' : BInv m s q := ⟨hI.len, hI.low, hI.high, fun w hw => hI.que w (K8 _ hw)⟩
      have hkG : k.toNat < G.length := by rw [hG.len]; omega
      have e : G.getD k.toNat [] ∈ G := by
        have e : G.getD k.toNat [] = G[k.toNat] := by simp [K1, hkG]
        rw [e]
        exact K4 _
      have hin := hG.inn _ e
      obtain ⟨v1, _⟩ := Qo (show k.toNat < m by omega) (G.getD k.toNat []) hI' hk2 hin
      exact ih _ _ v1 (Q1s (show k.toNat < m by omega) _ (fun _ h => h) hI' hk2 hin hP)
theorem Q1h (m : Nat) (l : List Int) : ∀ v, (far0 m l).getD v 0 ≤ 0 := by
  have key : ∀ (l s : List Int), (∀ v, s.getD v 0 ≤ 0) → ∀ v, (l.foldl (fun s w => s.set w.toNat 0) s).getD v 0 ≤ 0 := by
    intro l
    induction l with
    | nil => intro s h; exact h
    | cons a l ih =>
      intro s h
      rw [K19]
      refine ih _ fun v => ?_
      by_cases c : a.toNat < s.length
      · rw [Q0 s _ _ _ c]
        split
        · omega
        · exact h v
      · rw [List.set_eq_of_length_le (by omega)]
        exact h v
  refine key l _ fun v => ?_
  rw [K1, List.getElem?_replicate]
  split <;> simp
theorem Q17 {m : Nat} {G : List (List Int)} (hG : Gr m G) (l : List Int) (hw : ∀ w ∈ l, 0 ≤ w ∧ w < (m : Int)) : Pred G (farL G l) := by
  rw [farL, hG.len]
  refine Q2j hG _ _ _ (Qj m l hw) fun v _ h => ?_
  have := Q1h m l v
  omega
/-! graphs turned around -/
def Qd (v : Int) (row : List Int) (o : List (List Int)) : List (List Int) := row.foldl (fun o w => o.set w.toNat (o.getD w.toNat [] ++ [v])) o
def Q1 (g : List (List Int)) : List (List Int) := (List.range g.length).foldl (fun o (v : Nat) => Qd (v : Int) (g.getD v []) o) (List.replicate g.length [])
def tot (o : List (List Int)) : Nat := (o.map List.length).sum
theorem Q18 (s : List (List Int)) (i j : Nat) (a : List Int) (hi : i < s.length) : (s.set i a).getD j [] = if i = j then a else s.getD j [] := by
  rw [K1, List.getElem?_set, K1]
  by_cases h : i = j
  · subst h; simp [hi]
  · simp [h]
theorem Q2e (o : List (List Int)) (i : Nat) (v : Int) (hi : i < o.length) : tot (o.set i (o.getD i [] ++ [v])) = tot o + 1 := by
  induction o generalizing i with
  | nil => simp at hi
  | cons a o ih =>
    cases i with
    | zero => simp [tot]; omega
    | succ i =>
      have := ih i (by simpa using hi)
      simp only [tot, List.set_cons_succ, K14, List.sum_cons, List.getD_cons_succ] at this ⊢
      omega
theorem Q1r (v : Int) (row : List Int) : ∀ o : List (List Int), (∀ w ∈ row, 0 ≤ w ∧ w < (o.length : Int)) →
    (Qd v row o).length = o.length ∧ tot (Qd v row o) = tot o + row.length ∧ ∀ (j : Nat) (x : Int), x ∈ (Qd v row o).getD j [] ↔ x ∈ o.getD j [] ∨ (x = v ∧ (j : Int) ∈ row) := by
  induction row with
  | nil => intro o _; exact ⟨rfl, rfl, fun j x => by simp [Qd]⟩
  | cons w row ih =>
    intro o hw
    have h0 := hw w Ki
    obtain ⟨g1, g2, g3⟩ := ih (o.set w.toNat (o.getD w.toNat [] ++ [v])) (fun x hx => by rw [Ks]; exact hw x (K8 _ hx))
    refine ⟨by rw [Qd, K19]; rw [Qd] at g1; rw [g1, Ks], ?_, fun j x => ?_⟩
    · rw [Qd, K19]
      rw [Qd] at g2
      rw [g2, Q2e _ _ _ (by omega), Kq]
      omega
    · rw [Qd, K19]
      have := g3 j x
      rw [Qd] at this
      rw [this, Q18 o _ _ _ (by omega)]
      by_cases e : w.toNat = j
      · have e2 : (j : Int) = w := by omega
        rw [if_pos e, e, Kh, Kx, Kd]
        constructor
        · rintro ((h | h) | ⟨h, h2⟩)
          · exact .inl h
          · exact .inr ⟨h, .inl e2⟩
          · exact .inr ⟨h, .inr h2⟩
        · rintro (h | ⟨h, h2⟩)
          · exact .inl (.inl h)
          · exact .inl (.inr h)
      · have e2 : (j : Int) ≠ w := by omega
        rw [if_neg e, Kd]
        constructor
        · rintro (h | ⟨h, h2⟩)
          · exact .inl h
          · exact .inr ⟨h, .inr h2⟩
        · rintro (h | ⟨h, h2⟩)
          · exact .inl h
          · exact .inr ⟨h, h2.resolve_left e2⟩
theorem Qi (g : List (List Int)) (hg : ∀ l ∈ g, ∀ w ∈ l, 0 ≤ w ∧ w < (g.length : Int)) (n : Nat) (hn : n ≤ g.length) :
    ((List.range n).foldl (fun o (v : Nat) => Qd (v : Int) (g.getD v []) o) (List.replicate g.length [])).length = g.length ∧
    tot ((List.range n).foldl (fun o (v : Nat) => Qd (v : Int) (g.getD v []) o) (List.replicate g.length [])) ≤ tot (g.take n) ∧
    ∀ (j : Nat) (x : Int), x ∈ ((List.range n).foldl (fun o (v : Nat) => Qd (v : Int) (g.getD v []) o) (List.replicate g.length [])).getD j [] ↔ ∃ v : Nat, v < n ∧ x = (v : Int) ∧ (j : Int) ∈ g.getD v [] := by
  induction n with
  | zero =>
    refine ⟨by simp, ?_, fun j x => ?_⟩
    · have : ∀ k, tot (List.replicate k ([] : List Int)) = 0 := by
        intro k
        induction k with
        | zero => rfl
        | succ k ih => simp only [tot, List.replicate_succ, K14, List.sum_cons, List.length_nil, K1g] at ih ⊢; exact ih
      simp only [List.range_zero, List.foldl_nil, this]
      exact Nat.zero_le _
    · constructor
      · intro h
        rw [List.range_zero, List.foldl_nil, K1, List.getElem?_replicate] at h
        split at h <;> simp at h
      · rintro ⟨v, h, _⟩; omega
  | succ n ih =>
    obtain ⟨h1, h2, h3⟩ := ih (by omega)
    have hlt : n < g.length := by omega
    have e : g.getD n [] = g[n] := by simp [K1, hlt]
    rw [List.range_succ, List.foldl_append, K19, List.foldl_nil]
    obtain ⟨g1, g2, g3⟩ := Q1r (n : Int) (g.getD n []) _ (fun w hw => by rw [h1]; exact hg _ (by rw [e]; exact K4 hlt) w hw)
    refine ⟨by rw [g1, h1], ?_, fun j x => ?_⟩
    · rw [g2, K1d hlt, e]
      simp only [tot, List.map_append, List.sum_append, K14, List.map_nil, List.sum_cons, List.sum_nil] at h2 ⊢
      omega
    · rw [g3, h3]
      constructor
      · rintro (⟨v, q1, q2, q3⟩ | ⟨q1, q2⟩)
        · exact ⟨v, by omega, q2, q3⟩
        · exact ⟨n, by omega, q1, q2⟩
      · rintro ⟨v, q1, q2, q3⟩
        by_cases hv : v = n
        · subst hv; exact .inr ⟨q2, q3⟩
        · exact .inl ⟨v, by omega, q2, q3⟩
theorem Qx (o : List (List Int)) : ∀ l ∈ o, l.length ≤ tot o := by
  intro l hl
  induction o with
  | nil => cases hl
  | cons a o ih =>
    simp only [tot, K14, List.sum_cons]
    rcases Kd.1 hl with rfl | hl
    · omega
    · have := ih hl
      simp only [tot] at this
      omega
theorem Q35 (o : List (List Int)) (B : Nat) (h : ∀ l ∈ o, l.length ≤ B) : tot o ≤ o.length * B := by
  induction o with
  | nil => simp [tot]
  | cons a o ih =>
    have h1 := h a Ki
    have h2 := ih fun l hl => h l (K8 _ hl)
    simp only [tot, K14, List.sum_cons, Kq, Nat.succ_mul] at h2 ⊢
    omega
theorem Ql {g : List (List Int)} (hg : ∀ l ∈ g, ∀ w ∈ l, 0 ≤ w ∧ w < (g.length : Int)) (j : Nat) (x : Int) : x ∈ (Q1 g).getD j [] ↔ ∃ v : Nat, v < g.length ∧ x = (v : Int) ∧ (j : Int) ∈ g.getD v [] := (Qi g hg g.length (K12 _)).2.2 j x
theorem Q14 {m : Nat} {g : List (List Int)} (hG : Gr m g) (hs : ∀ l ∈ g, l.length ≤ 2000) : Gr m (Q1 g) := by
  have hg : ∀ l ∈ g, ∀ w ∈ l, 0 ≤ w ∧ w < (g.length : Int) := by rw [hG.len]; exact hG.inn
  obtain ⟨h1, h2, h3⟩ := Qi g hg g.length (K12 _)
  have hsm := hG.small
  refine ⟨by rw [← hG.len]; exact h1, fun l hl w hw => ?_, fun l hl => ?_, hsm⟩
  · obtain ⟨j, hj, rfl⟩ := List.getElem_of_mem hl
    have e : (Q1 g).getD j [] = (Q1 g)[j] := by simp [K1, hj]
    rw [← e] at hw
    obtain ⟨v, hv, rfl, _⟩ := (Ql hg j w).1 hw
    rw [← hG.len]
    exact ⟨Int.natCast_nonneg _, by omega⟩
  · have q1 := Qx _ l hl
    have q2 := Q35 g 2000 hs
    rw [K1i (K12 _)] at h2
    have q3 : tot (Q1 g) ≤ tot g := h2
    rw [hG.len] at q2
    have : m * 2000 ≤ 10000 * 2000 := Kp _ hsm
    omega
/-- where a graph's rows are turned, as the two functions do it -/
theorem Q2f (t11 : Bool × List (Bool × List Int)) (t12 : Int) (t13 : Int) (v : Int) (b : Bool) (m : Nat) (hm : m ≤ 10000) (r : Bool × List Int) (hr : r.2.length ≤ 20000000) (hw : ∀ w ∈ r.2, 0 ≤ w ∧ w < (m : Int)) (d : Nat) : ∀ (i : Nat) (R : List (Bool × List Int)), i + d = r.2.length → R.length = m → tot (R.map Prod.snd) + d ≤ 200000000 →
    ∃ R' : List (Bool × List Int), R'.length = m ∧ R'.map Prod.snd = Qd v (r.2.drop i) (R.map Prod.snd) ∧ F1x (b, R) v t11 t12 t13 r (r.2.length : Int) (i : Int) = some (b, R') ∧ F1s (b, R) v t11 t12 t13 r (r.2.length : Int) (i : Int) = some (b, R') := by
  have hlim := J6
  induction d with
  | zero =>
    intro i R hi hR ht
    exact ⟨R, hR, by rw [K9 (by omega)]; rfl, by rw [F1xE, gF (by omega)], by rw [F1sE, gF (by omega)]⟩
  | succ d ih =>
    intro i R hi hR ht
    have hlt : i < r.2.length := by omega
    have hx := hw _ (K4 hlt)
    have hj : Int.toNat r.2[i] < R.length := by omega
    have hrow : ((R.getD (Int.toNat r.2[i]) (true, [])).2).length ≤ tot (R.map Prod.snd) := by
      refine Qx _ _ (Ku.2 ⟨R.getD (Int.toNat r.2[i]) (true, []), ?_, rfl⟩)
      have e : R.getD (Int.toNat r.2[i]) (true, []) = R[Int.toNat r.2[i]] := by simp [K1, hj]
      rw [e]
      exact K4 _
    have esnd : (R.map Prod.snd).getD (Int.toNat r.2[i]) [] = (R.getD (Int.toNat r.2[i]) (true, [])).2 := by simp [K1, hj]
    have emap : (R.set (Int.toNat r.2[i]) ((R.getD (Int.toNat r.2[i]) (true, [])).1 && false, (R.getD (Int.toNat r.2[i]) (true, [])).2 ++ [v])).map Prod.snd = (R.map Prod.snd).set (Int.toNat r.2[i]) ((R.map Prod.snd).getD (Int.toNat r.2[i]) [] ++ [v]) := by
      rw [List.map_set, esnd]
    have htot : tot ((R.set (Int.toNat r.2[i]) ((R.getD (Int.toNat r.2[i]) (true, [])).1 && false, (R.getD (Int.toNat r.2[i]) (true, [])).2 ++ [v])).map Prod.snd) = tot (R.map Prod.snd) + 1 := by
      rw [emap]
      exact Q2e _ _ _ (by simpa using hj)
    obtain ⟨R', g1, g2, g3, g4⟩ := ih (i + 1) (R.set (Int.toNat r.2[i]) ((R.getD (Int.toNat r.2[i]) (true, [])).1 && false, (R.getD (Int.toNat r.2[i]) (true, [])).2 ++ [v])) (by omega) (by rw [Ks]; exact hR) (by rw [htot]; omega)
    refine ⟨R', g1, ?_, ?_, ?_⟩
    · rw [g2, emap, K3 hlt, Qd, Qd, K19]
    · rw [F1xE, gT (by omega), gT (by omega), gT (by omega), J2 r.2 _ i hlt, gT hx.1, gT (by simp only; omega), gT (by simp only [K25]; omega), gT hx.1, gT (by simp only; omega), bT (by simp), up1 i (by omega), J1, g3]
    · rw [F1sE, gT (by omega), gT (by omega), gT (by omega), J2 r.2 _ i hlt, gT hx.1, gT (by simp only; omega), gT (by simp only [K25]; omega), gT hx.1, gT (by simp only; omega), bT (by simp), up1 i (by omega), J1, g4]
theorem Qu {m : Nat} {G : List (List Int)} (hG : Gr m G) (hs : ∀ l ∈ G, l.length ≤ 2000) (gb : Bool) {R : List (Bool × List Int)} (hR : R.map Prod.snd = G) : ∃ R' : List (Bool × List Int), R'.map Prod.snd = Q1 G ∧ F6 (gb, R) = some (false, R') ∧ F8 (gb, R) = some (false, R') := by
  have hlim := J6
  have hsm := hG.small
  have hRl : R.length = m := by rw [← hG.len, ← hR, Kv]
  have hg : ∀ l ∈ G, ∀ w ∈ l, 0 ≤ w ∧ w < (G.length : Int) := by rw [hG.len]; exact hG.inn
  have ht : ∀ n, n ≤ m → tot (G.take n) ≤ 20000000 := by
    intro n hn
    have q := Q35 (G.take n) 2000 fun l hl => hs l (List.mem_of_mem_take hl)
    have q2 : (G.take n).length ≤ 10000 := by rw [K1u, hG.len]; omega
    have : (G.take n).length * 2000 ≤ 10000 * 2000 := Kp _ q2
    omega
  have key : ∀ (d i : Nat) (Q : List (Bool × List Int)), i + d = m → Q.length = m → Q.map Prod.snd = (List.range i).foldl (fun o (v : Nat) => Qd (v : Int) (G.getD v []) o) (List.replicate G.length []) →
      ∃ R' : List (Bool × List Int), R'.map Prod.snd = Q1 G ∧ F1q (false, Q) (gb, R) (m : Int) (i : Int) = some (false, R') ∧ F1e (false, Q) (gb, R) (m : Int) (i : Int) = some (false, R') := by
    intro d
    induction d with
    | zero =>
      intro i Q hi hQ hq
      obtain rfl : i = m := by omega
      exact ⟨Q, by rw [hq, Q1, hG.len], by rw [F1qE, gF (by omega)], by rw [F1eE, gF (by omega)]⟩
    | succ d ih =>
      intro i Q hi hQ hq
      have hlt : i < G.length := by rw [hG.len]; omega
      obtain ⟨r1, r2, r3⟩ := Qt hR hlt
      obtain ⟨f1, f2, _⟩ := Qi G hg i (by omega)
      have hti := ht i (by omega)
      have hsh := hs _ r3
      obtain ⟨Q', g1, g2, g3, g4⟩ := Q2f (gb, R) (m : Int) (i : Int) (i : Int) false m hsm (R.getD i (true, [])) (by rw [r2]; omega) (by rw [r2]; exact hG.inn _ r3) (R.getD i (true, [])).2.length 0 Q (by omega) hQ (by rw [hq, r2]; omega)
      have g3' : F1x (false, Q) (i : Int) (gb, R) (m : Int) (i : Int) (R.getD i (true, [])) ((R.getD i (true, [])).2.length : Int) 0 = _ := g3
      have g4' : F1s (false, Q) (i : Int) (gb, R) (m : Int) (i : Int) (R.getD i (true, [])) ((R.getD i (true, [])).2.length : Int) 0 = _ := g4
      obtain ⟨R', k1, k2, k3⟩ := ih (i + 1) Q' (by omega) g1 (by rw [g2, Kg, r2, hq, List.range_succ, List.foldl_append]; rfl)
      refine ⟨R', k1, ?_, ?_⟩
      · rw [F1qE, gT (by omega), gT (by omega), gT (by simp only; omega), K7]
        simp only [g3', J0]
        rw [up1 i (by omega), J1, k2]
      · rw [F1eE, gT (by omega), gT (by omega), gT (by simp only; omega), K7]
        simp only [g4', J0]
        rw [up1 i (by omega), J1, k3]
  have hrep : (List.replicate m ((true, []) : Bool × List Int)).map Prod.snd = List.replicate m [] := by simp
  obtain ⟨R', k1, k2, k3⟩ := key m 0 (List.replicate m (true, [])) (by omega) (by simp) (by rw [hrep, hG.len]; rfl)
  have k2' : F1q (false, List.replicate m (true, [])) (gb, R) (m : Int) 0 = _ := k2
  have k3' : F1e (false, List.replicate m (true, [])) (gb, R) (m : Int) 0 = _ := k3
  refine ⟨R', k1, ?_, ?_⟩
  · rw [F6E]
    simp only [hRl, K7]
    rw [gT (by omega), gT (by omega), gT (by omega), gT (by omega), k2', J0]
  · rw [F8E]
    simp only [hRl, K7]
    rw [gT (by omega), gT (by omega), gT (by omega), gT (by omega), k3', J0]
/-! the way -/
def Q8 (s : List Int) (best v : Int) : Int := if s.getD v.toNat 0 ≥ 0 then (if best < 0 then v else if s.getD v.toNat 0 < s.getD best.toNat 0 then v else best) else best
def Q4 (s l : List Int) : Int := l.foldl (Q8 s) (-1)
theorem Q16 (g : Bool × List (Bool × List Int)) (b : Bool) (s : List Int) (l : Bool × List Int) (hl : l.2.length ≤ 1048576) (hw : ∀ w ∈ l.2, 0 ≤ w ∧ w < (s.length : Int)) :
    Fq g (b, s) (-1) l (l.2.length : Int) 0 = some (Q4 s l.2) ∧ Fo g (b, s) (-1) l (l.2.length : Int) 0 = some (Q4 s l.2) ∧ (Q4 s l.2 < 0 ∨ (Q4 s l.2 < (s.length : Int) ∧ 0 ≤ s.getD (Q4 s l.2).toNat 0)) := by
  have hin : ∀ (i : Nat) (h : i < l.2.length) (best : Int), (best < 0 ∨ (best < (s.length : Int) ∧ 0 ≤ s.getD best.toNat 0)) → (Q8 s best l.2[i] < 0 ∨ (Q8 s best l.2[i] < (s.length : Int) ∧ 0 ≤ s.getD (Q8 s best l.2[i]).toNat 0)) := by
    intro i h best hb
    have hx := hw _ (K4 h)
    unfold Q8
    split
    · split
      · exact .inr ⟨hx.2, by omega⟩
      · split
        · exact .inr ⟨hx.2, by omega⟩
        · exact hb
    · exact hb
  refine ⟨?_, ?_, ?_⟩
  · exact Jx l.2 (Q8 s) (fun b => b) (fun best i => Fq g (b, s) best l (l.2.length : Int) i) (fun _ best => best < 0 ∨ (best < (s.length : Int) ∧ 0 ≤ s.getD best.toNat 0)) (fun i h best hb => by
      have hx := hw _ (K4 h)
      refine ⟨?_, hin i h best hb⟩
      rw [FqE, gT (by omega), gT (by omega), gT (by omega), J2 l.2 _ i h, gT hx.1, gT (by simp only; omega), up1 i (by omega)]
      unfold Q8
      by_cases c1 : s.getD (Int.toNat l.2[i]) 0 ≥ 0
      · rw [gT c1, if_pos c1]
        by_cases c2 : best < 0
        · rw [gT c2, if_pos c2, J1]
        · have hb2 := hb.resolve_left c2
          rw [gF c2, if_neg c2, gT hx.1, gT (by simp only; omega), gT (by omega), gT (by simp only; omega)]
          by_cases c3 : s.getD (Int.toNat l.2[i]) 0 < s.getD (Int.toNat best) 0
          · rw [gT c3, if_pos c3, J1]
          · rw [gF c3, if_neg c3, J1]
      · rw [gF c1, if_neg c1, J1]) (fun best _ => by rw [FqE, gF (by omega)]) (-1) (.inl (by decide))
  · exact Jx l.2 (Q8 s) (fun b => b) (fun best i => Fo g (b, s) best l (l.2.length : Int) i) (fun _ best => best < 0 ∨ (best < (s.length : Int) ∧ 0 ≤ s.getD best.toNat 0)) (fun i h best hb => by
      have hx := hw _ (K4 h)
      refine ⟨?_, hin i h best hb⟩
      rw [FoE, gT (by omega), gT (by omega), gT (by omega), J2 l.2 _ i h, gT hx.1, gT (by simp only; omega), up1 i (by omega)]
      unfold Q8
      by_cases c1 : s.getD (Int.toNat l.2[i]) 0 ≥ 0
      · rw [gT c1, if_pos c1]
        by_cases c2 : best < 0
        · rw [gT c2, if_pos c2, J1]
        · have hb2 := hb.resolve_left c2
          rw [gF c2, if_neg c2, gT hx.1, gT (by simp only; omega), gT (by omega), gT (by simp only; omega)]
          by_cases c3 : s.getD (Int.toNat l.2[i]) 0 < s.getD (Int.toNat best) 0
          · rw [gT c3, if_pos c3, J1]
          · rw [gF c3, if_neg c3, J1]
      · rw [gF c1, if_neg c1, J1]) (fun best _ => by rw [FoE, gF (by omega)]) (-1) (.inl (by decide))
  · have key : ∀ (l : List Int), (∀ w ∈ l, 0 ≤ w ∧ w < (s.length : Int)) → ∀ best : Int, (best < 0 ∨ (best < (s.length : Int) ∧ 0 ≤ s.getD best.toNat 0)) → (l.foldl (Q8 s) best < 0 ∨ (l.foldl (Q8 s) best < (s.length : Int) ∧ 0 ≤ s.getD (l.foldl (Q8 s) best).toNat 0)) := by
      intro l
      induction l with
      | nil => intro _ best h; exact h
      | cons a l ih =>
        intro hw best hb
        rw [K19]
        refine ih (fun w h => hw w (K8 _ h)) _ ?_
        have hx := hw a Ki
        unfold Q8
        split
        · split
          · exact .inr ⟨hx.2, by omega⟩
          · split
            · exact .inr ⟨hx.2, by omega⟩
            · exact hb
        · exact hb
    exact key l.2 hw (-1) (.inl (by decide))
/-- the next point of a shortest way -/
def Qg (g : List (List Int)) (s : List Int) (v : Int) : Int := ((g.getD v.toNat []).find? fun w => s.getD w.toNat 0 == s.getD v.toNat 0 - 1).getD v
def wayL (g : List (List Int)) (s : List Int) : Nat → Int → List Int → List Int
  | 0, _, out => out
  | n + 1, v, out => if s.getD v.toNat 0 > 0 then wayL g s n (Qg g s v) (out ++ [Qg g s v]) else out
theorem Q3c (nx : Bool × List (Bool × List Int)) (b : Bool) (s : List Int) (best : Int) (hb : 0 ≤ best ∧ best < (s.length : Int)) (h0 : -10 ≤ s.getD best.toNat 0 ∧ s.getD best.toNat 0 ≤ 200000000) (out : Bool × List Int) (r : Bool × List Int) (hr : r.2.length ≤ 20000000) (hw : ∀ w ∈ r.2, 0 ≤ w ∧ w < (s.length : Int)) (d : Nat) : ∀ (i : Nat), i + d = r.2.length →
    F1f nx (b, s) best out r (r.2.length : Int) (i : Int) = some (((r.2.drop i).find? fun w => s.getD w.toNat 0 == s.getD best.toNat 0 - 1).getD best) := by
  induction d with
  | zero =>
    intro i hi
    rw [F1fE, gF (by omega), K9 (by omega)]
    rfl
  | succ d ih =>
    intro i hi
    have hlt : i < r.2.length := by omega
    have hx := hw _ (K4 hlt)
    rw [F1fE, gT (by omega), gT (by omega), gT (by omega), J2 r.2 _ i hlt, gT hx.1, gT (by simp only; omega), gT hb.1, gT (by simp only; omega), wr (by simp only; omega), up1 i (by omega), K3 hlt, List.find?_cons]
    simp only
    cases hh : (s.getD (Int.toNat r.2[i]) 0 == s.getD (Int.toNat best) 0 - 1) with
    | true => rfl
    | false => rw [cond_false, J1, ih (i + 1) (by omega)]
theorem Q1i {l : List Int} {i : Nat} (h : i < l.length) : l.getD i 0 = l[i] := by simp [K1, h]
theorem Q2k {α : Type} (q : α → Bool) (l : List α) (h : l.findIdx q < l.length) : l.find? q = some (l[l.findIdx q]'h) := by
  induction l with
  | nil => simp at h
  | cons a l ih =>
    rw [List.find?_cons]
    cases hq : q a with
    | true => simp [List.findIdx_cons, hq]
    | false =>
      simp only [List.findIdx_cons, hq, cond_false, Kq] at h ⊢
      rw [ih (by omega)]
      rfl
theorem Q20 (s : List Int) (b : Bool) (best : Int) (hb : 0 ≤ best ∧ best < (s.length : Int)) (h0 : -10 ≤ s.getD best.toNat 0 ∧ s.getD best.toNat 0 ≤ 200000000) (r : Bool × List Int) (hr : r.2.length ≤ 20000000) (hw : ∀ w ∈ r.2, 0 ≤ w ∧ w < (s.length : Int)) (hex : ∃ u ∈ r.2, s.getD u.toNat 0 = s.getD best.toNat 0 - 1) :
    ∃ k : Nat, k < r.2.length ∧ Fi r ((b, s), (best, ())) = some (k : Int) ∧ r.2.getD k 0 = (r.2.find? fun w => s.getD w.toNat 0 == s.getD best.toNat 0 - 1).getD best ∧ r.2.getD k 0 ∈ r.2 ∧ s.getD (r.2.getD k 0).toNat 0 = s.getD best.toNat 0 - 1 := by
  have h := Ja r.2 (fun w => s.getD w.toNat 0 == s.getD best.toNat 0 - 1) (fun i => F1k r ((b, s), (best, ())) (r.2.length : Int) i) (fun i hi => by
    have hx := hw _ (K4 hi)
    rw [F1kE, gT (by omega), gT (by omega), gT (by omega), J2 r.2 _ i hi, F15E, gT hx.1, gT (by simp only; omega), gT hb.1, gT (by simp only; omega), wr (by simp only; omega), J0, up1 i (by omega), J1]) (by rw [F1kE, gF (by omega)])
  obtain ⟨u, hu, hu2⟩ := hex
  have hany : (r.2.any fun w => s.getD w.toNat 0 == s.getD best.toNat 0 - 1) = true := Kz.2 ⟨u, hu, by rw [beq_iff_eq]; exact hu2⟩
  have hk : r.2.findIdx (fun w => s.getD w.toNat 0 == s.getD best.toNat 0 - 1) < r.2.length := List.findIdx_lt_length.2 (Kz.1 hany)
  have hg := List.findIdx_getElem (p := fun w : Int => s.getD w.toNat 0 == s.getD best.toNat 0 - 1) (xs := r.2) (w := hk)
  refine ⟨_, hk, ?_, ?_, ?_, ?_⟩
  · rw [FiE]
    show ((F1k r ((b, s), (best, ())) (r.2.length : Int) 0).bind _) = _
    rw [h, hany]
    rfl
  · have e : r.2.getD (r.2.findIdx fun w => s.getD w.toNat 0 == s.getD best.toNat 0 - 1) 0 = r.2[r.2.findIdx fun w => s.getD w.toNat 0 == s.getD best.toNat 0 - 1] := Q1i hk
    rw [e]
    have := Q2k (fun w : Int => s.getD w.toNat 0 == s.getD best.toNat 0 - 1) r.2 hk
    rw [this]
    rfl
  · have e : r.2.getD (r.2.findIdx fun w => s.getD w.toNat 0 == s.getD best.toNat 0 - 1) 0 = r.2[r.2.findIdx fun w => s.getD w.toNat 0 == s.getD best.toNat 0 - 1] := Q1i hk
    rw [e]
    exact K4 _
  · have e : r.2.getD (r.2.findIdx fun w => s.getD w.toNat 0 == s.getD best.toNat 0 - 1) 0 = r.2[r.2.findIdx fun w => s.getD w.toNat 0 == s.getD best.toNat 0 - 1] := Q1i hk
    rw [e]
    exact beq_iff_eq.1 hg
/-- the walk along a shortest way -/
theorem Q15 {m : Nat} {G : List (List Int)} (hG : Gr m G) (gb gb2 : Bool) {R R2 : List (Bool × List Int)} (hR : R.map Prod.snd = G) (hR2 : R2.map Prod.snd = G) (s : List Int) (hs : s.length = m) (hlo : ∀ e ∈ s, -1 ≤ e ∧ e ≤ 10000) (hP : ∀ v : Nat, v < m → 0 < s.getD v 0 → ∃ u ∈ G.getD v [], s.getD u.toNat 0 = s.getD v 0 - 1) (n : Nat) : ∀ (v : Int) (out : List Int) (b b2 : Bool), 0 ≤ v ∧ v < (m : Int) → s.getD v.toNat 0 ≤ n → out.length + n ≤ 200000000 →
    F1p (gb, R) (b, s) (false, out) v = some (false, wayL G s n v out) ∧ F1d (gb2, R2) (b2, s) v (false, out) = some (false, wayL G s n v out) ∧ (wayL G s n v out).length ≤ out.length + n := by
  have hlim := J6
  have hsm := hG.small
  induction n with
  | zero =>
    intro v out b b2 hv hn ho
    refine ⟨?_, ?_, K12 _⟩
    · rw [F1pE, gT hv.1, gT (by simp only; omega), gF (by simp only; omega)]
      rfl
    · rw [F1dE, gT hv.1, gT (by simp only; omega), gF (by simp only; omega)]
      rfl
  | succ n ih =>
    intro v out b b2 hv hn ho
    by_cases c : s.getD v.toNat 0 > 0
    · have hvl : v.toNat < s.length := by omega
      have hb := hlo _ (Qh hvl)
      have hvG : v.toNat < G.length := by rw [hG.len]; omega
      obtain ⟨r1, r2, r3⟩ := Qt hR hvG
      obtain ⟨r4, r5, _⟩ := Qt hR2 hvG
      have hin := hG.inn _ r3
      have hsh := hG.short _ r3
      have hRl : R.length = m := by rw [← hG.len, ← hR, Kv]
      have hRl2 : R2.length = m := by rw [← hG.len, ← hR2, Kv]
      obtain ⟨u, hu, hu2⟩ := hP v.toNat (by omega) c
      obtain ⟨k, k1, k2, k3, k4, k5⟩ := Q20 s b v (by omega) (by omega) (R.getD v.toNat (true, [])) (by rw [r2]; exact hsh) (by rw [r2]; intro w hw; have := hin w hw; omega) (by rw [r2]; exact ⟨u, hu, hu2⟩)
      have hnear : Qg G s v = (R.getD v.toNat (true, [])).2.getD k 0 := by
        rw [k3, r2]; rfl
      rw [r2] at k4
      have hnin := hin _ k4
      have hval : s.getD (Qg G s v).toNat 0 = s.getD v.toNat 0 - 1 := by rw [hnear]; exact k5
      have hnn : 0 ≤ Qg G s v ∧ Qg G s v < (m : Int) := by rw [hnear, r2]; exact hnin
      obtain ⟨i1, i2, i3⟩ := ih (Qg G s v) (out ++ [Qg G s v]) b b2 hnn (by omega) (by simp; omega)
      have ew : wayL G s (n + 1) v out = wayL G s n (Qg G s v) (out ++ [Qg G s v]) := by rw [wayL, if_pos c]
      rw [ew]
      refine ⟨?_, ?_, by simp at i3; omega⟩
      · rw [F1pE, gT hv.1, gT (by simp only; omega), gT c, gT hv.1, gT (by simp only; omega), k2, J0, gT hv.1, gT (by simp only; omega), gT (by omega), gT (by simp only; omega), K7, ← hnear, gT (by simp; omega), J1, K1t, i1]
      · have e4 := Q3c (gb2, R2) b2 s v (by omega) (by omega) (false, out) (R2.getD v.toNat (true, [])) (by rw [r5]; exact hsh) (by rw [r5]; intro w hw; have := hin w hw; omega) (R2.getD v.toNat (true, [])).2.length 0 (by omega)
        rw [Kg] at e4
        have e4' : F1f (gb2, R2) (b2, s) v (false, out) (R2.getD v.toNat (true, [])) ((R2.getD v.toNat (true, [])).2.length : Int) 0 = some (Qg G s v) := by
          refine Eq.trans e4 ?_
          rw [r5]
          rfl
        rw [F1dE, gT hv.1, gT (by simp only; omega), gT c, gT hv.1, gT (by simp only; omega)]
        simp only [e4', J0]
        rw [gT (by simp; omega), J1, K1t, i2]
    · have ew : wayL G s (n + 1) v out = out := by rw [wayL, if_neg c]
      rw [ew]
      refine ⟨?_, ?_, by omega⟩
      · rw [F1pE, gT hv.1, gT (by simp only; omega), gF c]
      · rw [F1dE, gT hv.1, gT (by simp only; omega), gF c]
/-- a shortest way, and whether there is one -/
def Qf (G : List (List Int)) (from_ to : List Int) : Option (List Int) :=
  let s := farL (Q1 G) to
  if Q4 s from_ < 0 then none else some (wayL G s G.length (Q4 s from_) [Q4 s from_])
theorem Q1o {m : Nat} {G : List (List Int)} (hG : Gr m G) (hs : ∀ l ∈ G, l.length ≤ 2000) (hm : 1 ≤ m) (gb gb2 fb fb2 tb : Bool) {R R2 : List (Bool × List Int)} (hR : R.map Prod.snd = G) (hR2 : R2.map Prod.snd = G) (fr to : List Int) (hf : fr.length ≤ 10000) (hfw : ∀ w ∈ fr, 0 ≤ w ∧ w < (m : Int)) (ht : to.length ≤ 10000) (htw : ∀ w ∈ to, 0 ≤ w ∧ w < (m : Int)) (ob : Bool) (hob : ob = true → to = []) :
    F1 (gb, R) (fb, fr) (ob, to) = some (match Qf G fr to with
      | some l => (false, l)
      | none => (true, [])) ∧ F2 (gb2, R2) (fb2, fr) (tb, to) = some (match Qf G fr to with
      | some l => ((false, l), true)
      | none => ((true, []), false)) ∧ ∀ l, Qf G fr to = some l → l.length ≤ 100000 := by
  have hT := Q14 hG hs
  have hsm := hG.small
  have hg : ∀ l ∈ G, ∀ w ∈ l, 0 ≤ w ∧ w < (G.length : Int) := by rw [hG.len]; exact hG.inn
  obtain ⟨Q, q1, q2, _⟩ := Qu hG hs gb hR
  obtain ⟨Q2, p1, _, p3⟩ := Qu hG hs gb2 hR2
  have e1 := Qy hT hm false q1 to ht htw ob hob
  have e2 := Q33 hT false tb p1 to ht htw
  have hI := Qk hT to ht htw
  have hP := Q17 hT to htw
  have hlen := hI.len
  obtain ⟨b1, _, b3⟩ := Q16 (gb, R) false (farL (Q1 G) to) (fb, fr) (by simp only; omega) (by rw [hlen]; exact hfw)
  obtain ⟨_, b2, _⟩ := Q16 (gb2, R2) false (farL (Q1 G) to) (fb2, fr) (by simp only; omega) (by rw [hlen]; exact hfw)
  have hlo : ∀ e ∈ farL (Q1 G) to, -1 ≤ e ∧ e ≤ 10000 := fun e he => ⟨hI.low e he, by have := hI.high e he; omega⟩
  have hP2 : ∀ v : Nat, v < m → 0 < (farL (Q1 G) to).getD v 0 → ∃ u ∈ G.getD v [], (farL (Q1 G) to).getD u.toNat 0 = (farL (Q1 G) to).getD v 0 - 1 := by
    intro v hv h0
    obtain ⟨u, u1, u2, u3⟩ := hP v (by omega) h0
    obtain ⟨v', _, hv2, hv3⟩ := (Ql hg u (v : Int)).1 u2
    have : v' = v := by omega
    subst this
    exact ⟨(u : Int), hv3, by rw [K7]; exact u3⟩
  have hbest : ∀ (c : ¬ Q4 (farL (Q1 G) to) fr < 0), 0 ≤ Q4 (farL (Q1 G) to) fr ∧ Q4 (farL (Q1 G) to) fr < (m : Int) ∧ (farL (Q1 G) to).getD (Q4 (farL (Q1 G) to) fr).toNat 0 ≤ (m : Int) := by
    intro c
    have h2 := b3.resolve_left c
    have hmem := Qh (s := farL (Q1 G) to) (i := (Q4 (farL (Q1 G) to) fr).toNat) (by simp only at h2; omega)
    have := hI.high _ hmem
    simp only at h2
    exact ⟨by omega, by omega, by omega⟩
  have e1' : F3 (false, Q) (ob, to) = _ := e1
  refine ⟨?_, ?_, ?_⟩
  · rw [F1E, q2, J0, e1', J0, b1, J0, Qf]
    simp only
    by_cases c : Q4 (farL (Q1 G) to) fr < 0
    · rw [gT c, if_pos c]
    · obtain ⟨w0, w1, w2⟩ := hbest c
      obtain ⟨i1, _, _⟩ := Q15 hG gb gb2 hR hR2 (farL (Q1 G) to) hlen hlo hP2 m (Q4 (farL (Q1 G) to) fr) [Q4 (farL (Q1 G) to) fr] false false ⟨w0, w1⟩ w2 (by simp; omega)
      rw [gF c, if_neg c, i1, J0, hG.len]
  · rw [F2E, p3, J0, e2, J0, b2, J0, Qf]
    simp only
    by_cases c : Q4 (farL (Q1 G) to) fr < 0
    · rw [gT c, if_pos c]
    · obtain ⟨w0, w1, w2⟩ := hbest c
      obtain ⟨_, i2, _⟩ := Q15 hG gb gb2 hR hR2 (farL (Q1 G) to) hlen hlo hP2 m (Q4 (farL (Q1 G) to) fr) [Q4 (farL (Q1 G) to) fr] false false ⟨w0, w1⟩ w2 (by simp; omega)
      rw [gF c, if_neg c, i2, J0, hG.len]
  · intro l hl
    unfold Qf at hl
    by_cases c : Q4 (farL (Q1 G) to) fr < 0
    · rw [if_pos c] at hl; cases hl
    · rw [if_neg c, hG.len] at hl
      obtain ⟨w0, w1, w2⟩ := hbest c
      obtain ⟨_, _, i3⟩ := Q15 hG gb gb2 hR hR2 (farL (Q1 G) to) hlen hlo hP2 m (Q4 (farL (Q1 G) to) fr) [Q4 (farL (Q1 G) to) fr] false false ⟨w0, w1⟩ w2 (by simp; omega)
      rw [← Option.some.inj hl]
      simp at i3
      omega
def Q23 (X : List (Bool × List Int)) (k : Nat) : List Int := (X.getD k (true, [])).2
/-- what some puts hand to a row -/
def pick (S : List (Nat × Int)) (k : Nat) : List Int := (S.filter fun e => e.1 == k).map Prod.snd
theorem Q1p (S S' : List (Nat × Int)) (k : Nat) : pick (S ++ S') k = pick S k ++ pick S' k := by
  simp [pick]
theorem Q1q (S : List (Nat × Int)) (k : Nat) : (pick S k).length ≤ S.length := by
  rw [pick, Kv]
  exact K1s _ _
/-- rows, with some puts done -/
structure Did (X X' : List (Bool × List Int)) (S : List (Nat × Int)) : Prop where
  len : X'.length = X.length
  row : ∀ k : Nat, k < X.length → Q23 X' k = Q23 X k ++ pick S k
def Bnd (X : List (Bool × List Int)) (n : Nat) : Prop := ∀ k : Nat, k < X.length → (Q23 X k).length ≤ n
theorem Did.refl (X : List (Bool × List Int)) : Did X X [] := ⟨rfl, fun k _ => by simp [pick]⟩
theorem Did.trans {X X' X'' : List (Bool × List Int)} {S S' : List (Nat × Int)} (h : Did X X' S) (h' : Did X' X'' S') : Did X X'' (S ++ S') := by
  refine ⟨by rw [h'.len, h.len], fun k hk => ?_⟩
  rw [h'.row k (by rw [h.len]; exact hk), h.row k hk, Q1p, Kk]
theorem Did.bnd {X X' : List (Bool × List Int)} {S : List (Nat × Int)} (h : Did X X' S) {n : Nat} (hb : Bnd X n) : Bnd X' (n + S.length) := by
  intro k hk
  rw [h.len] at hk
  rw [h.row k hk, Kj]
  have := hb k hk
  have := Q1q S k
  omega
theorem Did.put {X : List (Bool × List Int)} {k : Nat} (hk : k < X.length) (b : Bool) (z : Int) : Did X (X.set k (b, Q23 X k ++ [z])) [(k, z)] := by
  refine ⟨Ks, fun j hj => ?_⟩
  by_cases e : k = j
  · subst e
    simp [Q23, K1, hk, pick]
  · have e' : (k == j) = false := by rw [beq_eq_false_iff_ne]; exact e
    simp [Q23, K1, List.getElem?_set_ne e, pick, e']
theorem findIdx?_lt {α : Type} {K : List α} {q : α → Bool} {i : Nat} (h : K.findIdx? q = some i) : i < K.length := by
  rw [List.findIdx?_eq_some_iff_getElem] at h
  exact h.1
theorem findIdx?_more {α : Type} {K L : List α} {q : α → Bool} {i : Nat} (h : K.findIdx? q = some i) : (K ++ L).findIdx? q = some i := by
  rw [List.findIdx?_append, h]
  rfl
theorem findIdx?_new {α : Type} {K : List α} {q : α → Bool} {x : α} (h : K.findIdx? q = none) (hx : q x = true) : (K ++ [x]).findIdx? q = some K.length := by
  rw [List.findIdx?_append, h, List.findIdx?_cons, hx]
  simp
theorem findIdx?_at {α : Type} [BEq α] [LawfulBEq α] {K : List α} {x : α} {i : Nat} (h : K.findIdx? (fun y => x == y) = some i) : K[i]? = some x := by
  rw [List.findIdx?_eq_some_iff_getElem] at h
  obtain ⟨h1, h2, _⟩ := h
  rw [Kc h1]
  exact congrArg some (eq_of_beq h2).symm
/-- what can be reached along arrows -/
inductive Way (g : Int → List Int) : Int → Int → Prop
  | here (a : Int) : Way g a a
  | step {a b c : Int} : b ∈ g a → Way g b c → Way g a c
theorem Way.trans {g : Int → List Int} {a b c : Int} (h : Way g a b) (h2 : Way g b c) : Way g a c := by
  induction h with
  | here a => exact h2
  | step e _ ih => exact Way.step e (ih h2)
theorem Way.arc {g : Int → List Int} {a b : Int} (h : b ∈ g a) : Way g a b := Way.step h (Way.here b)
theorem Way.snoc {g : Int → List Int} {a b c : Int} (h : Way g a b) (h2 : c ∈ g b) : Way g a c := h.trans (Way.arc h2)
/-- what is closed along arrows keeps its ways in -/
theorem Way.closed {g : Int → List Int} {P : Int → Prop} (hc : ∀ x, P x → ∀ y ∈ g x, P y) {a b : Int} (h : Way g a b) : P a → P b := by
  induction h with
  | here a => exact id
  | step e _ ih => exact fun h => ih (hc _ h _ e)
theorem Way.turn {g r : Int → List Int} (hr : ∀ x y, y ∈ r x → x ∈ g y) {a b : Int} (h : Way r a b) : Way g b a := by
  induction h with
  | here a => exact Way.here a
  | step e _ ih => exact ih.trans (Way.arc (hr _ _ e))
/-- each leads to the other -/
def Scc (g : Int → List Int) (a b : Int) : Prop := Way g a b ∧ Way g b a
theorem Scc.refl (g : Int → List Int) (a : Int) : Scc g a a := ⟨Way.here a, Way.here a⟩
theorem Scc.symm {g : Int → List Int} {a b : Int} (h : Scc g a b) : Scc g b a := ⟨h.2, h.1⟩
theorem Scc.trans {g : Int → List Int} {a b c : Int} (h : Scc g a b) (h2 : Scc g b c) : Scc g a c := ⟨h.1.trans h2.1, h2.2.trans h.2⟩
/-- the least of a part -/
def IsL (g : Int → List Int) (x m : Int) : Prop := Scc g x m ∧ ∀ y, Scc g x y → m ≤ y
theorem IsL.one {g : Int → List Int} {x m k : Int} (h : IsL g x m) (h2 : IsL g x k) : m = k := Int.le_antisymm (h.2 k h2.1) (h2.2 m h.1)
theorem IsL.of {g : Int → List Int} {x y m : Int} (h : IsL g x m) (e : Scc g x y) : IsL g y m := ⟨e.symm.trans h.1, fun z hz => h.2 z (e.trans hz)⟩
/-- the place from which choices are read: what is known of it -/
def Q7 (c : Dl1Cur) (B : Int) : Prop := c.1.2.length ≤ 1048576 ∧ (∀ x ∈ c.1.2, 0 ≤ x ∧ x ≤ 255) ∧ 0 ≤ c.2.1 ∧ c.2.1 ≤ B
theorem Q7.mono {c : Dl1Cur} {B C : Int} (h : Q7 c B) (hb : B ≤ C) : Q7 c C := ⟨h.1, h.2.1, h.2.2.1, Int.le_trans h.2.2.2 hb⟩
theorem top8 : top 8 = 255 := by decide
theorem Q36 (s : Int) (hs : 0 ≤ s ∧ s < 18446744073709551616) : ∃ b, IntKind.i64.wrap (bAnd .u64 (bShr .u64 s 40) 255) = b ∧ 0 ≤ b ∧ b ≤ 255 := by
  have e1 : bShr .u64 s 40 = s / 2 ^ 40 := Qz .u64 s 40 (by decide)
  have h1 : 0 ≤ s / 2 ^ 40 := Int.ediv_nonneg hs.1 (by decide)
  have h2 : s / 2 ^ 40 ≤ s := Int.ediv_le_self _ hs.1
  have e2 : bAnd .u64 (s / 2 ^ 40) 255 = s / 2 ^ 40 % 256 := by
    rw [← top8, Q1f (by omega) ⟨h1, by omega⟩, top8]
    rfl
  refine ⟨s / 2 ^ 40 % 256, ?_, by omega, by omega⟩
  rw [e1, e2, wr (by omega)]
theorem Q1u (c : Dl1Cur) (B : Int) (h : Q7 c B) (hB : B ≤ 1000000000000) : ∃ c' b, Fr c.1 c.2.1 c.2.2 = some (c', b) ∧ Q7 c' (B + 1) ∧ 0 ≤ b ∧ b ≤ 255 := by
  obtain ⟨h1, h2, h3, h4⟩ := h
  have hw : ∀ n : Int, 0 ≤ IntKind.u64.wrap n ∧ IntKind.u64.wrap n < 18446744073709551616 := fun n => by rw [J50]; omega
  rw [FrE]
  by_cases c1 : c.2.1 < (c.1.2.length : Int)
  · have hx : 0 ≤ c.1.2.getD (Int.toNat c.2.1) 0 ∧ c.1.2.getD (Int.toNat c.2.1) 0 ≤ 255 := by
      have hlt : Int.toNat c.2.1 < c.1.2.length := by omega
      have e : c.1.2.getD (Int.toNat c.2.1) 0 = c.1.2[Int.toNat c.2.1] := by simp [K1, hlt]
      rw [e]
      exact h2 _ (K4 hlt)
    rw [gT c1, gT h3, gT c1, gT (by rw [wr (by omega)]; omega)]
    exact ⟨_, _, rfl, ⟨h1, h2, by simp only; rw [wr (by omega)]; omega, by simp only; rw [wr (by omega)]; omega⟩, by rw [wr (by omega)]; exact hx.1, by rw [wr (by omega)]; exact hx.2⟩
  · rw [gF c1, gF (by rw [wr (by omega)]; omega)]
    obtain ⟨b, e1, e2, e3⟩ := Q36 (IntKind.u64.wrap ((IntKind.u64.wrap ((IntKind.u64.wrap (c.2.2 * 6364136223846793005)) + (IntKind.u64.wrap 0))) + 1442695040888963407)) (hw _)
    exact ⟨_, _, rfl, ⟨h1, h2, by simp only; rw [wr (by omega)]; omega, by simp only; rw [wr (by omega)]; omega⟩, by rw [e1]; exact e2, by rw [e1]; exact e3⟩
theorem Q6 (c : Dl1Cur) (n : Int) (B : Int) (h : Q7 c B) (hB : B ≤ 900000000000) (hn : n ≤ 9000000000000000000) : ∃ c' x, Fk c n = some (c', x) ∧ Q7 c' (B + 2) ∧ 0 ≤ x ∧ (1 ≤ n → x < n) := by
  rw [FkE]
  by_cases c1 : n ≤ 1
  · rw [gT c1]
    exact ⟨c, 0, rfl, h.mono (by omega), by omega, fun h => by omega⟩
  · rw [gF c1]
    obtain ⟨c2, b, e1, h1, b1, b2⟩ := Q1u c B h (by omega)
    rw [e1, J0]
    have hz : (n == 0) = false := beqF (by omega)
    by_cases c3 : n > 200
    · obtain ⟨c4, b', e2, h2, b3, b4⟩ := Q1u c2 (B + 1) h1 (by omega)
      rw [gT c3, e2, J0, bF hz]
      have e3 : IntKind.i64.wrap (IntKind.i64.wrap (b * 256) + b') = b * 256 + b' := by rw [wr (show -9223372036854775808 ≤ b * 256 ∧ b * 256 < 9223372036854775808 by omega), wr (by omega)]
      simp only [e3]
      refine ⟨_, _, rfl, h2.mono (by omega), Int.tmod_nonneg _ (by omega), fun _ => ?_⟩
      rw [Int.tmod_eq_emod_of_nonneg (by omega)]
      exact Int.emod_lt_of_pos _ (by omega)
    · rw [gF c3, bF hz]
      refine ⟨_, _, rfl, h1.mono (by omega), Int.tmod_nonneg _ b1, fun _ => ?_⟩
      rw [Int.tmod_eq_emod_of_nonneg b1]
      exact Int.emod_lt_of_pos _ (by omega)
theorem Q37 (c : Dl1Cur) (n : Int) (B : Int) (h : Q7 c B) (hB : B ≤ 900000000000) (hn : n ≤ 9000000000000000000) : ∃ c' b, F18 c n = some (c', b) ∧ Q7 c' (B + 2) := by
  obtain ⟨c', x, e, h1, _, _⟩ := Q6 c n B h hB hn
  rw [F18E, e, J0]
  exact ⟨c', _, rfl, h1⟩
/-- a drawn list of points -/
def Pts (n : Int) (k : Nat) (l : List Int) : Prop := Qv l ∧ (∀ x ∈ l, 0 ≤ x ∧ x < n) ∧ l.length ≤ k
theorem Pts.ins {n : Int} {k : Nat} {l : List Int} (h : Pts n k l) {x : Int} (hx : 0 ≤ x ∧ x < n) : Pts n (k + 1) (insL x l) := by
  refine ⟨Q1l x l h.1, fun y hy => ?_, ?_⟩
  · rcases (Q1v x l y).1 hy with rfl | hy
    · exact hx
    · exact h.2.1 y hy
  · have := Q1k x l
    have := h.2.2
    omega
theorem Q2o (n k_ : Int) (hn : 1 ≤ n ∧ n ≤ 1000000) (d : Nat) : ∀ (c : Dl1Cur) (B : Int) (b : Bool) (l : List Int) (k : Nat), Q7 c B → B + 2 * d ≤ 900000000000 → Pts n k l → k + d ≤ 1000 → (b = true → l = []) →
    ∃ c' b' l', F1y c n k_ (b, l) (d : Int) = some (c', (b', l')) ∧ Q7 c' (B + 2 * d) ∧ Pts n (k + d) l' ∧ (b' = true → l' = []) := by
  induction d with
  | zero =>
    intro c B b l k hc hB hl hk hfl
    exact ⟨c, b, l, by rw [F1yE, gF (by omega)], hc.mono (by omega), hl, hfl⟩
  | succ d ih =>
    intro c B b l k hc hB hl hk hfl
    obtain ⟨c2, x, e1, h1, x1, x2⟩ := Q6 c n B hc (by omega) (by omega)
    have hl2 := hl.2.2
    obtain ⟨f, e2, e4⟩ := Q34 b l x (by omega)
    obtain ⟨c3, b3, l3, g1, g2, g3, g4⟩ := ih c2 (B + 2) f (insL x l) (k + 1) h1 (by omega) (hl.ins ⟨x1, x2 hn.1⟩) (by omega) (fun h => absurd (hfl (e4 h).1) (e4 h).2)
    refine ⟨c3, b3, l3, ?_, g2.mono (by omega), ?_, g4⟩
    · rw [F1yE, gT (by omega), e1, J0]
      simp only [e2, J0]
      rw [wr (by omega), J1, show ((d + 1 : Nat) : Int) - 1 = (d : Int) by omega]
      exact g1
    · rw [show k + (d + 1) = k + 1 + d by omega]
      exact g3
theorem Q2n (n : Nat) (hn : 1 ≤ n ∧ n ≤ 12) (d : Nat) : ∀ (i : Nat) (c : Dl1Cur) (B : Int) (b : Bool) (R : List (Bool × List Int)), i + d = n → Q7 c B → B + 10 * d ≤ 800000000000 → R.length = i → (∀ r ∈ R, Pts n 3 r.2 ∧ (r.1 = true → r.2 = [])) →
    ∃ c' b' R', F1r c (n : Int) (b, R) (i : Int) = some (c', (b', R')) ∧ Q7 c' (B + 10 * d) ∧ R'.length = n ∧ ∀ r ∈ R', Pts n 3 r.2 ∧ (r.1 = true → r.2 = []) := by
  have hlim := J6
  induction d with
  | zero =>
    intro i c B b R hi hc hB hR hr
    exact ⟨c, b, R, by rw [F1rE, gF (by omega)], hc.mono (by omega), by omega, hr⟩
  | succ d ih =>
    intro i c B b R hi hc hB hR hr
    obtain ⟨c2, x, e1, h1, x1, x2⟩ := Q6 c 4 B hc (by omega) (by omega)
    have x3 := x2 (by omega)
    obtain ⟨k, rfl⟩ := Ke x1
    obtain ⟨c3, b3, l3, e2, h2, p2, p3⟩ := Q2o (n : Int) (i : Int) (by omega) k c2 (B + 2) true [] 0 h1 (by omega) ⟨List.Pairwise.nil, fun x hx => (by cases hx), by simp⟩ (by omega) (fun _ => rfl)
    obtain ⟨c4, b4, R4, g1, g2, g3, g4⟩ := ih (i + 1) c3 (B + 10) (b && false) (R ++ [(b3, l3)]) (by omega) (h2.mono (by omega)) (by omega) (by simp; omega) (fun r hr2 => by
      rcases Kh.1 hr2 with q | q
      · exact hr r q
      · rw [Kx] at q
        rw [q]
        exact ⟨⟨p2.1, p2.2.1, by have := p2.2.2; simp only; omega⟩, p3⟩)
    refine ⟨c4, b4, R4, ?_, g2.mono (by omega), g3, g4⟩
    rw [F1rE, gT (by omega), e1, J0, e2, J0]
    simp only
    rw [gT (by simp; omega), up1 i (by omega), J1]
    exact g1
theorem Q2p (d : Nat) : ∀ (c : Dl1Cur) (B : Int) (b : Bool) (R : List (Bool × List Int)), Q7 c B → B + 2 * d ≤ 800000000000 → R.length + d = 1202 → R.length ≤ 1201 →
    ∃ c' b' k, F1g c (b, R) = some (c', (b', R ++ List.replicate k (true, []))) ∧ Q7 c' (B + 2 * d) ∧ R.length + k ≤ 1201 := by
  have hlim := J6
  induction d with
  | zero => intro c B b R hc hB hR h1; omega
  | succ d ih =>
    intro c B b R hc hB hR h1
    obtain ⟨c2, x, e1, h2, x1, x2⟩ := Q6 c 2 B hc (by omega) (by omega)
    have x3 := x2 (by omega)
    rw [F1gE, e1, J0]
    simp only
    rw [wr (by omega)]
    by_cases q : (R.length : Int) < 1200 + x
    · obtain ⟨c4, b4, k, g1, g2, g3⟩ := ih c2 (B + 2) (b && false) (R ++ [(true, [])]) h2 (by omega) (by simp; omega) (by simp; omega)
      refine ⟨c4, b4, k + 1, ?_, g2.mono (by omega), by simp at g3; omega⟩
      rw [gT q, gT (by simp; omega), J1, g1, List.replicate_succ, Kk]
      rfl
    · refine ⟨c2, b, 0, ?_, h2.mono (by omega), by omega⟩
      rw [gF q]
      simp
/-- what is known of a drawn graph -/
structure Drawn (R : List (Bool × List Int)) : Prop where
  one : 1 ≤ R.length
  most : R.length ≤ 1201
  rows : ∀ r ∈ R, r.2.length ≤ 4 ∧ (∀ x ∈ r.2, 0 ≤ x ∧ x ≤ 12) ∧ (r.1 = true → r.2 = [])
theorem Q1z (c : Dl1Cur) (B : Int) (hc : Q7 c B) (hB : B ≤ 100000000000) : ∃ c' b R, F4 c = some (c', (b, R)) ∧ Q7 c' (B + 10000) ∧ Drawn R := by
  have hlim := J6
  obtain ⟨c1, x, e1, h1, x1, x2⟩ := Q6 c 12 B hc (by omega) (by omega)
  have x3 := x2 (by omega)
  obtain ⟨k, rfl⟩ := Ke x1
  have ew : IntKind.i64.wrap (1 + (k : Int)) = ((k + 1 : Nat) : Int) := by rw [wr (by omega)]; omega
  obtain ⟨c2, b2, R, e2, h2, r1, r2⟩ := Q2n (k + 1) (by omega) (k + 1) 0 c1 (B + 2) true [] (by omega) h1 (by omega) rfl (fun r hr => by cases hr)
  have e2' : F1r c1 ((k + 1 : Nat) : Int) (true, []) 0 = _ := e2
  obtain ⟨c3, y, e3, h3, y1, y2⟩ := Q6 c2 40 _ h2 (by omega) (by omega)
  have old : ∀ r ∈ R, r.2.length ≤ 4 ∧ (∀ x ∈ r.2, 0 ≤ x ∧ x ≤ 12) ∧ (r.1 = true → r.2 = []) := fun r hr => by
    obtain ⟨⟨a1, a2, a3⟩, a4⟩ := r2 r hr
    exact ⟨by omega, fun x hx => by have := a2 x hx; omega, a4⟩
  rw [F4E, e1, J0]
  simp only [ew, e2', J0, e3]
  obtain ⟨r0, R', rfl⟩ : ∃ r0 R', R = r0 :: R' := by
    cases R with
    | nil => simp at r1
    | cons r0 R' => exact ⟨r0, R', rfl⟩
  have hr0 := r2 r0 Ki
  by_cases q0 : y = 0
  · subst q0
    have h03 := hr0.1.2.2
    rw [bT (by simp), gT (by omega), gT (by simp only [List.getD_cons_zero, Kq, List.length_nil]; omega), gT (by omega), bT (by simp)]
    refine ⟨_, _, _, rfl, h3.mono (by omega), ⟨by simp, by simp only [List.set_cons_zero, Kq] at r1 ⊢; omega, fun r hr => ?_⟩⟩
    simp only [List.set_cons_zero, List.getD_cons_zero] at hr
    rcases Kd.1 hr with rfl | hr
    · refine ⟨by simp; omega, fun x hx => ?_, by simp⟩
      rcases Kh.1 hx with hx | hx
      · exact (old r0 Ki).2.1 x hx
      · rw [Kx] at hx
        rw [hx]
        omega
    · exact old r (K8 _ hr)
  · rw [bF (by simpa using q0)]
    by_cases q1 : y = 1
    · subst q1
      rw [bT (by simp), gT (by omega)]
      refine ⟨_, _, _, rfl, h3.mono (by omega), ⟨by simp, by simp only [List.set_cons_zero, Kq] at r1 ⊢; omega, fun r hr => ?_⟩⟩
      simp only [List.set_cons_zero] at hr
      rcases Kd.1 hr with rfl | hr
      · refine ⟨by simp, fun x hx => ?_, by simp⟩
        simp only [Kd, List.not_mem_nil, or_false] at hx
        rcases hx with rfl | rfl <;> omega
      · exact old r (K8 _ hr)
    · rw [bF (by simpa using q1)]
      by_cases q2 : y = 2
      · subst q2
        obtain ⟨c4, b4, k4, g1, g2, g3⟩ := Q2p (1202 - (r0 :: R').length) c3 _ b2 (r0 :: R') h3 (by omega) (by omega) (by omega)
        rw [bT (by simp), g1, J0]
        refine ⟨_, _, _, rfl, g2.mono (by omega), ⟨by simp, by rw [Kj, K24]; exact g3, fun r hr => ?_⟩⟩
        rcases Kh.1 hr with hr | hr
        · exact old r hr
        · rw [(List.mem_replicate.1 hr).2]
          exact ⟨by simp, fun x hx => (by cases hx), fun _ => rfl⟩
      · rw [bF (by simpa using q2)]
        exact ⟨_, _, _, rfl, h3.mono (by omega), ⟨by omega, by omega, old⟩⟩
theorem Q2d (n : Int) (hn : 1 ≤ n ∧ n ≤ 1000000) (d : Nat) : ∀ (c : Dl1Cur) (B : Int) (b : Bool) (l : List Int) (k : Nat), Q7 c B → B + 2 * d ≤ 900000000000 → Pts n k l → k + d ≤ 1000 → (b = true → l = []) →
    ∃ c' b' l', F1j c n (b, l) (d : Int) = some (c', (b', l')) ∧ Q7 c' (B + 2 * d) ∧ Pts n (k + d) l' ∧ (b' = true → l' = []) := by
  induction d with
  | zero =>
    intro c B b l k hc hB hl hk hfl
    exact ⟨c, b, l, by rw [F1jE, gF (by omega)], hc.mono (by omega), hl, hfl⟩
  | succ d ih =>
    intro c B b l k hc hB hl hk hfl
    obtain ⟨c2, x, e1, h1, x1, x2⟩ := Q6 c n B hc (by omega) (by omega)
    have hl2 := hl.2.2
    obtain ⟨f, e2, e4⟩ := Q34 b l x (by omega)
    obtain ⟨c3, b3, l3, g1, g2, g3, g4⟩ := ih c2 (B + 2) f (insL x l) (k + 1) h1 (by omega) (hl.ins ⟨x1, x2 hn.1⟩) (by omega) (fun h => absurd (hfl (e4 h).1) (e4 h).2)
    refine ⟨c3, b3, l3, ?_, g2.mono (by omega), ?_, g4⟩
    · rw [F1jE, gT (by omega), e1, J0]
      simp only [e2, J0]
      rw [wr (by omega), J1, show ((d + 1 : Nat) : Int) - 1 = (d : Int) by omega]
      exact g1
    · rw [show k + (d + 1) = k + 1 + d by omega]
      exact g3
theorem Qr (c : Dl1Cur) (B : Int) (hc : Q7 c B) (hB : B ≤ 100000000000) (n : Int) (hn : 1 ≤ n ∧ n ≤ 1000000) (most : Nat) (hm : most ≤ 10) : ∃ c' b l, Fe c n (most : Int) = some (c', (b, l)) ∧ Q7 c' (B + 100) ∧ Pts (n + 1) (most + 1) l ∧ (b = true → l = []) := by
  have hlim := J6
  obtain ⟨c1, x, e1, h1, x1, x2⟩ := Q6 c ((most : Int) + 1) B hc (by omega) (by omega)
  have x3 := x2 (by omega)
  obtain ⟨k, rfl⟩ := Ke x1
  have ew : IntKind.i64.wrap ((most : Int) + 1) = (most : Int) + 1 := wr (by omega)
  obtain ⟨c2, b2, l, e2, h2, ⟨p1, p2, p3⟩, p4⟩ := Q2d n hn k c1 (B + 2) true [] 0 h1 (by omega) ⟨List.Pairwise.nil, fun x hx => (by cases hx), by simp⟩ (by omega) (fun _ => rfl)
  obtain ⟨c3, y, e3, h3⟩ := Q37 c2 40 _ h2 (by omega) (by omega)
  rw [FeE]
  simp only [ew, e1, J0, e2, e3]
  cases y with
  | false => exact ⟨_, _, _, rfl, h3.mono (by omega), ⟨p1, fun x hx => by have := p2 x hx; omega, by omega⟩, p4⟩
  | true =>
    rw [cond_true, gT (by simp; omega)]
    refine ⟨_, _, _, rfl, h3.mono (by omega), ⟨?_, fun x hx => ?_, by simp; omega⟩, by simp⟩
    · rw [Qv, List.pairwise_append]
      refine ⟨p1, List.pairwise_singleton _ _, fun a ha b hb => ?_⟩
      rw [Kx] at hb
      rw [hb]
      exact (p2 a ha).2
    · rcases Kh.1 hx with hx | hx
      · have := p2 x hx
        omega
      · rw [Kx] at hx
        rw [hx]
        omega
/-- the arrows of a graph given by its rows -/
def gG (G : List (List Int)) : Int → List Int := fun x => if 0 ≤ x then G.getD x.toNat [] else []
theorem Q38 (G : List (List Int)) {x : Int} (h : 0 ≤ x) : gG G x = G.getD x.toNat [] := if_pos h
/-- one arrow: what is known stays, what is new waits -/
structure Step1 (k : Nat) (s q : List Int) (s2 q2 : List Int) : Prop where
  len : s2.length = s.length
  same : ∀ v, v < s.length → 0 ≤ s.getD v 0 → s2.getD v 0 = s.getD v 0
  new : ∀ v, v < s.length → 0 ≤ s2.getD v 0 → 0 ≤ s.getD v 0 ∨ ((v : Int) ∈ q2 ∧ 1 ≤ s2.getD v 0)
  que : ∀ w ∈ q, w ∈ q2
theorem Step1.refl (k : Nat) (s q : List Int) : Step1 k s q s q := ⟨rfl, fun _ _ _ => rfl, fun _ _ h => Or.inl h, fun _ h => h⟩
theorem Step1.trans {k : Nat} {s q s2 q2 s3 q3 : List Int} (h : Step1 k s q s2 q2) (h2 : Step1 k s2 q2 s3 q3) : Step1 k s q s3 q3 := by
  refine ⟨by rw [h2.len, h.len], fun v hv h0 => ?_, fun v hv h0 => ?_, fun w hw => h2.que w (h.que w hw)⟩
  · rw [h2.same v (by rw [h.len]; exact hv) (by rw [h.same v hv h0]; exact h0), h.same v hv h0]
  · rcases h2.new v (by rw [h.len]; exact hv) h0 with a | ⟨a, b⟩
    · rcases h.new v hv a with c | ⟨c, d⟩
      · exact Or.inl c
      · refine Or.inr ⟨h2.que _ c, ?_⟩
        rw [h2.same v (by rw [h.len]; exact hv) a]
        exact d
    · exact Or.inr ⟨a, b⟩
theorem Q2y {k : Nat} {s q : List Int} (hk : k < s.length) (hk0 : 0 ≤ s.getD k 0) {w : Int} (hw : 0 ≤ w ∧ w < (s.length : Int)) : Step1 k s q (Q3 k (s, q) w).1 (Q3 k (s, q) w).2 ∧ 0 ≤ (Q3 k (s, q) w).1.getD w.toNat 0 := by
  have hwl : w.toNat < s.length := by omega
  unfold Q3
  by_cases c : s.getD w.toNat 0 < 0
  · simp only [if_pos c]
    refine ⟨⟨by rw [Ks], fun v hv h0 => ?_, fun v hv h0 => ?_, fun x hx => Kb _ hx⟩, ?_⟩
    · rw [Q0 s _ _ _ hwl]
      split
      · rename_i e
        subst e
        omega
      · rfl
    · rw [Q0 s _ _ _ hwl] at h0 ⊢
      split
      · rename_i e
        refine Or.inr ⟨?_, by omega⟩
        have : (v : Int) = w := by omega
        rw [this]
        simp
      · rename_i e
        rw [if_neg e] at h0
        exact Or.inl h0
    · rw [Q0 s _ _ _ hwl, if_pos rfl]
      omega
  · simp only [if_neg c]
    exact ⟨Step1.refl k s q, by omega⟩
theorem Q2x {k : Nat} (ws : List Int) : ∀ {s q : List Int}, k < s.length → 0 ≤ s.getD k 0 → (∀ w ∈ ws, 0 ≤ w ∧ w < (s.length : Int)) → Step1 k s q (ws.foldl (Q3 k) (s, q)).1 (ws.foldl (Q3 k) (s, q)).2 ∧ ∀ w ∈ ws, 0 ≤ (ws.foldl (Q3 k) (s, q)).1.getD w.toNat 0 := by
  induction ws with
  | nil => intro s q _ _ _; exact ⟨Step1.refl k s q, fun w hw => by cases hw⟩
  | cons a ws ih =>
    intro s q hk hk0 hw
    obtain ⟨h1, h2⟩ := Q2y (q := q) hk hk0 (hw a Ki)
    have hl := h1.len
    obtain ⟨h3, h4⟩ := ih (s := (Q3 k (s, q) a).1) (q := (Q3 k (s, q) a).2) (by omega) (by rw [h1.same k hk hk0]; exact hk0) (fun w hw2 => by rw [hl]; exact hw w (K8 _ hw2))
    rw [K19]
    refine ⟨h1.trans h3, fun w hw2 => ?_⟩
    rcases Kd.1 hw2 with rfl | hw2
    · have ha := hw w Ki
      rw [h3.same w.toNat (by omega) h2]
      exact h2
    · exact h4 w hw2
/-- what has been left has no arrow to what is not known -/
def Q2g (G : List (List Int)) (s q : List Int) : Prop := ∀ v : Nat, v < s.length → 0 ≤ s.getD v 0 → (v : Int) ∈ q ∨ ∀ w ∈ G.getD v [], 0 ≤ s.getD w.toNat 0
/-- no steps but at the beginning -/
def Zero (l s : List Int) : Prop := ∀ v : Nat, v < s.length → s.getD v 0 = 0 → (v : Int) ∈ l
theorem Q26 {m : Nat} {G : List (List Int)} (hG : Gr m G) (l : List Int) (n : Nat) : ∀ (s q : List Int), BInv m s q → Q2g G s q → Zero l s → 2 * negs s + q.length ≤ n → Q2g G (bfsL G n s q) [] ∧ Zero l (bfsL G n s q) ∧ (bfsL G n s q).length = m ∧ ∀ v, v < m → 0 ≤ s.getD v 0 → (bfsL G n s q).getD v 0 = s.getD v 0 := by
  induction n with
  | zero =>
    intro s q hI hS hZ hn
    have : q = [] := List.length_eq_zero_iff.1 (by omega)
    subst this
    exact ⟨hS, hZ, hI.len, fun _ _ _ => rfl⟩
  | succ n ih =>
    intro s q hI hS hZ hn
    cases q with
    | nil => exact ⟨hS, hZ, hI.len, fun _ _ _ => rfl⟩
    | cons k q =>
      obtain ⟨hk1, hk2⟩ := hI.que k Ki
      have hlen := hI.len
      have hI' : BInv m s q := ⟨hI.len, hI.low, hI.high, fun w hw => hI.que w (K8 _ hw)⟩
      have hkG : k.toNat < G.length := by rw [hG.len]; omega
      have e : G.getD k.toNat [] ∈ G := by
        have e : G.getD k.toNat [] = G[k.toNat] := by simp [K1, hkG]
        rw [e]
        exact K4 _
      have hin := hG.inn _ e
      obtain ⟨v1, v2⟩ := Qo (show k.toNat < m by omega) (G.getD k.toNat []) hI' hk2 hin
      obtain ⟨t1, t2⟩ := Q2x (q := q) (G.getD k.toNat []) (k := k.toNat) (s := s) (by omega) hk2 (by rw [hlen]; exact hin)
      have hl2 := t1.len
      simp only [Kq] at hn
      obtain ⟨a1, a2, a3, a4⟩ := ih _ _ v1 (fun v hv h0 => by
        rcases t1.new v (by omega) h0 with c | ⟨c, _⟩
        · rcases hS v (by omega) c with d | d
          · rcases Kd.1 d with d | d
            · right
              have ev : k.toNat = v := by omega
              rw [← ev]
              exact t2
            · exact Or.inl (t1.que _ d)
          · right
            intro w hw
            have hvG : v < G.length := by rw [hG.len]; omega
            have e2 : G.getD v [] ∈ G := by
              have e : G.getD v [] = G[v] := by simp [K1, hvG]
              rw [e]
              exact K4 _
            have hwi := hG.inn _ e2 w hw
            rw [t1.same w.toNat (by omega) (d w hw)]
            exact d w hw
        · exact Or.inl c) (fun v hv h0 => by
        rcases t1.new v (by omega) (by omega) with c | ⟨_, c⟩
        · exact hZ v (by omega) (by rw [← t1.same v (by omega) c]; exact h0)
        · omega) (by omega)
      refine ⟨a1, a2, a3, fun v hv h0 => ?_⟩
      have := t1.same v (by omega) h0
      show (bfsL G n _ _).getD v 0 = _
      rw [a4 v hv (by rw [this]; exact h0), this]
theorem Q1g (m : Nat) (l : List Int) (hl : ∀ w ∈ l, 0 ≤ w ∧ w < (m : Int)) (v : Nat) (hv : v < m) : (far0 m l).getD v 0 = if (v : Int) ∈ l then 0 else -1 := by
  have key : ∀ (l s : List Int), (∀ w ∈ l, 0 ≤ w ∧ w < (m : Int)) → s.length = m → (l.foldl (fun s w => s.set w.toNat 0) s).getD v 0 = if (v : Int) ∈ l then 0 else s.getD v 0 := by
    intro l
    induction l with
    | nil => intro s _ _; rfl
    | cons a l ih =>
      intro s hw hs
      have ha := hw a Ki
      rw [K19, ih _ (fun w h => hw w (K8 _ h)) (by rw [Ks]; exact hs), Q0 s _ _ _ (by omega)]
      by_cases c : (v : Int) ∈ l
      · rw [if_pos c, if_pos (K8 _ c)]
      · rw [if_neg c]
        by_cases e : a.toNat = v
        · rw [if_pos e, if_pos (by have : (v : Int) = a := by omega
                                   rw [this]; exact Ki)]
        · rw [if_neg e, if_neg (fun q => by
            rcases Kd.1 q with q | q
            · omega
            · exact c q)]
  have := key l (List.replicate m (-1)) hl (by simp)
  rw [far0, this]
  congr 1
  simp [K1, hv]
/-- the steps tell what is reached -/
theorem Qn {m : Nat} {G : List (List Int)} (hG : Gr m G) (l : List Int) (hw : ∀ w ∈ l, 0 ≤ w ∧ w < (m : Int)) : (farL G l).length = m ∧ Q2g G (farL G l) [] ∧ Zero l (farL G l) ∧ (∀ w ∈ l, (farL G l).getD w.toNat 0 = 0) ∧ Pred G (farL G l) := by
  have hI := Qj m l hw
  have hn := Qs (far0 m l)
  have hlen := hI.len
  have hS : Q2g G (far0 m l) l := fun v hv h0 => by
    rw [Q1g m l hw v (by omega)] at h0
    split at h0
    · rename_i h; exact Or.inl h
    · omega
  have hZ : Zero l (far0 m l) := fun v hv h0 => by
    rw [Q1g m l hw v (by omega)] at h0
    split at h0
    · rename_i h; exact h
    · omega
  have hb := Q26 hG l (2 * m + l.length) (far0 m l) l hI hS hZ (by omega)
  have hP := Q17 hG l hw
  rw [farL, hG.len] at hP ⊢
  obtain ⟨b1, b2, b3, b4⟩ := hb
  refine ⟨b3, b1, b2, fun w hwl => ?_, hP⟩
  have hwi := hw w hwl
  have e : (far0 m l).getD w.toNat 0 = 0 := by
    rw [Q1g m l hw w.toNat (by omega), if_pos (by rw [K1o hwi.1]; exact hwl)]
  rw [b4 w.toNat (by omega) (by omega), e]
theorem Q3h {m : Nat} {G : List (List Int)} (hG : Gr m G) : ∀ x, ∀ y ∈ gG G x, 0 ≤ y ∧ y < (m : Int) := by
  intro x y hy
  unfold gG at hy
  split at hy
  · by_cases q : x.toNat < G.length
    · have e : G.getD x.toNat [] = G[x.toNat] := by simp [K1, q]
      rw [e] at hy
      exact hG.inn _ (K4 q) y hy
    · rw [K1, K1n (Nat.le_of_not_lt q)] at hy
      cases hy
  · cases hy
theorem Q11 {m : Nat} {G : List (List Int)} (hG : Gr m G) (l : List Int) (hw : ∀ w ∈ l, 0 ≤ w ∧ w < (m : Int)) (v : Int) (hv : 0 ≤ v ∧ v < (m : Int)) : 0 ≤ (farL G l).getD v.toNat 0 ↔ ∃ u ∈ l, Way (gG G) u v := by
  obtain ⟨h1, h2, h3, h4, h5⟩ := Qn hG l hw
  constructor
  · have key : ∀ (n : Nat) (v : Nat), v < m → (farL G l).getD v 0 = (n : Int) → ∃ u ∈ l, Way (gG G) u (v : Int) := by
      intro n
      induction n with
      | zero =>
        intro v hv h0
        exact ⟨(v : Int), h3 v (by omega) h0, Way.here _⟩
      | succ n ih =>
        intro v hv h0
        obtain ⟨u, u1, u2, u3⟩ := h5 v (by omega) (by omega)
        obtain ⟨a, a1, a2⟩ := ih u (by omega) (by omega)
        exact ⟨a, a1, a2.snoc (by rw [Q38 G (by omega), K7]; exact u2)⟩
    intro h0
    obtain ⟨n, hn⟩ := Ke h0
    have := key n v.toNat (by omega) hn
    rwa [K1o hv.1] at this
  · rintro ⟨u, hu, huv⟩
    have hui := hw u hu
    have key : (0 ≤ v ∧ v < (m : Int)) ∧ 0 ≤ (farL G l).getD v.toNat 0 := Way.closed (P := fun x => (0 ≤ x ∧ x < (m : Int)) ∧ 0 ≤ (farL G l).getD x.toNat 0) (fun x hx y hy => by
      have hyi := Q3h hG x y hy
      refine ⟨hyi, ?_⟩
      rcases h2 x.toNat (by omega) hx.2 with c | c
      · cases c
      · rw [Q38 G hx.1.1] at hy
        exact c y hy) huv ⟨hui, by rw [h4 u hu]; omega⟩
    exact key.2
theorem Q21 {m : Nat} {G : List (List Int)} (hG : Gr m G) (l : List Int) (hw : ∀ w ∈ l, 0 ≤ w ∧ w < (m : Int)) (v : Int) : v ∈ Q9 G l ↔ (0 ≤ v ∧ v < (m : Int)) ∧ ∃ u ∈ l, Way (gG G) u v := by
  obtain ⟨h1, _⟩ := Qn hG l hw
  unfold Q9
  simp only [Ku, K1l, K1v, decide_eq_true_eq, h1]
  constructor
  · rintro ⟨i, ⟨hi, h0⟩, rfl⟩
    have hv : 0 ≤ Int.ofNat i ∧ Int.ofNat i < (m : Int) := ⟨Int.natCast_nonneg _, by simp; omega⟩
    exact ⟨hv, (Q11 hG l hw (Int.ofNat i) hv).1 (by simpa using h0)⟩
  · rintro ⟨hv, h⟩
    exact ⟨v.toNat, ⟨by omega, (Q11 hG l hw v hv).2 h⟩, K1o hv.1⟩
/-- a graph as the laws want it -/
def Q1j (G : List (List Int)) : Bool := decide ((G.length : Int) ≤ 1200) && (G.all (fun l => Qa (G.length : Int) l) && decide ((tot G : Int) ≤ 20000))
theorem Q1x (a : List Int) (G : List (List Int)) : tot (a :: G) = a.length + tot G := by simp [tot]
theorem Q19 (g : DGraph) (hr : ∀ r ∈ g.2, r.2.length ≤ 100000) (hn : g.2.length ≤ 100000) (d : Nat) : ∀ (i : Nat) (A : Int), i + d = g.2.length → 0 ≤ A → A + 100000 * d ≤ 100000000000 →
    F1b g A g (g.2.length : Int) (i : Int) = some (bif (g.2.drop i).all (fun r => Qa (g.2.length : Int) r.2) then .inr (A + (tot ((g.2.drop i).map Prod.snd) : Int)) else .inl false) := by
  induction d with
  | zero =>
    intro i A hi hA hB
    rw [F1bE, gF (by omega), K9 (by omega)]
    simp [tot]
  | succ d ih =>
    intro i A hi hA hB
    have hlt : i < g.2.length := by omega
    have hx := hr _ (K4 hlt)
    rw [F1bE, gT (by omega), gT (by omega), gT (by omega), J2 g.2 _ i hlt, Qe _ _ (by omega), J0, K3 hlt, List.all_cons]
    cases hh : Qa (g.2.length : Int) (g.2[i]).2 with
    | false => rfl
    | true =>
      rw [K5, cond_false, up1 i (by omega), J1, wr (by omega), ih (i + 1) _ (by omega) (by omega) (by omega), K15, K14, Q1x]
      congr 3
      omega
theorem Q1a (g : DGraph) (hr : ∀ r ∈ g.2, r.2.length ≤ 100000) (hn : g.2.length ≤ 1200) (d : Nat) : ∀ (i : Nat) (A : Int), i + d = g.2.length → 0 ≤ A → A + 100000 * d ≤ 100000000000 →
    F1o g A g (g.2.length : Int) (i : Int) = some (bif (g.2.drop i).all (fun r => Qa (g.2.length : Int) r.2) then .inr (A + (tot ((g.2.drop i).map Prod.snd) : Int)) else .inl false) := by
  induction d with
  | zero =>
    intro i A hi hA hB
    rw [F1oE, gF (by omega), K9 (by omega)]
    simp [tot]
  | succ d ih =>
    intro i A hi hA hB
    have hlt : i < g.2.length := by omega
    have hx := hr _ (K4 hlt)
    rw [F1oE, gT (by omega), gT (by omega), gT (by omega), J2 g.2 _ i hlt, K3 hlt, List.all_cons]
    by_cases c : ((g.2[i]).2.length : Int) > 1200
    · rw [gT c]
      cases hh : Qa (g.2.length : Int) (g.2[i]).2 with
      | false => rfl
      | true =>
        have := Qp hh (by omega)
        omega
    · rw [gF c, FmE, wr (by omega), Q12 _ _ (by omega), J0, J0]
      cases hh : Qa (g.2.length : Int) (g.2[i]).2 with
      | false => rfl
      | true =>
        rw [K5, cond_false, up1 i (by omega), J1, wr (by omega), ih (i + 1) _ (by omega) (by omega) (by omega), K15, K14, Q1x]
        congr 3
        omega
theorem Q29 (g : DGraph) (hr : ∀ r ∈ g.2, r.2.length ≤ 100000) (hn : g.2.length ≤ 100000) : Fj g = some (Q1j (g.2.map Prod.snd)) ∧ Fg g = some (Q1j (g.2.map Prod.snd)) := by
  have ea : ((g.2.map Prod.snd).all fun l => Qa ((g.2.map Prod.snd).length : Int) l) = g.2.all fun r => Qa (g.2.length : Int) r.2 := by rw [List.all_map, Kv]; rfl
  unfold Q1j
  rw [ea, Kv, FjE, FgE]
  by_cases c : (g.2.length : Int) > 1200
  · rw [gT c, gT c, decide_eq_false (by omega)]
    exact ⟨rfl, rfl⟩
  · have e1 := Q19 g hr hn g.2.length 0 0 (by omega) (by omega) (by omega)
    have e2 := Q1a g hr (by omega) g.2.length 0 0 (by omega) (by omega) (by omega)
    have e1' : F1b g 0 g (g.2.length : Int) 0 = _ := e1
    have e2' : F1o g 0 g (g.2.length : Int) 0 = _ := e2
    rw [gF c, gF c, e1', e2', J0, Kg, decide_eq_true (by omega), K15, Int.zero_add]
    cases g.2.all fun r => Qa (g.2.length : Int) r.2 <;> exact ⟨rfl, rfl⟩
theorem Q2m {G : List (List Int)} (h : Q1j G = true) : G.length ≤ 1200 ∧ (∀ l ∈ G, Qa (G.length : Int) l = true) ∧ tot G ≤ 20000 := by
  simp only [Q1j, K6, decide_eq_true_eq, Ky] at h
  exact ⟨by omega, h.2.1, by omega⟩
theorem Q2l {G : List (List Int)} (h : Q1j G = true) : Gr G.length G ∧ ∀ l ∈ G, l.length ≤ 2000 := by
  obtain ⟨h1, h2, h3⟩ := Q2m h
  have hl : ∀ l ∈ G, l.length ≤ 1200 := fun l hl => by
    have := Qp (h2 l hl) (by omega)
    omega
  exact ⟨⟨rfl, fun l hl w hw => Q13 (h2 l hl) w hw, fun l h => by have := hl l h; omega, by omega⟩, fun l h => by have := hl l h; omega⟩
/-! what the laws ask -/
theorem Qc (f g : Bool) (l : List Int) (hl : l.length ≤ 1048576) : Fb (f, l) (g, l) = some true := by
  have key : ∀ (d i : Nat), i + d = l.length → F1t (f, l) (g, l) (l.length : Int) (i : Int) = some (.inr ()) := by
    intro d
    induction d with
    | zero => intro i hi; rw [F1tE, gF (by omega)]
    | succ d ih =>
      intro i hi
      have hlt : i < l.length := by omega
      rw [F1tE, gT (by omega), gT (by omega), gT (by simp only; omega), gT (by omega), gT (by simp only; omega), bF (by simp), up1 i (by omega), J1, ih (i + 1) (by omega)]
  have := key l.length 0 (by omega)
  have h' : F1t (f, l) (g, l) (l.length : Int) 0 = _ := this
  rw [FbE, bF (by simp), h', J0]
theorem Qw (b : Bool) (l : List Int) (n : Int) (hl : l.length ≤ 1048576) : F7 (b, l) n = some (l.any fun x => x == n) := by
  have h := Q2i l (fun x => x == n) true (fun i => F1v n (b, l) (l.length : Int) i) (fun i h => by
    rw [F1vE, gT (by omega), gT (by omega), gT (by simp only; omega), J2 l _ i h, up1 i (by omega), J1]) (by rw [F1vE, gF (by omega)])
  rw [F7E]
  simp only [h, J0]
  cases l.any fun x => x == n <;> rfl
theorem Q39 {m : Nat} {G : List (List Int)} (hG : Gr m G) : ∀ x y, 0 ≤ x ∧ x < (m : Int) → (y ∈ gG (Q1 G) x ↔ x ∈ gG G y) := by
  have hg : ∀ l ∈ G, ∀ w ∈ l, 0 ≤ w ∧ w < (G.length : Int) := by rw [hG.len]; exact hG.inn
  intro x y hx
  rw [Q38 _ hx.1, Ql hg]
  have ex : ((x.toNat : Nat) : Int) = x := K1o hx.1
  unfold gG
  constructor
  · rintro ⟨v, hv1, rfl, hv3⟩
    rw [if_pos (by omega), K7, ← ex]
    exact hv3
  · intro h
    split at h
    · rename_i hy
      by_cases q : y.toNat < G.length
      · exact ⟨y.toNat, q, (K1o hy).symm, by rw [ex]; exact h⟩
      · rw [K1, K1n (Nat.le_of_not_lt q)] at h
        cases h
    · cases h
/-- ways in a graph that is turned around -/
theorem Q32 {m : Nat} {G : List (List Int)} (hG : Gr m G) {a b : Int} (hb : 0 ≤ b ∧ b < (m : Int)) : Way (gG G) a b → Way (gG (Q1 G)) b a := by
  intro h
  induction h with
  | here a => exact Way.here a
  | step e _ ih => exact (ih hb).snoc ((Q39 hG _ _ (Q3h hG _ _ e)).2 e)
theorem Q28 {l : List Int} {i j : Nat} (h : Qv l) (hi : i < j) (hj : j < l.length) : l.getD i 0 < l.getD j 0 := by
  have e1 : l.getD i 0 = l[i]'(by omega) := by simp [K1, show i < l.length by omega]
  have e2 : l.getD j 0 = l[j] := by simp [K1, hj]
  rw [e1, e2]
  exact List.pairwise_iff_getElem.1 h i j (by omega) hj hi
theorem Q2u {n : Int} {l : List Int} (h : Qv l) (hr : ∀ x ∈ l, 0 ≤ x ∧ x < n) : Qa n l = true := by
  unfold Qa
  rw [Ky]
  intro i hi
  rw [K1v] at hi
  have e : l.getD i 0 = l[i] := by simp [K1, hi]
  have hx := hr _ (K4 hi)
  rw [K6]
  refine ⟨decide_eq_true (by rw [e]; exact hx), ?_⟩
  by_cases c : i = 0
  · rw [decide_eq_true c]; rfl
  · rw [decide_eq_true (Q28 h (show i - 1 < i by omega) hi), Bool.or_true]
/-- the least of the marks -/
theorem Qq (s : List Int) (l : List Int) (hl : ∀ x ∈ l, 0 ≤ x) (x : Int) (hx : x ∈ l) (h0 : 0 ≤ s.getD x.toNat 0) : 0 ≤ Q4 s l ∧ s.getD (Q4 s l).toNat 0 ≤ s.getD x.toNat 0 := by
  have key : ∀ (l : List Int) (b : Int), (∀ x ∈ l, 0 ≤ x) → ((0 ≤ b ∧ s.getD b.toNat 0 ≤ s.getD x.toNat 0) ∨ x ∈ l) → 0 ≤ l.foldl (Q8 s) b ∧ s.getD (l.foldl (Q8 s) b).toNat 0 ≤ s.getD x.toNat 0 := by
    intro l
    induction l with
    | nil => intro b _ h; exact h.resolve_right (by simp)
    | cons a l ih =>
      intro b hl h
      rw [K19]
      have ha := hl a Ki
      refine ih _ (fun y hy => hl y (K8 _ hy)) ?_
      unfold Q8
      rcases h with ⟨b0, b1⟩ | h
      · left
        by_cases c : s.getD a.toNat 0 ≥ 0
        · rw [if_pos c, if_neg (by omega)]
          by_cases c2 : s.getD a.toNat 0 < s.getD b.toNat 0
          · rw [if_pos c2]; exact ⟨ha, by omega⟩
          · rw [if_neg c2]; exact ⟨b0, b1⟩
        · rw [if_neg c]; exact ⟨b0, b1⟩
      · rcases Kd.1 h with rfl | h
        · left
          rw [if_pos (show s.getD x.toNat 0 ≥ 0 from h0)]
          by_cases c : b < 0
          · rw [if_pos c]; exact ⟨ha, Int.le_refl _⟩
          · rw [if_neg c]
            by_cases c2 : s.getD x.toNat 0 < s.getD b.toNat 0
            · rw [if_pos c2]; exact ⟨ha, Int.le_refl _⟩
            · rw [if_neg c2]; exact ⟨by omega, by omega⟩
        · exact Or.inr h
  exact key l (-1) hl (Or.inr hx)
theorem Q1y (s : List Int) (l : List Int) : Q4 s l < 0 ∨ (Q4 s l ∈ l ∧ 0 ≤ s.getD (Q4 s l).toNat 0) := by
  have key : ∀ (l m : List Int) (b : Int), (b < 0 ∨ (b ∈ m ∧ 0 ≤ s.getD b.toNat 0)) → (l.foldl (Q8 s) b < 0 ∨ (l.foldl (Q8 s) b ∈ m ++ l ∧ 0 ≤ s.getD (l.foldl (Q8 s) b).toNat 0)) := by
    intro l
    induction l with
    | nil => intro m b h; rw [K1k]; exact h
    | cons a l ih =>
      intro m b h
      have := ih (m ++ [a]) (Q8 s b a) (by
        unfold Q8
        by_cases c : s.getD a.toNat 0 ≥ 0
        · rw [if_pos c]
          by_cases c2 : b < 0
          · rw [if_pos c2]; exact Or.inr ⟨by simp, c⟩
          · rw [if_neg c2]
            by_cases c3 : s.getD a.toNat 0 < s.getD b.toNat 0
            · rw [if_pos c3]; exact Or.inr ⟨by simp, c⟩
            · rw [if_neg c3]; exact h.imp id fun q => ⟨Kb _ q.1, q.2⟩
        · rw [if_neg c]; exact h.imp id fun q => ⟨Kb _ q.1, q.2⟩)
      rw [Kk] at this
      exact this
  exact key l [] (-1) (Or.inl (by decide))
theorem Q2t {G : List (List Int)} {s : List Int} {v : Int} (h : ∃ u ∈ G.getD v.toNat [], s.getD u.toNat 0 = s.getD v.toNat 0 - 1) : Qg G s v ∈ G.getD v.toNat [] ∧ s.getD (Qg G s v).toNat 0 = s.getD v.toNat 0 - 1 := by
  obtain ⟨u, u1, u2⟩ := h
  unfold Qg
  cases q : (G.getD v.toNat []).find? fun w => s.getD w.toNat 0 == s.getD v.toNat 0 - 1 with
  | none =>
    have := List.find?_eq_none.1 q u u1
    exact absurd (beq_iff_eq.2 u2) this
  | some w => exact ⟨K1z q, by simpa using List.find?_some q⟩
theorem Q31 {m : Nat} {G : List (List Int)} (hG : Gr m G) (s : List Int) (hP : ∀ v : Nat, v < m → 0 < s.getD v 0 → ∃ u ∈ G.getD v [], s.getD u.toNat 0 = s.getD v 0 - 1) (n : Nat) : ∀ (k : Nat) (v : Int) (out : List Int), (0 ≤ v ∧ v < (m : Int)) → s.getD v.toNat 0 = (n : Int) → n ≤ k →
    ∃ t, wayL G s k v out = out ++ t ∧ t.length = n ∧ (∀ i, i < n → (v :: t).getD (i + 1) 0 ∈ G.getD ((v :: t).getD i 0).toNat []) ∧ ∀ i, i ≤ n → (0 ≤ (v :: t).getD i 0 ∧ (v :: t).getD i 0 < (m : Int)) ∧ s.getD ((v :: t).getD i 0).toNat 0 = (n : Int) - i := by
  induction n with
  | zero =>
    intro k v out hv h0 _
    refine ⟨[], ?_, rfl, fun i hi => by omega, fun i hi => ?_⟩
    · cases k with
      | zero => simp [wayL]
      | succ k => rw [wayL, if_neg (by omega), K1k]
    · obtain rfl : i = 0 := by omega
      exact ⟨hv, by simpa using h0⟩
  | succ n ih =>
    intro k v out hv h0 hk
    obtain ⟨k, rfl⟩ : ∃ k', k = k' + 1 := ⟨k - 1, by omega⟩
    obtain ⟨n1, n2⟩ := Q2t (hP v.toNat (by omega) (by omega))
    have hvG : v.toNat < G.length := by rw [hG.len]; omega
    have e : G.getD v.toNat [] = G[v.toNat] := by simp [K1, hvG]
    have hin := hG.inn _ (K4 hvG) _ (e ▸ n1)
    obtain ⟨t, t1, t2, t3, t4⟩ := ih k (Qg G s v) (out ++ [Qg G s v]) hin (by omega) (by omega)
    refine ⟨Qg G s v :: t, ?_, by simp [t2], fun i hi => ?_, fun i hi => ?_⟩
    · rw [wayL, if_pos (by omega), t1, Kk]
      rfl
    · cases i with
      | zero => simpa using n1
      | succ i =>
        have := t3 i (by omega)
        simpa only [List.getD_cons_succ] using this
    · cases i with
      | zero => exact ⟨hv, by simpa using h0⟩
      | succ i =>
        have := t4 i (by omega)
        simp only [List.getD_cons_succ]
        exact ⟨this.1, by omega⟩
/-- what is known of a shortest way -/
structure ShortWay (G : List (List Int)) (fr to l : List Int) : Prop where
  len : l.length ≤ G.length
  pos : 1 ≤ l.length
  head : l.getD 0 0 ∈ fr
  last : l.getD (l.length - 1) 0 ∈ to
  arc : ∀ i, i + 1 < l.length → l.getD (i + 1) 0 ∈ G.getD (l.getD i 0).toNat []
  inn : ∀ i, i < l.length → 0 ≤ l.getD i 0 ∧ l.getD i 0 < (G.length : Int)
  notf : ∀ i, i + 1 < l.length → ¬ l.getD (i + 1) 0 ∈ fr
  nott : ∀ i, i + 1 < l.length → ¬ l.getD i 0 ∈ to
theorem Q1n {m : Nat} {G : List (List Int)} (hG : Gr m G) (hs : ∀ l ∈ G, l.length ≤ 2000) (fr to : List Int) (hfw : ∀ w ∈ fr, 0 ≤ w ∧ w < (m : Int)) (ht : to.length ≤ 10000) (htw : ∀ w ∈ to, 0 ≤ w ∧ w < (m : Int)) {l : List Int} (h : Qf G fr to = some l) : ShortWay G fr to l := by
  have hT := Q14 hG hs
  have hg : ∀ l ∈ G, ∀ w ∈ l, 0 ≤ w ∧ w < (G.length : Int) := by rw [hG.len]; exact hG.inn
  have hI := Qk hT to ht htw
  obtain ⟨f1, f2, f3, f4, f5⟩ := Qn hT to htw
  have hP2 : ∀ v : Nat, v < m → 0 < (farL (Q1 G) to).getD v 0 → ∃ u ∈ G.getD v [], (farL (Q1 G) to).getD u.toNat 0 = (farL (Q1 G) to).getD v 0 - 1 := by
    intro v hv h0
    obtain ⟨u, u1, u2, u3⟩ := f5 v (by omega) h0
    obtain ⟨v', _, hv2, hv3⟩ := (Ql hg u (v : Int)).1 u2
    have : v' = v := by omega
    subst this
    exact ⟨(u : Int), hv3, by rw [K7]; exact u3⟩
  unfold Qf at h
  by_cases c : Q4 (farL (Q1 G) to) fr < 0
  · rw [if_pos c] at h; cases h
  · rw [if_neg c] at h
    obtain ⟨b1, b2⟩ := (Q1y (farL (Q1 G) to) fr).resolve_left c
    have hb := hfw _ b1
    have hmin := fun x hx h0 => (Qq (farL (Q1 G) to) fr (fun x hx => (hfw x hx).1) x hx h0).2
    generalize Q4 (farL (Q1 G) to) fr = v at h c b1 b2 hb hmin
    generalize farL (Q1 G) to = s at h hI f1 f2 f3 f4 f5 hP2 b2 hmin
    obtain ⟨n, hn⟩ := Ke b2
    have hhi := hI.high _ (Qh (s := s) (i := v.toNat) (by omega))
    obtain ⟨t, t1, t2, t3, t4⟩ := Q31 hG s hP2 n G.length v [v] hb hn (by rw [hG.len]; omega)
    rw [t1] at h
    have el : l = v :: t := (Option.some.inj h).symm
    subst el
    have hl : (v :: t).length = n + 1 := by rw [Kq, t2]
    refine ⟨by rw [hl, hG.len]; omega, by omega, by simpa using b1, ?_, fun i hi => t3 i (by omega), fun i hi => ?_, fun i hi q => ?_, fun i hi q => ?_⟩
    · obtain ⟨a1, a2⟩ := t4 n (K12 _)
      rw [hl, Nat.add_sub_cancel]
      have := f3 ((v :: t).getD n 0).toNat (by omega) (by omega)
      rwa [K1o a1.1] at this
    · rw [hG.len]
      exact (t4 i (by omega)).1
    · obtain ⟨a1, a2⟩ := t4 (i + 1) (by omega)
      have := hmin _ q (by omega)
      omega
    · obtain ⟨a1, a2⟩ := t4 i (by omega)
      have := f4 _ q
      omega
theorem Q1m {m : Nat} {G : List (List Int)} (hG : Gr m G) (hs : ∀ l ∈ G, l.length ≤ 2000) (fr to : List Int) (hfw : ∀ w ∈ fr, 0 ≤ w ∧ w < (m : Int)) (htw : ∀ w ∈ to, 0 ≤ w ∧ w < (m : Int)) (h : Qf G fr to = none) {x y : Int} (hx : x ∈ fr) (hy : y ∈ to) : ¬ Way (gG G) x y := by
  intro hw
  have hT := Q14 hG hs
  have h1 : Way (gG (Q1 G)) y x := Q32 hG (htw y hy) hw
  have h2 := (Q11 hT to htw x (hfw x hx)).2 ⟨y, hy, h1⟩
  have h3 := (Qq (farL (Q1 G) to) fr (fun x hx => (hfw x hx).1) x hx h2).1
  unfold Qf at h
  rw [if_neg (by omega)] at h
  cases h
theorem Q3d (R : List (Bool × List Int)) (k : Nat) (hk : k < R.length) : R.getD k (true, []) ∈ R ∧ (R.map Prod.snd).getD k [] = (R.getD k (true, [])).2 := by
  have e : R.getD k (true, []) = R[k] := by simp [K1, hk]
  refine ⟨by rw [e]; exact K4 _, ?_⟩
  rw [e]
  simp [K1, hk]
theorem Q2v (g : DGraph) (fb tb pb : Bool) (fr to l : List Int) (hfr : fr.length ≤ 1000) (hto : to.length ≤ 1000) (hl : l.length ≤ 10000) (hrow : ∀ r ∈ g.2, r.2.length ≤ 100000) (h : ShortWay (g.2.map Prod.snd) fr to l) (d : Nat) : ∀ i : Nat, 1 ≤ i → i + d = l.length → F1u g (fb, fr) (tb, to) (pb, l) (i : Int) = some (.inr ()) := by
  induction d with
  | zero => intro i h1 hi; rw [F1uE, gF (by simp only; omega)]
  | succ d ih =>
    intro i h1 hi
    obtain ⟨j, rfl⟩ : ∃ j, i = j + 1 := ⟨i - 1, by omega⟩
    have ew : IntKind.i64.wrap (((j + 1 : Nat) : Int) - 1) = (j : Int) := by rw [wr (by omega)]; omega
    obtain ⟨a1, a2⟩ := h.inn j (by omega)
    rw [Kv] at a2
    have ha := h.arc j (by omega)
    have hk : (l.getD j 0).toNat < g.2.length := by omega
    obtain ⟨hmem, erow⟩ := Q3d g.2 _ hk
    have hr := hrow _ hmem
    rw [erow] at ha
    have x1 : F7 (g.2.getD (l.getD j 0).toNat (true, [])) (l.getD (j + 1) 0) = some true := by
      refine (Qw (g.2.getD (l.getD j 0).toNat (true, [])).1 (g.2.getD (l.getD j 0).toNat (true, [])).2 _ (by omega)).trans ?_
      rw [Kz.2 ⟨_, ha, by simp⟩]
    have x2 : F7 (fb, fr) (l.getD (j + 1) 0) = some false := by
      rw [Qw _ _ _ (by omega), List.any_eq_false.2 fun x hx q => h.notf j (by omega) (by rw [beq_iff_eq] at q; rw [← q]; exact hx)]
    have x3 : F7 (tb, to) (l.getD j 0) = some false := by
      rw [Qw _ _ _ (by omega), List.any_eq_false.2 fun x hx q => h.nott j (by omega) (by rw [beq_iff_eq] at q; rw [← q]; exact hx)]
    rw [F1uE]
    simp only [ew, K7]
    rw [gT (by omega), gT (by omega), gT (by omega), gT a1, gT a2, gT (by omega), gT (by omega), x1, J0, K5, cond_false, gT (by omega), gT (by omega), x2, J0, cond_false, gT (by omega), gT (by omega), x3, J0, cond_false, up1 (j + 1) (by omega), J1]
    exact ih (j + 1 + 1) (by omega) (by omega)
theorem Q2w (g : DGraph) (rb tb : Bool) (r to : List Int) (hr : r.length ≤ 100000) (ht : to.length ≤ 100000) (d : Nat) : ∀ (i : Nat) (f e : Bool), i + d = to.length → Fp g (rb, r) f e (tb, to) (to.length : Int) (i : Int) = some (f && (to.drop i).all (fun k => decide (k < (g.2.length : Int))), e || (to.drop i).any fun k => r.any fun x => x == k) := by
  induction d with
  | zero => intro i f e hi; rw [FpE, gF (by omega), K9 (by omega)]; simp
  | succ d ih =>
    intro i f e hi
    have hlt : i < to.length := by omega
    have hh := Qw rb r to[i] (by omega)
    rw [FpE, gT (by omega), gT (by omega), gT (by simp only; omega), J2 to _ i hlt, up1 i (by omega), K3 hlt, List.all_cons, List.any_cons]
    simp only [hh, J0, J1]
    cases f <;> cases e <;> simp only [cond_true, cond_false, ih (i + 1) _ _ (by omega), K15, Bool.false_and, Bool.true_or, Bool.false_or]
theorem Q1b (x0 : Bool × List Int) (x1 : Bool × List Int) (w0 : WfD (.sl (.int .u8)) x0) (w1 : WfD (.sl (.int .u8)) x1) : F5 x0 x1 = some true := by
  have hlim := J6
  obtain ⟨_, _, w03⟩ := w0
  obtain ⟨_, w12, w13⟩ := w1
  have w12' : (x1.2.length : Int) ≤ 9223372036854775807 := by have : x1.2.length ≤ 9223372036854775807 := w12; omega
  rw [F5E, FtE]
  by_cases c0 : (x0.2.length : Int) > 1048576
  · rw [gT c0, J0]; rfl
  rw [gF c0, J0, wr (by omega)]
  by_cases c1 : (x1.2.length : Int) > 1048576 - (x0.2.length : Int)
  · rw [decide_eq_true c1]; rfl
  rw [decide_eq_false c1, cond_false]
  obtain ⟨c', b, R, e1, hc1, hD⟩ := Q1z (x0, (0, 0)) 0 ⟨by simp only; omega, fun x hx => w03 x hx, by simp, by simp⟩ (by omega)
  have h1 := hD.one
  have h2 := hD.most
  obtain ⟨c2, fb, fr, e2, hc2, hf, hfb⟩ := Qr c' _ hc1 (by omega) (R.length : Int) (by omega) 3 (by omega)
  obtain ⟨c3, tb, to, e3, hc3, ht, htb⟩ := Qr c2 _ hc2 (by omega) (R.length : Int) (by omega) 2 (by omega)
  have e2' : Fe c' (R.length : Int) 3 = _ := e2
  have e3' : Fe c2 (R.length : Int) 2 = _ := e3
  obtain ⟨hf1, hf2, hf3⟩ := hf
  obtain ⟨ht1, ht2, ht3⟩ := ht
  have hrow : ∀ r ∈ R, r.2.length ≤ 100000 := fun r hr => by have := (hD.rows r hr).1; omega
  obtain ⟨g1, g2⟩ := Q29 (b, R) hrow (by simp only; omega)
  simp only at g1 g2
  rw [F10E, e1, J0]
  simp only [e2', J0, e3']
  have s0 : Fb (true, []) (true, []) = some true := Qc true true [] (by simp)
  have p1 := Qe (fb, fr) (R.length : Int) (by simp only; omega)
  have p2 := Qe (tb, to) (R.length : Int) (by simp only; omega)
  have q1 := Q12 (fb, fr) (R.length : Int) (by simp only; omega)
  have q2 := Q12 (tb, to) (R.length : Int) (by simp only; omega)
  have ew : IntKind.i64.wrap ((R.length : Int) - 1) = (R.length : Int) - 1 := wr (by omega)
  have l2 := fun rb r (hr : r.length ≤ 100000) f => Q2w (b, R) rb tb r to hr (by omega) to.length 0 f false (by omega)
  have l2' : ∀ rb r, r.length ≤ 100000 → ∀ f, Fp (b, R) (rb, r) f false (tb, to) (to.length : Int) 0 = some (f && to.all (fun k => decide (k < (R.length : Int))), to.any fun k => r.any fun x => x == k) := fun rb r hr f => by
    have := l2 rb r hr f
    simpa using this
  have l0 : ∀ f, Fp (b, R) (true, []) f false (tb, to) (to.length : Int) 0 = _ := fun f => l2' true [] (by simp) f
  simp only [F19E, FyE, F1aE, FzE, FsE, FmE, g1, g2, J0]
  cases hgood : Q1j (R.map Prod.snd) with
  | false =>
    simp only [Bool.not_false, cond_true, cond_false, J0, beq_self_eq_true, K5, s0, l0, Bool.false_and]
  | true =>
    obtain ⟨hG, hs⟩ := Q2l hgood
    have hsm := hG.small
    have hlen : R.length = (R.map Prod.snd).length := by rw [Kv]
    simp only [K5, cond_true, cond_false, J0, p1, p2, q1, q2, ew]
    cases hfi : Qa (R.length : Int) fr with
    | false => simp only [Bool.not_false, cond_true, cond_false, J0, beq_self_eq_true, K5, s0, l0, Bool.false_and]
    | true =>
      have hfw : ∀ w ∈ fr, 0 ≤ w ∧ w < ((R.map Prod.snd).length : Int) := by rw [← hlen]; exact Q13 hfi
      have r1 := Q1c hG (by omega) b (R := R) rfl fr (by omega) hfw fb hfb
      obtain ⟨b2, r2⟩ := Q2q hG b fb (R := R) rfl fr (by omega) hfw
      obtain ⟨z1, z2⟩ := Q2a hG fr (by omega) hfw
      have s1 := Qc false b2 (Q9 (R.map Prod.snd) fr) (by omega)
      simp only [K5, cond_false, r1, r2, J0]
      cases hti : Qa (R.length : Int) to with
      | false =>
        have l3 := l2' false (Q9 (R.map Prod.snd) fr) (by omega) true
        have hnot : to.all (fun k => decide (k < (R.length : Int))) = false := by
          cases q : to.all (fun k => decide (k < (R.length : Int))) with
          | false => rfl
          | true =>
            have := Q2u (n := (R.length : Int)) ht1 (fun x hx => ⟨(ht2 x hx).1, of_decide_eq_true (Ky.1 q x hx)⟩)
            rw [this] at hti
            cases hti
        simp only [Bool.not_false, cond_true, cond_false, J0, beq_self_eq_true, K5, s0, s1, l3, hnot, K1t]
      | true =>
        have htw : ∀ w ∈ to, 0 ≤ w ∧ w < ((R.map Prod.snd).length : Int) := by rw [← hlen]; exact Q13 hti
        obtain ⟨k1, k2, k3⟩ := Q1o hG hs (by omega) b b fb fb tb (R := R) (R2 := R) rfl rfl fr to (by omega) hfw (by omega) htw tb htb
        simp only [K5, cond_false, k1, k2, J0]
        cases hq : Qf (R.map Prod.snd) fr to with
        | none =>
          have l3 := l2' false (Q9 (R.map Prod.snd) fr) (by omega) true
          have hnot : (to.any fun k => (Q9 (R.map Prod.snd) fr).any fun x => x == k) = false := by
            rw [List.any_eq_false]
            intro k hk q
            rw [Kz] at q
            obtain ⟨x, hx, hxk⟩ := q
            rw [beq_iff_eq] at hxk
            subst hxk
            obtain ⟨_, u, hu, huw⟩ := (Q21 hG fr hfw x).1 hx
            exact Q1m hG hs fr to hfw htw hq hu hk huw
          simp only [K5, cond_true, cond_false, J0, beq_self_eq_true, s0, s1, l3, hnot]
          cases to.all (fun k => decide (k < (R.length : Int))) <;> rfl
        | some l =>
          have hS := Q1n hG hs fr to hfw (by omega) htw hq
          have hSl := hS.len
          have hSp := hS.pos
          have s2 := Qc false false l (by omega)
          have y1 : F7 (fb, fr) (l.getD 0 0) = some true := by
            rw [Qw _ _ _ (by omega), Kz.2 ⟨_, hS.head, by simp⟩]
          have el : IntKind.i64.wrap ((l.length : Int) - 1) = ((l.length - 1 : Nat) : Int) := by rw [wr (by omega)]; omega
          have y2 : F7 (tb, to) (l.getD (l.length - 1) 0) = some true := by
            rw [Qw _ _ _ (by omega), Kz.2 ⟨_, hS.last, by simp⟩]
          have y3 := Q2v (b, R) fb tb false fr to l (by omega) (by omega) (by omega) hrow hS (l.length - 1) 1 (by omega) (by omega)
          have y3' : F1u (b, R) (fb, fr) (tb, to) (false, l) 1 = _ := y3
          simp only [K5, Bool.not_false, cond_true, cond_false, J0, beq_self_eq_true, s1, s2, el, K7, y1, y2, y3']
          rw [gF (by omega), gT (by omega), gT (by omega), gT (by omega)]

end Go.Proofs.Ytnnoohfloniinaa.R
