/- The plain law of FnFairLasso: what the two functions compute is the same. -/
import Derived.Test.YtnnoohfloniinaaEFnFairLasso
import Derived.Laws.MathBits
set_option linter.all false
namespace Go.Proofs.Ytnnoohfloniinaa.R
open Go.Rf
/-- The greatest word of a width. -/
def top (wide : Int) : Int := 2 ^ wide.toNat - 1
theorem top_in {wide : Int} (h : 1 ≤ wide ∧ wide ≤ 64) : 1 ≤ top wide ∧ top wide ≤ 18446744073709551615 := by
  obtain ⟨n, rfl⟩ := Int.eq_ofNat_of_zero_le (show 0 ≤ wide by omega)
  have h1 := pow_le64 (n := n) (by omega)
  have h2 : (2 : Nat) ^ 1 ≤ 2 ^ n := Nat.pow_le_pow_right (by decide) (by omega)
  have e : ((2 : Int) ^ n) = ((2 ^ n : Nat) : Int) := by simp
  simp only [top, Int.toNat_natCast, e]
  omega
theorem l1In_eq (n lo hi : Int) : spec_l1In n lo hi = some (decide (lo ≤ n ∧ n ≤ hi)) := by
  rw [spec_l1In_eq]
  by_cases h : n ≥ lo
  · rw [gT h]; congr 1; apply decide_eq_decide.mpr; omega
  · rw [gF h]; congr 1; symm; apply decide_eq_false; omega
theorem bShr_eq (k : IntKind) (x : Int) (n : Nat) (h : n ≤ k.bits) : bShr k x (n : Int) = x / 2 ^ n := by
  unfold bShr
  rw [show min ((n : Int)).toNat k.bits = n by simp only [Int.toNat_natCast]; omega, Int.fdiv_eq_ediv_of_nonneg _ (Int.le_of_lt (Int.pow_pos (by decide)))]
theorem and_top {wide a : Int} (hw : 1 ≤ wide ∧ wide ≤ 64) (ha : U64 a) : bAnd .u64 a (top wide) = a % (top wide + 1) := by
  obtain ⟨n, rfl⟩ := Int.eq_ofNat_of_zero_le (show 0 ≤ wide by omega)
  obtain ⟨m, rfl⟩ := Int.eq_ofNat_of_zero_le ha.1
  have e : ((2 : Int) ^ n) = ((2 ^ n : Nat) : Int) := by simp
  have hm : m < 2 ^ 64 := by have := ha.2; simp; omega
  have hp := pow_le64 (n := n) (by omega)
  have h0 : 0 < (2 : Nat) ^ n := Nat.two_pow_pos _
  have e2 : top ((n : Nat) : Int) = ((2 ^ n - 1 : Nat) : Int) := by
    simp only [top, Int.toNat_natCast, e]
    omega
  have e3 : top ((n : Nat) : Int) + 1 = ((2 ^ n : Nat) : Int) := by rw [e2]; omega
  rw [e3, e2, bAnd_eq m (2 ^ n - 1) hm (by simp; omega), Nat.and_two_pow_sub_one_eq_mod]
  rfl
/-- Words of a width. -/
def W5 (wide a : Int) : Prop := 0 ≤ a ∧ a ≤ top wide
theorem W5.u64 {wide a : Int} (hw : 1 ≤ wide ∧ wide ≤ 64) (h : W5 wide a) : U64 a := ⟨h.1, by have := h.2; have := top_in hw; omega⟩
inductive TypedV (wide : Int) : List Int → List Int → Prop
  | nil : TypedV wide [] []
  | snoc {ks st : List Int} {k v : Int} : TypedV wide ks st → W5 wide v → (k = 2 → v ≤ 1) → TypedV wide (ks ++ [k]) (st ++ [v])
theorem TypedV.inv {wide : Int} {ks st : List Int} (h : TypedV wide ks st) : (ks = [] ∧ st = []) ∨ ∃ ks' st' k v, ks = ks' ++ [k] ∧ st = st' ++ [v] ∧ TypedV wide ks' st' ∧ W5 wide v ∧ (k = 2 → v ≤ 1) := by
  cases h with
  | nil => exact .inl ⟨rfl, rfl⟩
  | snoc h1 h2 h3 => exact .inr ⟨_, _, _, _, rfl, rfl, h1, h2, h3⟩
theorem TypedV.len {wide : Int} {ks st : List Int} (h : TypedV wide ks st) : ks.length = st.length := by
  induction h with
  | nil => rfl
  | snoc _ _ _ ih => simp [ih]
theorem any_loop {α ρ : Type} (l : List α) (q : α → Bool) (y : ρ) (F : Int → Option (ρ ⊕ Unit))
    (hs : ∀ (i : Nat) (h : i < l.length), F (i : Int) = bif q l[i] then some (.inl y) else F ((i + 1 : Nat) : Int)) (he : F (l.length : Int) = some (.inr ())) : F 0 = some (bif l.any q then .inl y else .inr ()) := by
  have := loop_all l (fun x => !q x) (β := ρ ⊕ Unit) (.inr ()) (.inl y) F (fun i h => by rw [hs i h]; cases q l[i] <;> rfl) he
  rw [this, List.any_eq_not_all_not]
  cases (l.all fun x => !q x) <;> rfl
theorem all_loop {α : Type} (l : List α) (q : α → Bool) (F : Int → Option (Bool ⊕ Unit))
    (hs : ∀ (i : Nat) (h : i < l.length), F (i : Int) = bif !q l[i] then some (.inl false) else F ((i + 1 : Nat) : Int)) (he : F (l.length : Int) = some (.inr ())) : F 0 = some (if l.all q = true then .inr () else .inl false) := by
  have := loop_all l q (β := Bool ⊕ Unit) (.inr ()) (.inl false) F (fun i h => by rw [hs i h]; cases q l[i] <;> rfl) he
  rw [this]
  cases l.all q <;> rfl
theorem all_upto (n : Nat) (q : Nat → Bool) (F : Int → Option (Bool ⊕ Unit)) (hs : ∀ (i : Nat), i < n → F (i : Int) = bif !q i then some (.inl false) else F ((i + 1 : Nat) : Int)) (he : F (n : Int) = some (.inr ())) :
    F 0 = some (if (List.range n).all q = true then .inr () else .inl false) :=
  all_loop (List.range n) q F (fun i h => by rw [List.getElem_range]; exact hs i (by simpa using h)) (by rw [List.length_range]; exact he)
/-- Do the numbers of a list rise from 0 on, below a bound? -/
def rises (n : Int) (l : List Int) : Bool := (List.range l.length).all fun i => decide (0 ≤ l.getD i 0 ∧ l.getD i 0 < n) && (decide (i = 0) || decide (l.getD (i - 1) 0 < l.getD i 0))
theorem rises_in {n : Int} {l : List Int} (h : rises n l = true) : ∀ x ∈ l, 0 ≤ x ∧ x < n := by
  intro x hx
  obtain ⟨i, hi, rfl⟩ := List.getElem_of_mem hx
  have := (List.all_eq_true.1 h) i (List.mem_range.2 hi)
  rw [Bool.and_eq_true, decide_eq_true_eq] at this
  have e : l.getD i 0 = l[i] := by simp [List.getD_eq_getElem?_getD, hi]
  rw [e] at this
  exact this.1
theorem rises_length {n : Int} {l : List Int} (h : rises n l = true) (h0 : 0 ≤ n) : (l.length : Int) ≤ n := by
  have key : ∀ i : Nat, i < l.length → (i : Int) ≤ l.getD i 0 := by
    intro i
    induction i with
    | zero =>
      intro hi
      have := (List.all_eq_true.1 h) 0 (List.mem_range.2 hi)
      rw [Bool.and_eq_true, decide_eq_true_eq] at this
      exact this.1.1
    | succ i ih =>
      intro hi
      have := (List.all_eq_true.1 h) (i + 1) (List.mem_range.2 hi)
      rw [Bool.and_eq_true, decide_eq_true_eq, Bool.or_eq_true, decide_eq_true_eq, decide_eq_true_eq] at this
      have h2 := ih (by omega)
      rcases this.2 with h3 | h3
      · omega
      · simp only [Nat.add_sub_cancel] at h3
        omega
  by_cases hl : l.length = 0
  · omega
  · have h1 := key (l.length - 1) (by omega)
    have := (List.all_eq_true.1 h) (l.length - 1) (List.mem_range.2 (by omega))
    rw [Bool.and_eq_true, decide_eq_true_eq] at this
    have := this.1.2
    omega
theorem getD_nat {α : Type} (l : List α) (z : α) (i : Nat) : l.getD (Int.toNat (i : Int)) z = l.getD i z := by rw [Int.toNat_natCast]
theorem l1Rising (l : Bool × List Int) (n : Int) (hl : l.2.length ≤ 1048576) : spec_l1Rising l 0 (n - 1) = some (rises n l.2) := by
  rw [spec_l1Rising_eq, all_upto l.2.length (fun i => decide (0 ≤ l.2.getD i 0 ∧ l.2.getD i 0 < n) && (decide (i = 0) || decide (l.2.getD (i - 1) 0 < l.2.getD i 0))) (fun i => spec_l1Rising_L0 l 0 (n - 1) l (l.2.length : Int) i) (fun i h => by
    rw [spec_l1Rising_L0_eq, gT (by omega), gT (by omega), gT (by omega), getD_nat, l1In_eq, some_bind, up1 i (by omega), bind_id]
    by_cases c1 : 0 ≤ l.2.getD i 0 ∧ l.2.getD i 0 < n
    · rw [decide_eq_true (show 0 ≤ l.2.getD i 0 ∧ l.2.getD i 0 ≤ n - 1 by omega), Bool.not_true, cond_false, decide_eq_true c1, Bool.true_and]
      by_cases c2 : i = 0
      · rw [gF (by omega), decide_eq_true c2]; rfl
      · rw [gT (by omega), gT (by rw [wr (by omega)]; omega), gT (by rw [wr (by omega)]; omega), dn1 i (by omega) (by omega), getD_nat, decide_eq_false c2, Bool.false_or]
        by_cases c3 : l.2.getD (i - 1) 0 < l.2.getD i 0
        · rw [gF (by omega), decide_eq_true c3]; rfl
        · rw [gT (by omega), decide_eq_false c3]; rfl
    · rw [decide_eq_false (show ¬ (0 ≤ l.2.getD i 0 ∧ l.2.getD i 0 ≤ n - 1) by omega), decide_eq_false c1]; rfl) (by rw [spec_l1Rising_L0_eq, gF (by omega)]), some_bind]
  unfold rises
  generalize (List.range l.2.length).all _ = q
  cases q <;> rfl
theorem isIncreasing (l : Bool × List Int) (n : Int) (hl : l.2.length ≤ 1048576) : impl_isIncreasing l n = some (rises n l.2) := by
  rw [impl_isIncreasing_eq, all_upto l.2.length (fun i => decide (0 ≤ l.2.getD i 0 ∧ l.2.getD i 0 < n) && (decide (i = 0) || decide (l.2.getD (i - 1) 0 < l.2.getD i 0))) (fun i => impl_isIncreasing_L0 l n l (l.2.length : Int) i) (fun i h => by
    rw [impl_isIncreasing_L0_eq, gT (by omega), gT (by omega), gT (by omega), getD_nat, up1 i (by omega), bind_id]
    by_cases c1 : 0 ≤ l.2.getD i 0 ∧ l.2.getD i 0 < n
    · rw [gF (by omega), gF (by omega), decide_eq_true c1, Bool.true_and]
      by_cases c2 : i = 0
      · rw [gF (by omega), decide_eq_true c2]; rfl
      · rw [gT (by omega), gT (by rw [wr (by omega)]; omega), gT (by rw [wr (by omega)]; omega), dn1 i (by omega) (by omega), getD_nat, decide_eq_false c2, Bool.false_or]
        by_cases c3 : l.2.getD (i - 1) 0 < l.2.getD i 0
        · rw [gF (by omega), decide_eq_true c3]; rfl
        · rw [gT (by omega), decide_eq_false c3]; rfl
    · rw [decide_eq_false c1]
      by_cases c4 : l.2.getD i 0 < 0
      · rw [gT c4]; rfl
      · rw [gF c4, gT (by omega)]; rfl) (by rw [impl_isIncreasing_L0_eq, gF (by omega)]), some_bind]
  unfold rises
  generalize (List.range l.2.length).all _ = q
  cases q <;> rfl
theorem top32 : top 32 = 4294967295 := by decide
theorem mulWords {x y : Int} (hx : 0 ≤ x ∧ x < 65536) (hy : 0 ≤ y ∧ y < 65536) : bits_Mul x y = some (0, x * y) := by
  have a1 : bShr .u64 x 32 = 0 := by rw [show (32 : Int) = ((32 : Nat) : Int) from rfl, bShr_eq .u64 x 32 (by decide)]; exact Int.ediv_eq_zero_of_lt hx.1 (by omega)
  have a2 : bShr .u64 y 32 = 0 := by rw [show (32 : Int) = ((32 : Nat) : Int) from rfl, bShr_eq .u64 y 32 (by decide)]; exact Int.ediv_eq_zero_of_lt hy.1 (by omega)
  have b1 : bAnd .u64 x 4294967295 = x := by rw [← top32, and_top (by omega) ⟨hx.1, by omega⟩, top32, Int.emod_eq_of_lt hx.1 (by omega)]
  have b2 : bAnd .u64 y 4294967295 = y := by rw [← top32, and_top (by omega) ⟨hy.1, by omega⟩, top32, Int.emod_eq_of_lt hy.1 (by omega)]
  have h0 : 0 ≤ x * y := Int.mul_nonneg hx.1 hy.1
  have h1 : x * y < 65536 * 65536 := by
    have := Int.mul_le_mul (show x ≤ 65535 by omega) (show y ≤ 65535 by omega) hy.1 (by omega)
    omega
  have w0 : IntKind.u64.wrap 0 = 0 := wru (by omega)
  have w1 : IntKind.u64.wrap (x * y) = x * y := wru (by omega)
  have s1 : bShr .u64 (x * y) 32 = 0 := by rw [show (32 : Int) = ((32 : Nat) : Int) from rfl, bShr_eq .u64 _ 32 (by decide)]; exact Int.ediv_eq_zero_of_lt h0 (by omega)
  have s0 : bShr .u64 0 32 = 0 := by decide
  have c0 : bAnd .u64 0 4294967295 = 0 := by decide
  rw [bits_Mul_eq, bits_Mul64_eq, a1, a2, b1, b2, w1, s1]
  simp only [Int.zero_mul, Int.mul_zero, Int.add_zero, w0, s0, c0, some_bind]
theorem rep_add {α : Type} (a b : Nat) (x : α) : List.replicate (a + b) x = List.replicate a x ++ List.replicate b x := by
  rw [List.replicate_append_replicate]
theorem flat_take (l : List Int) (m j : Nat) (h : j ≤ m) : (List.replicate m l).flatten.take (j * l.length) = (List.replicate j l).flatten := by
  obtain ⟨d, rfl⟩ := Nat.exists_eq_add_of_le h
  rw [rep_add, List.flatten_append, List.take_left']
  simp
theorem repeat_L0 (l : List Int) (c : Nat) (hl : 0 < l.length) (hc : c * l.length ≤ 10000000) (d : Nat) : ∀ (m : Nat) (b : Bool) (rest : List Int), m + d = c → 1 ≤ m → rest.length = d * l.length →
    slices_Repeat_int_L0 (b, (List.replicate m l).flatten ++ rest) ((m * l.length : Nat) : Int) = some (b, (List.replicate c l).flatten) := by
  induction d using Nat.strongRecOn with
  | _ d ih =>
    intro m b rest hm h1 hr
    have e0 : ((List.replicate m l).flatten).length = m * l.length := by simp
    have e1 : ((List.replicate m l).flatten ++ rest).length = c * l.length := by rw [List.length_append, e0, hr, ← hm, Nat.add_mul]
    rw [slices_Repeat_int_L0_eq]
    simp only [e1]
    by_cases hd : d = 0
    · subst hd
      have : rest = [] := List.eq_nil_of_length_eq_zero (by simpa using hr)
      subst this
      obtain rfl : m = c := by omega
      rw [gF (by omega), List.append_nil]
    · have hlt : m * l.length < c * l.length := (Nat.mul_lt_mul_right hl).2 (by omega)
      rw [gT (by omega), gT (by omega), gT (by omega), gT (by omega), gT (by omega), bind_id, Int.toNat_natCast, List.take_left' e0, List.drop_zero, e0]
      have hsub : c * l.length - m * l.length = d * l.length := by rw [← Nat.sub_mul]; congr 1; omega
      have hmin : min (m * l.length) (d * l.length) = (min m d) * l.length := by
        rcases Nat.le_total m d with h | h
        · rw [Nat.min_eq_left h, Nat.min_eq_left (Nat.mul_le_mul_right _ h)]
        · rw [Nat.min_eq_right h, Nat.min_eq_right (Nat.mul_le_mul_right _ h)]
      have htake : ((List.replicate m l).flatten).take (d * l.length) = (List.replicate (min m d) l).flatten := by
        rcases Nat.le_total m d with h | h
        · rw [Nat.min_eq_left h, List.take_of_length_le (by rw [e0]; exact Nat.mul_le_mul_right _ h)]
        · rw [Nat.min_eq_right h, flat_take l m d h]
      rw [hsub, hmin, htake, ← List.append_assoc, ← List.flatten_append, ← rep_add, List.drop_append, List.drop_of_length_le (by rw [e0]; exact Nat.le_add_right _ _), List.nil_append, e0, show m * l.length + min m d * l.length - m * l.length = min m d * l.length by omega]
      have hadd : m * l.length + min m d * l.length = (m + min m d) * l.length := by rw [Nat.add_mul]
      have hle : (m + min m d) * l.length ≤ c * l.length := Nat.mul_le_mul_right _ (by omega)
      rw [wr (by omega), show ((m * l.length : Nat) : Int) + ((min m d * l.length : Nat) : Int) = (((m + min m d) * l.length : Nat) : Int) by rw [← hadd]; omega]
      exact ih (d - min m d) (by omega) (m + min m d) b (rest.drop (min m d * l.length)) (by omega) (by omega) (by rw [List.length_drop, hr, ← Nat.sub_mul])
theorem repeatInts (l : Bool × List Int) (c : Nat) (hl : 0 < l.2.length) (hl2 : l.2.length ≤ 1000) (h1 : 1 ≤ c) (hc : c ≤ 10000) : slices_Repeat_int l (c : Int) = some (false, (List.replicate c l.2).flatten) := by
  have hlim := lim_eq
  have hm : c * l.2.length ≤ 10000 * 1000 := Nat.mul_le_mul hc hl2
  have hmul : (l.2.length : Int) * (c : Int) = ((c * l.2.length : Nat) : Int) := by rw [Int.natCast_mul, Int.mul_comm]
  have e := repeat_L0 l.2 c hl (by omega) (c - 1) 1 false ((List.replicate (c * l.2.length) (0 : Int)).drop l.2.length) (by omega) (by omega) (by
    rw [List.length_drop, List.length_replicate, Nat.sub_mul, Nat.one_mul])
  have hle : l.2.length ≤ c * l.2.length := by
    have := Nat.mul_le_mul_right l.2.length h1
    omega
  have e1 : l.2.take (List.replicate (c * l.2.length) (0 : Int)).length = l.2 := by rw [List.length_replicate, List.take_of_length_le hle]
  have e2 : min l.2.length (List.replicate (c * l.2.length) (0 : Int)).length = l.2.length := by rw [List.length_replicate]; omega
  rw [slices_Repeat_int_eq, gF (by omega), wru (by omega), wru (by omega), mulWords (by omega) (by omega), some_bind]
  simp only [hmul]
  rw [gF (by omega), gF (by omega), wr (by omega), gT (by omega), gT (by omega), gT (by omega), gT (by omega), Int.toNat_natCast, e1, e2]
  have e' : slices_Repeat_int_L0 (false, l.2 ++ (List.replicate (c * l.2.length) (0 : Int)).drop l.2.length) (l.2.length : Int) = some (false, (List.replicate c l.2).flatten) := by
    simpa using e
  rw [e', some_bind]
/-- a number put into its place in a rising list, unless it is there -/
def insL (n : Int) : List Int → List Int
  | [] => [n]
  | x :: l => if x < n then x :: insL n l else if x = n then x :: l else n :: x :: l
def Rising (l : List Int) : Prop := l.Pairwise (· < ·)
theorem insL_mem (n : Int) (l : List Int) : ∀ x, x ∈ insL n l ↔ x = n ∨ x ∈ l := by
  induction l with
  | nil => intro x; simp [insL]
  | cons y l ih =>
    intro x
    unfold insL
    split
    · rw [List.mem_cons, ih, List.mem_cons]
      constructor
      · rintro (h | h | h)
        · exact .inr (.inl h)
        · exact .inl h
        · exact .inr (.inr h)
      · rintro (h | h | h)
        · exact .inr (.inl h)
        · exact .inl h
        · exact .inr (.inr h)
    · split
      · rename_i h1 h2
        constructor
        · exact .inr
        · rintro (h | h)
          · rw [h, ← h2]; exact List.mem_cons_self
          · exact h
      · rw [List.mem_cons]
theorem insL_rising (n : Int) (l : List Int) (h : Rising l) : Rising (insL n l) := by
  induction l with
  | nil => exact List.pairwise_singleton _ _
  | cons y l ih =>
    obtain ⟨h1, h2⟩ := List.pairwise_cons.1 h
    unfold insL
    split
    · rename_i c
      refine List.pairwise_cons.2 ⟨fun x hx => ?_, ih h2⟩
      rcases (insL_mem n l x).1 hx with rfl | hx
      · exact c
      · exact h1 x hx
    · split
      · exact h
      · rename_i c1 c2
        refine List.pairwise_cons.2 ⟨fun x hx => ?_, h⟩
        rcases List.mem_cons.1 hx with rfl | hx
        · omega
        · have := h1 x hx
          omega
def under (n : Int) (l : List Int) : Nat := (l.takeWhile fun x => decide (x < n)).length
theorem under_le (n : Int) (l : List Int) : under n l ≤ l.length := by
  unfold under
  exact (List.takeWhile_sublist _).length_le
theorem insL_eq (n : Int) (l : List Int) : insL n l = if under n l < l.length ∧ l.getD (under n l) 0 = n then l else l.take (under n l) ++ n :: l.drop (under n l) := by
  induction l with
  | nil => rfl
  | cons x l ih =>
    unfold insL
    by_cases h : x < n
    · have e : under n (x :: l) = under n l + 1 := by simp [under, h]
      rw [if_pos h, ih, e]
      by_cases c : under n l < l.length ∧ l.getD (under n l) 0 = n
      · rw [if_pos c, if_pos ⟨by simp; omega, by simpa using c.2⟩]
      · rw [if_neg c, if_neg (fun hh => c ⟨by have := hh.1; simp at this; omega, by simpa using hh.2⟩)]
        rfl
    · have e : under n (x :: l) = 0 := by simp [under, h]
      rw [if_neg h, e]
      by_cases c : x = n
      · rw [if_pos c, if_pos ⟨by simp, by simpa using c⟩]
      · rw [if_neg c, if_neg (fun hh => c (by simpa using hh.2))]
        rfl
/-- where the search for a place stops -/
theorem under_step (n : Int) (l : List Int) (d : Nat) : ∀ i : Nat, i + d = l.length → (i < l.length ∧ l.getD i 0 < n → under n (l.drop i) = under n (l.drop (i + 1)) + 1) ∧ (¬ (i < l.length ∧ l.getD i 0 < n) → under n (l.drop i) = 0) := by
  intro i hi
  constructor
  · rintro ⟨h1, h2⟩
    have e : l.getD i 0 = l[i] := by simp [List.getD_eq_getElem?_getD, h1]
    rw [e] at h2
    rw [List.drop_eq_getElem_cons h1]
    unfold under
    rw [List.takeWhile_cons, if_pos (by simpa using h2), List.length_cons]
  · intro h
    by_cases h1 : i < l.length
    · have e : l.getD i 0 = l[i] := by simp [List.getD_eq_getElem?_getD, h1]
      have h2 : ¬ l[i] < n := fun hh => h ⟨h1, by rw [e]; exact hh⟩
      rw [List.drop_eq_getElem_cons h1]
      unfold under
      rw [List.takeWhile_cons, if_neg (by simpa using h2)]
      rfl
    · rw [List.drop_of_length_le (by omega)]
      rfl
theorem l1Put_L0 (b : Bool) (l : List Int) (n : Int) (hl : l.length ≤ 1048576) (d : Nat) : ∀ i : Nat, i + d = l.length → spec_l1Put_L0 (b, l) n (i : Int) = some ((i + under n (l.drop i) : Nat) : Int) := by
  induction d with
  | zero =>
    intro i hi
    rw [spec_l1Put_L0_eq, gF (by simp only; omega), List.drop_of_length_le (by omega)]
    rfl
  | succ d ih =>
    intro i hi
    obtain ⟨h1, h2⟩ := under_step n l (d + 1) i hi
    rw [spec_l1Put_L0_eq, gT (by simp only; omega), gT (by omega), gT (by simp only; omega), getD_nat, up1 i (by omega), bind_id]
    by_cases c : l.getD i 0 < n
    · rw [gT c, ih (i + 1) (by omega), h1 ⟨by omega, c⟩]
      congr 2
      omega
    · rw [gF c, h2 (fun h => c h.2)]
      rfl
theorem insL_length (n : Int) (l : List Int) : (insL n l).length ≤ l.length + 1 := by
  induction l with
  | nil => simp [insL]
  | cons x l ih =>
    unfold insL
    split
    · simp only [List.length_cons]; omega
    · split <;> simp
theorem l1PutF (b : Bool) (l : List Int) (n : Int) (hl : l.length ≤ 1000000) : ∃ f, spec_l1Put (b, l) n = some (f, insL n l) ∧ (f = true → b = true ∧ l ≠ []) := by
  have hlim := lim_eq
  have h := l1Put_L0 b l n (by omega) l.length 0 (by omega)
  rw [List.drop_zero, Nat.zero_add] at h
  have h' : spec_l1Put_L0 (b, l) n 0 = _ := h
  have hk := under_le n l
  rw [spec_l1Put_eq, h', some_bind, insL_eq]
  generalize under n l = k at hk
  have hfin : ∀ (x : Option (Bool × List Int)), x = (bif decide (0 ≤ (k : Int)) then
      bif decide ((k : Int) ≤ ((b, l).2.length : Int)) then
      bif decide (([] : List Int).length + (((b, l).2.take (Int.toNat (k : Int))).drop 0).length ≤ lim) then
      bif decide (([] ++ (((b, l).2.take (Int.toNat (k : Int))).drop 0)).length + [n].length ≤ lim) then
      bif decide (0 ≤ (k : Int)) then
      bif decide ((k : Int) ≤ ((b, l).2.length : Int)) then
      bif decide ((([] ++ (((b, l).2.take (Int.toNat (k : Int))).drop 0)) ++ [n]).length + (((b, l).2.take (b, l).2.length).drop (Int.toNat (k : Int))).length ≤ lim) then
      some (false, ((([] ++ (((b, l).2.take (Int.toNat (k : Int))).drop 0)) ++ [n]) ++ (((b, l).2.take (b, l).2.length).drop (Int.toNat (k : Int)))))
      else none else none else none else none else none else none else none) → x = some (false, l.take k ++ n :: l.drop k) := by
    rintro x rfl
    rw [gT (by omega), gT (by simp only; omega), gT (by simp; omega), gT (by simp; omega), gT (by omega), gT (by simp only; omega), gT (by simp; omega)]
    simp
  by_cases c : k < l.length
  · rw [gT (by simp only; omega), gT (by omega), gT (by simp only; omega), getD_nat]
    by_cases c2 : l.getD k 0 = n
    · rw [bT (by rw [beq_iff_eq]; exact c2), if_pos ⟨c, c2⟩]
      exact ⟨b, rfl, fun h => ⟨h, fun e => by rw [e] at c; simp at c⟩⟩
    · rw [bF (beqF c2), if_neg (fun h => c2 h.2)]
      exact ⟨false, hfin _ rfl, by simp⟩
  · rw [gF (by simp only; omega), if_neg (fun h => c h.1)]
    exact ⟨false, hfin _ rfl, by simp⟩
theorem marked_L0 (t : Bool × List Bool) (hl : t.2.length ≤ 100000) (d : Nat) : ∀ (i : Nat) (o : List Int), i + d = t.2.length → o.length ≤ i →
    impl_marked_L0 (false, o) t (t.2.length : Int) (i : Int) = some (false, o ++ ((List.range' i d).filter fun j => t.2.getD j false).map Int.ofNat) := by
  have hlim := lim_eq
  induction d with
  | zero =>
    intro i o hi ho
    rw [impl_marked_L0_eq, gF (by omega)]
    simp
  | succ d ih =>
    intro i o hi ho
    have hlt : i < t.2.length := by omega
    rw [impl_marked_L0_eq, gT (by omega), gT (by omega), gT (by omega), getD_nat, up1 i (by omega), bind_id, bind_id, List.range'_succ, List.filter_cons]
    cases t.2.getD i false with
    | true => rw [cond_true, gT (by simp; omega), Bool.and_false, ih (i + 1) _ (by omega) (by simp; omega)]; simp
    | false => rw [cond_false, ih (i + 1) o (by omega) (by omega)]; simp
theorem marked (t : Bool × List Bool) (hl : t.2.length ≤ 100000) : impl_marked t = some (false, ((List.range t.2.length).filter fun j => t.2.getD j false).map Int.ofNat) := by
  have h := marked_L0 t hl t.2.length 0 [] (by omega) (by simp)
  have h' : impl_marked_L0 (false, []) t (t.2.length : Int) 0 = _ := h
  rw [impl_marked_eq, h', some_bind, List.range_eq_range']
  rfl
/-- the loop of slices.DeleteFunc -/
theorem delete_loop {q : Int → Bool} {f : Bool} (n : Nat) (P : Int → Prop) (L : Bool × List Int → Int → Int → Option ((Bool × List Int) × Int))
    (hs : ∀ (s : List Int) (i j : Nat) (_ : i ≤ j) (h : j < s.length), s.length = n → (∀ x ∈ s, P x) → L (f, s) (i : Int) (j : Int) = bif !q s[j] then L (f, s.set i s[j]) ((i + 1 : Nat) : Int) ((j + 1 : Nat) : Int) else L (f, s) (i : Int) ((j + 1 : Nat) : Int))
    (he : ∀ (s : List Int) (i : Nat), s.length = n → L (f, s) (i : Int) (s.length : Int) = some ((f, s), (i : Int))) (d : Nat) :
    ∀ (i j : Nat) (s : List Int), i ≤ j → j + d = s.length → s.length = n → (∀ x ∈ s, P x) → ∃ (s' : List Int) (i' : Nat), L (f, s) (i : Int) (j : Int) = some ((f, s'), (i' : Int)) ∧ s'.length = n ∧ i' ≤ n ∧ s'.take i' = s.take i ++ (s.drop j).filter fun x => !q x := by
  induction d with
  | zero =>
    intro i j s hij hj hn hP
    obtain rfl : j = s.length := by omega
    exact ⟨s, i, he s i hn, hn, by omega, by simp⟩
  | succ d ih =>
    intro i j s hij hj hn hP
    have hlt : j < s.length := by omega
    rw [hs s i j hij hlt hn hP, List.drop_eq_getElem_cons hlt, List.filter_cons]
    cases hq : q s[j] with
    | true =>
      obtain ⟨s', i', h1, h2, h3, h4⟩ := ih i (j + 1) s (by omega) (by omega) hn hP
      exact ⟨s', i', by rw [Bool.not_true, cond_false, h1], h2, h3, by rw [h4, if_neg (by simp)]⟩
    | false =>
      obtain ⟨s', i', h1, h2, h3, h4⟩ := ih (i + 1) (j + 1) (s.set i s[j]) (by omega) (by rw [List.length_set]; omega) (by rw [List.length_set]; exact hn) (fun x hx => by
        rcases List.mem_or_eq_of_mem_set hx with hx | rfl
        · exact hP x hx
        · exact hP _ (List.getElem_mem hlt))
      refine ⟨s', i', by rw [Bool.not_false, cond_true, h1], h2, h3, ?_⟩
      rw [h4, if_pos (by simp), List.drop_set_of_lt (by omega)]
      have e : (s.set i s[j]).take (i + 1) = s.take i ++ [s[j]] := by
        rw [List.take_succ_eq_append_getElem (by rw [List.length_set]; omega), List.getElem_set_self, List.take_set_of_le (Nat.le_refl _)]
      rw [e, List.append_assoc]
      rfl
/-- slices.DeleteFunc -/
theorem delete_of {l : List Int} {q : Int → Bool} {f : Bool} (P : Int → Prop) (L : Bool × List Int → Int → Int → Option ((Bool × List Int) × Int)) (hl : l.length ≤ 1048576) (hP : ∀ x ∈ l, P x)
    (hs : ∀ (s : List Int) (i j : Nat) (_ : i ≤ j) (h : j < s.length), s.length = l.length → (∀ x ∈ s, P x) → L (f, s) (i : Int) (j : Int) = bif !q s[j] then L (f, s.set i s[j]) ((i + 1 : Nat) : Int) ((j + 1 : Nat) : Int) else L (f, s) (i : Int) ((j + 1 : Nat) : Int))
    (he : ∀ (s : List Int) (i : Nat), s.length = l.length → L (f, s) (i : Int) (s.length : Int) = some ((f, s), (i : Int)))
    {X : Option (Int ⊕ Unit)} (hX : X = some (bif l.any q then .inl (l.findIdx q : Int) else .inr ())) :
    ((X.bind fun r => match r with
      | .inl y => some y
      | .inr z => some (-1)).bind fun r =>
      bif (r == (-1)) then some (f, l) else (L (f, l) r (IntKind.i64.wrap (r + 1))).bind fun r1 =>
        bif decide (0 ≤ r1.2) then bif decide (r1.2 ≤ (r1.1.2.length : Int)) then bif decide (0 ≤ r1.2) then
        bif decide (r1.2 ≤ ((r1.1.2.take (Int.toNat r1.2) ++ (List.replicate (r1.1.2.length - (Int.toNat r1.2)) (0 : Int) ++ r1.1.2.drop r1.1.2.length)).length : Int)) then
        some (r1.1.1, (((r1.1.2.take (Int.toNat r1.2) ++ (List.replicate (r1.1.2.length - (Int.toNat r1.2)) (0 : Int) ++ r1.1.2.drop r1.1.2.length)).take (Int.toNat r1.2)).drop 0))
        else none else none else none else none) = some (f, l.filter fun x => !q x) := by
  rw [hX]
  cases ha : l.any q with
  | false =>
    have e : l.filter (fun x => !q x) = l := List.filter_eq_self.2 fun x hx => by
      have := List.any_eq_false.1 ha x hx
      simpa using this
    rw [e]
    rfl
  | true =>
    have hk : l.findIdx q < l.length := List.findIdx_lt_length.2 (List.any_eq_true.1 ha)
    generalize hkk : l.findIdx q = k at hk
    have hqk : q l[k] = true := by
      subst hkk
      exact List.findIdx_getElem (w := hk)
    have hlt : ∀ j (hj : j < k), q (l[j]'(by omega)) = false := by
      intro j hj
      have := List.not_of_lt_findIdx (p := q) (xs := l) (i := j) (by omega)
      simpa using this
    obtain ⟨s', i', h1, h2, h3, h4⟩ := delete_loop l.length P L hs he (l.length - (k + 1)) k (k + 1) l (by omega) (by omega) rfl hP
    have e : l.filter (fun x => !q x) = s'.take i' := by
      rw [h4]
      have e1 : l = l.take k ++ (l[k] :: l.drop (k + 1)) := by rw [← List.drop_eq_getElem_cons hk, List.take_append_drop]
      have e2 : (l.take k).filter (fun x => !q x) = l.take k := List.filter_eq_self.2 fun x hx => by
        obtain ⟨j, hj, rfl⟩ := List.getElem_of_mem hx
        have hj' : j < k := by simp at hj; omega
        rw [List.getElem_take, hlt j hj']
        rfl
      conv => lhs; rw [e1]
      rw [List.filter_append, e2, List.filter_cons, if_neg (by simp [hqk])]
    rw [cond_true, some_bind, some_bind, bF (beqF (by omega)), up1 k (by omega), h1, some_bind]
    simp only [Int.toNat_natCast]
    rw [gT (by omega), gT (by omega), gT (by omega), gT (by simp; omega), e]
    congr 2
    rw [List.drop_zero, List.take_append_of_le_length (by rw [List.length_take]; omega), List.take_take, Nat.min_self]
theorem cloneInt_F (l : List Int) (hl : l.length ≤ 1048576) : slices_Clone_int (false, l) = some (false, l) := by
  have hlim := lim_eq
  rw [slices_Clone_int_eq, cond_false, gT (by simp; omega), List.nil_append]
def negs (s : List Int) : Nat := s.countP fun x => decide (x < 0)
/-- an arrow from k to w is followed -/
def vstep (k : Nat) (st : List Int × List Int) (w : Int) : List Int × List Int := if st.1.getD w.toNat 0 < 0 then (st.1.set w.toNat (st.1.getD k 0 + 1), st.2 ++ [w]) else st
def bfsL (G : List (List Int)) : Nat → List Int → List Int → List Int
  | 0, s, _ => s
  | _ + 1, s, [] => s
  | n + 1, s, k :: q => bfsL G n ((G.getD k.toNat []).foldl (vstep k.toNat) (s, q)).1 ((G.getD k.toNat []).foldl (vstep k.toNat) (s, q)).2
structure BInv (m : Nat) (s q : List Int) : Prop where
  len : s.length = m
  low : ∀ e ∈ s, -1 ≤ e
  high : ∀ e ∈ s, e + 1 + (negs s : Int) ≤ m
  que : ∀ w ∈ q, (0 ≤ w ∧ w < (m : Int)) ∧ 0 ≤ s.getD w.toNat 0
theorem getD_set_int (s : List Int) (i j : Nat) (a : Int) (hi : i < s.length) : (s.set i a).getD j 0 = if i = j then a else s.getD j 0 := by
  rw [List.getD_eq_getElem?_getD, List.getElem?_set, List.getD_eq_getElem?_getD]
  by_cases h : i = j
  · subst h; simp [hi]
  · simp [h]
theorem getD_mem {s : List Int} {i : Nat} (h : i < s.length) : s.getD i 0 ∈ s := by
  have e : s.getD i 0 = s[i] := by simp [List.getD_eq_getElem?_getD, h]
  rw [e]
  exact List.getElem_mem h
theorem negs_le (s : List Int) : negs s ≤ s.length := List.countP_le_length
theorem vstep_inv {m k : Nat} {s q : List Int} (h : BInv m s q) (hk : k < m) (hk2 : 0 ≤ s.getD k 0) {w : Int} (hw : 0 ≤ w ∧ w < (m : Int)) :
    BInv m (vstep k (s, q) w).1 (vstep k (s, q) w).2 ∧ (vstep k (s, q) w).1.getD k 0 = s.getD k 0 ∧ 2 * negs (vstep k (s, q) w).1 + (vstep k (s, q) w).2.length ≤ 2 * negs s + q.length := by
  have hlen := h.len
  unfold vstep
  by_cases c : s.getD w.toNat 0 < 0
  · simp only [if_pos c]
    have hwl : w.toNat < s.length := by omega
    have hws : s[w.toNat] < 0 := by
      have e : s.getD w.toNat 0 = s[w.toNat] := by simp [List.getD_eq_getElem?_getD, hwl]
      omega
    have hn : negs (s.set w.toNat (s.getD k 0 + 1)) + 1 = negs s := by
      unfold negs
      rw [List.countP_set hwl, if_pos (decide_eq_true hws), if_neg (by simp only [decide_eq_true_eq]; omega)]
      have : 0 < s.countP fun x => decide (x < 0) := List.countP_pos_iff.2 ⟨_, List.getElem_mem hwl, decide_eq_true hws⟩
      omega
    have hkw : w.toNat ≠ k := by
      rintro rfl
      omega
    have hkm := getD_mem (s := s) (i := k) (by omega)
    refine ⟨⟨by rw [List.length_set]; exact hlen, fun e he => ?_, fun e he => ?_, fun x hx => ?_⟩, ?_, ?_⟩
    · rcases List.mem_or_eq_of_mem_set he with he | rfl
      · exact h.low e he
      · omega
    · rcases List.mem_or_eq_of_mem_set he with he | rfl
      · have := h.high e he
        omega
      · have := h.high _ hkm
        omega
    · rw [getD_set_int s _ _ _ hwl]
      rcases List.mem_append.1 hx with hx | hx
      · obtain ⟨h1, h2⟩ := h.que x hx
        refine ⟨h1, ?_⟩
        split <;> omega
      · rw [List.mem_singleton] at hx
        subst hx
        exact ⟨hw, by rw [if_pos rfl]; omega⟩
    · rw [getD_set_int s _ _ _ hwl, if_neg hkw]
    · rw [List.length_append, List.length_singleton]
      omega
  · simp only [if_neg c]
    exact ⟨h, trivial, Nat.le_refl _⟩
theorem vsteps_inv {m k : Nat} (hk : k < m) (ws : List Int) : ∀ {s q : List Int}, BInv m s q → 0 ≤ s.getD k 0 → (∀ w ∈ ws, 0 ≤ w ∧ w < (m : Int)) →
    BInv m (ws.foldl (vstep k) (s, q)).1 (ws.foldl (vstep k) (s, q)).2 ∧ 2 * negs (ws.foldl (vstep k) (s, q)).1 + (ws.foldl (vstep k) (s, q)).2.length ≤ 2 * negs s + q.length := by
  induction ws with
  | nil => intro s q h _ _; exact ⟨h, Nat.le_refl _⟩
  | cons w ws ih =>
    intro s q h h2 hw
    obtain ⟨g1, g2, g3⟩ := vstep_inv h hk h2 (hw w List.mem_cons_self)
    rw [List.foldl_cons]
    obtain ⟨i1, i2⟩ := ih (s := (vstep k (s, q) w).1) (q := (vstep k (s, q) w).2) g1 (by rw [g2]; exact h2) fun x hx => hw x (List.mem_cons_of_mem _ hx)
    exact ⟨i1, Nat.le_trans i2 g3⟩
/-- a graph's rows, whatever their marks of nil -/
structure Gr (m : Nat) (G : List (List Int)) : Prop where
  len : G.length = m
  inn : ∀ l ∈ G, ∀ w ∈ l, 0 ≤ w ∧ w < (m : Int)
  short : ∀ l ∈ G, l.length ≤ 20000000
  small : m ≤ 10000
theorem rows_at {G : List (List Int)} {R : List (Bool × List Int)} (h : R.map Prod.snd = G) {k : Nat} (hk : k < G.length) : k < R.length ∧ (R.getD k (true, [])).2 = G.getD k [] ∧ G.getD k [] ∈ G := by
  subst h
  have hk' : k < R.length := by simpa using hk
  refine ⟨hk', ?_, ?_⟩
  · simp [List.getD_eq_getElem?_getD, hk']
  · have e : (R.map Prod.snd).getD k [] = (R.map Prod.snd)[k] := by simp [List.getD_eq_getElem?_getD, hk']
    rw [e]
    exact List.getElem_mem _
theorem stepsFrom_L4 {m : Nat} (g : Bool × List (Bool × List Int)) (b ob : Bool) (hd : Int) (hhd : 0 ≤ hd ∧ hd < (m : Int)) (r : Bool × List Int) (hr : r.2.length ≤ 20000000) (hw : ∀ w ∈ r.2, 0 ≤ w ∧ w < (m : Int)) (hm : m ≤ 10000) (d : Nat) : ∀ (i : Nat) (s q : List Int), i + d = r.2.length → BInv m s q → 0 ≤ s.getD hd.toNat 0 → q.length + d ≤ 200000000 → ∀ ob, ∃ ob',
    impl_stepsFrom_L4 g (b, s) (ob, hd :: q) r (r.2.length : Int) (i : Int) = some ((b, ((r.2.drop i).foldl (vstep hd.toNat) (s, q)).1), (ob', hd :: ((r.2.drop i).foldl (vstep hd.toNat) (s, q)).2)) := by
  have hlim := lim_eq
  induction d with
  | zero =>
    intro i s q hi hI hk hq ob
    rw [impl_stepsFrom_L4_eq, gF (by omega), List.drop_of_length_le (by omega)]
    exact ⟨ob, rfl⟩
  | succ d ih =>
    intro i s q hi hI hk hq ob
    have hlt : i < r.2.length := by omega
    have hx := hw _ (List.getElem_mem hlt)
    obtain ⟨g1, g2, g3⟩ := vstep_inv hI (show hd.toNat < m by omega) hk hx
    have hlen := hI.len
    have hh := hI.high _ (getD_mem (s := s) (i := hd.toNat) (by omega))
    rw [impl_stepsFrom_L4_eq, gT (by omega), gT (by omega), gT (by omega), getD_at r.2 _ i hlt, gT hx.1, gT (by simp only; omega), up1 i (by omega), List.drop_eq_getElem_cons hlt, List.foldl_cons]
    simp only [List.getD_cons_zero]
    by_cases c : s.getD (Int.toNat r.2[i]) 0 < 0
    · have e : vstep hd.toNat (s, q) r.2[i] = (s.set (Int.toNat r.2[i]) (s.getD hd.toNat 0 + 1), q ++ [r.2[i]]) := by unfold vstep; exact if_pos c
      rw [e] at g1 g2 g3
      obtain ⟨ob', g⟩ := ih (i + 1) _ _ (by omega) g1 (by rw [g2]; exact hk) (by simp; omega) (ob && false)
      rw [gT c, gT (by simp), gT hhd.1, gT (by omega), gT hx.1, gT (by omega), gT (by simp; omega), wr (by omega), bind_id, e]
      exact ⟨ob', g⟩
    · have e : vstep hd.toNat (s, q) r.2[i] = (s, q) := by unfold vstep; exact if_neg c
      obtain ⟨ob', g⟩ := ih (i + 1) s q (by omega) hI hk (by omega) ob
      rw [gF c, bind_id, e]
      exact ⟨ob', g⟩
theorem far_L6 {m : Nat} (g : Bool × List (Bool × List Int)) (b : Bool) (hd : Int) (hhd : 0 ≤ hd ∧ hd < (m : Int)) (r : Bool × List Int) (hr : r.2.length ≤ 20000000) (hw : ∀ w ∈ r.2, 0 ≤ w ∧ w < (m : Int)) (hm : m ≤ 10000) (d : Nat) : ∀ (i : Nat) (s q : List Int), i + d = r.2.length → BInv m s q → 0 ≤ s.getD hd.toNat 0 → q.length + d ≤ 200000000 → ∀ ob, ∃ ob',
    spec_l11Far_L6 g (b, s) (ob, q) hd r (r.2.length : Int) (i : Int) = some ((b, ((r.2.drop i).foldl (vstep hd.toNat) (s, q)).1), (ob', ((r.2.drop i).foldl (vstep hd.toNat) (s, q)).2)) := by
  have hlim := lim_eq
  induction d with
  | zero =>
    intro i s q hi hI hk hq ob
    rw [spec_l11Far_L6_eq, gF (by omega), List.drop_of_length_le (by omega)]
    exact ⟨ob, rfl⟩
  | succ d ih =>
    intro i s q hi hI hk hq ob
    have hlt : i < r.2.length := by omega
    have hx := hw _ (List.getElem_mem hlt)
    obtain ⟨g1, g2, g3⟩ := vstep_inv hI (show hd.toNat < m by omega) hk hx
    have hlen := hI.len
    have hh := hI.high _ (getD_mem (s := s) (i := hd.toNat) (by omega))
    rw [spec_l11Far_L6_eq, gT (by omega), gT (by omega), gT (by omega), getD_at r.2 _ i hlt, gT hx.1, gT (by simp only; omega), up1 i (by omega), List.drop_eq_getElem_cons hlt, List.foldl_cons]
    simp only
    by_cases c : s.getD (Int.toNat r.2[i]) 0 < 0
    · have e : vstep hd.toNat (s, q) r.2[i] = (s.set (Int.toNat r.2[i]) (s.getD hd.toNat 0 + 1), q ++ [r.2[i]]) := by unfold vstep; exact if_pos c
      rw [e] at g1 g2 g3
      obtain ⟨ob', g⟩ := ih (i + 1) _ _ (by omega) g1 (by rw [g2]; exact hk) (by simp; omega) (ob && false)
      rw [gT c, gT hhd.1, gT (by omega), gT hx.1, gT (by omega), gT (by simp; omega), wr (by omega), bind_id, e]
      exact ⟨ob', g⟩
    · have e : vstep hd.toNat (s, q) r.2[i] = (s, q) := by unfold vstep; exact if_neg c
      obtain ⟨ob', g⟩ := ih (i + 1) s q (by omega) hI hk (by omega) ob
      rw [gF c, bind_id, e]
      exact ⟨ob', g⟩
theorem bfs_both {m : Nat} {G : List (List Int)} (hG : Gr m G) (gb gb2 : Bool) {R R2 : List (Bool × List Int)} (hR : R.map Prod.snd = G) (hR2 : R2.map Prod.snd = G) (n : Nat) : ∀ (s q : List Int) (b b2 ob ob2 : Bool), BInv m s q → 2 * negs s + q.length ≤ n → n ≤ 20000000 →
    impl_stepsFrom_L2 (gb, R) (b, s) (ob, q) = some (b, bfsL G n s q) ∧ spec_l11Far_L4 (gb2, R2) (b2, s) (ob2, q) = some (b2, bfsL G n s q) ∧ BInv m (bfsL G n s q) [] := by
  induction n with
  | zero =>
    intro s q b b2 ob ob2 hI hn _
    have : q = [] := List.length_eq_zero_iff.1 (by omega)
    subst this
    exact ⟨by rw [impl_stepsFrom_L2_eq, gF (by simp)]; rfl, by rw [spec_l11Far_L4_eq, gF (by simp)]; rfl, hI⟩
  | succ n ih =>
    intro s q b b2 ob ob2 hI hn hn2
    cases q with
    | nil => exact ⟨by rw [impl_stepsFrom_L2_eq, gF (by simp)]; rfl, by rw [spec_l11Far_L4_eq, gF (by simp)]; rfl, hI⟩
    | cons k q =>
      obtain ⟨hk1, hk2⟩ := hI.que k List.mem_cons_self
      have hI' : BInv m s q := ⟨hI.len, hI.low, hI.high, fun w hw => hI.que w (List.mem_cons_of_mem _ hw)⟩
      have hkG : k.toNat < G.length := by rw [hG.len]; omega
      obtain ⟨r1, r2, r3⟩ := rows_at hR hkG
      obtain ⟨r4, r5, _⟩ := rows_at hR2 hkG
      have hin := hG.inn _ r3
      have hsh := hG.short _ r3
      have hsm := hG.small
      obtain ⟨v1, v2⟩ := vsteps_inv (show k.toNat < m by omega) (G.getD k.toNat []) hI' hk2 hin
      obtain ⟨i1, i2, i3⟩ := ih ((G.getD k.toNat []).foldl (vstep k.toNat) (s, q)).1 ((G.getD k.toNat []).foldl (vstep k.toNat) (s, q)).2 b b2 ob ob2 v1 (by simp only [List.length_cons] at hn; omega) (by omega)
      simp only [List.length_cons] at hn
      refine ⟨?_, ?_, i3⟩
      · obtain ⟨ob', e⟩ := stepsFrom_L4 (m := m) (gb, R) b ob k hk1 (R.getD k.toNat (true, [])) (by rw [r2]; exact hsh) (by rw [r2]; exact hin) hsm (R.getD k.toNat (true, [])).2.length 0 s q (by omega) hI' hk2 (by rw [r2]; omega) ob
        rw [r2, List.drop_zero] at e
        have e' : impl_stepsFrom_L4 (gb, R) (b, s) (ob, k :: q) (R.getD k.toNat (true, [])) ((G.getD k.toNat []).length : Int) 0 = _ := e
        rw [impl_stepsFrom_L2_eq, gT (by simp), gT (by simp)]
        simp only [List.getD_cons_zero]
        rw [gT hk1.1, gT (by omega), r2, e', some_bind, gT (by simp; omega), bind_id]
        have et : ∀ (l : List Int), ((k :: l).take (k :: l).length).drop 1 = l := fun l => by simp
        simp only [et]
        obtain ⟨j1, _, _⟩ := ih ((G.getD k.toNat []).foldl (vstep k.toNat) (s, q)).1 ((G.getD k.toNat []).foldl (vstep k.toNat) (s, q)).2 b b2 ob' ob2 v1 (by omega) (by omega)
        exact j1
      · obtain ⟨ob', e⟩ := far_L6 (m := m) (gb2, R2) b2 k hk1 (R2.getD k.toNat (true, [])) (by rw [r5]; exact hsh) (by rw [r5]; exact hin) hsm (R2.getD k.toNat (true, [])).2.length 0 s q (by omega) hI' hk2 (by rw [r5]; omega) ob2
        rw [r5, List.drop_zero] at e
        have e' : spec_l11Far_L6 (gb2, R2) (b2, s) (ob2, q) k (R2.getD k.toNat (true, [])) ((G.getD k.toNat []).length : Int) 0 = _ := e
        have et : ((k :: q).take (k :: q).length).drop 1 = q := by simp
        rw [spec_l11Far_L4_eq, gT (by simp), gT (by simp), gT (by simp; omega)]
        simp only [List.getD_cons_zero, et]
        rw [gT hk1.1, gT (by omega), r5, e', some_bind, bind_id]
        obtain ⟨_, j2, _⟩ := ih ((G.getD k.toNat []).foldl (vstep k.toNat) (s, q)).1 ((G.getD k.toNat []).foldl (vstep k.toNat) (s, q)).2 b b2 ob ob' v1 (by omega) (by omega)
        exact j2
/-- the marks with which the search begins -/
def far0 (m : Nat) (l : List Int) : List Int := l.foldl (fun s w => s.set w.toNat 0) (List.replicate m (-1))
def farL (G : List (List Int)) (l : List Int) : List Int := bfsL G (2 * G.length + l.length) (far0 G.length l) l
theorem far0_inv (m : Nat) (l : List Int) (hl : ∀ w ∈ l, 0 ≤ w ∧ w < (m : Int)) : BInv m (far0 m l) l := by
  have key : ∀ (l : List Int) (s : List Int) (done : List Int), (∀ w ∈ l, 0 ≤ w ∧ w < (m : Int)) → s.length = m → (∀ e ∈ s, e = -1 ∨ e = 0) → (∀ w ∈ done, (0 ≤ w ∧ w < (m : Int)) ∧ 0 ≤ s.getD w.toNat 0) → (l.foldl (fun s w => s.set w.toNat 0) s).length = m ∧ (∀ e ∈ l.foldl (fun s w => s.set w.toNat 0) s, e = -1 ∨ e = 0) ∧ ∀ w, w ∈ done ∨ w ∈ l → (0 ≤ w ∧ w < (m : Int)) ∧ 0 ≤ (l.foldl (fun s w => s.set w.toNat 0) s).getD w.toNat 0 := by
    intro l
    induction l with
    | nil => intro s done _ h1 h2 h3; exact ⟨h1, h2, fun w hw => h3 w (hw.resolve_right (by simp))⟩
    | cons a l ih =>
      intro s done hw h1 h2 h3
      have ha := hw a List.mem_cons_self
      rw [List.foldl_cons]
      obtain ⟨g1, g2, g3⟩ := ih (s.set a.toNat 0) (a :: done) (fun w h => hw w (List.mem_cons_of_mem _ h)) (by rw [List.length_set]; exact h1) (fun e he => by
        rcases List.mem_or_eq_of_mem_set he with he | rfl
        · exact h2 e he
        · exact .inr rfl) (fun w hwd => by
        rw [getD_set_int s _ _ _ (by omega)]
        rcases List.mem_cons.1 hwd with rfl | hwd
        · exact ⟨ha, by rw [if_pos rfl]; omega⟩
        · obtain ⟨q1, q2⟩ := h3 w hwd
          exact ⟨q1, by split <;> omega⟩)
      refine ⟨g1, g2, fun w hw2 => g3 w ?_⟩
      rcases hw2 with h | h
      · exact .inl (List.mem_cons_of_mem _ h)
      · rcases List.mem_cons.1 h with rfl | h
        · exact .inl List.mem_cons_self
        · exact .inr h
  obtain ⟨g1, g2, g3⟩ := key l (List.replicate m (-1)) [] hl (by simp) (fun e he => .inl (List.eq_of_mem_replicate he)) (by simp)
  have hn := negs_le (far0 m l)
  refine ⟨g1, fun e he => by rcases g2 e he with h | h <;> omega, fun e he => ?_, fun w hw => g3 w (.inr hw)⟩
  have e1 : (far0 m l).length = m := g1
  rcases g2 e he with h | h
  · omega
  · have hne : negs (far0 m l) ≠ (far0 m l).length := fun q => by
      have := List.countP_eq_length.1 q e he
      simp only [decide_eq_true_eq] at this
      omega
    omega
theorem stepsFrom_L0 (g : Bool × List (Bool × List Int)) (b : Bool) (op : Bool × List Int) (m : Nat) (l : Bool × List Int) (hl : l.2.length ≤ 1048576) (hw : ∀ w ∈ l.2, 0 ≤ w ∧ w < (m : Int)) (s : List Int) (hs : s.length = m) : impl_stepsFrom_L0 g (b, s) op l (l.2.length : Int) 0 = some (b, l.2.foldl (fun s w => s.set w.toNat 0) s) :=
  loop_fold l.2 (fun (s : List Int) w => s.set w.toNat 0) (fun s => (b, s)) (fun s i => impl_stepsFrom_L0 g (b, s) op l (l.2.length : Int) i) (fun _ s => s.length = m) (fun i h s hs => by
    have hx := hw _ (List.getElem_mem h)
    refine ⟨?_, by rw [List.length_set]; exact hs⟩
    rw [impl_stepsFrom_L0_eq, gT (by omega), gT (by omega), gT (by omega), getD_at l.2 _ i h, gT hx.1, gT (by simp only; omega), up1 i (by omega), bind_id]) (fun s _ => by rw [impl_stepsFrom_L0_eq, gF (by omega)]) s hs
theorem far_L2 (g : Bool × List (Bool × List Int)) (fr : Bool × List Int) (b : Bool) (m : Nat) (l : Bool × List Int) (hl : l.2.length ≤ 1048576) (hw : ∀ w ∈ l.2, 0 ≤ w ∧ w < (m : Int)) (s : List Int) (hs : s.length = m) : spec_l11Far_L2 g fr (b, s) l (l.2.length : Int) 0 = some (b, l.2.foldl (fun s w => s.set w.toNat 0) s) :=
  loop_fold l.2 (fun (s : List Int) w => s.set w.toNat 0) (fun s => (b, s)) (fun s i => spec_l11Far_L2 g fr (b, s) l (l.2.length : Int) i) (fun _ s => s.length = m) (fun i h s hs => by
    have hx := hw _ (List.getElem_mem h)
    refine ⟨?_, by rw [List.length_set]; exact hs⟩
    rw [spec_l11Far_L2_eq, gT (by omega), gT (by omega), gT (by omega), getD_at l.2 _ i h, gT hx.1, gT (by simp only; omega), up1 i (by omega), bind_id]) (fun s _ => by rw [spec_l11Far_L2_eq, gF (by omega)]) s hs
theorem far_L0 (g : Bool × List (Bool × List Int)) (fr : Bool × List Int) (b : Bool) (m : Nat) (hm : m ≤ 10000) (d : Nat) : ∀ (i : Nat) (s : List Int), i + d = m → s.length = m → spec_l11Far_L0 g fr (b, s) (m : Int) (i : Int) = some (b, s.take i ++ List.replicate d (-1)) := by
  induction d with
  | zero =>
    intro i s hi hs
    rw [spec_l11Far_L0_eq, gF (by omega), List.take_of_length_le (by omega)]
    simp
  | succ d ih =>
    intro i s hi hs
    rw [spec_l11Far_L0_eq, gT (by omega), gT (by omega), gT (by simp only; omega), Int.toNat_natCast, up1 i (by omega), bind_id, ih (i + 1) (s.set i (-1)) (by omega) (by rw [List.length_set]; exact hs)]
    have e : (s.set i (-1)).take (i + 1) = s.take i ++ [-1] := by
      rw [List.take_succ_eq_append_getElem (by rw [List.length_set]; omega), List.getElem_set_self, List.take_set_of_le (Nat.le_refl _)]
    rw [e, List.append_assoc, List.replicate_succ]
    rfl
theorem stepsFromF {m : Nat} {G : List (List Int)} (hG : Gr m G) (hm : 1 ≤ m) (gb : Bool) {R : List (Bool × List Int)} (hR : R.map Prod.snd = G) (l : List Int) (hl : l.length ≤ 10000) (hw : ∀ w ∈ l, 0 ≤ w ∧ w < (m : Int)) (fb : Bool) (hfb : fb = true → l = []) : impl_stepsFrom (gb, R) (fb, l) = some (false, farL G l) := by
  have hlim := lim_eq
  have hRl : R.length = m := by rw [← hG.len, ← hR, List.length_map]
  have hsm := hG.small
  have e1 := repeatInts (false, [-1]) m (by simp) (by simp) hm hsm
  have e1' : slices_Repeat_int (false, [-1]) (m : Int) = some (false, List.replicate m (-1)) := by
    rw [e1]
    congr 2
    clear e1 hR hRl hG hw hm hsm
    induction m with
    | zero => rfl
    | succ n ih => rw [List.replicate_succ, List.flatten_cons, ih]; rfl
  have e2 : slices_Clone_int (fb, l) = some (fb, l) := by
    rw [slices_Clone_int_eq]
    cases fb with
    | false => rw [cond_false, gT (by simp; omega), List.nil_append]
    | true => rw [hfb rfl]; rfl
  have e3 := stepsFrom_L0 (gb, R) false (fb, l) m (fb, l) (by simp only; omega) hw (List.replicate m (-1)) (by simp)
  have e3' : impl_stepsFrom_L0 (gb, R) (false, List.replicate m (-1)) (fb, l) (fb, l) (l.length : Int) 0 = some (false, far0 m l) := e3
  have hI := far0_inv m l hw
  have hn := negs_le (far0 m l)
  obtain ⟨e4, _, _⟩ := bfs_both hG gb gb hR hR (2 * m + l.length) (far0 m l) l false false fb false hI (by rw [hI.len] at hn; omega) (by omega)
  rw [impl_stepsFrom_eq]
  simp only [hRl, e1', some_bind, e2, e3', e4]
  rw [farL, hG.len]
theorem l11Far {m : Nat} {G : List (List Int)} (hG : Gr m G) (gb fb : Bool) {R : List (Bool × List Int)} (hR : R.map Prod.snd = G) (l : List Int) (hl : l.length ≤ 10000) (hw : ∀ w ∈ l, 0 ≤ w ∧ w < (m : Int)) : spec_l11Far (gb, R) (fb, l) = some (false, farL G l) := by
  have hlim := lim_eq
  have hRl : R.length = m := by rw [← hG.len, ← hR, List.length_map]
  have hsm := hG.small
  have e1 := far_L0 (gb, R) (fb, l) false m hsm m 0 (List.replicate m 0) (by omega) (by simp)
  have e1' : spec_l11Far_L0 (gb, R) (fb, l) (false, List.replicate m 0) (m : Int) 0 = some (false, List.replicate m (-1)) := by simpa using e1
  have e3 := far_L2 (gb, R) (fb, l) false m (fb, l) (by simp only; omega) hw (List.replicate m (-1)) (by simp)
  have e3' : spec_l11Far_L2 (gb, R) (fb, l) (false, List.replicate m (-1)) (fb, l) (l.length : Int) 0 = some (false, far0 m l) := e3
  have hI := far0_inv m l hw
  have hn := negs_le (far0 m l)
  have eo : ∃ ob, spec_l1Own (fb, l) = some (ob, l) := ⟨false, by rw [spec_l1Own_eq, gT (by simp; omega), List.nil_append]⟩
  obtain ⟨ob, eo⟩ := eo
  obtain ⟨_, e4, _⟩ := bfs_both hG gb gb hR hR (2 * m + l.length) (far0 m l) l false false false ob hI (by rw [hI.len] at hn; omega) (by omega)
  rw [spec_l11Far_eq]
  simp only [hRl, List.length_replicate, Int.toNat_natCast]
  rw [gT (by omega), gT (by omega), gT (by omega), gT (by omega), e1', some_bind, e3', some_bind, eo, some_bind, e4, some_bind, farL, hG.len]
theorem farL_inv {m : Nat} {G : List (List Int)} (hG : Gr m G) (l : List Int) (hl : l.length ≤ 10000) (hw : ∀ w ∈ l, 0 ≤ w ∧ w < (m : Int)) : BInv m (farL G l) [] := by
  have hI := far0_inv m l hw
  have hn := negs_le (far0 m l)
  have hsm := hG.small
  have hRl : (G.map fun l => (false, l)).map Prod.snd = G := by rw [List.map_map]; exact List.map_id'' (fun _ => rfl) G
  rw [farL, hG.len]
  exact (bfs_both hG false false hRl hRl (2 * m + l.length) (far0 m l) l false false false false hI (by rw [hI.len] at hn; omega) (by omega)).2.2
/-- the points that are reached -/
def reachL (G : List (List Int)) (l : List Int) : List Int := ((List.range (farL G l).length).filter fun i => decide ((farL G l).getD i 0 ≥ 0)).map Int.ofNat
theorem reach_L0 (t : Bool × List Int) (hl : t.2.length ≤ 200000000) (d : Nat) : ∀ (i : Nat) (o : List Int), i + d = t.2.length → o.length ≤ i →
    (impl_reachedFrom_L0 (false, o) t (t.2.length : Int) (i : Int) = some (false, o ++ ((List.range' i d).filter fun j => decide (t.2.getD j 0 ≥ 0)).map Int.ofNat)) ∧ ∀ b, ∃ b', spec_l11Reach_L0 (b, o) t (t.2.length : Int) (i : Int) = some (b', o ++ ((List.range' i d).filter fun j => decide (t.2.getD j 0 ≥ 0)).map Int.ofNat) := by
  have hlim := lim_eq
  induction d with
  | zero =>
    intro i o hi ho
    exact ⟨by rw [impl_reachedFrom_L0_eq, gF (by omega)]; simp, fun b => ⟨b, by rw [spec_l11Reach_L0_eq, gF (by omega)]; simp⟩⟩
  | succ d ih =>
    intro i o hi ho
    have hlt : i < t.2.length := by omega
    by_cases c : t.2.getD i 0 ≥ 0
    · obtain ⟨g1, g2⟩ := ih (i + 1) (o ++ [(i : Int)]) (by omega) (by simp; omega)
      constructor
      · rw [impl_reachedFrom_L0_eq, gT (by omega), gT (by omega), gT (by omega), getD_nat, up1 i (by omega), gT c, gT (by simp; omega), bind_id, Bool.and_false, g1, List.range'_succ, List.filter_cons, if_pos (decide_eq_true c)]
        simp
      · intro b
        obtain ⟨b', g3⟩ := g2 (b && false)
        refine ⟨b', ?_⟩
        rw [spec_l11Reach_L0_eq, gT (by omega), gT (by omega), gT (by omega), getD_nat, up1 i (by omega), gT c, gT (by simp; omega), bind_id, g3, List.range'_succ, List.filter_cons, if_pos (decide_eq_true c)]
        simp
    · obtain ⟨g1, g2⟩ := ih (i + 1) o (by omega) (by omega)
      constructor
      · rw [impl_reachedFrom_L0_eq, gT (by omega), gT (by omega), gT (by omega), getD_nat, up1 i (by omega), gF c, bind_id, g1, List.range'_succ, List.filter_cons, if_neg (by simpa using c)]
      · intro b
        obtain ⟨b', g3⟩ := g2 b
        refine ⟨b', ?_⟩
        rw [spec_l11Reach_L0_eq, gT (by omega), gT (by omega), gT (by omega), getD_nat, up1 i (by omega), gF c, bind_id, g3, List.range'_succ, List.filter_cons, if_neg (by simpa using c)]
theorem reachedFromF {m : Nat} {G : List (List Int)} (hG : Gr m G) (hm : 1 ≤ m) (gb : Bool) {R : List (Bool × List Int)} (hR : R.map Prod.snd = G) (l : List Int) (hl : l.length ≤ 10000) (hw : ∀ w ∈ l, 0 ≤ w ∧ w < (m : Int)) (fb : Bool) (hfb : fb = true → l = []) : impl_reachedFrom (gb, R) (fb, l) = some (false, reachL G l) := by
  have hI := farL_inv hG l hl hw
  have hsm := hG.small
  have hlen := hI.len
  have e := (reach_L0 (false, farL G l) (by simp only; omega) (farL G l).length 0 [] (by simp) (by simp)).1
  have e' : impl_reachedFrom_L0 (false, []) (false, farL G l) ((farL G l).length : Int) 0 = _ := e
  rw [impl_reachedFrom_eq, stepsFromF hG hm gb hR l hl hw fb hfb, some_bind]
  simp only [e', some_bind, List.nil_append]
  rw [reachL, List.range_eq_range']
theorem reachedFrom {m : Nat} {G : List (List Int)} (hG : Gr m G) (hm : 1 ≤ m) (gb : Bool) {R : List (Bool × List Int)} (hR : R.map Prod.snd = G) (l : List Int) (hl : l.length ≤ 10000) (hw : ∀ w ∈ l, 0 ≤ w ∧ w < (m : Int)) : impl_reachedFrom (gb, R) (false, l) = some (false, reachL G l) := reachedFromF hG hm gb hR l hl hw false (by simp)
theorem l11Reach {m : Nat} {G : List (List Int)} (hG : Gr m G) (gb fb : Bool) {R : List (Bool × List Int)} (hR : R.map Prod.snd = G) (l : List Int) (hl : l.length ≤ 10000) (hw : ∀ w ∈ l, 0 ≤ w ∧ w < (m : Int)) : ∃ b, spec_l11Reach (gb, R) (fb, l) = some (b, reachL G l) := by
  have hI := farL_inv hG l hl hw
  have hsm := hG.small
  have hlen := hI.len
  obtain ⟨b, e⟩ := (reach_L0 (false, farL G l) (by simp only; omega) (farL G l).length 0 [] (by simp) (by simp)).2 true
  have e' : spec_l11Reach_L0 (true, []) (false, farL G l) ((farL G l).length : Int) 0 = _ := e
  rw [spec_l11Reach_eq, l11Far hG gb fb hR l hl hw, some_bind]
  simp only [e', some_bind, List.nil_append]
  rw [reachL, List.range_eq_range']
  exact ⟨b, rfl⟩
theorem reachL_in {m : Nat} {G : List (List Int)} (hG : Gr m G) (l : List Int) (hl : l.length ≤ 10000) (hw : ∀ w ∈ l, 0 ≤ w ∧ w < (m : Int)) : (reachL G l).length ≤ m ∧ ∀ x ∈ reachL G l, 0 ≤ x ∧ x < (m : Int) := by
  have hlen := (farL_inv hG l hl hw).len
  constructor
  · rw [reachL, List.length_map]
    refine Nat.le_trans (List.length_filter_le _ _) ?_
    rw [List.length_range, hlen]
    exact Nat.le_refl _
  · intro x hx
    obtain ⟨i, hi, rfl⟩ := List.mem_map.1 hx
    have := List.mem_range.1 (List.mem_filter.1 hi).1
    exact ⟨Int.natCast_nonneg _, by simp; omega⟩
/-- each point at some steps has a point ahead of it -/
def Pred (G : List (List Int)) (s : List Int) : Prop := ∀ v : Nat, v < s.length → 0 < s.getD v 0 → ∃ u : Nat, u < s.length ∧ (v : Int) ∈ G.getD u [] ∧ s.getD u 0 = s.getD v 0 - 1
theorem vstep_pred {G : List (List Int)} {m k : Nat} {s q : List Int} (h : BInv m s q) (hk : k < m) (hk2 : 0 ≤ s.getD k 0) {w : Int} (hw : 0 ≤ w ∧ w < (m : Int)) (hwG : w ∈ G.getD k []) (hP : Pred G s) : Pred G (vstep k (s, q) w).1 := by
  have hlen := h.len
  unfold vstep
  by_cases c : s.getD w.toNat 0 < 0
  · simp only [if_pos c]
    have hwl : w.toNat < s.length := by omega
    have hkw : w.toNat ≠ k := by
      rintro rfl
      omega
    intro v hv h0
    rw [List.length_set] at hv ⊢
    rw [getD_set_int s _ _ _ hwl] at h0
    by_cases e : w.toNat = v
    · refine ⟨k, by omega, ?_, ?_⟩
      · rw [← e, Int.toNat_of_nonneg hw.1]; exact hwG
      · rw [getD_set_int s _ _ _ hwl, getD_set_int s _ _ _ hwl, if_neg hkw, if_pos e]
        omega
    · rw [if_neg e] at h0
      obtain ⟨u, u1, u2, u3⟩ := hP v hv h0
      refine ⟨u, u1, u2, ?_⟩
      have hne : w.toNat ≠ u := by
        rintro rfl
        omega
      rw [getD_set_int s _ _ _ hwl, getD_set_int s _ _ _ hwl, if_neg hne, if_neg e]
      exact u3
  · simp only [if_neg c]
    exact hP
theorem vsteps_pred {G : List (List Int)} {m k : Nat} (hk : k < m) (ws : List Int) (hwG : ∀ w ∈ ws, w ∈ G.getD k []) : ∀ {s q : List Int}, BInv m s q → 0 ≤ s.getD k 0 → (∀ w ∈ ws, 0 ≤ w ∧ w < (m : Int)) → Pred G s → Pred G (ws.foldl (vstep k) (s, q)).1 := by
  induction ws with
  | nil => intro s q _ _ _ h; exact h
  | cons w ws ih =>
    intro s q h h2 hw hP
    obtain ⟨g1, g2, _⟩ := vstep_inv h hk h2 (hw w List.mem_cons_self)
    rw [List.foldl_cons]
    exact ih (fun x hx => hwG x (List.mem_cons_of_mem _ hx)) (s := (vstep k (s, q) w).1) (q := (vstep k (s, q) w).2) g1 (by rw [g2]; exact h2) (fun x hx => hw x (List.mem_cons_of_mem _ hx)) (vstep_pred h hk h2 (hw w List.mem_cons_self) (hwG w List.mem_cons_self) hP)
theorem bfs_pred {m : Nat} {G : List (List Int)} (hG : Gr m G) (n : Nat) : ∀ (s q : List Int), BInv m s q → Pred G s → Pred G (bfsL G n s q) := by
  induction n with
  | zero => intro s q _ h; exact h
  | succ n ih =>
    intro s q hI hP
    cases q with
    | nil => exact hP
    | cons k q =>
      obtain ⟨hk1, hk2⟩ := hI.que k List.mem_cons_self
      have hI' : BInv m s q := ⟨hI.len, hI.low, hI.high, fun w hw => hI.que w (List.mem_cons_of_mem _ hw)⟩
      have hkG : k.toNat < G.length := by rw [hG.len]; omega
      have e : G.getD k.toNat [] ∈ G := by
        have e : G.getD k.toNat [] = G[k.toNat] := by simp [List.getD_eq_getElem?_getD, hkG]
        rw [e]
        exact List.getElem_mem _
      have hin := hG.inn _ e
      obtain ⟨v1, _⟩ := vsteps_inv (show k.toNat < m by omega) (G.getD k.toNat []) hI' hk2 hin
      exact ih _ _ v1 (vsteps_pred (show k.toNat < m by omega) _ (fun _ h => h) hI' hk2 hin hP)
theorem far0_nonpos (m : Nat) (l : List Int) : ∀ v, (far0 m l).getD v 0 ≤ 0 := by
  have key : ∀ (l s : List Int), (∀ v, s.getD v 0 ≤ 0) → ∀ v, (l.foldl (fun s w => s.set w.toNat 0) s).getD v 0 ≤ 0 := by
    intro l
    induction l with
    | nil => intro s h; exact h
    | cons a l ih =>
      intro s h
      rw [List.foldl_cons]
      refine ih _ fun v => ?_
      by_cases c : a.toNat < s.length
      · rw [getD_set_int s _ _ _ c]
        split
        · omega
        · exact h v
      · rw [List.set_eq_of_length_le (by omega)]
        exact h v
  refine key l _ fun v => ?_
  rw [List.getD_eq_getElem?_getD, List.getElem?_replicate]
  split <;> simp
theorem farL_pred {m : Nat} {G : List (List Int)} (hG : Gr m G) (l : List Int) (hw : ∀ w ∈ l, 0 ≤ w ∧ w < (m : Int)) : Pred G (farL G l) := by
  rw [farL, hG.len]
  refine bfs_pred hG _ _ _ (far0_inv m l hw) fun v _ h => ?_
  have := far0_nonpos m l v
  omega
/-! graphs turned around -/
def turn1 (v : Int) (row : List Int) (o : List (List Int)) : List (List Int) := row.foldl (fun o w => o.set w.toNat (o.getD w.toNat [] ++ [v])) o
def turnL (g : List (List Int)) : List (List Int) := (List.range g.length).foldl (fun o (v : Nat) => turn1 (v : Int) (g.getD v []) o) (List.replicate g.length [])
def tot (o : List (List Int)) : Nat := (o.map List.length).sum
theorem getD_set_row (s : List (List Int)) (i j : Nat) (a : List Int) (hi : i < s.length) : (s.set i a).getD j [] = if i = j then a else s.getD j [] := by
  rw [List.getD_eq_getElem?_getD, List.getElem?_set, List.getD_eq_getElem?_getD]
  by_cases h : i = j
  · subst h; simp [hi]
  · simp [h]
theorem tot_set (o : List (List Int)) (i : Nat) (v : Int) (hi : i < o.length) : tot (o.set i (o.getD i [] ++ [v])) = tot o + 1 := by
  induction o generalizing i with
  | nil => simp at hi
  | cons a o ih =>
    cases i with
    | zero => simp [tot]; omega
    | succ i =>
      have := ih i (by simpa using hi)
      simp only [tot, List.set_cons_succ, List.map_cons, List.sum_cons, List.getD_cons_succ] at this ⊢
      omega
theorem turn1_facts (v : Int) (row : List Int) : ∀ o : List (List Int), (∀ w ∈ row, 0 ≤ w ∧ w < (o.length : Int)) →
    (turn1 v row o).length = o.length ∧ tot (turn1 v row o) = tot o + row.length ∧ ∀ (j : Nat) (x : Int), x ∈ (turn1 v row o).getD j [] ↔ x ∈ o.getD j [] ∨ (x = v ∧ (j : Int) ∈ row) := by
  induction row with
  | nil => intro o _; exact ⟨rfl, rfl, fun j x => by simp [turn1]⟩
  | cons w row ih =>
    intro o hw
    have h0 := hw w List.mem_cons_self
    obtain ⟨g1, g2, g3⟩ := ih (o.set w.toNat (o.getD w.toNat [] ++ [v])) (fun x hx => by rw [List.length_set]; exact hw x (List.mem_cons_of_mem _ hx))
    refine ⟨by rw [turn1, List.foldl_cons]; rw [turn1] at g1; rw [g1, List.length_set], ?_, fun j x => ?_⟩
    · rw [turn1, List.foldl_cons]
      rw [turn1] at g2
      rw [g2, tot_set _ _ _ (by omega), List.length_cons]
      omega
    · rw [turn1, List.foldl_cons]
      have := g3 j x
      rw [turn1] at this
      rw [this, getD_set_row o _ _ _ (by omega)]
      by_cases e : w.toNat = j
      · have e2 : (j : Int) = w := by omega
        rw [if_pos e, e, List.mem_append, List.mem_singleton, List.mem_cons]
        constructor
        · rintro ((h | h) | ⟨h, h2⟩)
          · exact .inl h
          · exact .inr ⟨h, .inl e2⟩
          · exact .inr ⟨h, .inr h2⟩
        · rintro (h | ⟨h, h2⟩)
          · exact .inl (.inl h)
          · exact .inl (.inr h)
      · have e2 : (j : Int) ≠ w := by omega
        rw [if_neg e, List.mem_cons]
        constructor
        · rintro (h | ⟨h, h2⟩)
          · exact .inl h
          · exact .inr ⟨h, .inr h2⟩
        · rintro (h | ⟨h, h2⟩)
          · exact .inl h
          · exact .inr ⟨h, h2.resolve_left e2⟩
theorem turns_facts (g : List (List Int)) (hg : ∀ l ∈ g, ∀ w ∈ l, 0 ≤ w ∧ w < (g.length : Int)) (n : Nat) (hn : n ≤ g.length) :
    ((List.range n).foldl (fun o (v : Nat) => turn1 (v : Int) (g.getD v []) o) (List.replicate g.length [])).length = g.length ∧
    tot ((List.range n).foldl (fun o (v : Nat) => turn1 (v : Int) (g.getD v []) o) (List.replicate g.length [])) ≤ tot (g.take n) ∧
    ∀ (j : Nat) (x : Int), x ∈ ((List.range n).foldl (fun o (v : Nat) => turn1 (v : Int) (g.getD v []) o) (List.replicate g.length [])).getD j [] ↔ ∃ v : Nat, v < n ∧ x = (v : Int) ∧ (j : Int) ∈ g.getD v [] := by
  induction n with
  | zero =>
    refine ⟨by simp, ?_, fun j x => ?_⟩
    · have : ∀ k, tot (List.replicate k ([] : List Int)) = 0 := by
        intro k
        induction k with
        | zero => rfl
        | succ k ih => simp only [tot, List.replicate_succ, List.map_cons, List.sum_cons, List.length_nil, Nat.zero_add] at ih ⊢; exact ih
      simp only [List.range_zero, List.foldl_nil, this]
      exact Nat.zero_le _
    · constructor
      · intro h
        rw [List.range_zero, List.foldl_nil, List.getD_eq_getElem?_getD, List.getElem?_replicate] at h
        split at h <;> simp at h
      · rintro ⟨v, h, _⟩; omega
  | succ n ih =>
    obtain ⟨h1, h2, h3⟩ := ih (by omega)
    have hlt : n < g.length := by omega
    have e : g.getD n [] = g[n] := by simp [List.getD_eq_getElem?_getD, hlt]
    rw [List.range_succ, List.foldl_append, List.foldl_cons, List.foldl_nil]
    obtain ⟨g1, g2, g3⟩ := turn1_facts (n : Int) (g.getD n []) _ (fun w hw => by rw [h1]; exact hg _ (by rw [e]; exact List.getElem_mem hlt) w hw)
    refine ⟨by rw [g1, h1], ?_, fun j x => ?_⟩
    · rw [g2, List.take_succ_eq_append_getElem hlt, e]
      simp only [tot, List.map_append, List.sum_append, List.map_cons, List.map_nil, List.sum_cons, List.sum_nil] at h2 ⊢
      omega
    · rw [g3, h3]
      constructor
      · rintro (⟨v, q1, q2, q3⟩ | ⟨q1, q2⟩)
        · exact ⟨v, by omega, q2, q3⟩
        · exact ⟨n, by omega, q1, q2⟩
      · rintro ⟨v, q1, q2, q3⟩
        by_cases hv : v = n
        · subst hv; exact .inr ⟨q2, q3⟩
        · exact .inl ⟨v, by omega, q2, q3⟩
theorem row_le_tot (o : List (List Int)) : ∀ l ∈ o, l.length ≤ tot o := by
  intro l hl
  induction o with
  | nil => cases hl
  | cons a o ih =>
    simp only [tot, List.map_cons, List.sum_cons]
    rcases List.mem_cons.1 hl with rfl | hl
    · omega
    · have := ih hl
      simp only [tot] at this
      omega
theorem tot_le (o : List (List Int)) (B : Nat) (h : ∀ l ∈ o, l.length ≤ B) : tot o ≤ o.length * B := by
  induction o with
  | nil => simp [tot]
  | cons a o ih =>
    have h1 := h a List.mem_cons_self
    have h2 := ih fun l hl => h l (List.mem_cons_of_mem _ hl)
    simp only [tot, List.map_cons, List.sum_cons, List.length_cons, Nat.succ_mul] at h2 ⊢
    omega
theorem mem_turnL {g : List (List Int)} (hg : ∀ l ∈ g, ∀ w ∈ l, 0 ≤ w ∧ w < (g.length : Int)) (j : Nat) (x : Int) : x ∈ (turnL g).getD j [] ↔ ∃ v : Nat, v < g.length ∧ x = (v : Int) ∧ (j : Int) ∈ g.getD v [] := (turns_facts g hg g.length (Nat.le_refl _)).2.2 j x
theorem turnL_gr {m : Nat} {g : List (List Int)} (hG : Gr m g) (hs : ∀ l ∈ g, l.length ≤ 2000) : Gr m (turnL g) := by
  have hg : ∀ l ∈ g, ∀ w ∈ l, 0 ≤ w ∧ w < (g.length : Int) := by rw [hG.len]; exact hG.inn
  obtain ⟨h1, h2, h3⟩ := turns_facts g hg g.length (Nat.le_refl _)
  have hsm := hG.small
  refine ⟨by rw [← hG.len]; exact h1, fun l hl w hw => ?_, fun l hl => ?_, hsm⟩
  · obtain ⟨j, hj, rfl⟩ := List.getElem_of_mem hl
    have e : (turnL g).getD j [] = (turnL g)[j] := by simp [List.getD_eq_getElem?_getD, hj]
    rw [← e] at hw
    obtain ⟨v, hv, rfl, _⟩ := (mem_turnL hg j w).1 hw
    rw [← hG.len]
    exact ⟨Int.natCast_nonneg _, by omega⟩
  · have q1 := row_le_tot _ l hl
    have q2 := tot_le g 2000 hs
    rw [List.take_of_length_le (Nat.le_refl _)] at h2
    have q3 : tot (turnL g) ≤ tot g := h2
    rw [hG.len] at q2
    have : m * 2000 ≤ 10000 * 2000 := Nat.mul_le_mul_right _ hsm
    omega
/-- where a graph's rows are turned, as the two functions do it -/
theorem turned_L2 (t11 : Bool × List (Bool × List Int)) (t12 : Int) (t13 : Int) (v : Int) (b : Bool) (m : Nat) (hm : m ≤ 10000) (r : Bool × List Int) (hr : r.2.length ≤ 20000000) (hw : ∀ w ∈ r.2, 0 ≤ w ∧ w < (m : Int)) (d : Nat) : ∀ (i : Nat) (R : List (Bool × List Int)), i + d = r.2.length → R.length = m → tot (R.map Prod.snd) + d ≤ 200000000 →
    ∃ R' : List (Bool × List Int), R'.length = m ∧ R'.map Prod.snd = turn1 v (r.2.drop i) (R.map Prod.snd) ∧ impl_turned_L2 (b, R) v t11 t12 t13 r (r.2.length : Int) (i : Int) = some (b, R') ∧ spec_l11Turn_L2 (b, R) v t11 t12 t13 r (r.2.length : Int) (i : Int) = some (b, R') := by
  have hlim := lim_eq
  induction d with
  | zero =>
    intro i R hi hR ht
    exact ⟨R, hR, by rw [List.drop_of_length_le (by omega)]; rfl, by rw [impl_turned_L2_eq, gF (by omega)], by rw [spec_l11Turn_L2_eq, gF (by omega)]⟩
  | succ d ih =>
    intro i R hi hR ht
    have hlt : i < r.2.length := by omega
    have hx := hw _ (List.getElem_mem hlt)
    have hj : Int.toNat r.2[i] < R.length := by omega
    have hrow : ((R.getD (Int.toNat r.2[i]) (true, [])).2).length ≤ tot (R.map Prod.snd) := by
      refine row_le_tot _ _ (List.mem_map.2 ⟨R.getD (Int.toNat r.2[i]) (true, []), ?_, rfl⟩)
      have e : R.getD (Int.toNat r.2[i]) (true, []) = R[Int.toNat r.2[i]] := by simp [List.getD_eq_getElem?_getD, hj]
      rw [e]
      exact List.getElem_mem _
    have esnd : (R.map Prod.snd).getD (Int.toNat r.2[i]) [] = (R.getD (Int.toNat r.2[i]) (true, [])).2 := by simp [List.getD_eq_getElem?_getD, hj]
    have emap : (R.set (Int.toNat r.2[i]) ((R.getD (Int.toNat r.2[i]) (true, [])).1 && false, (R.getD (Int.toNat r.2[i]) (true, [])).2 ++ [v])).map Prod.snd = (R.map Prod.snd).set (Int.toNat r.2[i]) ((R.map Prod.snd).getD (Int.toNat r.2[i]) [] ++ [v]) := by
      rw [List.map_set, esnd]
    have htot : tot ((R.set (Int.toNat r.2[i]) ((R.getD (Int.toNat r.2[i]) (true, [])).1 && false, (R.getD (Int.toNat r.2[i]) (true, [])).2 ++ [v])).map Prod.snd) = tot (R.map Prod.snd) + 1 := by
      rw [emap]
      exact tot_set _ _ _ (by simpa using hj)
    obtain ⟨R', g1, g2, g3, g4⟩ := ih (i + 1) (R.set (Int.toNat r.2[i]) ((R.getD (Int.toNat r.2[i]) (true, [])).1 && false, (R.getD (Int.toNat r.2[i]) (true, [])).2 ++ [v])) (by omega) (by rw [List.length_set]; exact hR) (by rw [htot]; omega)
    refine ⟨R', g1, ?_, ?_, ?_⟩
    · rw [g2, emap, List.drop_eq_getElem_cons hlt, turn1, turn1, List.foldl_cons]
    · rw [impl_turned_L2_eq, gT (by omega), gT (by omega), gT (by omega), getD_at r.2 _ i hlt, gT hx.1, gT (by simp only; omega), gT (by simp only [List.length_singleton]; omega), gT hx.1, gT (by simp only; omega), bT (by simp), up1 i (by omega), bind_id, g3]
    · rw [spec_l11Turn_L2_eq, gT (by omega), gT (by omega), gT (by omega), getD_at r.2 _ i hlt, gT hx.1, gT (by simp only; omega), gT (by simp only [List.length_singleton]; omega), gT hx.1, gT (by simp only; omega), bT (by simp), up1 i (by omega), bind_id, g4]
theorem turned_both {m : Nat} {G : List (List Int)} (hG : Gr m G) (hs : ∀ l ∈ G, l.length ≤ 2000) (gb : Bool) {R : List (Bool × List Int)} (hR : R.map Prod.snd = G) : ∃ R' : List (Bool × List Int), R'.map Prod.snd = turnL G ∧ impl_turned (gb, R) = some (false, R') ∧ spec_l11Turn (gb, R) = some (false, R') := by
  have hlim := lim_eq
  have hsm := hG.small
  have hRl : R.length = m := by rw [← hG.len, ← hR, List.length_map]
  have hg : ∀ l ∈ G, ∀ w ∈ l, 0 ≤ w ∧ w < (G.length : Int) := by rw [hG.len]; exact hG.inn
  have ht : ∀ n, n ≤ m → tot (G.take n) ≤ 20000000 := by
    intro n hn
    have q := tot_le (G.take n) 2000 fun l hl => hs l (List.mem_of_mem_take hl)
    have q2 : (G.take n).length ≤ 10000 := by rw [List.length_take, hG.len]; omega
    have : (G.take n).length * 2000 ≤ 10000 * 2000 := Nat.mul_le_mul_right _ q2
    omega
  have key : ∀ (d i : Nat) (Q : List (Bool × List Int)), i + d = m → Q.length = m → Q.map Prod.snd = (List.range i).foldl (fun o (v : Nat) => turn1 (v : Int) (G.getD v []) o) (List.replicate G.length []) →
      ∃ R' : List (Bool × List Int), R'.map Prod.snd = turnL G ∧ impl_turned_L0 (false, Q) (gb, R) (m : Int) (i : Int) = some (false, R') ∧ spec_l11Turn_L0 (false, Q) (gb, R) (m : Int) (i : Int) = some (false, R') := by
    intro d
    induction d with
    | zero =>
      intro i Q hi hQ hq
      obtain rfl : i = m := by omega
      exact ⟨Q, by rw [hq, turnL, hG.len], by rw [impl_turned_L0_eq, gF (by omega)], by rw [spec_l11Turn_L0_eq, gF (by omega)]⟩
    | succ d ih =>
      intro i Q hi hQ hq
      have hlt : i < G.length := by rw [hG.len]; omega
      obtain ⟨r1, r2, r3⟩ := rows_at hR hlt
      obtain ⟨f1, f2, _⟩ := turns_facts G hg i (by omega)
      have hti := ht i (by omega)
      have hsh := hs _ r3
      obtain ⟨Q', g1, g2, g3, g4⟩ := turned_L2 (gb, R) (m : Int) (i : Int) (i : Int) false m hsm (R.getD i (true, [])) (by rw [r2]; omega) (by rw [r2]; exact hG.inn _ r3) (R.getD i (true, [])).2.length 0 Q (by omega) hQ (by rw [hq, r2]; omega)
      have g3' : impl_turned_L2 (false, Q) (i : Int) (gb, R) (m : Int) (i : Int) (R.getD i (true, [])) ((R.getD i (true, [])).2.length : Int) 0 = _ := g3
      have g4' : spec_l11Turn_L2 (false, Q) (i : Int) (gb, R) (m : Int) (i : Int) (R.getD i (true, [])) ((R.getD i (true, [])).2.length : Int) 0 = _ := g4
      obtain ⟨R', k1, k2, k3⟩ := ih (i + 1) Q' (by omega) g1 (by rw [g2, List.drop_zero, r2, hq, List.range_succ, List.foldl_append]; rfl)
      refine ⟨R', k1, ?_, ?_⟩
      · rw [impl_turned_L0_eq, gT (by omega), gT (by omega), gT (by simp only; omega), Int.toNat_natCast]
        simp only [g3', some_bind]
        rw [up1 i (by omega), bind_id, k2]
      · rw [spec_l11Turn_L0_eq, gT (by omega), gT (by omega), gT (by simp only; omega), Int.toNat_natCast]
        simp only [g4', some_bind]
        rw [up1 i (by omega), bind_id, k3]
  have hrep : (List.replicate m ((true, []) : Bool × List Int)).map Prod.snd = List.replicate m [] := by simp
  obtain ⟨R', k1, k2, k3⟩ := key m 0 (List.replicate m (true, [])) (by omega) (by simp) (by rw [hrep, hG.len]; rfl)
  have k2' : impl_turned_L0 (false, List.replicate m (true, [])) (gb, R) (m : Int) 0 = _ := k2
  have k3' : spec_l11Turn_L0 (false, List.replicate m (true, [])) (gb, R) (m : Int) 0 = _ := k3
  refine ⟨R', k1, ?_, ?_⟩
  · rw [impl_turned_eq]
    simp only [hRl, Int.toNat_natCast]
    rw [gT (by omega), gT (by omega), gT (by omega), gT (by omega), k2', some_bind]
  · rw [spec_l11Turn_eq]
    simp only [hRl, Int.toNat_natCast]
    rw [gT (by omega), gT (by omega), gT (by omega), gT (by omega), k3', some_bind]
/-! the way -/
def bstep (s : List Int) (best v : Int) : Int := if s.getD v.toNat 0 ≥ 0 then (if best < 0 then v else if s.getD v.toNat 0 < s.getD best.toNat 0 then v else best) else best
def bestL (s l : List Int) : Int := l.foldl (bstep s) (-1)
theorem best_both (g : Bool × List (Bool × List Int)) (b : Bool) (s : List Int) (l : Bool × List Int) (hl : l.2.length ≤ 1048576) (hw : ∀ w ∈ l.2, 0 ≤ w ∧ w < (s.length : Int)) :
    impl_leastWay_L0 g (b, s) (-1) l (l.2.length : Int) 0 = some (bestL s l.2) ∧ spec_l11Path_L0 g (b, s) (-1) l (l.2.length : Int) 0 = some (bestL s l.2) ∧ (bestL s l.2 < 0 ∨ (bestL s l.2 < (s.length : Int) ∧ 0 ≤ s.getD (bestL s l.2).toNat 0)) := by
  have hin : ∀ (i : Nat) (h : i < l.2.length) (best : Int), (best < 0 ∨ (best < (s.length : Int) ∧ 0 ≤ s.getD best.toNat 0)) → (bstep s best l.2[i] < 0 ∨ (bstep s best l.2[i] < (s.length : Int) ∧ 0 ≤ s.getD (bstep s best l.2[i]).toNat 0)) := by
    intro i h best hb
    have hx := hw _ (List.getElem_mem h)
    unfold bstep
    split
    · split
      · exact .inr ⟨hx.2, by omega⟩
      · split
        · exact .inr ⟨hx.2, by omega⟩
        · exact hb
    · exact hb
  refine ⟨?_, ?_, ?_⟩
  · exact loop_fold l.2 (bstep s) (fun b => b) (fun best i => impl_leastWay_L0 g (b, s) best l (l.2.length : Int) i) (fun _ best => best < 0 ∨ (best < (s.length : Int) ∧ 0 ≤ s.getD best.toNat 0)) (fun i h best hb => by
      have hx := hw _ (List.getElem_mem h)
      refine ⟨?_, hin i h best hb⟩
      rw [impl_leastWay_L0_eq, gT (by omega), gT (by omega), gT (by omega), getD_at l.2 _ i h, gT hx.1, gT (by simp only; omega), up1 i (by omega)]
      unfold bstep
      by_cases c1 : s.getD (Int.toNat l.2[i]) 0 ≥ 0
      · rw [gT c1, if_pos c1]
        by_cases c2 : best < 0
        · rw [gT c2, if_pos c2, bind_id]
        · have hb2 := hb.resolve_left c2
          rw [gF c2, if_neg c2, gT hx.1, gT (by simp only; omega), gT (by omega), gT (by simp only; omega)]
          by_cases c3 : s.getD (Int.toNat l.2[i]) 0 < s.getD (Int.toNat best) 0
          · rw [gT c3, if_pos c3, bind_id]
          · rw [gF c3, if_neg c3, bind_id]
      · rw [gF c1, if_neg c1, bind_id]) (fun best _ => by rw [impl_leastWay_L0_eq, gF (by omega)]) (-1) (.inl (by decide))
  · exact loop_fold l.2 (bstep s) (fun b => b) (fun best i => spec_l11Path_L0 g (b, s) best l (l.2.length : Int) i) (fun _ best => best < 0 ∨ (best < (s.length : Int) ∧ 0 ≤ s.getD best.toNat 0)) (fun i h best hb => by
      have hx := hw _ (List.getElem_mem h)
      refine ⟨?_, hin i h best hb⟩
      rw [spec_l11Path_L0_eq, gT (by omega), gT (by omega), gT (by omega), getD_at l.2 _ i h, gT hx.1, gT (by simp only; omega), up1 i (by omega)]
      unfold bstep
      by_cases c1 : s.getD (Int.toNat l.2[i]) 0 ≥ 0
      · rw [gT c1, if_pos c1]
        by_cases c2 : best < 0
        · rw [gT c2, if_pos c2, bind_id]
        · have hb2 := hb.resolve_left c2
          rw [gF c2, if_neg c2, gT hx.1, gT (by simp only; omega), gT (by omega), gT (by simp only; omega)]
          by_cases c3 : s.getD (Int.toNat l.2[i]) 0 < s.getD (Int.toNat best) 0
          · rw [gT c3, if_pos c3, bind_id]
          · rw [gF c3, if_neg c3, bind_id]
      · rw [gF c1, if_neg c1, bind_id]) (fun best _ => by rw [spec_l11Path_L0_eq, gF (by omega)]) (-1) (.inl (by decide))
  · have key : ∀ (l : List Int), (∀ w ∈ l, 0 ≤ w ∧ w < (s.length : Int)) → ∀ best : Int, (best < 0 ∨ (best < (s.length : Int) ∧ 0 ≤ s.getD best.toNat 0)) → (l.foldl (bstep s) best < 0 ∨ (l.foldl (bstep s) best < (s.length : Int) ∧ 0 ≤ s.getD (l.foldl (bstep s) best).toNat 0)) := by
      intro l
      induction l with
      | nil => intro _ best h; exact h
      | cons a l ih =>
        intro hw best hb
        rw [List.foldl_cons]
        refine ih (fun w h => hw w (List.mem_cons_of_mem _ h)) _ ?_
        have hx := hw a List.mem_cons_self
        unfold bstep
        split
        · split
          · exact .inr ⟨hx.2, by omega⟩
          · split
            · exact .inr ⟨hx.2, by omega⟩
            · exact hb
        · exact hb
    exact key l.2 hw (-1) (.inl (by decide))
/-- the next point of a shortest way -/
def nearL (g : List (List Int)) (s : List Int) (v : Int) : Int := ((g.getD v.toNat []).find? fun w => s.getD w.toNat 0 == s.getD v.toNat 0 - 1).getD v
def wayL (g : List (List Int)) (s : List Int) : Nat → Int → List Int → List Int
  | 0, _, out => out
  | n + 1, v, out => if s.getD v.toNat 0 > 0 then wayL g s n (nearL g s v) (out ++ [nearL g s v]) else out
theorem path_L4 (nx : Bool × List (Bool × List Int)) (b : Bool) (s : List Int) (best : Int) (hb : 0 ≤ best ∧ best < (s.length : Int)) (h0 : -10 ≤ s.getD best.toNat 0 ∧ s.getD best.toNat 0 ≤ 200000000) (out : Bool × List Int) (r : Bool × List Int) (hr : r.2.length ≤ 20000000) (hw : ∀ w ∈ r.2, 0 ≤ w ∧ w < (s.length : Int)) (d : Nat) : ∀ (i : Nat), i + d = r.2.length →
    spec_l11Path_L4 nx (b, s) best out r (r.2.length : Int) (i : Int) = some (((r.2.drop i).find? fun w => s.getD w.toNat 0 == s.getD best.toNat 0 - 1).getD best) := by
  induction d with
  | zero =>
    intro i hi
    rw [spec_l11Path_L4_eq, gF (by omega), List.drop_of_length_le (by omega)]
    rfl
  | succ d ih =>
    intro i hi
    have hlt : i < r.2.length := by omega
    have hx := hw _ (List.getElem_mem hlt)
    rw [spec_l11Path_L4_eq, gT (by omega), gT (by omega), gT (by omega), getD_at r.2 _ i hlt, gT hx.1, gT (by simp only; omega), gT hb.1, gT (by simp only; omega), wr (by simp only; omega), up1 i (by omega), List.drop_eq_getElem_cons hlt, List.find?_cons]
    simp only
    cases hh : (s.getD (Int.toNat r.2[i]) 0 == s.getD (Int.toNat best) 0 - 1) with
    | true => rfl
    | false => rw [cond_false, bind_id, ih (i + 1) (by omega)]
theorem getD_lt {l : List Int} {i : Nat} (h : i < l.length) : l.getD i 0 = l[i] := by simp [List.getD_eq_getElem?_getD, h]
theorem find_idx {α : Type} (q : α → Bool) (l : List α) (h : l.findIdx q < l.length) : l.find? q = some (l[l.findIdx q]'h) := by
  induction l with
  | nil => simp at h
  | cons a l ih =>
    rw [List.find?_cons]
    cases hq : q a with
    | true => simp [List.findIdx_cons, hq]
    | false =>
      simp only [List.findIdx_cons, hq, cond_false, List.length_cons] at h ⊢
      rw [ih (by omega)]
      rfl
theorem index_near (s : List Int) (b : Bool) (best : Int) (hb : 0 ≤ best ∧ best < (s.length : Int)) (h0 : -10 ≤ s.getD best.toNat 0 ∧ s.getD best.toNat 0 ≤ 200000000) (r : Bool × List Int) (hr : r.2.length ≤ 20000000) (hw : ∀ w ∈ r.2, 0 ≤ w ∧ w < (s.length : Int)) (hex : ∃ u ∈ r.2, s.getD u.toNat 0 = s.getD best.toNat 0 - 1) :
    ∃ k : Nat, k < r.2.length ∧ slices_IndexFunc_int_by_leastWay_1 r ((b, s), (best, ())) = some (k : Int) ∧ r.2.getD k 0 = (r.2.find? fun w => s.getD w.toNat 0 == s.getD best.toNat 0 - 1).getD best ∧ r.2.getD k 0 ∈ r.2 ∧ s.getD (r.2.getD k 0).toNat 0 = s.getD best.toNat 0 - 1 := by
  have h := loop_find r.2 (fun w => s.getD w.toNat 0 == s.getD best.toNat 0 - 1) (fun i => slices_IndexFunc_int_by_leastWay_1_L0 r ((b, s), (best, ())) (r.2.length : Int) i) (fun i hi => by
    have hx := hw _ (List.getElem_mem hi)
    rw [slices_IndexFunc_int_by_leastWay_1_L0_eq, gT (by omega), gT (by omega), gT (by omega), getD_at r.2 _ i hi, impl_leastWay_1_eq, gT hx.1, gT (by simp only; omega), gT hb.1, gT (by simp only; omega), wr (by simp only; omega), some_bind, up1 i (by omega), bind_id]) (by rw [slices_IndexFunc_int_by_leastWay_1_L0_eq, gF (by omega)])
  obtain ⟨u, hu, hu2⟩ := hex
  have hany : (r.2.any fun w => s.getD w.toNat 0 == s.getD best.toNat 0 - 1) = true := List.any_eq_true.2 ⟨u, hu, by rw [beq_iff_eq]; exact hu2⟩
  have hk : r.2.findIdx (fun w => s.getD w.toNat 0 == s.getD best.toNat 0 - 1) < r.2.length := List.findIdx_lt_length.2 (List.any_eq_true.1 hany)
  have hg := List.findIdx_getElem (p := fun w : Int => s.getD w.toNat 0 == s.getD best.toNat 0 - 1) (xs := r.2) (w := hk)
  refine ⟨_, hk, ?_, ?_, ?_, ?_⟩
  · rw [slices_IndexFunc_int_by_leastWay_1_eq]
    show ((slices_IndexFunc_int_by_leastWay_1_L0 r ((b, s), (best, ())) (r.2.length : Int) 0).bind _) = _
    rw [h, hany]
    rfl
  · have e : r.2.getD (r.2.findIdx fun w => s.getD w.toNat 0 == s.getD best.toNat 0 - 1) 0 = r.2[r.2.findIdx fun w => s.getD w.toNat 0 == s.getD best.toNat 0 - 1] := getD_lt hk
    rw [e]
    have := find_idx (fun w : Int => s.getD w.toNat 0 == s.getD best.toNat 0 - 1) r.2 hk
    rw [this]
    rfl
  · have e : r.2.getD (r.2.findIdx fun w => s.getD w.toNat 0 == s.getD best.toNat 0 - 1) 0 = r.2[r.2.findIdx fun w => s.getD w.toNat 0 == s.getD best.toNat 0 - 1] := getD_lt hk
    rw [e]
    exact List.getElem_mem _
  · have e : r.2.getD (r.2.findIdx fun w => s.getD w.toNat 0 == s.getD best.toNat 0 - 1) 0 = r.2[r.2.findIdx fun w => s.getD w.toNat 0 == s.getD best.toNat 0 - 1] := getD_lt hk
    rw [e]
    exact beq_iff_eq.1 hg
/-- the walk along a shortest way -/
theorem way_both {m : Nat} {G : List (List Int)} (hG : Gr m G) (gb gb2 : Bool) {R R2 : List (Bool × List Int)} (hR : R.map Prod.snd = G) (hR2 : R2.map Prod.snd = G) (s : List Int) (hs : s.length = m) (hlo : ∀ e ∈ s, -1 ≤ e ∧ e ≤ 10000) (hP : ∀ v : Nat, v < m → 0 < s.getD v 0 → ∃ u ∈ G.getD v [], s.getD u.toNat 0 = s.getD v 0 - 1) (n : Nat) : ∀ (v : Int) (out : List Int) (b b2 : Bool), 0 ≤ v ∧ v < (m : Int) → s.getD v.toNat 0 ≤ n → out.length + n ≤ 200000000 →
    impl_leastWay_L2 (gb, R) (b, s) (false, out) v = some (false, wayL G s n v out) ∧ spec_l11Path_L2 (gb2, R2) (b2, s) v (false, out) = some (false, wayL G s n v out) ∧ (wayL G s n v out).length ≤ out.length + n := by
  have hlim := lim_eq
  have hsm := hG.small
  induction n with
  | zero =>
    intro v out b b2 hv hn ho
    refine ⟨?_, ?_, Nat.le_refl _⟩
    · rw [impl_leastWay_L2_eq, gT hv.1, gT (by simp only; omega), gF (by simp only; omega)]
      rfl
    · rw [spec_l11Path_L2_eq, gT hv.1, gT (by simp only; omega), gF (by simp only; omega)]
      rfl
  | succ n ih =>
    intro v out b b2 hv hn ho
    by_cases c : s.getD v.toNat 0 > 0
    · have hvl : v.toNat < s.length := by omega
      have hb := hlo _ (getD_mem hvl)
      have hvG : v.toNat < G.length := by rw [hG.len]; omega
      obtain ⟨r1, r2, r3⟩ := rows_at hR hvG
      obtain ⟨r4, r5, _⟩ := rows_at hR2 hvG
      have hin := hG.inn _ r3
      have hsh := hG.short _ r3
      have hRl : R.length = m := by rw [← hG.len, ← hR, List.length_map]
      have hRl2 : R2.length = m := by rw [← hG.len, ← hR2, List.length_map]
      obtain ⟨u, hu, hu2⟩ := hP v.toNat (by omega) c
      obtain ⟨k, k1, k2, k3, k4, k5⟩ := index_near s b v (by omega) (by omega) (R.getD v.toNat (true, [])) (by rw [r2]; exact hsh) (by rw [r2]; intro w hw; have := hin w hw; omega) (by rw [r2]; exact ⟨u, hu, hu2⟩)
      have hnear : nearL G s v = (R.getD v.toNat (true, [])).2.getD k 0 := by
        rw [k3, r2]; rfl
      rw [r2] at k4
      have hnin := hin _ k4
      have hval : s.getD (nearL G s v).toNat 0 = s.getD v.toNat 0 - 1 := by rw [hnear]; exact k5
      have hnn : 0 ≤ nearL G s v ∧ nearL G s v < (m : Int) := by rw [hnear, r2]; exact hnin
      obtain ⟨i1, i2, i3⟩ := ih (nearL G s v) (out ++ [nearL G s v]) b b2 hnn (by omega) (by simp; omega)
      have ew : wayL G s (n + 1) v out = wayL G s n (nearL G s v) (out ++ [nearL G s v]) := by rw [wayL, if_pos c]
      rw [ew]
      refine ⟨?_, ?_, by simp at i3; omega⟩
      · rw [impl_leastWay_L2_eq, gT hv.1, gT (by simp only; omega), gT c, gT hv.1, gT (by simp only; omega), k2, some_bind, gT hv.1, gT (by simp only; omega), gT (by omega), gT (by simp only; omega), Int.toNat_natCast, ← hnear, gT (by simp; omega), bind_id, Bool.and_false, i1]
      · have e4 := path_L4 (gb2, R2) b2 s v (by omega) (by omega) (false, out) (R2.getD v.toNat (true, [])) (by rw [r5]; exact hsh) (by rw [r5]; intro w hw; have := hin w hw; omega) (R2.getD v.toNat (true, [])).2.length 0 (by omega)
        rw [List.drop_zero] at e4
        have e4' : spec_l11Path_L4 (gb2, R2) (b2, s) v (false, out) (R2.getD v.toNat (true, [])) ((R2.getD v.toNat (true, [])).2.length : Int) 0 = some (nearL G s v) := by
          refine Eq.trans e4 ?_
          rw [r5]
          rfl
        rw [spec_l11Path_L2_eq, gT hv.1, gT (by simp only; omega), gT c, gT hv.1, gT (by simp only; omega)]
        simp only [e4', some_bind]
        rw [gT (by simp; omega), bind_id, Bool.and_false, i2]
    · have ew : wayL G s (n + 1) v out = out := by rw [wayL, if_neg c]
      rw [ew]
      refine ⟨?_, ?_, by omega⟩
      · rw [impl_leastWay_L2_eq, gT hv.1, gT (by simp only; omega), gF c]
      · rw [spec_l11Path_L2_eq, gT hv.1, gT (by simp only; omega), gF c]
/-- a shortest way, and whether there is one -/
def leastL (G : List (List Int)) (from_ to : List Int) : Option (List Int) :=
  let s := farL (turnL G) to
  if bestL s from_ < 0 then none else some (wayL G s G.length (bestL s from_) [bestL s from_])
theorem least_bothF {m : Nat} {G : List (List Int)} (hG : Gr m G) (hs : ∀ l ∈ G, l.length ≤ 2000) (hm : 1 ≤ m) (gb gb2 fb fb2 tb : Bool) {R R2 : List (Bool × List Int)} (hR : R.map Prod.snd = G) (hR2 : R2.map Prod.snd = G) (fr to : List Int) (hf : fr.length ≤ 10000) (hfw : ∀ w ∈ fr, 0 ≤ w ∧ w < (m : Int)) (ht : to.length ≤ 10000) (htw : ∀ w ∈ to, 0 ≤ w ∧ w < (m : Int)) (ob : Bool) (hob : ob = true → to = []) :
    impl_leastWay (gb, R) (fb, fr) (ob, to) = some (match leastL G fr to with
      | some l => (false, l)
      | none => (true, [])) ∧ spec_l11Path (gb2, R2) (fb2, fr) (tb, to) = some (match leastL G fr to with
      | some l => ((false, l), true)
      | none => ((true, []), false)) ∧ ∀ l, leastL G fr to = some l → l.length ≤ 100000 := by
  have hT := turnL_gr hG hs
  have hsm := hG.small
  have hg : ∀ l ∈ G, ∀ w ∈ l, 0 ≤ w ∧ w < (G.length : Int) := by rw [hG.len]; exact hG.inn
  obtain ⟨Q, q1, q2, _⟩ := turned_both hG hs gb hR
  obtain ⟨Q2, p1, _, p3⟩ := turned_both hG hs gb2 hR2
  have e1 := stepsFromF hT hm false q1 to ht htw ob hob
  have e2 := l11Far hT false tb p1 to ht htw
  have hI := farL_inv hT to ht htw
  have hP := farL_pred hT to htw
  have hlen := hI.len
  obtain ⟨b1, _, b3⟩ := best_both (gb, R) false (farL (turnL G) to) (fb, fr) (by simp only; omega) (by rw [hlen]; exact hfw)
  obtain ⟨_, b2, _⟩ := best_both (gb2, R2) false (farL (turnL G) to) (fb2, fr) (by simp only; omega) (by rw [hlen]; exact hfw)
  have hlo : ∀ e ∈ farL (turnL G) to, -1 ≤ e ∧ e ≤ 10000 := fun e he => ⟨hI.low e he, by have := hI.high e he; omega⟩
  have hP2 : ∀ v : Nat, v < m → 0 < (farL (turnL G) to).getD v 0 → ∃ u ∈ G.getD v [], (farL (turnL G) to).getD u.toNat 0 = (farL (turnL G) to).getD v 0 - 1 := by
    intro v hv h0
    obtain ⟨u, u1, u2, u3⟩ := hP v (by omega) h0
    obtain ⟨v', _, hv2, hv3⟩ := (mem_turnL hg u (v : Int)).1 u2
    have : v' = v := by omega
    subst this
    exact ⟨(u : Int), hv3, by rw [Int.toNat_natCast]; exact u3⟩
  have hbest : ∀ (c : ¬ bestL (farL (turnL G) to) fr < 0), 0 ≤ bestL (farL (turnL G) to) fr ∧ bestL (farL (turnL G) to) fr < (m : Int) ∧ (farL (turnL G) to).getD (bestL (farL (turnL G) to) fr).toNat 0 ≤ (m : Int) := by
    intro c
    have h2 := b3.resolve_left c
    have hmem := getD_mem (s := farL (turnL G) to) (i := (bestL (farL (turnL G) to) fr).toNat) (by simp only at h2; omega)
    have := hI.high _ hmem
    simp only at h2
    exact ⟨by omega, by omega, by omega⟩
  have e1' : impl_stepsFrom (false, Q) (ob, to) = _ := e1
  refine ⟨?_, ?_, ?_⟩
  · rw [impl_leastWay_eq, q2, some_bind, e1', some_bind, b1, some_bind, leastL]
    simp only
    by_cases c : bestL (farL (turnL G) to) fr < 0
    · rw [gT c, if_pos c]
    · obtain ⟨w0, w1, w2⟩ := hbest c
      obtain ⟨i1, _, _⟩ := way_both hG gb gb2 hR hR2 (farL (turnL G) to) hlen hlo hP2 m (bestL (farL (turnL G) to) fr) [bestL (farL (turnL G) to) fr] false false ⟨w0, w1⟩ w2 (by simp; omega)
      rw [gF c, if_neg c, i1, some_bind, hG.len]
  · rw [spec_l11Path_eq, p3, some_bind, e2, some_bind, b2, some_bind, leastL]
    simp only
    by_cases c : bestL (farL (turnL G) to) fr < 0
    · rw [gT c, if_pos c]
    · obtain ⟨w0, w1, w2⟩ := hbest c
      obtain ⟨_, i2, _⟩ := way_both hG gb gb2 hR hR2 (farL (turnL G) to) hlen hlo hP2 m (bestL (farL (turnL G) to) fr) [bestL (farL (turnL G) to) fr] false false ⟨w0, w1⟩ w2 (by simp; omega)
      rw [gF c, if_neg c, i2, some_bind, hG.len]
  · intro l hl
    unfold leastL at hl
    by_cases c : bestL (farL (turnL G) to) fr < 0
    · rw [if_pos c] at hl; cases hl
    · rw [if_neg c, hG.len] at hl
      obtain ⟨w0, w1, w2⟩ := hbest c
      obtain ⟨_, _, i3⟩ := way_both hG gb gb2 hR hR2 (farL (turnL G) to) hlen hlo hP2 m (bestL (farL (turnL G) to) fr) [bestL (farL (turnL G) to) fr] false false ⟨w0, w1⟩ w2 (by simp; omega)
      rw [← Option.some.inj hl]
      simp at i3
      omega
theorem indexInt (l : Bool × List Int) (n : Int) (hl : l.2.length ≤ 1048576) : slices_Index_int l n = some (bif l.2.any (fun x => n == x) then (l.2.findIdx (fun x => n == x) : Int) else -1) := by
  have h := loop_find l.2 (fun x => n == x) (fun i => slices_Index_int_L0 l n (l.2.length : Int) i) (fun i h => by
    rw [slices_Index_int_L0_eq, gT (by omega), gT (by omega), gT (by omega), getD_at l.2 _ i h, up1 i (by omega), bind_id]) (by rw [slices_Index_int_L0_eq, gF (by omega)])
  rw [slices_Index_int_eq, h, some_bind]
  cases l.2.any (fun x => n == x) <;> rfl
def rowAt (X : List (Bool × List Int)) (k : Nat) : List Int := (X.getD k (true, [])).2
/-- what some puts hand to a row -/
def pick (S : List (Nat × Int)) (k : Nat) : List Int := (S.filter fun e => e.1 == k).map Prod.snd
theorem pick_append (S S' : List (Nat × Int)) (k : Nat) : pick (S ++ S') k = pick S k ++ pick S' k := by
  simp [pick]
theorem pick_length (S : List (Nat × Int)) (k : Nat) : (pick S k).length ≤ S.length := by
  rw [pick, List.length_map]
  exact List.length_filter_le _ _
/-- rows, with some puts done -/
structure Did (X X' : List (Bool × List Int)) (S : List (Nat × Int)) : Prop where
  len : X'.length = X.length
  row : ∀ k : Nat, k < X.length → rowAt X' k = rowAt X k ++ pick S k
def Bnd (X : List (Bool × List Int)) (n : Nat) : Prop := ∀ k : Nat, k < X.length → (rowAt X k).length ≤ n
theorem Did.refl (X : List (Bool × List Int)) : Did X X [] := ⟨rfl, fun k _ => by simp [pick]⟩
theorem Did.trans {X X' X'' : List (Bool × List Int)} {S S' : List (Nat × Int)} (h : Did X X' S) (h' : Did X' X'' S') : Did X X'' (S ++ S') := by
  refine ⟨by rw [h'.len, h.len], fun k hk => ?_⟩
  rw [h'.row k (by rw [h.len]; exact hk), h.row k hk, pick_append, List.append_assoc]
theorem Did.bnd {X X' : List (Bool × List Int)} {S : List (Nat × Int)} (h : Did X X' S) {n : Nat} (hb : Bnd X n) : Bnd X' (n + S.length) := by
  intro k hk
  rw [h.len] at hk
  rw [h.row k hk, List.length_append]
  have := hb k hk
  have := pick_length S k
  omega
theorem Did.put {X : List (Bool × List Int)} {k : Nat} (hk : k < X.length) (b : Bool) (z : Int) : Did X (X.set k (b, rowAt X k ++ [z])) [(k, z)] := by
  refine ⟨List.length_set, fun j hj => ?_⟩
  by_cases e : k = j
  · subst e
    simp [rowAt, List.getD_eq_getElem?_getD, hk, pick]
  · have e' : (k == j) = false := by rw [beq_eq_false_iff_ne]; exact e
    simp [rowAt, List.getD_eq_getElem?_getD, List.getElem?_set_ne e, pick, e']
theorem flatMap_nil {α β : Type} (l : List α) (P : α → List β) (h : ∀ a ∈ l, P a = []) : l.flatMap P = [] := by
  induction l with
  | nil => rfl
  | cons a l ih => rw [List.flatMap_cons, h a List.mem_cons_self, ih fun b hb => h b (List.mem_cons_of_mem _ hb)]; rfl
theorem findIdx?_lt {α : Type} {K : List α} {q : α → Bool} {i : Nat} (h : K.findIdx? q = some i) : i < K.length := by
  rw [List.findIdx?_eq_some_iff_getElem] at h
  exact h.1
theorem findIdx?_more {α : Type} {K L : List α} {q : α → Bool} {i : Nat} (h : K.findIdx? q = some i) : (K ++ L).findIdx? q = some i := by
  rw [List.findIdx?_append, h]
  rfl
theorem findIdx?_new {α : Type} {K : List α} {q : α → Bool} {x : α} (h : K.findIdx? q = none) (hx : q x = true) : (K ++ [x]).findIdx? q = some K.length := by
  rw [List.findIdx?_append, h, List.findIdx?_cons, hx]
  simp
theorem findIdx?_at {α : Type} [BEq α] [LawfulBEq α] {K : List α} {x : α} {i : Nat} (h : K.findIdx? (fun y => x == y) = some i) : K[i]? = some x := by
  rw [List.findIdx?_eq_some_iff_getElem] at h
  obtain ⟨h1, h2, _⟩ := h
  rw [List.getElem?_eq_getElem h1]
  exact congrArg some (eq_of_beq h2).symm
/-- what can be reached along arrows -/
inductive Way (g : Int → List Int) : Int → Int → Prop
  | here (a : Int) : Way g a a
  | step {a b c : Int} : b ∈ g a → Way g b c → Way g a c
theorem Way.trans {g : Int → List Int} {a b c : Int} (h : Way g a b) (h2 : Way g b c) : Way g a c := by
  induction h with
  | here a => exact h2
  | step e _ ih => exact Way.step e (ih h2)
theorem Way.arc {g : Int → List Int} {a b : Int} (h : b ∈ g a) : Way g a b := Way.step h (Way.here b)
theorem Way.snoc {g : Int → List Int} {a b c : Int} (h : Way g a b) (h2 : c ∈ g b) : Way g a c := h.trans (Way.arc h2)
/-- what is closed along arrows keeps its ways in -/
theorem Way.closed {g : Int → List Int} {P : Int → Prop} (hc : ∀ x, P x → ∀ y ∈ g x, P y) {a b : Int} (h : Way g a b) : P a → P b := by
  induction h with
  | here a => exact id
  | step e _ ih => exact fun h => ih (hc _ h _ e)
theorem Way.turn {g r : Int → List Int} (hr : ∀ x y, y ∈ r x → x ∈ g y) {a b : Int} (h : Way r a b) : Way g b a := by
  induction h with
  | here a => exact Way.here a
  | step e _ ih => exact ih.trans (Way.arc (hr _ _ e))
/-- each leads to the other -/
def Scc (g : Int → List Int) (a b : Int) : Prop := Way g a b ∧ Way g b a
theorem Scc.refl (g : Int → List Int) (a : Int) : Scc g a a := ⟨Way.here a, Way.here a⟩
theorem Scc.symm {g : Int → List Int} {a b : Int} (h : Scc g a b) : Scc g b a := ⟨h.2, h.1⟩
theorem Scc.trans {g : Int → List Int} {a b c : Int} (h : Scc g a b) (h2 : Scc g b c) : Scc g a c := ⟨h.1.trans h2.1, h2.2.trans h.2⟩
/-- the least of a part -/
def IsL (g : Int → List Int) (x m : Int) : Prop := Scc g x m ∧ ∀ y, Scc g x y → m ≤ y
theorem IsL.one {g : Int → List Int} {x m k : Int} (h : IsL g x m) (h2 : IsL g x k) : m = k := Int.le_antisymm (h.2 k h2.1) (h2.2 m h.1)
theorem IsL.of {g : Int → List Int} {x y m : Int} (h : IsL g x m) (e : Scc g x y) : IsL g y m := ⟨e.symm.trans h.1, fun z hz => h.2 z (e.trans hz)⟩
/-- the last of a list with a property -/
theorem last_of {α : Type} (P : α → Prop) : ∀ (l : List α), (∃ x ∈ l, P x) → ∃ A u B, l = A ++ u :: B ∧ P u ∧ ∀ x ∈ B, ¬ P x := by
  intro l
  induction l with
  | nil => rintro ⟨x, hx, _⟩; cases hx
  | cons a l ih =>
    intro h
    by_cases c : ∃ x ∈ l, P x
    · obtain ⟨A, u, B, e, h1, h2⟩ := ih c
      exact ⟨a :: A, u, B, by rw [e, List.cons_append], h1, h2⟩
    · obtain ⟨x, hx, px⟩ := h
      rcases List.mem_cons.1 hx with rfl | hx
      · exact ⟨[], x, l, rfl, px, fun y hy py => c ⟨y, hy, py⟩⟩
      · exact absurd ⟨x, hx, px⟩ c
theorem nodup_split {α : Type} {A X A2 B : List α} {u : α} (hn : (A ++ u :: X).Nodup) (e : A ++ u :: X = A2 ++ u :: B) : A = A2 := by
  rcases List.append_eq_append_iff.1 e with ⟨t, e1, e2⟩ | ⟨t, e1, e2⟩
  · cases t with
    | nil => rw [e1, List.append_nil]
    | cons c t =>
      rw [List.cons_append, List.cons.injEq] at e2
      obtain ⟨rfl, e3⟩ := e2
      rw [e3] at hn
      have := (List.nodup_append.1 hn).2.1
      rw [List.nodup_cons] at this
      exact absurd (by simp) this.1
  · cases t with
    | nil => rw [e1, List.append_nil]
    | cons c t =>
      rw [List.cons_append, List.cons.injEq] at e2
      obtain ⟨rfl, e3⟩ := e2
      rw [e1, List.append_assoc, List.cons_append] at hn
      have := (List.nodup_append.1 hn).2.1
      rw [List.nodup_cons] at this
      exact absurd (by simp) this.1
/-! the order in which a walk in depth leaves the points -/
structure FinI (g : Int → List Int) (G S : Int → Prop) (o : List Int) : Prop where
  see : ∀ x, S x ↔ (x ∈ o ∨ G x)
  dis : ∀ x ∈ o, ¬ G x
  suc : ∀ x ∈ o, ∀ y ∈ g x, S y
  star : ∀ A z B, o = A ++ z :: B → (∀ w, Way g z w → w ∈ A ∨ w = z) ∨ ∃ y, Scc g z y ∧ y ∉ A ∧ y ≠ z
  nod : o.Nodup
theorem FinI.enter {g : Int → List Int} {G S : Int → Prop} {o : List Int} (h : FinI g G S o) {k : Int} (hk : ¬ S k) : FinI g (fun x => G x ∨ x = k) (fun x => S x ∨ x = k) o := by
  refine ⟨fun x => ?_, fun x hx hc => ?_, fun x hx y hy => Or.inl (h.suc x hx y hy), h.star, h.nod⟩
  · rw [h.see]
    constructor
    · rintro ((a | a) | a)
      · exact Or.inl a
      · exact Or.inr (Or.inl a)
      · exact Or.inr (Or.inr a)
    · rintro (a | a | a)
      · exact Or.inl (Or.inl a)
      · exact Or.inl (Or.inr a)
      · exact Or.inr a
  · rcases hc with hc | hc
    · exact h.dis x hx hc
    · subst hc
      exact hk ((h.see x).2 (Or.inl hx))
theorem FinI.leave {g : Int → List Int} {G S : Int → Prop} {o : List Int} {k : Int} (h : FinI g (fun x => G x ∨ x = k) S o) (hg : ¬ G k) (hs : ∀ y ∈ g k, S y) (hw : ∀ x, G x → Way g x k) : FinI g G S (o ++ [k]) := by
  have hko : k ∉ o := fun c => h.dis k c (Or.inr rfl)
  refine ⟨fun x => ?_, fun x hx hc => ?_, fun x hx y hy => ?_, fun A z B e => ?_, ?_⟩
  · rw [h.see, List.mem_append, List.mem_singleton]
    constructor
    · rintro (a | a | a)
      · exact Or.inl (Or.inl a)
      · exact Or.inr a
      · exact Or.inl (Or.inr a)
    · rintro ((a | a) | a)
      · exact Or.inl a
      · exact Or.inr (Or.inr a)
      · exact Or.inr (Or.inl a)
  · rw [List.mem_append, List.mem_singleton] at hx
    rcases hx with hx | hx
    · exact h.dis x hx (Or.inl hc)
    · subst hx
      exact hg hc
  · rw [List.mem_append, List.mem_singleton] at hx
    rcases hx with hx | hx
    · exact h.suc x hx y hy
    · subst hx
      exact hs y hy
  · rcases List.eq_nil_or_concat B with hB | ⟨B2, b, hB⟩
    · subst hB
      obtain ⟨e1, e2⟩ := List.append_inj' e rfl
      simp only [List.cons.injEq, and_true] at e2
      subst e1 e2
      by_cases c : ∃ y, G y ∧ Way g k y
      · obtain ⟨y, hy, hy2⟩ := c
        refine Or.inr ⟨y, ⟨hy2, hw y hy⟩, fun q => h.dis y q (Or.inl hy), fun q => ?_⟩
        subst q
        exact hg hy
      · refine Or.inl fun w hkw => ?_
        have key : Way g k w ∧ (w ∈ o ∨ w = k) := Way.closed (P := fun x => Way g k x ∧ (x ∈ o ∨ x = k)) (fun x hx y hy => by
          have hky := hx.1.snoc hy
          have hsy : S y := by
            rcases hx.2 with q | q
            · exact h.suc x q y hy
            · subst q
              exact hs y hy
          refine ⟨hky, ?_⟩
          rcases (h.see y).1 hsy with q | q | q
          · exact Or.inl q
          · exact absurd ⟨y, q, hky⟩ c
          · exact Or.inr q) hkw ⟨Way.here k, Or.inr rfl⟩
        exact key.2
    · subst hB
      rw [List.concat_eq_append] at e
      have e' : o ++ [k] = (A ++ z :: B2) ++ [b] := by rw [e]; simp
      obtain ⟨e1, _⟩ := List.append_inj' e' rfl
      exact h.star A z B2 e1
  · rw [List.nodup_append]
    refine ⟨h.nod, List.pairwise_singleton _ _, fun a ha b hb => ?_⟩
    rw [List.mem_singleton] at hb
    rintro rfl
    subst hb
    exact hko ha
/-- behind the walk: what leads to a point and is in no part of a later one is in its part -/
theorem fin_scc {g : Int → List Int} {S ok : Int → Prop} {o : List Int} (h : FinI g (fun _ => False) S o) (all : ∀ x, ok x → x ∈ o) (okc : ∀ x, ok x → ∀ y ∈ g x, ok y) {A B : List Int} {z y : Int} (ho : o = A ++ z :: B) (hy : ok y) (hyz : Way g y z) (hB : ∀ b ∈ B, ¬ Scc g y b) : Way g z y := by
  obtain ⟨A2, u, B2, e, hu, hl⟩ := last_of (fun x => Scc g y x) o ⟨y, all y hy, Scc.refl g y⟩
  have oku : ok u := Way.closed okc hu.1 hy
  rcases h.star A2 u B2 e with c | ⟨y2, c1, c2, c3⟩
  · rcases c z (hu.2.trans hyz) with cz | cz
    · have huo : u ∈ A ++ z :: B := by rw [← ho]; exact all u oku
      rw [List.mem_append, List.mem_cons] at huo
      rcases huo with q | q | q
      · exfalso
        obtain ⟨A1, X, eA⟩ := List.append_of_mem q
        have e3 : A1 ++ u :: (X ++ z :: B) = A2 ++ u :: B2 := by rw [← e, ho, eA]; simp
        have hn : (A1 ++ u :: (X ++ z :: B)).Nodup := by rw [e3, ← e]; exact h.nod
        have e4 := nodup_split hn e3
        subst e4
        exact (List.nodup_append.1 hn).2.2 z cz z (by simp) rfl
      · subst q
        exact hu.2
      · exact absurd hu (hB u q)
    · subst cz
      exact hu.2
  · exfalso
    have o2 : y2 ∈ A2 ++ u :: B2 := by rw [← e]; exact all y2 (Way.closed okc c1.1 oku)
    rw [List.mem_append, List.mem_cons] at o2
    rcases o2 with q | q | q
    · exact c2 q
    · exact c3 q
    · exact hl y2 q (hu.trans c1)
/-! a walk that gathers what is not seen yet -/
structure ColI (g : Int → List Int) (r : Int) (Base G S : Int → Prop) (o : List Int) : Prop where
  see : ∀ x, S x ↔ (Base x ∨ x ∈ o ∨ G x)
  new : ∀ x, x ∈ o ∨ G x → ¬ Base x ∧ Way g r x
  suc : ∀ x ∈ o, ∀ y ∈ g x, S y
theorem ColI.enter {g : Int → List Int} {r : Int} {Base G S : Int → Prop} {o : List Int} (h : ColI g r Base G S o) {k : Int} (hk : ¬ S k) (hr : Way g r k) : ColI g r Base (fun x => G x ∨ x = k) (fun x => S x ∨ x = k) o := by
  refine ⟨fun x => ?_, fun x hx => ?_, fun x hx y hy => Or.inl (h.suc x hx y hy)⟩
  · rw [h.see]
    constructor
    · rintro ((a | a | a) | a)
      · exact Or.inl a
      · exact Or.inr (Or.inl a)
      · exact Or.inr (Or.inr (Or.inl a))
      · exact Or.inr (Or.inr (Or.inr a))
    · rintro (a | a | a | a)
      · exact Or.inl (Or.inl a)
      · exact Or.inl (Or.inr (Or.inl a))
      · exact Or.inl (Or.inr (Or.inr a))
      · exact Or.inr a
  · rcases hx with a | a | a
    · exact h.new x (Or.inl a)
    · exact h.new x (Or.inr a)
    · subst a
      exact ⟨fun c => hk ((h.see x).2 (Or.inl c)), hr⟩
theorem ColI.leave {g : Int → List Int} {r : Int} {Base G S : Int → Prop} {o : List Int} {k : Int} (h : ColI g r Base (fun x => G x ∨ x = k) S o) (hs : ∀ y ∈ g k, S y) : ColI g r Base G S (o ++ [k]) := by
  refine ⟨fun x => ?_, fun x hx => ?_, fun x hx y hy => ?_⟩
  · rw [h.see, List.mem_append, List.mem_singleton]
    constructor
    · rintro (a | a | a | a)
      · exact Or.inl a
      · exact Or.inr (Or.inl (Or.inl a))
      · exact Or.inr (Or.inr a)
      · exact Or.inr (Or.inl (Or.inr a))
    · rintro (a | (a | a) | a)
      · exact Or.inl a
      · exact Or.inr (Or.inl a)
      · exact Or.inr (Or.inr (Or.inr a))
      · exact Or.inr (Or.inr (Or.inl a))
  · rw [List.mem_append, List.mem_singleton] at hx
    rcases hx with (a | a) | a
    · exact h.new x (Or.inl a)
    · exact h.new x (Or.inr (Or.inr a))
    · exact h.new x (Or.inr (Or.inl a))
  · rw [List.mem_append, List.mem_singleton] at hx
    rcases hx with a | a
    · exact h.suc x a y hy
    · subst a
      exact hs y hy
/-- what a walk against the arrows gathers from the last point that is not seen yet: its part -/
theorem col_scc {g r : Int → List Int} {ok S T : Int → Prop} {o q : List Int} (h : FinI g (fun _ => False) S o) (all : ∀ x, ok x → x ∈ o) (okc : ∀ x, ok x → ∀ y ∈ g x, ok y) (okr : ∀ x, ok x → ∀ y ∈ r x, ok y) (hr : ∀ x y, ok x → (y ∈ r x ↔ x ∈ g y)) {A B : List Int} {z : Int} (ho : o = A ++ z :: B) (hz : ok z)
    {Base : Int → Prop} (hb : ∀ x, ok x → (Base x ↔ ∃ b ∈ B, Scc g x b)) (hc : ColI r z Base (fun _ => False) T q) (hzb : ¬ Base z) (hzq : z ∈ q) (x : Int) (hx : ok x) : x ∈ q ↔ Scc g z x := by
  have turn : ∀ a b, ok a → Way r a b → Way g b a := by
    intro a b ha hw
    induction hw with
    | here a => exact Way.here a
    | step e _ ih => exact (ih (okr _ ha _ e)).trans (Way.arc ((hr _ _ ha).1 e))
  constructor
  · intro hq
    obtain ⟨h1, h2⟩ := hc.new x (Or.inl hq)
    have h3 := turn _ _ hz h2
    exact ⟨fin_scc h all okc ho hx h3 (fun b hb2 hs => h1 ((hb x hx).2 ⟨b, hb2, hs⟩)), h3⟩
  · intro hs
    have back : ∀ a b, ok a → Way g a b → Way r b a := by
      intro a b ha hw
      induction hw with
      | here a => exact Way.here a
      | step e _ ih => exact (ih (okc _ ha _ e)).snoc ((hr _ _ (okc _ ha _ e)).2 e)
    have key : ∀ a, Way r a x → ok a → a ∈ q → Scc g z a → x ∈ q := by
      intro a hw
      induction hw with
      | here a => exact fun _ hq _ => hq
      | step e hw ih =>
        intro ha hq hsa
        have okb := okr _ ha _ e
        have hsb := hc.suc _ hq _ e
        have sb : Scc g z _ := ⟨hs.1.trans (turn _ _ okb hw), (Way.arc ((hr _ _ ha).1 e)).trans hsa.2⟩
        rcases (hc.see _).1 hsb with c | c | c
        · exfalso
          obtain ⟨b, hb1, hb2⟩ := (hb _ okb).1 c
          exact hzb ((hb z hz).2 ⟨b, hb1, sb.trans hb2⟩)
        · exact ih hx hs okb c sb
        · exact c.elim
    exact key z (back _ _ hx hs.2) hz hzq (Scc.refl g z)
/-- a function with another value at one place -/
def updI (f : Int → Int) (k v : Int) : Int → Int := fun x => if x = k then v else f x
theorem updI_same (f : Int → Int) (k v : Int) : updI f k v k = v := if_pos rfl
theorem updI_other (f : Int → Int) {k x : Int} (v : Int) (h : ¬ x = k) : updI f k v x = f x := if_neg h
/-- the walk with a stack: what holds between calls (G: the points that are being visited) -/
structure TarI (g : Int → List Int) (G : Int → Prop) (fo pa : Int → Int) (st : List Int) (vis : Int) : Prop where
  fr : ∀ x, 0 ≤ fo x ∧ fo x ≤ vis
  see : ∀ x, fo x ≠ 0 ↔ (0 ≤ pa x ∨ x ∈ st)
  dis : ∀ x ∈ st, pa x < 0
  nn : ∀ x ∈ st, 0 ≤ x
  inc : st.Pairwise fun a b => fo a < fo b
  gs : ∀ x, G x → x ∈ st
  cl : ∀ x, 0 ≤ pa x → ∀ y ∈ g x, 0 ≤ pa y
  val : ∀ x, 0 ≤ pa x → IsL g x (pa x)
  blk : ∀ x ∈ st, ¬ G x → (∀ y ∈ g x, fo y ≠ 0) ∧ ∃ y ∈ st, fo y < fo x ∧ Way g x y
theorem TarI.enter {g : Int → List Int} {G : Int → Prop} {fo pa : Int → Int} {st : List Int} {vis v : Int} (h : TarI g G fo pa st vis) (hv : fo v = 0) (hv0 : 0 ≤ v) : TarI g (fun x => G x ∨ x = v) (updI fo v (vis + 1)) pa (st ++ [v]) (vis + 1) := by
  have hvis := h.fr v
  have hns : v ∉ st := fun c => (h.see v).2 (Or.inr c) hv
  have hne : ∀ x ∈ st, ¬ x = v := fun x hx e => by
    subst e
    exact hns hx
  have hup : ∀ y, fo y ≠ 0 → updI fo v (vis + 1) y ≠ 0 := fun y hy => by
    by_cases c : y = v
    · subst c
      exact absurd hv hy
    · rwa [updI_other _ _ c]
  refine ⟨fun x => ?_, fun x => ?_, fun x hx => ?_, fun x hx => ?_, ?_, fun x hx => ?_, h.cl, h.val, fun x hx hg => ?_⟩
  · by_cases c : x = v
    · subst c
      rw [updI_same]
      omega
    · rw [updI_other _ _ c]
      have := h.fr x
      omega
  · by_cases c : x = v
    · subst c
      rw [updI_same]
      exact ⟨fun _ => Or.inr (by simp), fun _ => by omega⟩
    · rw [updI_other _ _ c, h.see, List.mem_append, List.mem_singleton]
      constructor
      · rintro (a | a)
        · exact Or.inl a
        · exact Or.inr (Or.inl a)
      · rintro (a | a | a)
        · exact Or.inl a
        · exact Or.inr a
        · exact absurd a c
  · rw [List.mem_append, List.mem_singleton] at hx
    rcases hx with hx | hx
    · exact h.dis x hx
    · subst hx
      rcases Int.lt_or_le (pa x) 0 with c | c
      · exact c
      · exact absurd hv ((h.see x).2 (Or.inl c))
  · rw [List.mem_append, List.mem_singleton] at hx
    rcases hx with hx | hx
    · exact h.nn x hx
    · omega
  · rw [List.pairwise_append]
    refine ⟨h.inc.imp_of_mem fun {a b} ha hb hab => ?_, List.pairwise_singleton _ _, fun a ha b hb => ?_⟩
    · rw [updI_other _ _ (hne a ha), updI_other _ _ (hne b hb)]
      exact hab
    · rw [List.mem_singleton] at hb
      subst hb
      rw [updI_other _ _ (hne a ha), updI_same]
      have := h.fr a
      omega
  · rw [List.mem_append, List.mem_singleton]
    rcases hx with hx | hx
    · exact Or.inl (h.gs x hx)
    · exact Or.inr hx
  · rw [List.mem_append, List.mem_singleton] at hx
    rcases hx with hx | hx
    · obtain ⟨h1, y, h2, h3, h4⟩ := h.blk x hx (fun c => hg (Or.inl c))
      refine ⟨fun z hz => hup z (h1 z hz), y, List.mem_append_left _ h2, ?_, h4⟩
      rw [updI_other _ _ (hne y h2), updI_other _ _ (hne x hx)]
      exact h3
    · exact absurd (Or.inr hx) hg
/-- within a visit: some arrows are done -/
structure TarL (g : Int → List Int) (G : Int → Prop) (v : Int) (S0 : List Int) (fo0 lo0 : Int → Int) (vis0 : Int) (fo lo pa : Int → Int) (st : List Int) (vis : Int) (done : List Int) : Prop where
  inv : TarI g (fun x => G x ∨ x = v) fo pa st vis
  gs0 : ∀ x, G x → x ∈ S0
  stk : ∃ M, st = S0 ++ v :: M ∧ ∀ x ∈ M, Way g v x ∧ ∀ y ∈ g x, y ∈ S0 → lo v ≤ fo y
  keep : ∀ x, fo0 x ≠ 0 → fo x = fo0 x ∧ lo x = lo0 x
  fv : vis0 < fo v
  vs : vis0 ≤ vis
  lv : lo v ≤ fo v
  low : ∃ u ∈ st, fo u = lo v ∧ Way g v u
  dn : ∀ w ∈ done, fo w ≠ 0 ∧ (w ∈ S0 → lo v ≤ fo w)
/-- behind a visit -/
structure TarP (g : Int → List Int) (G : Int → Prop) (v : Int) (S0 : List Int) (fo0 lo0 : Int → Int) (vis0 : Int) (fo lo pa : Int → Int) (st : List Int) (vis : Int) : Prop where
  inv : TarI g G fo pa st vis
  keep : ∀ x, fo0 x ≠ 0 → fo x = fo0 x ∧ lo x = lo0 x
  fv : vis0 < fo v
  vs : vis0 ≤ vis
  out : ∃ N, st = S0 ++ N ∧ (∀ x ∈ N, Way g v x ∧ ∀ y ∈ g x, y ∈ S0 → lo v ≤ fo y) ∧ ((N = [] ∧ fo v ≤ lo v) ∨ ∃ u ∈ st, fo u = lo v ∧ Way g v u)
theorem TarL.start {g : Int → List Int} {G : Int → Prop} {fo lo pa : Int → Int} {st : List Int} {vis v : Int} (h : TarI g G fo pa st vis) (hv : fo v = 0) (hv0 : 0 ≤ v) : TarL g G v st fo lo vis (updI fo v (vis + 1)) (updI lo v (vis + 1)) pa (st ++ [v]) (vis + 1) [] := by
  refine ⟨h.enter hv hv0, h.gs, ⟨[], rfl, fun x hx => by cases hx⟩, fun x hx => ?_, ?_, by omega, ?_, ⟨v, by simp, ?_, Way.here v⟩, fun w hw => by cases hw⟩
  · have : ¬ x = v := fun e => hx (by rw [e]; exact hv)
    exact ⟨updI_other _ _ this, updI_other _ _ this⟩
  · rw [updI_same]; omega
  · rw [updI_same, updI_same]; omega
  · rw [updI_same, updI_same]
theorem TarL.skip {g : Int → List Int} {G : Int → Prop} {fo0 lo0 fo lo pa : Int → Int} {S0 st done : List Int} {vis0 vis v w : Int} (h : TarL g G v S0 fo0 lo0 vis0 fo lo pa st vis done) (hp : 0 ≤ pa w) : TarL g G v S0 fo0 lo0 vis0 fo lo pa st vis (w :: done) := by
  refine { h with dn := fun x hx => ?_ }
  rcases List.mem_cons.1 hx with rfl | hx
  · refine ⟨(h.inv.see x).2 (Or.inl hp), fun hs => ?_⟩
    obtain ⟨M, e, _⟩ := h.stk
    have := h.inv.dis x (by rw [e]; exact List.mem_append_left _ hs)
    omega
  · exact h.dn x hx
theorem TarL.seen {g : Int → List Int} {G : Int → Prop} {fo0 lo0 fo lo pa : Int → Int} {S0 st done : List Int} {vis0 vis v w : Int} (h : TarL g G v S0 fo0 lo0 vis0 fo lo pa st vis done) (hw : w ∈ g v) (h1 : fo w ≠ 0) (hp : pa w < 0) (hv0 : fo0 v = 0) :
    TarL g G v S0 fo0 lo0 vis0 fo (updI lo v (min (lo v) (fo w))) pa st vis (w :: done) := by
  obtain ⟨M, e, hM⟩ := h.stk
  have hlv := h.lv
  refine ⟨h.inv, h.gs0, ⟨M, e, fun x hx => ⟨(hM x hx).1, fun y hy hs => ?_⟩⟩, fun x hx => ?_, h.fv, h.vs, ?_, ?_, fun x hx => ?_⟩
  · rw [updI_same]
    have := (hM x hx).2 y hy hs
    omega
  · have : ¬ x = v := fun e => hx (by rw [e]; exact hv0)
    rw [updI_other _ _ this]
    exact h.keep x hx
  · rw [updI_same]
    omega
  · rw [updI_same]
    rcases Int.le_total (lo v) (fo w) with c | c
    · obtain ⟨u, h2, h3, h4⟩ := h.low
      exact ⟨u, h2, by omega, h4⟩
    · refine ⟨w, ?_, by omega, Way.arc hw⟩
      rcases (h.inv.see w).1 h1 with q | q
      · omega
      · exact q
  · rw [updI_same]
    rcases List.mem_cons.1 hx with rfl | hx
    · exact ⟨h1, fun _ => by omega⟩
    · have := h.dn x hx
      exact ⟨this.1, fun q => by have := this.2 q; omega⟩
theorem TarL.call {g : Int → List Int} {G : Int → Prop} {fo0 lo0 fo lo pa fo2 lo2 pa2 : Int → Int} {S0 st done st2 : List Int} {vis0 vis vis2 v w : Int} (h : TarL g G v S0 fo0 lo0 vis0 fo lo pa st vis done) (hw : w ∈ g v) (h1 : fo w = 0) (hv0 : fo0 v = 0)
    (p : TarP g (fun x => G x ∨ x = v) w st fo lo vis fo2 lo2 pa2 st2 vis2) : TarL g G v S0 fo0 lo0 vis0 fo2 (updI lo2 v (min (lo2 v) (lo2 w))) pa2 st2 vis2 (w :: done) := by
  obtain ⟨M, e, hM⟩ := h.stk
  obtain ⟨N, e2, hN, hout⟩ := p.out
  have hlv := h.lv
  have hfv := h.fv
  have hvs := h.vs
  have hvs2 := p.vs
  have hpfv := p.fv
  have hvr := h.inv.fr v
  have hvv : v ∈ st := by rw [e]; simp
  have hfv0 : fo v ≠ 0 := (h.inv.see v).2 (Or.inr hvv)
  obtain ⟨k1, k2⟩ := p.keep v hfv0
  have kst : ∀ x ∈ st, fo2 x = fo x ∧ lo2 x = lo x := fun x hx => p.keep x ((h.inv.see x).2 (Or.inr hx))
  have hS : ∀ y, y ∈ S0 → y ∈ st := fun y hy => by rw [e]; exact List.mem_append_left _ hy
  refine ⟨p.inv, h.gs0, ⟨M ++ N, by rw [e2, e]; simp, fun x hx => ?_⟩, fun x hx => ?_, by omega, by omega, ?_, ?_, fun x hx => ?_⟩
  · rw [updI_same, k2]
    rcases List.mem_append.1 hx with hx | hx
    · refine ⟨(hM x hx).1, fun y hy hs => ?_⟩
      have a := (hM x hx).2 y hy hs
      have b := (kst y (hS y hs)).1
      omega
    · refine ⟨Way.step hw (hN x hx).1, fun y hy hs => ?_⟩
      have a := (hN x hx).2 y hy (hS y hs)
      omega
  · have hne : ¬ x = v := fun e => hx (by rw [e]; exact hv0)
    obtain ⟨a1, a2⟩ := h.keep x hx
    obtain ⟨b1, b2⟩ := p.keep x (by rw [a1]; exact hx)
    rw [updI_other _ _ hne, b1, b2, a1, a2]
    exact ⟨rfl, rfl⟩
  · rw [updI_same, k2, k1]
    omega
  · rw [updI_same, k2]
    have old : ∃ u ∈ st2, fo2 u = lo v ∧ Way g v u := by
      obtain ⟨u, h2, h3, h4⟩ := h.low
      exact ⟨u, by rw [e2]; exact List.mem_append_left _ h2, by rw [(kst u h2).1]; exact h3, h4⟩
    rcases Int.le_total (lo v) (lo2 w) with c | c
    · rw [Int.min_eq_left c]
      exact old
    · rw [Int.min_eq_right c]
      rcases hout with ⟨_, q⟩ | ⟨u, q1, q2, q3⟩
      · have : lo2 w = lo v := by omega
        rw [this]
        exact old
      · exact ⟨u, q1, q2, Way.step hw q3⟩
  · rw [updI_same, k2]
    rcases List.mem_cons.1 hx with rfl | hx
    · refine ⟨by omega, fun hs => ?_⟩
      exact absurd h1 ((h.inv.see x).2 (Or.inr (hS x hs)))
    · obtain ⟨a1, a2⟩ := h.dn x hx
      obtain ⟨b1, b2⟩ := p.keep x a1
      rw [b1]
      exact ⟨a1, fun q => by have := a2 q; omega⟩
/-- a visit ends, and its point stays on the stack -/
theorem TarL.stay {g : Int → List Int} {G : Int → Prop} {fo0 lo0 fo lo pa : Int → Int} {S0 st done : List Int} {vis0 vis v : Int} (h : TarL g G v S0 fo0 lo0 vis0 fo lo pa st vis done) (hd : ∀ y ∈ g v, y ∈ done) (hl : lo v < fo v) : TarP g G v S0 fo0 lo0 vis0 fo lo pa st vis := by
  obtain ⟨M, e, hM⟩ := h.stk
  refine ⟨{ h.inv with gs := fun x hx => h.inv.gs x (Or.inl hx), blk := fun x hx hg => ?_ }, h.keep, h.fv, h.vs, ⟨v :: M, e, fun x hx => ?_, Or.inr h.low⟩⟩
  · by_cases c : x = v
    · subst c
      obtain ⟨u, h2, h3, h4⟩ := h.low
      exact ⟨fun y hy => (h.dn y (hd y hy)).1, u, h2, by omega, h4⟩
    · exact h.inv.blk x hx (fun q => q.elim hg c)
  · rcases List.mem_cons.1 hx with rfl | hx
    · exact ⟨Way.here x, fun y hy hs => (h.dn y (hd y hy)).2 hs⟩
    · exact hM x hx
/-- a visit ends, and its part is taken off the stack -/
theorem TarL.pop {g : Int → List Int} {G : Int → Prop} {fo0 lo0 fo lo pa : Int → Int} {S0 M done : List Int} {vis0 vis v m : Int} (h : TarL g G v S0 fo0 lo0 vis0 fo lo pa (S0 ++ v :: M) vis done) (hd : ∀ y ∈ g v, y ∈ done) (hl : fo v ≤ lo v) (hm : m ∈ v :: M) (hle : ∀ x ∈ v :: M, m ≤ x)
    {pa2 : Int → Int} (hp1 : ∀ x ∈ v :: M, pa2 x = m) (hp2 : ∀ x, x ∉ v :: M → pa2 x = pa x) : TarP g G v S0 fo0 lo0 vis0 fo lo pa2 S0 vis := by
  obtain ⟨M2, e, hM⟩ := h.stk
  obtain rfl : M = M2 := by simpa using e
  obtain ⟨i1, i2, i3⟩ := List.pairwise_append.1 h.inv.inc
  rw [List.pairwise_cons] at i2
  have hvN : ∀ x ∈ v :: M, fo v ≤ fo x := fun x hx => by
    rcases List.mem_cons.1 hx with rfl | hx
    · exact Int.le_refl _
    · exact Int.le_of_lt (i2.1 x hx)
  have dj : ∀ x ∈ S0, x ∉ v :: M := fun x hx c => by
    have := i3 x hx x c
    omega
  have mem : ∀ x ∈ v :: M, x ∈ S0 ++ v :: M := fun x hx => List.mem_append_right _ hx
  have edge : ∀ x ∈ v :: M, ∀ y ∈ g x, 0 ≤ pa y ∨ y ∈ v :: M := by
    intro x hx y hy
    have hfy : fo y ≠ 0 ∧ (y ∈ S0 → lo v ≤ fo y) := by
      rcases List.mem_cons.1 hx with rfl | hx2
      · exact h.dn y (hd y hy)
      · have ng : ¬ (G x ∨ x = v) := by
          rintro (c | c)
          · exact dj x (h.gs0 x c) hx
          · subst c
            have := i2.1 x hx2
            omega
        exact ⟨(h.inv.blk x (mem x hx) ng).1 y hy, (hM x hx2).2 y hy⟩
    rcases (h.inv.see y).1 hfy.1 with c | c
    · exact Or.inl c
    · rcases List.mem_append.1 c with c | c
      · have a := hfy.2 c
        have b := i3 y c v (by simp)
        omega
      · exact Or.inr c
  have clo : ∀ x, Way g v x → 0 ≤ pa x ∨ x ∈ v :: M := fun x hw => Way.closed (P := fun x => 0 ≤ pa x ∨ x ∈ v :: M) (fun x hx y hy => by
    rcases hx with hx | hx
    · exact Or.inl (h.inv.cl x hx y hy)
    · exact edge x hx y hy) hw (Or.inr (by simp))
  have down : ∀ x ∈ v :: M, Way g v x := fun x hx => by
    rcases List.mem_cons.1 hx with rfl | hx
    · exact Way.here x
    · exact (hM x hx).1
  have up : ∀ (n : Nat) (x : Int), (fo x).toNat = n → x ∈ v :: M → Way g x v := by
    intro n
    induction n using Nat.strongRecOn with
    | _ n ih =>
      intro x hn hx
      by_cases c : x = v
      · subst c
        exact Way.here x
      · have ng : ¬ (G x ∨ x = v) := by
          rintro (q | q)
          · exact dj x (h.gs0 x q) hx
          · exact c q
        obtain ⟨_, y, h2, h3, h4⟩ := h.inv.blk x (mem x hx) ng
        have hy : y ∈ v :: M := by
          rcases clo y ((down x hx).trans h4) with q | q
          · have := h.inv.dis y h2
            omega
          · exact q
        have f1 := h.inv.fr y
        have f2 := h.inv.fr x
        exact h4.trans (ih _ (by omega) y rfl hy)
  have scc1 : ∀ x ∈ v :: M, Scc g v x := fun x hx => ⟨down x hx, up _ x rfl hx⟩
  have scc2 : ∀ x, Scc g v x → x ∈ v :: M := fun x hs => by
    rcases clo x hs.1 with q | q
    · have a : 0 ≤ pa v := Way.closed (P := fun x => 0 ≤ pa x) (fun x hx y hy => h.inv.cl x hx y hy) hs.2 q
      have b := h.inv.dis v (mem v (by simp))
      omega
    · exact q
  have m0 : 0 ≤ m := h.inv.nn m (mem m hm)
  have isl : ∀ x ∈ v :: M, IsL g x m := fun x hx => ⟨(scc1 x hx).symm.trans (scc1 m hm), fun y hy => hle y (scc2 y ((scc1 x hx).trans hy))⟩
  have pos : ∀ x, 0 ≤ pa x → 0 ≤ pa2 x := fun x hx => by
    by_cases c : x ∈ v :: M
    · rw [hp1 x c]; exact m0
    · rw [hp2 x c]; exact hx
  refine ⟨⟨h.inv.fr, fun x => ?_, fun x hx => ?_, fun x hx => h.inv.nn x (List.mem_append_left _ hx), i1, h.gs0, fun x hx y hy => ?_, fun x hx => ?_, fun x hx hg => ?_⟩, h.keep, h.fv, h.vs, ⟨[], by simp, (fun x hx => by cases hx), Or.inl ⟨rfl, hl⟩⟩⟩
  · rw [h.inv.see x, List.mem_append]
    by_cases c : x ∈ v :: M
    · rw [hp1 x c]
      exact ⟨fun _ => Or.inl m0, fun _ => Or.inr (Or.inr c)⟩
    · rw [hp2 x c]
      constructor
      · rintro (a | a | a)
        · exact Or.inl a
        · exact Or.inr a
        · exact absurd a c
      · rintro (a | a)
        · exact Or.inl a
        · exact Or.inr (Or.inl a)
  · rw [hp2 x (dj x hx)]
    exact h.inv.dis x (List.mem_append_left _ hx)
  · by_cases c : x ∈ v :: M
    · rcases edge x c y hy with q | q
      · exact pos y q
      · rw [hp1 y q]; exact m0
    · rw [hp2 x c] at hx
      exact pos y (h.inv.cl x hx y hy)
  · by_cases c : x ∈ v :: M
    · rw [hp1 x c]
      exact isl x c
    · rw [hp2 x c] at hx ⊢
      exact h.inv.val x hx
  · have ng : ¬ (G x ∨ x = v) := by
      rintro (q | q)
      · exact hg q
      · subst q
        exact dj x hx (by simp)
    obtain ⟨b1, y, b2, b3, b4⟩ := h.inv.blk x (List.mem_append_left _ hx) ng
    refine ⟨b1, y, ?_, b3, b4⟩
    rcases List.mem_append.1 b2 with q | q
    · exact q
    · have := i3 x hx y q
      omega
/-- nothing is left on the stack where nothing is being visited -/
theorem TarI.empty {g : Int → List Int} {fo pa : Int → Int} {st : List Int} {vis : Int} (h : TarI g (fun _ => False) fo pa st vis) : st = [] := by
  cases st with
  | nil => rfl
  | cons a l =>
    obtain ⟨_, y, h2, h3, _⟩ := h.blk a (by simp) (fun c => c)
    have := (List.pairwise_cons.1 h.inc).1
    rcases List.mem_cons.1 h2 with rfl | h2
    · omega
    · have := this y h2
      omega
/-- a row as a function, with a value wherever the row has none -/
def vw (d : Int) (l : List Int) : Int → Int := fun x => if 0 ≤ x then l.getD x.toNat d else d
theorem vw_at (d : Int) (l : List Int) {x : Int} (h : 0 ≤ x) : vw d l x = l.getD x.toNat d := if_pos h
theorem vw_in (d e : Int) (l : List Int) {x : Int} (h : 0 ≤ x ∧ x < (l.length : Int)) : vw d l x = l.getD x.toNat e := by
  have h2 : x.toNat < l.length := by omega
  rw [vw_at d l h.1]
  simp [List.getD_eq_getElem?_getD, h2]
theorem vw_out (d : Int) (l : List Int) {x : Int} (h : x < 0 ∨ (l.length : Int) ≤ x) : vw d l x = d := by
  unfold vw
  by_cases c : 0 ≤ x
  · rw [if_pos c, List.getD_eq_getElem?_getD, List.getElem?_eq_none (by omega)]
    rfl
  · rw [if_neg c]
theorem vw_set (d : Int) (l : List Int) {k : Int} (v : Int) (h : 0 ≤ k ∧ k < (l.length : Int)) : vw d (l.set k.toNat v) = updI (vw d l) k v := by
  funext x
  by_cases c : 0 ≤ x
  · rw [vw_at d _ c, List.getD_eq_getElem?_getD, List.getElem?_set]
    by_cases e : x = k
    · subst e
      rw [if_pos rfl, if_pos (by omega), updI_same]
      rfl
    · rw [if_neg (by omega), updI_other _ _ e, vw_at d l c, List.getD_eq_getElem?_getD]
  · rw [vw_out d _ (Or.inl (by omega)), updI_other _ _ (by omega), vw_out d l (Or.inl (by omega))]
theorem vw_replicate (d v : Int) (n : Nat) {x : Int} (h : 0 ≤ x ∧ x < (n : Int)) : vw d (List.replicate n v) x = v := by
  have h2 : x.toNat < n := by omega
  rw [vw_at d _ h.1]
  simp [List.getD_eq_getElem?_getD, h2]
/-- a graph's arrows -/
def gOf (R : List (Bool × List Int)) : Int → List Int := fun x => if 0 ≤ x then (R.getD x.toNat (true, [])).2 else []
theorem gOf_at (R : List (Bool × List Int)) {x : Int} (h : 0 ≤ x) : gOf R x = (R.getD x.toNat (true, [])).2 := if_pos h
/-- how many points are not visited yet -/
def zeros (l : List Int) : Nat := l.countP fun x => x == 0
theorem zeros_set {l : List Int} {k : Int} {v : Int} (h : 0 ≤ k ∧ k < (l.length : Int)) (h0 : l.getD k.toNat 0 = 0) (hv : v ≠ 0) : zeros (l.set k.toNat v) + 1 = zeros l := by
  have h2 : k.toNat < l.length := by omega
  have e : l.getD k.toNat 0 = l[k.toNat] := by simp [List.getD_eq_getElem?_getD, h2]
  rw [e] at h0
  unfold zeros
  have hp : 0 < l.countP fun x => x == 0 := List.countP_pos_iff.2 ⟨l[k.toNat], List.getElem_mem h2, by rw [h0]; rfl⟩
  rw [List.countP_set h2, h0, if_pos (by rfl), if_neg (by simpa using hv)]
  omega
/-- the least of a row -/
def minL : List Int → Int
  | [] => 0
  | a :: l => l.foldl (fun m x => if x < m then x else m) a
theorem foldl_min (l : List Int) : ∀ a, (l.foldl (fun m x => if x < m then x else m) a = a ∨ l.foldl (fun m x => if x < m then x else m) a ∈ l) ∧ l.foldl (fun m x => if x < m then x else m) a ≤ a ∧ ∀ y ∈ l, l.foldl (fun m x => if x < m then x else m) a ≤ y := by
  induction l with
  | nil => intro a; exact ⟨Or.inl rfl, Int.le_refl _, fun y hy => by cases hy⟩
  | cons b l ih =>
    intro a
    obtain ⟨h1, h2, h3⟩ := ih (if b < a then b else a)
    rw [List.foldl_cons]
    refine ⟨?_, ?_, fun y hy => ?_⟩
    · rcases h1 with h1 | h1
      · rw [h1]
        by_cases c : b < a
        · rw [if_pos c]
          exact Or.inr (by simp)
        · rw [if_neg c]
          exact Or.inl rfl
      · exact Or.inr (List.mem_cons_of_mem _ h1)
    · refine Int.le_trans h2 ?_
      split <;> omega
    · rcases List.mem_cons.1 hy with rfl | hy
      · refine Int.le_trans h2 ?_
        split <;> omega
      · exact h3 y hy
theorem minL_spec {l : List Int} (h : l ≠ []) : minL l ∈ l ∧ ∀ y ∈ l, minL l ≤ y := by
  cases l with
  | nil => exact absurd rfl h
  | cons a l =>
    obtain ⟨h1, h2, h3⟩ := foldl_min l a
    refine ⟨?_, fun y hy => ?_⟩
    · show l.foldl (fun m x => if x < m then x else m) a ∈ a :: l
      rcases h1 with h1 | h1
      · rw [h1]
        exact List.mem_cons_self
      · exact List.mem_cons_of_mem _ h1
    · rcases List.mem_cons.1 hy with rfl | hy
      · exact h2
      · exact h3 y hy
theorem min_L0 (x : Bool × List Int) (hx : x.2.length ≤ 1048576) (d : Nat) : ∀ (i : Nat) (m : Int), i + d = x.2.length → slices_Min_int_L0 x m (i : Int) = some ((x.2.drop i).foldl (fun m x => if x < m then x else m) m) := by
  induction d with
  | zero =>
    intro i m hi
    rw [slices_Min_int_L0_eq, gF (by omega), List.drop_of_length_le (by omega)]
    rfl
  | succ d ih =>
    intro i m hi
    have hlt : i < x.2.length := by omega
    rw [slices_Min_int_L0_eq, gT (by omega), gT (by omega), gT (by omega), getD_at x.2 _ i hlt, up1 i (by omega), bind_id, ih (i + 1) _ (by omega), List.drop_eq_getElem_cons hlt, List.foldl_cons]
    by_cases c : x.2[i] < m
    · rw [gT c, if_pos c]
    · rw [gF c, if_neg c]
theorem minInt (b : Bool) (l : List Int) (h : l ≠ []) (hl : l.length ≤ 1048576) : slices_Min_int (b, l) = some (minL l) := by
  cases l with
  | nil => exact absurd rfl h
  | cons a l =>
    have e := min_L0 (b, a :: l) hl l.length 1 a (by simp; omega)
    rw [slices_Min_int_eq, gF (by simp only [List.length_cons]; omega), gT (by simp only [List.length_cons]; omega)]
    have e' : slices_Min_int_L0 (b, a :: l) ((a :: l).getD 0 0) 1 = _ := e
    rw [e', some_bind]
    rfl
/-- what holds between calls, for the rows themselves -/
structure TRow (m : Nat) (fo lo pa st : List Int) (vis : Int) : Prop where
  l1 : fo.length = m
  l2 : lo.length = m
  l3 : pa.length = m
  l4 : (st.length : Int) ≤ vis
  l5 : ∀ x ∈ st, 0 ≤ x ∧ x < (m : Int)
  l6 : vis + (zeros fo : Int) ≤ (m : Int)
theorem tar_L2 (m : Nat) (t0 : Bool × List (Bool × List Int)) (fo lo : Bool × List Int) (bp bs : Bool) (st : List Int) (vis : Int) (k : Nat) (k_ least : Int) (hk : k ≤ st.length) (hst : st.length ≤ 100000) (hin : ∀ x ∈ st, 0 ≤ x ∧ x < (m : Int)) (d : Nat) : ∀ (i : Nat) (pa : List Int), i + d = st.length - k → pa.length = m →
    ∃ pa2 : List Int, pa2.length = m ∧ (∀ x ∈ st.drop (k + i), vw (-1) pa2 x = least) ∧ (∀ x, x ∉ st.drop (k + i) → vw (-1) pa2 x = vw (-1) pa x) ∧
      impl_tarjan_visit_L2 t0 fo lo (bp, pa) (bs, st) vis k_ least (k : Int) (st.length : Int) ((st.length - k : Nat) : Int) (i : Int) = some (t0, (fo, (lo, ((bp, pa2), ((bs, st), vis))))) := by
  induction d with
  | zero =>
    intro i pa hi hp
    refine ⟨pa, hp, fun x hx => ?_, fun x _ => rfl, by rw [impl_tarjan_visit_L2_eq, gF (by first | omega | (simp only; omega))]⟩
    rw [List.drop_of_length_le (by omega)] at hx
    cases hx
  | succ d ih =>
    intro i pa hi hp
    have hlt : k + i < st.length := by omega
    have hx := hin _ (List.getElem_mem hlt)
    obtain ⟨pa2, h1, h2, h3, h4⟩ := ih (i + 1) (pa.set (Int.toNat st[k + i]) least) (by omega) (by rw [List.length_set]; exact hp)
    have e : st.getD (k + i) 0 = st[k + i] := by simp [List.getD_eq_getElem?_getD, hlt]
    refine ⟨pa2, h1, fun x hx2 => ?_, fun x hx2 => ?_, ?_⟩
    · rw [List.drop_eq_getElem_cons hlt] at hx2
      by_cases c : x ∈ st.drop (k + (i + 1))
      · exact h2 x c
      · rw [h3 x c, vw_set (-1) pa least (by omega)]
        rcases List.mem_cons.1 hx2 with rfl | hx2
        · exact updI_same _ _ _
        · exact absurd hx2 c
    · rw [List.drop_eq_getElem_cons hlt] at hx2
      have n1 : ¬ x = st[k + i] := fun q => hx2 (by rw [q]; exact List.mem_cons_self)
      have n2 : x ∉ st.drop (k + (i + 1)) := fun q => hx2 (List.mem_cons_of_mem _ q)
      rw [h3 x n2, vw_set (-1) pa least (by omega), updI_other _ _ n1]
    · rw [impl_tarjan_visit_L2_eq, gT (by first | omega | (simp only; omega)), gT (by first | omega | (simp only; omega)), gT (by simp only [Int.toNat_natCast]; omega)]
      simp only [Int.toNat_natCast, e]
      rw [gT hx.1, gT (by first | omega | (simp only; omega)), up1 i (by omega), bind_id]
      exact h4
theorem indexOf_mid {A B : List Int} {v : Int} (h : v ∉ A) : ((A ++ v :: B).any fun x => v == x) = true ∧ (A ++ v :: B).findIdx (fun x => v == x) = A.length := by
  constructor
  · rw [List.any_eq_true]
    exact ⟨v, by simp, by simp⟩
  · induction A with
    | nil => simp [List.findIdx_cons]
    | cons a A ih =>
      have n : ¬ v = a := fun q => h (by rw [q]; exact List.mem_cons_self)
      have e : (v == a) = false := by simpa using n
      rw [List.cons_append, List.findIdx_cons, e, cond_false, ih (fun q => h (List.mem_cons_of_mem _ q)), List.length_cons]
/-- one visit, with all that it calls -/
def VisitOk (m : Nat) (R : List (Bool × List Int)) (nb : Bool) (N : Nat) : Prop :=
  ∀ (G : Int → Prop) (fo lo pa st : List Int) (vis v : Int) (b1 b2 b3 b4 : Bool), TRow m fo lo pa st vis → TarI (gOf R) G (vw 0 fo) (vw (-1) pa) st vis → 0 ≤ v ∧ v < (m : Int) → vw 0 fo v = 0 → zeros fo ≤ N →
    ∃ (fo2 lo2 pa2 st2 : List Int) (vis2 : Int) (c4 : Bool), impl_tarjan_visit (nb, R) (b1, fo) (b2, lo) (b3, pa) (b4, st) vis v = some ((nb, R), ((b1, fo2), ((b2, lo2), ((b3, pa2), ((c4, st2), vis2))))) ∧
      TRow m fo2 lo2 pa2 st2 vis2 ∧ TarP (gOf R) G v st (vw 0 fo) (vw 0 lo) vis (vw 0 fo2) (vw 0 lo2) (vw (-1) pa2) st2 vis2 ∧ zeros fo2 ≤ zeros fo
theorem tar_L0 {m : Nat} {R : List (Bool × List Int)} (hm : m ≤ 100000) (nb : Bool) {N : Nat} (ih : VisitOk m R nb N) (hin : ∀ x, ∀ y ∈ gOf R x, 0 ≤ y ∧ y < (m : Int)) {G : Int → Prop} {v : Int} {S0 : List Int} {fo0 lo0 : Int → Int} {vis0 : Int} (hv : 0 ≤ v ∧ v < (m : Int)) (hv0 : fo0 v = 0) (r : Bool × List Int) (hr : r.2 = gOf R v) (hrl : r.2.length ≤ 20000000) (b1 b2 b3 : Bool) (d : Nat) :
    ∀ (i : Nat) (fo lo pa st done : List Int) (vis : Int) (b4 : Bool), i + d = r.2.length → TRow m fo lo pa st vis → TarL (gOf R) G v S0 fo0 lo0 vis0 (vw 0 fo) (vw 0 lo) (vw (-1) pa) st vis done → (∀ y ∈ r.2.take i, y ∈ done) → zeros fo ≤ N →
      ∃ (fo2 lo2 pa2 st2 done2 : List Int) (vis2 : Int) (c4 : Bool), impl_tarjan_visit_L0 (nb, R) (b1, fo) (b2, lo) (b3, pa) (b4, st) vis v r (r.2.length : Int) (i : Int) = some ((nb, R), ((b1, fo2), ((b2, lo2), ((b3, pa2), ((c4, st2), vis2))))) ∧
        TRow m fo2 lo2 pa2 st2 vis2 ∧ TarL (gOf R) G v S0 fo0 lo0 vis0 (vw 0 fo2) (vw 0 lo2) (vw (-1) pa2) st2 vis2 done2 ∧ (∀ y ∈ r.2, y ∈ done2) ∧ zeros fo2 ≤ zeros fo := by
  induction d with
  | zero =>
    intro i fo lo pa st done vis b4 hi hR hL hd hN
    rw [List.take_of_length_le (by omega)] at hd
    exact ⟨fo, lo, pa, st, done, vis, b4, by rw [impl_tarjan_visit_L0_eq, gF (by first | omega | (simp only; omega))], hR, hL, hd, Nat.le_refl _⟩
  | succ d ihd =>
    intro i fo lo pa st done vis b4 hi hR hL hd hN
    have hlt : i < r.2.length := by omega
    have hwg : r.2[i] ∈ gOf R v := by rw [← hr]; exact List.getElem_mem hlt
    have hw := hin v _ hwg
    have hl1 := hR.l1
    have hl2 := hR.l2
    have hl3 := hR.l3
    have hnext : ∀ done2 : List Int, (∀ y ∈ done, y ∈ done2) → r.2[i] ∈ done2 → ∀ y ∈ r.2.take (i + 1), y ∈ done2 := by
      intro done2 h1 h2 y hy
      rw [List.take_succ_eq_append_getElem hlt] at hy
      rcases List.mem_append.1 hy with hy | hy
      · exact h1 y (hd y hy)
      · rw [List.mem_singleton] at hy
        rw [hy]
        exact h2
    rw [impl_tarjan_visit_L0_eq, gT (by first | omega | (simp only; omega)), gT (by first | omega | (simp only; omega)), gT (by first | omega | (simp only; omega)), getD_at r.2 _ i hlt, gT hw.1, gT (by first | omega | (simp only; omega)), up1 i (by omega)]
    simp only
    have ef : vw 0 fo r.2[i] = fo.getD (Int.toNat r.2[i]) 0 := vw_at 0 fo hw.1
    by_cases c : vw 0 fo r.2[i] = 0
    · rw [bT (by rw [beq_iff_eq, ← ef]; exact c)]
      obtain ⟨fo2, lo2, pa2, st2, vis2, c4, e1, hR2, hP, hz⟩ := ih (fun x => G x ∨ x = v) fo lo pa st vis r.2[i] b1 b2 b3 b4 hR hL.inv hw c hN
      have hk1 := hR2.l1
      have hk2 := hR2.l2
      have e2 : vw 0 lo2 v = lo2.getD v.toNat 0 := vw_at 0 lo2 hv.1
      have e3 : vw 0 lo2 r.2[i] = lo2.getD (Int.toNat r.2[i]) 0 := vw_at 0 lo2 hw.1
      have hL2 := hL.call hwg c hv0 hP
      have em : (bif decide (lo2.getD (Int.toNat r.2[i]) 0 < lo2.getD v.toNat 0) then lo2.getD (Int.toNat r.2[i]) 0 else lo2.getD v.toNat 0) = min (vw 0 lo2 v) (vw 0 lo2 r.2[i]) := by
        rw [e2, e3]
        by_cases q : lo2.getD (Int.toNat r.2[i]) 0 < lo2.getD v.toNat 0
        · rw [gT q]; omega
        · rw [gF q]; omega
      rw [← vw_set 0 lo2 _ (by omega)] at hL2
      obtain ⟨fo3, lo3, pa3, st3, done3, vis3, c5, g1, g2, g3, g4, g5⟩ := ihd (i + 1) fo2 _ pa2 st2 _ vis2 c4 (by omega) ⟨hR2.l1, by rw [List.length_set]; exact hR2.l2, hR2.l3, hR2.l4, hR2.l5, hR2.l6⟩ hL2 (hnext _ (fun y hy => List.mem_cons_of_mem _ hy) List.mem_cons_self) (by omega)
      refine ⟨fo3, lo3, pa3, st3, done3, vis3, c5, ?_, g2, g3, g4, by omega⟩
      simp only [e1, some_bind, em]
      rw [gT hv.1, gT (by first | omega | (simp only; omega)), gT hw.1, gT (by first | omega | (simp only; omega)), gT hv.1, gT (by first | omega | (simp only; omega)), bind_id]
      exact g1
    · rw [bF (by rw [beq_eq_false_iff_ne, ← ef]; exact c), gT hw.1, gT (by first | omega | (simp only; omega))]
      have ep : vw (-1) pa r.2[i] = pa.getD (Int.toNat r.2[i]) 0 := vw_in (-1) 0 pa (by omega)
      by_cases cp : vw (-1) pa r.2[i] < 0
      · have e2 : vw 0 lo v = lo.getD v.toNat 0 := vw_at 0 lo hv.1
        have hL2 := hL.seen hwg c cp hv0
        have em : (bif decide (fo.getD (Int.toNat r.2[i]) 0 < lo.getD v.toNat 0) then fo.getD (Int.toNat r.2[i]) 0 else lo.getD v.toNat 0) = min (vw 0 lo v) (vw 0 fo r.2[i]) := by
          rw [e2, ef]
          by_cases q : fo.getD (Int.toNat r.2[i]) 0 < lo.getD v.toNat 0
          · rw [gT q]; omega
          · rw [gF q]; omega
        rw [← vw_set 0 lo _ (by omega)] at hL2
        obtain ⟨fo3, lo3, pa3, st3, done3, vis3, c5, g1, g2, g3, g4, g5⟩ := ihd (i + 1) fo _ pa st _ vis b4 (by omega) ⟨hR.l1, by rw [List.length_set]; exact hR.l2, hR.l3, hR.l4, hR.l5, hR.l6⟩ hL2 (hnext _ (fun y hy => List.mem_cons_of_mem _ hy) List.mem_cons_self) hN
        refine ⟨fo3, lo3, pa3, st3, done3, vis3, c5, ?_, g2, g3, g4, g5⟩
        rw [gT (by rw [← ep]; exact cp), gT hv.1, gT (by first | omega | (simp only; omega)), gT hw.1, gT (by first | omega | (simp only; omega)), gT hv.1, gT (by first | omega | (simp only; omega)), bind_id, em]
        exact g1
      · have hL2 := hL.skip (w := r.2[i]) (by omega)
        obtain ⟨fo3, lo3, pa3, st3, done3, vis3, c5, g1, g2, g3, g4, g5⟩ := ihd (i + 1) fo lo pa st _ vis b4 (by omega) hR hL2 (hnext _ (fun y hy => List.mem_cons_of_mem _ hy) List.mem_cons_self) hN
        refine ⟨fo3, lo3, pa3, st3, done3, vis3, c5, ?_, g2, g3, g4, g5⟩
        rw [gF (by rw [← ep]; exact cp), bind_id]
        exact g1
theorem tar_visit {m : Nat} {R : List (Bool × List Int)} (hm : m ≤ 100000) (hlen : R.length = m) (nb : Bool) (hin : ∀ x, ∀ y ∈ gOf R x, 0 ≤ y ∧ y < (m : Int)) (hrl : ∀ x, (gOf R x).length ≤ 20000000) (N : Nat) : VisitOk m R nb N := by
  have hlim := lim_eq
  induction N with
  | zero =>
    intro G fo lo pa st vis v b1 b2 b3 b4 hR hI hv h0 hN
    exfalso
    have hl1 := hR.l1
    have h2 : v.toNat < fo.length := by omega
    have e : vw 0 fo v = fo[v.toNat] := by rw [vw_at 0 fo hv.1]; simp [List.getD_eq_getElem?_getD, h2]
    have hp : 0 < fo.countP fun x => x == 0 := List.countP_pos_iff.2 ⟨fo[v.toNat], List.getElem_mem h2, by rw [← e, h0]; rfl⟩
    unfold zeros at hN
    omega
  | succ N ih =>
    intro G fo lo pa st vis v b1 b2 b3 b4 hR hI hv h0 hN
    have hl1 := hR.l1
    have hl2 := hR.l2
    have hl3 := hR.l3
    have hl4 := hR.l4
    have hl6 := hR.l6
    have hvr := hI.fr v
    have hz := zeros_set (l := fo) (k := v) (v := vis + 1) (by omega) (by rw [← vw_at 0 fo hv.1]; exact h0) (by omega)
    have hew : IntKind.i64.wrap (vis + 1) = vis + 1 := wr (by omega)
    have hL := TarL.start (lo := vw 0 lo) hI h0 hv.1
    rw [← vw_set 0 fo _ (by omega), ← vw_set 0 lo _ (by omega)] at hL
    have hR1 : TRow m (fo.set v.toNat (vis + 1)) (lo.set v.toNat (vis + 1)) pa (st ++ [v]) (vis + 1) := by
      refine ⟨by rw [List.length_set]; exact hl1, by rw [List.length_set]; exact hl2, hl3, by simp; omega, fun x hx => ?_, by omega⟩
      rcases List.mem_append.1 hx with hx | hx
      · exact hR.l5 x hx
      · rw [List.mem_singleton] at hx
        rw [hx]
        exact hv
    have hrow : (R.getD v.toNat (true, [])).2 = gOf R v := (gOf_at R hv.1).symm
    obtain ⟨fo2, lo2, pa2, st2, done2, vis2, c4, e1, hR2, hL2, hd2, hz2⟩ := tar_L0 hm nb ih hin hv h0 (R.getD v.toNat (true, [])) hrow (by rw [hrow]; exact hrl v) b1 b2 b3 (R.getD v.toNat (true, [])).2.length 0 _ _ pa (st ++ [v]) [] (vis + 1) (b4 && false) (by omega) hR1 hL (by simp) (by omega)
    have e1' : impl_tarjan_visit_L0 (nb, R) (b1, fo.set v.toNat (vis + 1)) (b2, lo.set v.toNat (vis + 1)) (b3, pa) (b4 && false, st ++ [v]) (vis + 1) v (R.getD v.toNat (true, [])) ((R.getD v.toNat (true, [])).2.length : Int) 0 = _ := e1
    have hd3 : ∀ y ∈ gOf R v, y ∈ done2 := by rw [← hrow]; exact hd2
    have hk1 := hR2.l1
    have hk2 := hR2.l2
    have hk4 := hR2.l4
    have hk6 := hR2.l6
    have ea : vw 0 lo2 v = lo2.getD v.toNat 0 := vw_at 0 lo2 hv.1
    have eb : vw 0 fo2 v = fo2.getD v.toNat 0 := vw_at 0 fo2 hv.1
    rw [impl_tarjan_visit_eq]
    simp only [hew]
    rw [gT hv.1, gT (by first | omega | (simp only; omega)), gT hv.1, gT (by first | omega | (simp only; omega)), gT (by simp; omega), gT hv.1, gT (by first | omega | (simp only; omega))]
    simp only [e1', some_bind]
    rw [gT hv.1, gT (by first | omega | (simp only; omega)), gT hv.1, gT (by first | omega | (simp only; omega))]
    by_cases c : vw 0 lo2 v < vw 0 fo2 v
    · rw [gT (by rw [← ea, ← eb]; exact c)]
      exact ⟨fo2, lo2, pa2, st2, vis2, c4, rfl, hR2, hL2.stay hd3 c, by omega⟩
    · rw [gF (by rw [← ea, ← eb]; exact c)]
      obtain ⟨M, est, hM⟩ := hL2.stk
      have hinc := (List.pairwise_append.1 (by rw [← est]; exact hL2.inv.inc : (st ++ v :: M).Pairwise fun a b => vw 0 fo2 a < vw 0 fo2 b)).2.2
      have hns : v ∉ st := fun q => by
        have := hinc v q v (by simp)
        omega
      obtain ⟨i1, i2⟩ := indexOf_mid (B := M) hns
      have hsl : st2.length ≤ 100000 := by omega
      have ei := indexInt (c4, st2) v (by simp only; omega)
      simp only at ei
      rw [est, i1, i2, cond_true] at ei
      have hdrop : (st ++ v :: M).drop st.length = v :: M := by rw [List.drop_left]
      have htake : (st ++ v :: M).take st.length = st := by rw [List.take_left]
      have hne : v :: M ≠ [] := by simp
      obtain ⟨m1, m2⟩ := minL_spec hne
      have hlenst : (st ++ v :: M).length = st2.length := by rw [est]
      have hmin := minInt c4 (v :: M) hne (by rw [← hdrop, List.length_drop]; omega)
      obtain ⟨pa3, p1, p2, p3, p4⟩ := tar_L2 m (nb, R) (b1, fo2) (b2, lo2) b3 c4 (st ++ v :: M) vis2 st.length (st.length : Int) (minL (v :: M)) (by simp) (by omega) (by rw [← est]; exact hR2.l5) ((st ++ v :: M).length - st.length) 0 pa2 (by omega) hR2.l3
      rw [Nat.add_zero, hdrop] at p2 p3
      have p4' : impl_tarjan_visit_L2 (nb, R) (b1, fo2) (b2, lo2) (b3, pa2) (c4, st ++ v :: M) vis2 (st.length : Int) (minL (v :: M)) (st.length : Int) ((st ++ v :: M).length : Int) (((st ++ v :: M).length - st.length : Nat) : Int) 0 = _ := p4
      subst est
      have hP := hL2.pop hd3 (by omega) m1 m2 p2 p3
      simp only [ei, some_bind, Int.toNat_natCast, List.take_length, hdrop, hmin, p4', htake, List.drop_zero]
      have hle : (st.length : Int) ≤ ((st ++ v :: M).length : Int) := by rw [List.length_append]; omega
      have h00 : (0 : Int) ≤ (st.length : Int) := by omega
      rw [gT h00, gT hle, gT h00, gT hle, gT h00, gT hle]
      refine ⟨fo2, lo2, pa3, st, vis2, c4, rfl, ⟨hk1, hk2, p1, ?_, hR.l5, hk6⟩, hP, by omega⟩
      simp only [List.length_append, List.length_cons] at hk4
      omega
theorem tar_parts_L0 {m : Nat} {R : List (Bool × List Int)} (hm : m ≤ 100000) (hlen : R.length = m) (nb : Bool) (hin : ∀ x, ∀ y ∈ gOf R x, 0 ≤ y ∧ y < (m : Int)) (hrl : ∀ x, (gOf R x).length ≤ 20000000) (b1 b2 b3 : Bool) (d : Nat) : ∀ (i : Nat) (fo lo pa : List Int) (vis : Int) (b4 : Bool), i + d = m → TRow m fo lo pa [] vis → TarI (gOf R) (fun _ => False) (vw 0 fo) (vw (-1) pa) [] vis → (∀ x, 0 ≤ x ∧ x < (i : Int) → vw 0 fo x ≠ 0) →
    ∃ (fo2 lo2 pa2 : List Int) (vis2 : Int) (c4 : Bool), impl_parts_L0 (nb, R) (b1, fo) (b2, lo) (b3, pa) (b4, []) vis (m : Int) (i : Int) = some ((nb, R), ((b1, fo2), ((b2, lo2), ((b3, pa2), ((c4, []), vis2))))) ∧ pa2.length = m ∧ ∀ x, 0 ≤ x ∧ x < (m : Int) → IsL (gOf R) x (vw (-1) pa2 x) := by
  induction d with
  | zero =>
    intro i fo lo pa vis b4 hi hR hI hs
    obtain rfl : i = m := by omega
    refine ⟨fo, lo, pa, vis, b4, by rw [impl_parts_L0_eq, gF (by first | omega | (simp only; omega))], hR.l3, fun x hx => ?_⟩
    rcases (hI.see x).1 (hs x hx) with q | q
    · exact hI.val x q
    · cases q
  | succ d ih =>
    intro i fo lo pa vis b4 hi hR hI hs
    have hl1 := hR.l1
    have ef : vw 0 fo (i : Int) = fo.getD i 0 := vw_at 0 fo (by omega)
    rw [impl_parts_L0_eq, gT (by first | omega | (simp only; omega)), gT (by first | omega | (simp only; omega)), gT (by simp only; omega), Int.toNat_natCast, up1 i (by omega)]
    simp only
    by_cases c : vw 0 fo (i : Int) = 0
    · rw [bT (by rw [beq_iff_eq, ← ef]; exact c)]
      obtain ⟨fo2, lo2, pa2, st2, vis2, c4, e1, hR2, hP, hz⟩ := tar_visit hm hlen nb hin hrl (zeros fo) (fun _ => False) fo lo pa [] vis (i : Int) b1 b2 b3 b4 hR hI (by omega) c (Nat.le_refl _)
      have hst := hP.inv.empty
      subst hst
      obtain ⟨fo3, lo3, pa3, vis3, c5, g1, g2, g3⟩ := ih (i + 1) fo2 lo2 pa2 vis2 c4 (by omega) hR2 hP.inv (fun x hx => by
        by_cases q : x = (i : Int)
        · rw [q]
          have := hP.fv
          have := hI.fr (i : Int)
          omega
        · rw [(hP.keep x (hs x (by omega))).1]
          exact hs x (by omega))
      refine ⟨fo3, lo3, pa3, vis3, c5, ?_, g2, g3⟩
      simp only [e1, some_bind]
      rw [bind_id]
      exact g1
    · rw [bF (by rw [beq_eq_false_iff_ne, ← ef]; exact c), bind_id]
      exact ih (i + 1) fo lo pa vis b4 (by omega) hR hI (fun x hx => by
        by_cases q : x = (i : Int)
        · rw [q]; exact c
        · exact hs x (by omega))
theorem flat_ones (m : Nat) (a : Int) : (List.replicate m [a]).flatten = List.replicate m a := by
  induction m with
  | zero => rfl
  | succ m ih => rw [List.replicate_succ, List.replicate_succ, List.flatten_cons, ih]; rfl
theorem zeros_replicate (m : Nat) : zeros (List.replicate m 0) = m := by
  unfold zeros
  rw [List.countP_replicate]
  rfl
theorem tar_parts {m : Nat} {R : List (Bool × List Int)} (h1 : 1 ≤ m) (hm : m ≤ 10000) (hlen : R.length = m) (nb : Bool) (hin : ∀ x, ∀ y ∈ gOf R x, 0 ≤ y ∧ y < (m : Int)) (hrl : ∀ x, (gOf R x).length ≤ 20000000) :
    ∃ b P, impl_parts (nb, R) = some (b, P) ∧ P.length = m ∧ ∀ x, 0 ≤ x ∧ x < (m : Int) → IsL (gOf R) x (vw (-1) P x) := by
  have hlim := lim_eq
  have hf : ∀ x, vw 0 (List.replicate m 0) x = 0 := fun x => by
    by_cases c : 0 ≤ x ∧ x < (m : Int)
    · exact vw_replicate 0 0 m c
    · exact vw_out 0 _ (by rw [List.length_replicate]; omega)
  have hp : ∀ x, vw (-1) (List.replicate m (-1)) x = -1 := fun x => by
    by_cases c : 0 ≤ x ∧ x < (m : Int)
    · exact vw_replicate (-1) (-1) m c
    · exact vw_out (-1) _ (by rw [List.length_replicate]; omega)
  have hR : TRow m (List.replicate m 0) (List.replicate m 0) (List.replicate m (-1)) [] 0 := ⟨by simp, by simp, by simp, by simp, fun x hx => (by cases hx), by rw [zeros_replicate]; omega⟩
  have hI : TarI (gOf R) (fun _ => False) (vw 0 (List.replicate m 0)) (vw (-1) (List.replicate m (-1))) [] 0 := by
    refine ⟨fun x => ?_, fun x => ?_, fun x hx => (by cases hx), fun x hx => (by cases hx), List.Pairwise.nil, fun x hx => hx.elim, fun x hx => ?_, fun x hx => ?_, fun x hx => (by cases hx)⟩
    · rw [hf]; omega
    · rw [hf, hp]
      constructor
      · intro q; exact absurd rfl q
      · rintro (q | q)
        · omega
        · cases q
    · rw [hp] at hx; omega
    · rw [hp] at hx; omega
  obtain ⟨fo2, lo2, pa2, vis2, c4, e1, e2, e3⟩ := tar_parts_L0 (by omega) hlen nb hin hrl false false false m 0 _ _ _ 0 true (by omega) hR hI (fun x hx => by omega)
  have e1' : impl_parts_L0 (nb, R) (false, List.replicate m 0) (false, List.replicate m 0) (false, List.replicate m (-1)) (true, []) 0 (m : Int) 0 = _ := e1
  have er := repeatInts (false, [-1]) m (by simp) (by simp) h1 hm
  simp only [flat_ones] at er
  refine ⟨false, pa2, ?_, e2, e3⟩
  rw [impl_parts_eq]
  simp only [hlen, Int.toNat_natCast, er, some_bind, e1']
  rw [gT (by omega), gT (by omega), gT (by omega), gT (by omega), gT (by omega), gT (by omega), gT (by omega), gT (by omega)]
/-! walks in depth -/
def sB (S : List Bool) : Int → Prop := fun x => 0 ≤ x ∧ S.getD x.toNat false = true
theorem sB_set (S : List Bool) {k : Int} (h : 0 ≤ k ∧ k < (S.length : Int)) : sB (S.set k.toNat true) = fun x => sB S x ∨ x = k := by
  funext x
  apply propext
  unfold sB
  constructor
  · rintro ⟨h1, h2⟩
    by_cases e : x = k
    · exact Or.inr e
    · refine Or.inl ⟨h1, ?_⟩
      rw [List.getD_eq_getElem?_getD, List.getElem?_set_ne (by omega), ← List.getD_eq_getElem?_getD] at h2
      exact h2
  · rintro (⟨h1, h2⟩ | rfl)
    · refine ⟨h1, ?_⟩
      by_cases e : x = k
      · subst e
        rw [List.getD_eq_getElem?_getD, List.getElem?_set_self (by omega)]
        rfl
      · rw [List.getD_eq_getElem?_getD, List.getElem?_set_ne (by omega), ← List.getD_eq_getElem?_getD]
        exact h2
    · refine ⟨h.1, ?_⟩
      rw [List.getD_eq_getElem?_getD, List.getElem?_set_self (by omega)]
      rfl
def falses (S : List Bool) : Nat := S.countP fun x => !x
theorem falses_set {S : List Bool} {k : Int} (h : 0 ≤ k ∧ k < (S.length : Int)) (h0 : S.getD k.toNat false = false) : falses (S.set k.toNat true) + 1 = falses S := by
  have h2 : k.toNat < S.length := by omega
  have e : S.getD k.toNat false = S[k.toNat] := by simp [List.getD_eq_getElem?_getD, h2]
  rw [e] at h0
  unfold falses
  have hp : 0 < S.countP fun x => !x := List.countP_pos_iff.2 ⟨S[k.toNat], List.getElem_mem h2, by rw [h0]; rfl⟩
  rw [List.countP_set h2, h0, if_pos (by rfl), if_neg (by simp)]
  omega
/-- what a walk keeps -/
structure WalkI (g : Int → List Int) (Al : Int → Prop) (I : (Int → Prop) → (Int → Prop) → List Int → Prop) : Prop where
  al : ∀ x, Al x → ∀ y ∈ g x, Al y
  sub : ∀ G s o x, I G s o → G x → s x
  enter : ∀ G s o k, I G s o → ¬ s k → Al k → I (fun x => G x ∨ x = k) (fun x => s x ∨ x = k) o
  leave : ∀ G s o k, I (fun x => G x ∨ x = k) s o → ¬ G k → (∀ y ∈ g k, s y) → (∀ x, G x → Way g x k) → I G s (o ++ [k])
def WalkOk (m : Nat) (R : List (Bool × List Int)) (nb : Bool) (Al : Int → Prop) (I : (Int → Prop) → (Int → Prop) → List Int → Prop) (N : Nat) : Prop :=
  ∀ (G : Int → Prop) (S : List Bool) (O : List Int) (k : Int) (bs bo : Bool), S.length = m → I G (sB S) O → 0 ≤ k ∧ k < (m : Int) → Al k → (∀ x, G x → Way (gOf R) x k) → falses S ≤ N → O.length + falses S ≤ 1000000 →
    ∃ S2 O2 bo2, spec_l11Walk_walk (nb, R) (bs, S) (bo, O) k = some ((nb, R), ((bs, S2), (bo2, O2))) ∧ S2.length = m ∧ I G (sB S2) O2 ∧ sB S2 k ∧ (∀ x, sB S x → sB S2 x) ∧ falses S2 ≤ falses S ∧ O2.length + falses S2 ≤ O.length + falses S
theorem walk_L0 {m : Nat} {R : List (Bool × List Int)} (nb : Bool) {Al : Int → Prop} {I : (Int → Prop) → (Int → Prop) → List Int → Prop} {N : Nat} (ih : WalkOk m R nb Al I N) (hin : ∀ x, ∀ y ∈ gOf R x, 0 ≤ y ∧ y < (m : Int)) (W : WalkI (gOf R) Al I) {G : Int → Prop} {k : Int} (hk : Al k) (hG : ∀ x, G x ∨ x = k → Way (gOf R) x k) (r : Bool × List Int) (hr : r.2 = gOf R k) (hrl : r.2.length ≤ 20000000) (bs : Bool) (d : Nat) :
    ∀ (i : Nat) (S : List Bool) (O : List Int) (bo : Bool), i + d = r.2.length → S.length = m → I (fun x => G x ∨ x = k) (sB S) O → (∀ y ∈ r.2.take i, sB S y) → falses S ≤ N → O.length + falses S ≤ 1000000 →
      ∃ S2 O2 bo2, spec_l11Walk_walk_L0 (nb, R) (bs, S) (bo, O) k r (r.2.length : Int) (i : Int) = some ((nb, R), ((bs, S2), (bo2, O2))) ∧ S2.length = m ∧ I (fun x => G x ∨ x = k) (sB S2) O2 ∧ (∀ y ∈ r.2, sB S2 y) ∧ (∀ x, sB S x → sB S2 x) ∧ falses S2 ≤ falses S ∧ O2.length + falses S2 ≤ O.length + falses S := by
  induction d with
  | zero =>
    intro i S O bo hi hS hI hd hN hO
    rw [List.take_of_length_le (by omega)] at hd
    exact ⟨S, O, bo, by rw [spec_l11Walk_walk_L0_eq, gF (by omega)], hS, hI, hd, fun x h => h, Nat.le_refl _, Nat.le_refl _⟩
  | succ d ihd =>
    intro i S O bo hi hS hI hd hN hO
    have hlt : i < r.2.length := by omega
    have hwg : r.2[i] ∈ gOf R k := by rw [← hr]; exact List.getElem_mem hlt
    obtain ⟨S2, O2, bo2, e1, e2, e3, e4, e5, e6, e7⟩ := ih (fun x => G x ∨ x = k) S O r.2[i] bs bo hS hI (hin k _ hwg) (W.al k hk _ hwg) (fun x hx => (hG x hx).snoc hwg) hN hO
    obtain ⟨S3, O3, bo3, g1, g2, g3, g4, g5, g6, g7⟩ := ihd (i + 1) S2 O2 bo2 (by omega) e2 e3 (fun y hy => by
      rw [List.take_succ_eq_append_getElem hlt] at hy
      rcases List.mem_append.1 hy with hy | hy
      · exact e5 y (hd y hy)
      · rw [List.mem_singleton] at hy
        rw [hy]
        exact e4) (by omega) (by omega)
    refine ⟨S3, O3, bo3, ?_, g2, g3, g4, fun x hx => g5 x (e5 x hx), by omega, by omega⟩
    rw [spec_l11Walk_walk_L0_eq, gT (by omega), gT (by omega), gT (by omega), getD_at r.2 _ i hlt, up1 i (by omega)]
    simp only [e1, some_bind]
    rw [bind_id]
    exact g1
theorem walk_ok {m : Nat} {R : List (Bool × List Int)} (hlen : R.length = m) (nb : Bool) {Al : Int → Prop} {I : (Int → Prop) → (Int → Prop) → List Int → Prop} (hin : ∀ x, ∀ y ∈ gOf R x, 0 ≤ y ∧ y < (m : Int)) (hrl : ∀ x, (gOf R x).length ≤ 20000000) (W : WalkI (gOf R) Al I) (N : Nat) : WalkOk m R nb Al I N := by
  have hlim := lim_eq
  have seen : ∀ (N : Nat) (G : Int → Prop) (S : List Bool) (O : List Int) (k : Int) (bs bo : Bool), S.length = m → I G (sB S) O → 0 ≤ k ∧ k < (m : Int) → S.getD k.toNat false = true →
      ∃ S2 O2 bo2, spec_l11Walk_walk (nb, R) (bs, S) (bo, O) k = some ((nb, R), ((bs, S2), (bo2, O2))) ∧ S2.length = m ∧ I G (sB S2) O2 ∧ sB S2 k ∧ (∀ x, sB S x → sB S2 x) ∧ falses S2 ≤ falses S ∧ O2.length + falses S2 ≤ O.length + falses S := by
    intro N G S O k bs bo hS hI hk h
    refine ⟨S, O, bo, ?_, hS, hI, ⟨hk.1, h⟩, fun x h => h, Nat.le_refl _, Nat.le_refl _⟩
    rw [spec_l11Walk_walk_eq, gT hk.1, gT (by simp only; omega), bT h]
  induction N with
  | zero =>
    intro G S O k bs bo hS hI hk hal hG hN hO
    cases h : S.getD k.toNat false with
    | true => exact seen 0 G S O k bs bo hS hI hk h
    | false =>
      have := falses_set (k := k) (by omega) h
      omega
  | succ N ih =>
    intro G S O k bs bo hS hI hk hal hG hN hO
    cases h : S.getD k.toNat false with
    | true => exact seen 0 G S O k bs bo hS hI hk h
    | false =>
      have hf := falses_set (S := S) (k := k) (by omega) h
      have hns : ¬ sB S k := fun q => by
        have := q.2
        rw [h] at this
        cases this
      have hng : ¬ G k := fun q => hns (W.sub _ _ _ _ hI q)
      have hI2 := W.enter G (sB S) O k hI hns hal
      rw [← sB_set S (by omega)] at hI2
      have hrow : (R.getD k.toNat (true, [])).2 = gOf R k := (gOf_at R hk.1).symm
      obtain ⟨S2, O2, bo2, e1, e2, e3, e4, e5, e6, e7⟩ := walk_L0 nb ih hin W hal (G := G) (fun x hx => by
        rcases hx with hx | hx
        · exact hG x hx
        · rw [hx]; exact Way.here k) (R.getD k.toNat (true, [])) hrow (by rw [hrow]; exact hrl k) bs (R.getD k.toNat (true, [])).2.length 0 (S.set k.toNat true) O bo (by omega) (by rw [List.length_set]; exact hS) hI2 (by simp) (by omega) (by omega)
      have e1' : spec_l11Walk_walk_L0 (nb, R) (bs, S.set k.toNat true) (bo, O) k (R.getD k.toNat (true, [])) ((R.getD k.toNat (true, [])).2.length : Int) 0 = _ := e1
      have hk1 : sB (S.set k.toNat true) k := by rw [sB_set S (by omega)]; exact Or.inr rfl
      refine ⟨S2, O2 ++ [k], bo2 && false, ?_, e2, W.leave G (sB S2) O2 k e3 hng (fun y hy => e4 y (by rw [hrow]; exact hy)) hG, e5 k hk1, fun x hx => e5 x (by rw [sB_set S (by omega)]; exact Or.inl hx), by omega, by simp; omega⟩
      rw [spec_l11Walk_walk_eq, gT hk.1, gT (by simp only; omega), bF h, gT hk.1, gT (by simp only; omega), gT hk.1, gT (by simp only; omega)]
      simp only [e1', some_bind]
      rw [gT (by simp; omega)]
theorem falses_replicate (m : Nat) : falses (List.replicate m false) = m := by
  unfold falses
  rw [List.countP_replicate]
  rfl
theorem sB_none (m : Nat) (x : Int) : ¬ sB (List.replicate m false) x := by
  rintro ⟨h1, h2⟩
  rw [List.getD_eq_getElem?_getD, List.getElem?_replicate] at h2
  split at h2 <;> cases h2
/-- the first walk, over all points -/
theorem kos_L0 {m : Nat} {R : List (Bool × List Int)} (hm : m ≤ 10000) (hlen : R.length = m) (nb : Bool) (hin : ∀ x, ∀ y ∈ gOf R x, 0 ≤ y ∧ y < (m : Int)) (hrl : ∀ x, (gOf R x).length ≤ 20000000) (nx : Bool × List (Bool × List Int)) (bs : Bool) (d : Nat) :
    ∀ (i : Nat) (S : List Bool) (O : List Int) (bo : Bool), i + d = m → S.length = m → FinI (gOf R) (fun _ => False) (sB S) O → (∀ x, 0 ≤ x ∧ x < (i : Int) → sB S x) → O.length + falses S ≤ m →
      ∃ S2 O2 bo2, spec_l11Parts_L0 nx (nb, R) (bs, S) (bo, O) (m : Int) (i : Int) = some ((nb, R), ((bs, S2), (bo2, O2))) ∧ FinI (gOf R) (fun _ => False) (sB S2) O2 ∧ (∀ x, 0 ≤ x ∧ x < (m : Int) → x ∈ O2) ∧ O2.length ≤ m ∧ S2.length = m := by
  have W : WalkI (gOf R) (fun _ => True) (FinI (gOf R)) := ⟨fun _ _ _ _ => trivial, fun G s o x h hx => (h.see x).2 (Or.inr hx), fun G s o k h hk _ => h.enter hk, fun G s o k h h1 h2 h3 => h.leave h1 h2 h3⟩
  induction d with
  | zero =>
    intro i S O bo hi hS hI hs hO
    obtain rfl : i = m := by omega
    refine ⟨S, O, bo, by rw [spec_l11Parts_L0_eq, gF (by omega)], hI, fun x hx => ?_, by omega, hS⟩
    rcases (hI.see x).1 (hs x hx) with q | q
    · exact q
    · exact q.elim
  | succ d ih =>
    intro i S O bo hi hS hI hs hO
    obtain ⟨S2, O2, bo2, e1, e2, e3, e4, e5, e6, e7⟩ := walk_ok hlen nb hin hrl W (falses S) (fun _ => False) S O (i : Int) bs bo hS hI (by omega) trivial (fun x hx => hx.elim) (Nat.le_refl _) (by omega)
    obtain ⟨S3, O3, bo3, g1, g2, g3, g4, g5⟩ := ih (i + 1) S2 O2 bo2 (by omega) e2 e3 (fun x hx => by
      by_cases q : x = (i : Int)
      · rw [q]; exact e4
      · exact e5 x (hs x (by omega))) (by omega)
    refine ⟨S3, O3, bo3, ?_, g2, g3, g4, g5⟩
    rw [spec_l11Parts_L0_eq, gT (by omega), up1 i (by omega)]
    simp only [e1, some_bind]
    rw [bind_id]
    exact g1
theorem least_L4 (nx : Bool × List (Bool × List Int)) (w b : Dl11Walk) (out : Bool × List Int) (i : Int) (t : Bool × List Int) (ht : t.2.length ≤ 1048576) (d : Nat) : ∀ (j : Nat) (m : Int), j + d = t.2.length →
    spec_l11Parts_L4 nx w b out i m t (t.2.length : Int) (j : Int) = some ((t.2.drop j).foldl (fun m x => if x < m then x else m) m) := by
  induction d with
  | zero =>
    intro j m hj
    rw [spec_l11Parts_L4_eq, gF (by omega), List.drop_of_length_le (by omega)]
    rfl
  | succ d ih =>
    intro j m hj
    have hlt : j < t.2.length := by omega
    rw [spec_l11Parts_L4_eq, gT (by omega), gT (by omega), gT (by omega), getD_at t.2 _ j hlt, up1 j (by omega), List.drop_eq_getElem_cons hlt, List.foldl_cons]
    by_cases c : t.2[j] < m
    · rw [gT c, if_pos c, bind_id, ih (j + 1) _ (by omega)]
    · rw [gF c, if_neg c, bind_id, ih (j + 1) _ (by omega)]
theorem put_L6 (nx : Bool × List (Bool × List Int)) (w b : Dl11Walk) (i least : Int) (bo : Bool) (m : Nat) (t : Bool × List Int) (ht : t.2.length ≤ 1048576) (hin : ∀ x ∈ t.2, 0 ≤ x ∧ x < (m : Int)) (d : Nat) : ∀ (j : Nat) (out : List Int), j + d = t.2.length → out.length = m →
    ∃ out2 : List Int, out2.length = m ∧ (∀ x ∈ t.2.drop j, vw 0 out2 x = least) ∧ (∀ x, x ∉ t.2.drop j → vw 0 out2 x = vw 0 out x) ∧ spec_l11Parts_L6 nx w b (bo, out) i least t (t.2.length : Int) (j : Int) = some (bo, out2) := by
  induction d with
  | zero =>
    intro j out hj ho
    refine ⟨out, ho, fun x hx => ?_, fun x _ => rfl, by rw [spec_l11Parts_L6_eq, gF (by omega)]⟩
    rw [List.drop_of_length_le (by omega)] at hx
    cases hx
  | succ d ih =>
    intro j out hj ho
    have hlt : j < t.2.length := by omega
    have hx := hin _ (List.getElem_mem hlt)
    obtain ⟨out2, h1, h2, h3, h4⟩ := ih (j + 1) (out.set (Int.toNat t.2[j]) least) (by omega) (by rw [List.length_set]; exact ho)
    refine ⟨out2, h1, fun x hx2 => ?_, fun x hx2 => ?_, ?_⟩
    · rw [List.drop_eq_getElem_cons hlt] at hx2
      by_cases c : x ∈ t.2.drop (j + 1)
      · exact h2 x c
      · rw [h3 x c, vw_set 0 out least (by omega)]
        rcases List.mem_cons.1 hx2 with rfl | hx2
        · exact updI_same _ _ _
        · exact absurd hx2 c
    · rw [List.drop_eq_getElem_cons hlt] at hx2
      have n1 : ¬ x = t.2[j] := fun q => hx2 (by rw [q]; exact List.mem_cons_self)
      have n2 : x ∉ t.2.drop (j + 1) := fun q => hx2 (List.mem_cons_of_mem _ q)
      rw [h3 x n2, vw_set 0 out least (by omega), updI_other _ _ n1]
    · rw [spec_l11Parts_L6_eq, gT (by omega), gT (by omega), gT (by omega), getD_at t.2 _ j hlt, gT hx.1, gT (by simp only; omega), up1 j (by omega), bind_id]
      exact h4
/-- the second walk: the parts, from the last point on -/
theorem kos_L2 {m : Nat} {R RT : List (Bool × List Int)} (hm : m ≤ 10000) (hlen : R.length = m) (hlenT : RT.length = m) (nbT : Bool) (hin : ∀ x, ∀ y ∈ gOf R x, 0 ≤ y ∧ y < (m : Int)) (hinT : ∀ x, ∀ y ∈ gOf RT x, 0 ≤ y ∧ y < (m : Int)) (hrlT : ∀ x, (gOf RT x).length ≤ 20000000) (hr : ∀ x y, 0 ≤ x ∧ x < (m : Int) → (y ∈ gOf RT x ↔ x ∈ gOf R y)) (nb : Bool)
    (w0 : Bool × List (Bool × List Int)) (w1 : Bool × List Bool) (bO : Bool) (O : List Int) {S0 : List Bool} (hF : FinI (gOf R) (fun _ => False) (sB S0) O) (hall : ∀ x, 0 ≤ x ∧ x < (m : Int) → x ∈ O) (hO : ∀ x ∈ O, 0 ≤ x ∧ x < (m : Int)) (hOl : O.length ≤ m) (bs bo : Bool) (n : Nat) :
    ∀ (S : List Bool) (out q : List Int) (bq : Bool), n ≤ O.length → S.length = m → out.length = m → (∀ x, 0 ≤ x ∧ x < (m : Int) → (sB S x ↔ ∃ b ∈ O.drop n, Scc (gOf R) x b)) → (∀ x, 0 ≤ x ∧ x < (m : Int) → sB S x → IsL (gOf R) x (vw 0 out x)) →
      ∃ (P : List Int) (z : Dl11Walk), spec_l11Parts_L2 (nb, R) (w0, (w1, (bO, O))) (nbT, RT) (bs, S) (bq, q) (bo, out) ((n : Int) - 1) = some ((bo, P), z) ∧ P.length = m ∧ ∀ x, 0 ≤ x ∧ x < (m : Int) → IsL (gOf R) x (vw 0 P x) := by
  have hlim := lim_eq
  have okc : ∀ x, (0 ≤ x ∧ x < (m : Int)) → ∀ y ∈ gOf R x, 0 ≤ y ∧ y < (m : Int) := fun x _ => hin x
  have okr : ∀ x, (0 ≤ x ∧ x < (m : Int)) → ∀ y ∈ gOf RT x, 0 ≤ y ∧ y < (m : Int) := fun x _ => hinT x
  induction n with
  | zero =>
    intro S out q bq hn hS hout hs hv
    refine ⟨out, ((nbT, RT), ((bs, S), (bq, q))), by rw [spec_l11Parts_L2_eq, gF (by omega)], hout, fun x hx => hv x hx ?_⟩
    rw [hs x hx, List.drop_zero]
    exact ⟨x, hall x hx, Scc.refl _ _⟩
  | succ n ih =>
    intro S out q bq hn hS hout hs hv
    have hlt : n < O.length := by omega
    have hz := hO _ (List.getElem_mem hlt)
    have ho : O = O.take n ++ O[n] :: O.drop (n + 1) := by rw [← List.drop_eq_getElem_cons hlt, List.take_append_drop]
    have ek : ((n + 1 : Nat) : Int) - 1 = (n : Int) := by omega
    by_cases c : sB S O[n]
    · have e1 : spec_l11Walk_walk (nbT, RT) (bs, S) (true, []) O[n] = some ((nbT, RT), ((bs, S), (true, []))) := by
        rw [spec_l11Walk_walk_eq, gT hz.1, gT (by simp only; omega), bT c.2]
      have e4 : spec_l11Parts_L4 (nb, R) (w0, (w1, (bO, O))) ((nbT, RT), ((bs, S), (true, []))) (bo, out) (n : Int) (m : Int) (true, []) (([] : List Int).length : Int) 0 = some (m : Int) := by
        rw [spec_l11Parts_L4_eq, gF (by simp)]
      have e6 : spec_l11Parts_L6 (nb, R) (w0, (w1, (bO, O))) ((nbT, RT), ((bs, S), (true, []))) (bo, out) (n : Int) (m : Int) (true, []) (([] : List Int).length : Int) 0 = some (bo, out) := by
        rw [spec_l11Parts_L6_eq, gF (by simp)]
      obtain ⟨b, hb1, hb2⟩ := (hs _ hz).1 c
      obtain ⟨P, z, g1, g2, g3⟩ := ih S out [] true (by omega) hS hout (fun x hx => by
        rw [List.drop_eq_getElem_cons hlt, hs x hx]
        constructor
        · rintro ⟨b2, q1, q2⟩
          exact ⟨b2, List.mem_cons_of_mem _ q1, q2⟩
        · rintro ⟨b2, q1, q2⟩
          rcases List.mem_cons.1 q1 with rfl | q1
          · exact ⟨b, hb1, q2.trans hb2⟩
          · exact ⟨b2, q1, q2⟩) hv
      refine ⟨P, z, ?_, g2, g3⟩
      rw [spec_l11Parts_L2_eq, ek, gT (by omega), gT (by omega), gT (by simp only; omega)]
      simp only [Int.toNat_natCast, getD_lt hlt, e1, some_bind, hlen, e4, e6]
      rw [wr (by omega), bind_id]
      exact g1
    have W : WalkI (gOf RT) (fun x => Way (gOf RT) O[n] x) (ColI (gOf RT) O[n] (sB S)) := ⟨fun x h y hy => h.snoc hy, fun G s o x h hx => (h.see x).2 (Or.inr (Or.inr hx)), fun G s o k h hk ha => h.enter hk ha, fun G s o k h _ h2 _ => h.leave h2⟩
    have hC0 : ColI (gOf RT) O[n] (sB S) (fun _ => False) (sB S) [] := ⟨fun x => ⟨fun h => Or.inl h, fun h => h.elim id (fun h => h.elim (fun h => by cases h) (fun h => h.elim))⟩, fun x h => h.elim (fun h => by cases h) (fun h => h.elim), fun x hx => by cases hx⟩
    have hfl : falses S ≤ m := by rw [← hS]; exact List.countP_le_length
    obtain ⟨S2, Q, bQ, e1, e2, e3, e4, e5, e6, e7⟩ := walk_ok hlenT nbT hinT hrlT W (falses S) (fun _ => False) S [] O[n] bs true hS hC0 hz (Way.here _) (fun x hx => hx.elim) (Nat.le_refl _) (by simp; omega)
    have hQin : ∀ x ∈ Q, 0 ≤ x ∧ x < (m : Int) := fun x hx => Way.closed okr (e3.new x (Or.inl hx)).2 hz
    have hQl : Q.length ≤ 1048576 := by
      simp only [List.length_nil, Nat.zero_add] at e7
      omega
    have hlast := least_L4 (nb, R) (w0, (w1, (bO, O))) ((nbT, RT), ((bs, S2), (bQ, Q))) (bo, out) (n : Int) (bQ, Q) hQl Q.length 0 (m : Int) (by simp)
    obtain ⟨out2, p1, p2, p3, p4⟩ := put_L6 (nb, R) (w0, (w1, (bO, O))) ((nbT, RT), ((bs, S2), (bQ, Q))) (n : Int) (Q.foldl (fun m x => if x < m then x else m) (m : Int)) bo m (bQ, Q) hQl hQin Q.length 0 out (by simp) hout
    rw [List.drop_zero] at hlast p2 p3
    have hlast' : spec_l11Parts_L4 (nb, R) (w0, (w1, (bO, O))) ((nbT, RT), ((bs, S2), (bQ, Q))) (bo, out) (n : Int) (m : Int) (bQ, Q) (Q.length : Int) 0 = _ := hlast
    have p4' : spec_l11Parts_L6 (nb, R) (w0, (w1, (bO, O))) ((nbT, RT), ((bs, S2), (bQ, Q))) (bo, out) (n : Int) (Q.foldl (fun m x => if x < m then x else m) (m : Int)) (bQ, Q) (Q.length : Int) 0 = _ := p4
    have hzq : O[n] ∈ Q := by
      rcases (e3.see O[n]).1 e4 with k | k | k
      · exact absurd k c
      · exact k
      · exact k.elim
    have hscc : ∀ x, 0 ≤ x ∧ x < (m : Int) → (x ∈ Q ↔ Scc (gOf R) O[n] x) := fun x hx => col_scc hF hall okc okr (fun x y hx => hr x y hx) ho hz (fun x hx => hs x hx) e3 c hzq x hx
    have hs2 : ∀ x, 0 ≤ x ∧ x < (m : Int) → (sB S2 x ↔ ∃ b ∈ O.drop n, Scc (gOf R) x b) := by
      intro x hx
      rw [List.drop_eq_getElem_cons hlt]
      constructor
      · intro h
        rcases (e3.see x).1 h with k | k | k
        · obtain ⟨b2, q1, q2⟩ := (hs x hx).1 k
          exact ⟨b2, List.mem_cons_of_mem _ q1, q2⟩
        · exact ⟨O[n], List.mem_cons_self, ((hscc x hx).1 k).symm⟩
        · exact k.elim
      · rintro ⟨b2, q1, q2⟩
        rcases List.mem_cons.1 q1 with rfl | q1
        · exact (e3.see x).2 (Or.inr (Or.inl ((hscc x hx).2 q2.symm)))
        · exact e5 x ((hs x hx).2 ⟨b2, q1, q2⟩)
    obtain ⟨f1, f2, f3⟩ := foldl_min Q (m : Int)
    have hleast : Q.foldl (fun m x => if x < m then x else m) (m : Int) ∈ Q := by
      rcases f1 with k | k
      · have := f3 _ hzq
        omega
      · exact k
    have hv2 : ∀ x, 0 ≤ x ∧ x < (m : Int) → sB S2 x → IsL (gOf R) x (vw 0 out2 x) := by
      intro x hx h
      by_cases k : x ∈ Q
      · rw [p2 x k]
        refine ⟨((hscc x hx).1 k).symm.trans ((hscc _ (hQin _ hleast)).1 hleast), fun y hy => f3 y ?_⟩
        exact (hscc y (Way.closed okc hy.1 hx)).2 (((hscc x hx).1 k).trans hy)
      · rw [p3 x k]
        rcases (e3.see x).1 h with k2 | k2 | k2
        · exact hv x hx k2
        · exact absurd k2 k
        · exact k2.elim
    obtain ⟨P, z, g1, g2, g3⟩ := ih S2 out2 Q bQ (by omega) e2 p1 hs2 hv2
    refine ⟨P, z, ?_, g2, g3⟩
    rw [spec_l11Parts_L2_eq, ek, gT (by omega), gT (by omega), gT (by simp only; omega)]
    simp only [Int.toNat_natCast, getD_lt hlt, e1, some_bind, hlen, hlast', p4']
    rw [wr (by omega), bind_id]
    exact g1
theorem rows_gOf {R : List (Bool × List Int)} {G : List (List Int)} (h : R.map Prod.snd = G) (x : Int) : gOf R x = if 0 ≤ x then G.getD x.toNat [] else [] := by
  unfold gOf
  subst h
  by_cases c : 0 ≤ x
  · rw [if_pos c, if_pos c]
    by_cases q : x.toNat < R.length
    · simp [List.getD_eq_getElem?_getD, q]
    · simp [List.getD_eq_getElem?_getD, List.getElem?_eq_none (Nat.le_of_not_lt q)]
  · rw [if_neg c, if_neg c]
theorem getD_row_mem {G : List (List Int)} {k : Nat} {y : Int} (h : y ∈ G.getD k []) : ∃ l ∈ G, y ∈ l ∧ k < G.length := by
  by_cases q : k < G.length
  · have e : G.getD k [] = G[k] := by simp [List.getD_eq_getElem?_getD, q]
    rw [e] at h
    exact ⟨_, List.getElem_mem q, h, q⟩
  · rw [List.getD_eq_getElem?_getD, List.getElem?_eq_none (Nat.le_of_not_lt q)] at h
    cases h
/-- the parts of a graph, as the two functions find them -/
theorem parts_both {m : Nat} {G : List (List Int)} (h1 : 1 ≤ m) (hG : Gr m G) (hs : ∀ l ∈ G, l.length ≤ 2000) (nb nb2 : Bool) {R R2 : List (Bool × List Int)} (hR : R.map Prod.snd = G) (hR2 : R2.map Prod.snd = G) :
    ∃ b b2 P, impl_parts (nb, R) = some (b, P) ∧ spec_l11Parts (nb2, R2) = some (b2, P) ∧ P.length = m ∧ ∀ x, 0 ≤ x ∧ x < (m : Int) → IsL (gOf R) x (P.getD x.toNat 0) := by
  have hlim := lim_eq
  have hsm := hG.small
  have hlen : R.length = m := by rw [← hG.len, ← hR, List.length_map]
  have hlen2 : R2.length = m := by rw [← hG.len, ← hR2, List.length_map]
  have eg : gOf R2 = gOf R := by funext x; rw [rows_gOf hR2, rows_gOf hR]
  have hin : ∀ x, ∀ y ∈ gOf R x, 0 ≤ y ∧ y < (m : Int) := by
    intro x y hy
    rw [rows_gOf hR] at hy
    split at hy
    · obtain ⟨l, hl, hyl, _⟩ := getD_row_mem hy
      exact hG.inn l hl y hyl
    · cases hy
  have hrl : ∀ x, (gOf R x).length ≤ 20000000 := by
    intro x
    rw [rows_gOf hR]
    split
    · by_cases q : x.toNat < G.length
      · have e : G.getD x.toNat [] = G[x.toNat] := by simp [List.getD_eq_getElem?_getD, q]
        rw [e]
        have := hs _ (List.getElem_mem q)
        omega
      · rw [List.getD_eq_getElem?_getD, List.getElem?_eq_none (Nat.le_of_not_lt q)]
        simp
    · simp
  obtain ⟨b, P, e1, e2, e3⟩ := tar_parts h1 hsm hlen nb hin hrl
  obtain ⟨Q, q1, _, q3⟩ := turned_both hG hs nb2 hR2
  have hg : ∀ l ∈ G, ∀ w ∈ l, 0 ≤ w ∧ w < (G.length : Int) := by rw [hG.len]; exact hG.inn
  have hTl := turns_facts G hg G.length (Nat.le_refl _)
  have hlenT : Q.length = m := by
    have := congrArg List.length q1
    rw [List.length_map] at this
    rw [this, ← hG.len]
    exact hTl.1
  have hmT : ∀ x y, 0 ≤ x ∧ x < (m : Int) → (y ∈ gOf Q x ↔ x ∈ gOf R2 y) := by
    intro x y hx
    rw [rows_gOf q1, if_pos hx.1, mem_turnL hg, rows_gOf hR2]
    have ex : ((x.toNat : Nat) : Int) = x := Int.toNat_of_nonneg hx.1
    constructor
    · rintro ⟨v, hv1, rfl, hv3⟩
      rw [if_pos (by omega), Int.toNat_natCast, ← ex]
      exact hv3
    · intro h
      split at h
      · rename_i hy
        obtain ⟨l, _, _, hk⟩ := getD_row_mem h
        exact ⟨y.toNat, hk, (Int.toNat_of_nonneg hy).symm, by rw [ex]; exact h⟩
      · cases h
  have hinT : ∀ x, ∀ y ∈ gOf Q x, 0 ≤ y ∧ y < (m : Int) := by
    intro x y hy
    by_cases hx : 0 ≤ x
    · rw [rows_gOf q1, if_pos hx, mem_turnL hg] at hy
      obtain ⟨v, hv1, rfl, _⟩ := hy
      rw [← hG.len]
      omega
    · rw [rows_gOf q1, if_neg hx] at hy
      cases hy
  have hgT := turnL_gr hG hs
  have hrlT : ∀ x, (gOf Q x).length ≤ 20000000 := by
    intro x
    rw [rows_gOf q1]
    split
    · by_cases q : x.toNat < (turnL G).length
      · have e : (turnL G).getD x.toNat [] = (turnL G)[x.toNat] := by simp [List.getD_eq_getElem?_getD, q]
        rw [e]
        exact hgT.short _ (List.getElem_mem q)
      · rw [List.getD_eq_getElem?_getD, List.getElem?_eq_none (Nat.le_of_not_lt q)]
        simp
    · simp
  have hin2 := hin
  rw [← eg] at hin2
  have hrl2 := hrl
  rw [← eg] at hrl2
  have hF0 : FinI (gOf R2) (fun _ => False) (sB (List.replicate m false)) [] := ⟨fun x => ⟨fun h => absurd h (sB_none m x), fun h => h.elim (fun h => (by cases h)) (fun h => h.elim)⟩, fun x hx => (by cases hx), fun x hx => (by cases hx), fun A z B e => (by cases A <;> cases e), List.nodup_nil⟩
  obtain ⟨S2, O2, bo2, k1, k2, k3, k4, k5⟩ := kos_L0 hsm hlen2 nb2 hin2 hrl2 (nb2, R2) false m 0 (List.replicate m false) [] true (by omega) (by simp) hF0 (fun x hx => by omega) (by rw [falses_replicate]; simp)
  have k1' : spec_l11Parts_L0 (nb2, R2) (nb2, R2) (false, List.replicate m false) (true, []) (m : Int) 0 = _ := k1
  have hO : ∀ x ∈ O2, 0 ≤ x ∧ x < (m : Int) := fun x hx => by
    obtain ⟨a, b⟩ := (k2.see x).2 (Or.inl hx)
    refine ⟨a, ?_⟩
    rcases Int.lt_or_le x (m : Int) with q | q
    · exact q
    · rw [List.getD_eq_getElem?_getD, List.getElem?_eq_none (by omega)] at b
      cases b
  obtain ⟨P2, z, j1, j2, j3⟩ := kos_L2 hsm hlen2 hlenT false hin2 hinT hrlT hmT nb2 (nb2, R2) (false, S2) bo2 O2 k2 k3 hO k4 false false O2.length (List.replicate m false) (List.replicate m 0) [] true (Nat.le_refl _) (by simp) (by simp) (fun x hx => by
    rw [List.drop_length]
    exact ⟨fun h => absurd h (sB_none m x), fun ⟨b, hb, _⟩ => by cases hb⟩) (fun x hx h => absurd h (sB_none m x))
  have ePP : P2 = P := by
    apply List.ext_getElem (by rw [j2, e2])
    intro i hi1 hi2
    have a := e3 (i : Int) (by omega)
    have b := j3 (i : Int) (by omega)
    rw [eg] at b
    have c := a.one b
    rw [vw_in (-1) 0 P (by omega), vw_at 0 P2 (by omega), Int.toNat_natCast] at c
    rw [getD_lt hi2, getD_lt hi1] at c
    exact c.symm
  refine ⟨b, false, P, e1, ?_, e2, fun x hx => by rw [← vw_in (-1) 0 P (by omega)]; exact e3 x hx⟩
  have ew : IntKind.i64.wrap ((O2.length : Int) - 1) = (O2.length : Int) - 1 := wr (by omega)
  rw [spec_l11Parts_eq]
  simp only [hlen2, Int.toNat_natCast, k1', some_bind, q3, ew, j1]
  rw [gT (by omega), gT (by omega), gT (by omega), gT (by omega), gT (by omega), gT (by omega), gT (by omega), gT (by omega), gT (by omega), gT (by omega), gT (by omega), gT (by omega), ePP]
/-- the place from which choices are read: what is known of it -/
def CurOk (c : Dl1Cur) (B : Int) : Prop := c.1.2.length ≤ 1048576 ∧ (∀ x ∈ c.1.2, 0 ≤ x ∧ x ≤ 255) ∧ 0 ≤ c.2.1 ∧ c.2.1 ≤ B
theorem CurOk.mono {c : Dl1Cur} {B C : Int} (h : CurOk c B) (hb : B ≤ C) : CurOk c C := ⟨h.1, h.2.1, h.2.2.1, Int.le_trans h.2.2.2 hb⟩
theorem top8 : top 8 = 255 := by decide
theorem byte_of (s : Int) (hs : 0 ≤ s ∧ s < 18446744073709551616) : ∃ b, IntKind.i64.wrap (bAnd .u64 (bShr .u64 s 40) 255) = b ∧ 0 ≤ b ∧ b ≤ 255 := by
  have e1 : bShr .u64 s 40 = s / 2 ^ 40 := bShr_eq .u64 s 40 (by decide)
  have h1 : 0 ≤ s / 2 ^ 40 := Int.ediv_nonneg hs.1 (by decide)
  have h2 : s / 2 ^ 40 ≤ s := Int.ediv_le_self _ hs.1
  have e2 : bAnd .u64 (s / 2 ^ 40) 255 = s / 2 ^ 40 % 256 := by
    rw [← top8, and_top (by omega) ⟨h1, by omega⟩, top8]
    rfl
  refine ⟨s / 2 ^ 40 % 256, ?_, by omega, by omega⟩
  rw [e1, e2, wr (by omega)]
theorem cur_next (c : Dl1Cur) (B : Int) (h : CurOk c B) (hB : B ≤ 1000000000000) : ∃ c' b, spec_l1Cur_next c.1 c.2.1 c.2.2 = some (c', b) ∧ CurOk c' (B + 1) ∧ 0 ≤ b ∧ b ≤ 255 := by
  obtain ⟨h1, h2, h3, h4⟩ := h
  have hw : ∀ n : Int, 0 ≤ IntKind.u64.wrap n ∧ IntKind.u64.wrap n < 18446744073709551616 := fun n => by rw [wru_mod]; omega
  rw [spec_l1Cur_next_eq]
  by_cases c1 : c.2.1 < (c.1.2.length : Int)
  · have hx : 0 ≤ c.1.2.getD (Int.toNat c.2.1) 0 ∧ c.1.2.getD (Int.toNat c.2.1) 0 ≤ 255 := by
      have hlt : Int.toNat c.2.1 < c.1.2.length := by omega
      have e : c.1.2.getD (Int.toNat c.2.1) 0 = c.1.2[Int.toNat c.2.1] := by simp [List.getD_eq_getElem?_getD, hlt]
      rw [e]
      exact h2 _ (List.getElem_mem hlt)
    rw [gT c1, gT h3, gT c1, gT (by rw [wr (by omega)]; omega)]
    exact ⟨_, _, rfl, ⟨h1, h2, by simp only; rw [wr (by omega)]; omega, by simp only; rw [wr (by omega)]; omega⟩, by rw [wr (by omega)]; exact hx.1, by rw [wr (by omega)]; exact hx.2⟩
  · rw [gF c1, gF (by rw [wr (by omega)]; omega)]
    obtain ⟨b, e1, e2, e3⟩ := byte_of (IntKind.u64.wrap ((IntKind.u64.wrap ((IntKind.u64.wrap (c.2.2 * 6364136223846793005)) + (IntKind.u64.wrap 0))) + 1442695040888963407)) (hw _)
    exact ⟨_, _, rfl, ⟨h1, h2, by simp only; rw [wr (by omega)]; omega, by simp only; rw [wr (by omega)]; omega⟩, by rw [e1]; exact e2, by rw [e1]; exact e3⟩
theorem cur_pick (c : Dl1Cur) (n : Int) (B : Int) (h : CurOk c B) (hB : B ≤ 900000000000) (hn : n ≤ 9000000000000000000) : ∃ c' x, spec_l1Cur_pick c n = some (c', x) ∧ CurOk c' (B + 2) ∧ 0 ≤ x ∧ (1 ≤ n → x < n) := by
  rw [spec_l1Cur_pick_eq]
  by_cases c1 : n ≤ 1
  · rw [gT c1]
    exact ⟨c, 0, rfl, h.mono (by omega), by omega, fun h => by omega⟩
  · rw [gF c1]
    obtain ⟨c2, b, e1, h1, b1, b2⟩ := cur_next c B h (by omega)
    rw [e1, some_bind]
    have hz : (n == 0) = false := beqF (by omega)
    by_cases c3 : n > 200
    · obtain ⟨c4, b', e2, h2, b3, b4⟩ := cur_next c2 (B + 1) h1 (by omega)
      rw [gT c3, e2, some_bind, bF hz]
      have e3 : IntKind.i64.wrap (IntKind.i64.wrap (b * 256) + b') = b * 256 + b' := by rw [wr (show -9223372036854775808 ≤ b * 256 ∧ b * 256 < 9223372036854775808 by omega), wr (by omega)]
      simp only [e3]
      refine ⟨_, _, rfl, h2.mono (by omega), Int.tmod_nonneg _ (by omega), fun _ => ?_⟩
      rw [Int.tmod_eq_emod_of_nonneg (by omega)]
      exact Int.emod_lt_of_pos _ (by omega)
    · rw [gF c3, bF hz]
      refine ⟨_, _, rfl, h1.mono (by omega), Int.tmod_nonneg _ b1, fun _ => ?_⟩
      rw [Int.tmod_eq_emod_of_nonneg b1]
      exact Int.emod_lt_of_pos _ (by omega)
theorem cur_one (c : Dl1Cur) (n : Int) (B : Int) (h : CurOk c B) (hB : B ≤ 900000000000) (hn : n ≤ 9000000000000000000) : ∃ c' b, spec_l1Cur_one c n = some (c', b) ∧ CurOk c' (B + 2) := by
  obtain ⟨c', x, e, h1, _, _⟩ := cur_pick c n B h hB hn
  rw [spec_l1Cur_one_eq, e, some_bind]
  exact ⟨c', _, rfl, h1⟩
/-- a drawn list of points -/
def Pts (n : Int) (k : Nat) (l : List Int) : Prop := Rising l ∧ (∀ x ∈ l, 0 ≤ x ∧ x < n) ∧ l.length ≤ k
theorem Pts.ins {n : Int} {k : Nat} {l : List Int} (h : Pts n k l) {x : Int} (hx : 0 ≤ x ∧ x < n) : Pts n (k + 1) (insL x l) := by
  refine ⟨insL_rising x l h.1, fun y hy => ?_, ?_⟩
  · rcases (insL_mem x l y).1 hy with rfl | hy
    · exact hx
    · exact h.2.1 y hy
  · have := insL_length x l
    have := h.2.2
    omega
theorem graph_L2 (n k_ : Int) (hn : 1 ≤ n ∧ n ≤ 1000000) (d : Nat) : ∀ (c : Dl1Cur) (B : Int) (b : Bool) (l : List Int) (k : Nat), CurOk c B → B + 2 * d ≤ 900000000000 → Pts n k l → k + d ≤ 1000 → (b = true → l = []) →
    ∃ c' b' l', spec_l1Cur_graph_L2 c n k_ (b, l) (d : Int) = some (c', (b', l')) ∧ CurOk c' (B + 2 * d) ∧ Pts n (k + d) l' ∧ (b' = true → l' = []) := by
  induction d with
  | zero =>
    intro c B b l k hc hB hl hk hfl
    exact ⟨c, b, l, by rw [spec_l1Cur_graph_L2_eq, gF (by omega)], hc.mono (by omega), hl, hfl⟩
  | succ d ih =>
    intro c B b l k hc hB hl hk hfl
    obtain ⟨c2, x, e1, h1, x1, x2⟩ := cur_pick c n B hc (by omega) (by omega)
    have hl2 := hl.2.2
    obtain ⟨f, e2, e4⟩ := l1PutF b l x (by omega)
    obtain ⟨c3, b3, l3, g1, g2, g3, g4⟩ := ih c2 (B + 2) f (insL x l) (k + 1) h1 (by omega) (hl.ins ⟨x1, x2 hn.1⟩) (by omega) (fun h => absurd (hfl (e4 h).1) (e4 h).2)
    refine ⟨c3, b3, l3, ?_, g2.mono (by omega), ?_, g4⟩
    · rw [spec_l1Cur_graph_L2_eq, gT (by omega), e1, some_bind]
      simp only [e2, some_bind]
      rw [wr (by omega), bind_id, show ((d + 1 : Nat) : Int) - 1 = (d : Int) by omega]
      exact g1
    · rw [show k + (d + 1) = k + 1 + d by omega]
      exact g3
theorem graph_L0 (n : Nat) (hn : 1 ≤ n ∧ n ≤ 12) (d : Nat) : ∀ (i : Nat) (c : Dl1Cur) (B : Int) (b : Bool) (R : List (Bool × List Int)), i + d = n → CurOk c B → B + 10 * d ≤ 800000000000 → R.length = i → (∀ r ∈ R, Pts n 3 r.2 ∧ (r.1 = true → r.2 = [])) →
    ∃ c' b' R', spec_l1Cur_graph_L0 c (n : Int) (b, R) (i : Int) = some (c', (b', R')) ∧ CurOk c' (B + 10 * d) ∧ R'.length = n ∧ ∀ r ∈ R', Pts n 3 r.2 ∧ (r.1 = true → r.2 = []) := by
  have hlim := lim_eq
  induction d with
  | zero =>
    intro i c B b R hi hc hB hR hr
    exact ⟨c, b, R, by rw [spec_l1Cur_graph_L0_eq, gF (by omega)], hc.mono (by omega), by omega, hr⟩
  | succ d ih =>
    intro i c B b R hi hc hB hR hr
    obtain ⟨c2, x, e1, h1, x1, x2⟩ := cur_pick c 4 B hc (by omega) (by omega)
    have x3 := x2 (by omega)
    obtain ⟨k, rfl⟩ := Int.eq_ofNat_of_zero_le x1
    obtain ⟨c3, b3, l3, e2, h2, p2, p3⟩ := graph_L2 (n : Int) (i : Int) (by omega) k c2 (B + 2) true [] 0 h1 (by omega) ⟨List.Pairwise.nil, fun x hx => (by cases hx), by simp⟩ (by omega) (fun _ => rfl)
    obtain ⟨c4, b4, R4, g1, g2, g3, g4⟩ := ih (i + 1) c3 (B + 10) (b && false) (R ++ [(b3, l3)]) (by omega) (h2.mono (by omega)) (by omega) (by simp; omega) (fun r hr2 => by
      rcases List.mem_append.1 hr2 with q | q
      · exact hr r q
      · rw [List.mem_singleton] at q
        rw [q]
        exact ⟨⟨p2.1, p2.2.1, by have := p2.2.2; simp only; omega⟩, p3⟩)
    refine ⟨c4, b4, R4, ?_, g2.mono (by omega), g3, g4⟩
    rw [spec_l1Cur_graph_L0_eq, gT (by omega), e1, some_bind, e2, some_bind]
    simp only
    rw [gT (by simp; omega), up1 i (by omega), bind_id]
    exact g1
theorem graph_L5 (d : Nat) : ∀ (c : Dl1Cur) (B : Int) (b : Bool) (R : List (Bool × List Int)), CurOk c B → B + 2 * d ≤ 800000000000 → R.length + d = 1202 → R.length ≤ 1201 →
    ∃ c' b' k, spec_l1Cur_graph_L5 c (b, R) = some (c', (b', R ++ List.replicate k (true, []))) ∧ CurOk c' (B + 2 * d) ∧ R.length + k ≤ 1201 := by
  have hlim := lim_eq
  induction d with
  | zero => intro c B b R hc hB hR h1; omega
  | succ d ih =>
    intro c B b R hc hB hR h1
    obtain ⟨c2, x, e1, h2, x1, x2⟩ := cur_pick c 2 B hc (by omega) (by omega)
    have x3 := x2 (by omega)
    rw [spec_l1Cur_graph_L5_eq, e1, some_bind]
    simp only
    rw [wr (by omega)]
    by_cases q : (R.length : Int) < 1200 + x
    · obtain ⟨c4, b4, k, g1, g2, g3⟩ := ih c2 (B + 2) (b && false) (R ++ [(true, [])]) h2 (by omega) (by simp; omega) (by simp; omega)
      refine ⟨c4, b4, k + 1, ?_, g2.mono (by omega), by simp at g3; omega⟩
      rw [gT q, gT (by simp; omega), bind_id, g1, List.replicate_succ, List.append_assoc]
      rfl
    · refine ⟨c2, b, 0, ?_, h2.mono (by omega), by omega⟩
      rw [gF q]
      simp
/-- what is known of a drawn graph -/
structure Drawn (R : List (Bool × List Int)) : Prop where
  one : 1 ≤ R.length
  most : R.length ≤ 1201
  rows : ∀ r ∈ R, r.2.length ≤ 4 ∧ (∀ x ∈ r.2, 0 ≤ x ∧ x ≤ 12) ∧ (r.1 = true → r.2 = [])
theorem draw_graph (c : Dl1Cur) (B : Int) (hc : CurOk c B) (hB : B ≤ 100000000000) : ∃ c' b R, spec_l1Cur_graph c = some (c', (b, R)) ∧ CurOk c' (B + 10000) ∧ Drawn R := by
  have hlim := lim_eq
  obtain ⟨c1, x, e1, h1, x1, x2⟩ := cur_pick c 12 B hc (by omega) (by omega)
  have x3 := x2 (by omega)
  obtain ⟨k, rfl⟩ := Int.eq_ofNat_of_zero_le x1
  have ew : IntKind.i64.wrap (1 + (k : Int)) = ((k + 1 : Nat) : Int) := by rw [wr (by omega)]; omega
  obtain ⟨c2, b2, R, e2, h2, r1, r2⟩ := graph_L0 (k + 1) (by omega) (k + 1) 0 c1 (B + 2) true [] (by omega) h1 (by omega) rfl (fun r hr => by cases hr)
  have e2' : spec_l1Cur_graph_L0 c1 ((k + 1 : Nat) : Int) (true, []) 0 = _ := e2
  obtain ⟨c3, y, e3, h3, y1, y2⟩ := cur_pick c2 40 _ h2 (by omega) (by omega)
  have old : ∀ r ∈ R, r.2.length ≤ 4 ∧ (∀ x ∈ r.2, 0 ≤ x ∧ x ≤ 12) ∧ (r.1 = true → r.2 = []) := fun r hr => by
    obtain ⟨⟨a1, a2, a3⟩, a4⟩ := r2 r hr
    exact ⟨by omega, fun x hx => by have := a2 x hx; omega, a4⟩
  rw [spec_l1Cur_graph_eq, e1, some_bind]
  simp only [ew, e2', some_bind, e3]
  obtain ⟨r0, R', rfl⟩ : ∃ r0 R', R = r0 :: R' := by
    cases R with
    | nil => simp at r1
    | cons r0 R' => exact ⟨r0, R', rfl⟩
  have hr0 := r2 r0 List.mem_cons_self
  by_cases q0 : y = 0
  · subst q0
    have h03 := hr0.1.2.2
    rw [bT (by simp), gT (by omega), gT (by simp only [List.getD_cons_zero, List.length_cons, List.length_nil]; omega), gT (by omega), bT (by simp)]
    refine ⟨_, _, _, rfl, h3.mono (by omega), ⟨by simp, by simp only [List.set_cons_zero, List.length_cons] at r1 ⊢; omega, fun r hr => ?_⟩⟩
    simp only [List.set_cons_zero, List.getD_cons_zero] at hr
    rcases List.mem_cons.1 hr with rfl | hr
    · refine ⟨by simp; omega, fun x hx => ?_, by simp⟩
      rcases List.mem_append.1 hx with hx | hx
      · exact (old r0 List.mem_cons_self).2.1 x hx
      · rw [List.mem_singleton] at hx
        rw [hx]
        omega
    · exact old r (List.mem_cons_of_mem _ hr)
  · rw [bF (by simpa using q0)]
    by_cases q1 : y = 1
    · subst q1
      rw [bT (by simp), gT (by omega)]
      refine ⟨_, _, _, rfl, h3.mono (by omega), ⟨by simp, by simp only [List.set_cons_zero, List.length_cons] at r1 ⊢; omega, fun r hr => ?_⟩⟩
      simp only [List.set_cons_zero] at hr
      rcases List.mem_cons.1 hr with rfl | hr
      · refine ⟨by simp, fun x hx => ?_, by simp⟩
        simp only [List.mem_cons, List.not_mem_nil, or_false] at hx
        rcases hx with rfl | rfl <;> omega
      · exact old r (List.mem_cons_of_mem _ hr)
    · rw [bF (by simpa using q1)]
      by_cases q2 : y = 2
      · subst q2
        obtain ⟨c4, b4, k4, g1, g2, g3⟩ := graph_L5 (1202 - (r0 :: R').length) c3 _ b2 (r0 :: R') h3 (by omega) (by omega) (by omega)
        rw [bT (by simp), g1, some_bind]
        refine ⟨_, _, _, rfl, g2.mono (by omega), ⟨by simp, by rw [List.length_append, List.length_replicate]; exact g3, fun r hr => ?_⟩⟩
        rcases List.mem_append.1 hr with hr | hr
        · exact old r hr
        · rw [(List.mem_replicate.1 hr).2]
          exact ⟨by simp, fun x hx => (by cases hx), fun _ => rfl⟩
      · rw [bF (by simpa using q2)]
        exact ⟨_, _, _, rfl, h3.mono (by omega), ⟨by omega, by omega, old⟩⟩
theorem someOf_L0 (n : Int) (hn : 1 ≤ n ∧ n ≤ 1000000) (d : Nat) : ∀ (c : Dl1Cur) (B : Int) (b : Bool) (l : List Int) (k : Nat), CurOk c B → B + 2 * d ≤ 900000000000 → Pts n k l → k + d ≤ 1000 → (b = true → l = []) →
    ∃ c' b' l', spec_l1Cur_someOf_L0 c n (b, l) (d : Int) = some (c', (b', l')) ∧ CurOk c' (B + 2 * d) ∧ Pts n (k + d) l' ∧ (b' = true → l' = []) := by
  induction d with
  | zero =>
    intro c B b l k hc hB hl hk hfl
    exact ⟨c, b, l, by rw [spec_l1Cur_someOf_L0_eq, gF (by omega)], hc.mono (by omega), hl, hfl⟩
  | succ d ih =>
    intro c B b l k hc hB hl hk hfl
    obtain ⟨c2, x, e1, h1, x1, x2⟩ := cur_pick c n B hc (by omega) (by omega)
    have hl2 := hl.2.2
    obtain ⟨f, e2, e4⟩ := l1PutF b l x (by omega)
    obtain ⟨c3, b3, l3, g1, g2, g3, g4⟩ := ih c2 (B + 2) f (insL x l) (k + 1) h1 (by omega) (hl.ins ⟨x1, x2 hn.1⟩) (by omega) (fun h => absurd (hfl (e4 h).1) (e4 h).2)
    refine ⟨c3, b3, l3, ?_, g2.mono (by omega), ?_, g4⟩
    · rw [spec_l1Cur_someOf_L0_eq, gT (by omega), e1, some_bind]
      simp only [e2, some_bind]
      rw [wr (by omega), bind_id, show ((d + 1 : Nat) : Int) - 1 = (d : Int) by omega]
      exact g1
    · rw [show k + (d + 1) = k + 1 + d by omega]
      exact g3
theorem draw_someOf (c : Dl1Cur) (B : Int) (hc : CurOk c B) (hB : B ≤ 100000000000) (n : Int) (hn : 1 ≤ n ∧ n ≤ 1000000) (most : Nat) (hm : most ≤ 10) : ∃ c' b l, spec_l1Cur_someOf c n (most : Int) = some (c', (b, l)) ∧ CurOk c' (B + 100) ∧ Pts (n + 1) (most + 1) l ∧ (b = true → l = []) := by
  have hlim := lim_eq
  obtain ⟨c1, x, e1, h1, x1, x2⟩ := cur_pick c ((most : Int) + 1) B hc (by omega) (by omega)
  have x3 := x2 (by omega)
  obtain ⟨k, rfl⟩ := Int.eq_ofNat_of_zero_le x1
  have ew : IntKind.i64.wrap ((most : Int) + 1) = (most : Int) + 1 := wr (by omega)
  obtain ⟨c2, b2, l, e2, h2, ⟨p1, p2, p3⟩, p4⟩ := someOf_L0 n hn k c1 (B + 2) true [] 0 h1 (by omega) ⟨List.Pairwise.nil, fun x hx => (by cases hx), by simp⟩ (by omega) (fun _ => rfl)
  obtain ⟨c3, y, e3, h3⟩ := cur_one c2 40 _ h2 (by omega) (by omega)
  rw [spec_l1Cur_someOf_eq]
  simp only [ew, e1, some_bind, e2, e3]
  cases y with
  | false => exact ⟨_, _, _, rfl, h3.mono (by omega), ⟨p1, fun x hx => by have := p2 x hx; omega, by omega⟩, p4⟩
  | true =>
    rw [cond_true, gT (by simp; omega)]
    refine ⟨_, _, _, rfl, h3.mono (by omega), ⟨?_, fun x hx => ?_, by simp; omega⟩, by simp⟩
    · rw [Rising, List.pairwise_append]
      refine ⟨p1, List.pairwise_singleton _ _, fun a ha b hb => ?_⟩
      rw [List.mem_singleton] at hb
      rw [hb]
      exact (p2 a ha).2
    · rcases List.mem_append.1 hx with hx | hx
      · have := p2 x hx
        omega
      · rw [List.mem_singleton] at hx
        rw [hx]
        omega
/-- the arrows of a graph given by its rows -/
def gG (G : List (List Int)) : Int → List Int := fun x => if 0 ≤ x then G.getD x.toNat [] else []
theorem gG_at (G : List (List Int)) {x : Int} (h : 0 ≤ x) : gG G x = G.getD x.toNat [] := if_pos h
/-- one arrow: what is known stays, what is new waits -/
structure Step1 (k : Nat) (s q : List Int) (s2 q2 : List Int) : Prop where
  len : s2.length = s.length
  same : ∀ v, v < s.length → 0 ≤ s.getD v 0 → s2.getD v 0 = s.getD v 0
  new : ∀ v, v < s.length → 0 ≤ s2.getD v 0 → 0 ≤ s.getD v 0 ∨ ((v : Int) ∈ q2 ∧ 1 ≤ s2.getD v 0)
  que : ∀ w ∈ q, w ∈ q2
theorem Step1.refl (k : Nat) (s q : List Int) : Step1 k s q s q := ⟨rfl, fun _ _ _ => rfl, fun _ _ h => Or.inl h, fun _ h => h⟩
theorem Step1.trans {k : Nat} {s q s2 q2 s3 q3 : List Int} (h : Step1 k s q s2 q2) (h2 : Step1 k s2 q2 s3 q3) : Step1 k s q s3 q3 := by
  refine ⟨by rw [h2.len, h.len], fun v hv h0 => ?_, fun v hv h0 => ?_, fun w hw => h2.que w (h.que w hw)⟩
  · rw [h2.same v (by rw [h.len]; exact hv) (by rw [h.same v hv h0]; exact h0), h.same v hv h0]
  · rcases h2.new v (by rw [h.len]; exact hv) h0 with a | ⟨a, b⟩
    · rcases h.new v hv a with c | ⟨c, d⟩
      · exact Or.inl c
      · refine Or.inr ⟨h2.que _ c, ?_⟩
        rw [h2.same v (by rw [h.len]; exact hv) a]
        exact d
    · exact Or.inr ⟨a, b⟩
theorem step_one {k : Nat} {s q : List Int} (hk : k < s.length) (hk0 : 0 ≤ s.getD k 0) {w : Int} (hw : 0 ≤ w ∧ w < (s.length : Int)) : Step1 k s q (vstep k (s, q) w).1 (vstep k (s, q) w).2 ∧ 0 ≤ (vstep k (s, q) w).1.getD w.toNat 0 := by
  have hwl : w.toNat < s.length := by omega
  unfold vstep
  by_cases c : s.getD w.toNat 0 < 0
  · simp only [if_pos c]
    refine ⟨⟨by rw [List.length_set], fun v hv h0 => ?_, fun v hv h0 => ?_, fun x hx => List.mem_append_left _ hx⟩, ?_⟩
    · rw [getD_set_int s _ _ _ hwl]
      split
      · rename_i e
        subst e
        omega
      · rfl
    · rw [getD_set_int s _ _ _ hwl] at h0 ⊢
      split
      · rename_i e
        refine Or.inr ⟨?_, by omega⟩
        have : (v : Int) = w := by omega
        rw [this]
        simp
      · rename_i e
        rw [if_neg e] at h0
        exact Or.inl h0
    · rw [getD_set_int s _ _ _ hwl, if_pos rfl]
      omega
  · simp only [if_neg c]
    exact ⟨Step1.refl k s q, by omega⟩
theorem step_all {k : Nat} (ws : List Int) : ∀ {s q : List Int}, k < s.length → 0 ≤ s.getD k 0 → (∀ w ∈ ws, 0 ≤ w ∧ w < (s.length : Int)) → Step1 k s q (ws.foldl (vstep k) (s, q)).1 (ws.foldl (vstep k) (s, q)).2 ∧ ∀ w ∈ ws, 0 ≤ (ws.foldl (vstep k) (s, q)).1.getD w.toNat 0 := by
  induction ws with
  | nil => intro s q _ _ _; exact ⟨Step1.refl k s q, fun w hw => by cases hw⟩
  | cons a ws ih =>
    intro s q hk hk0 hw
    obtain ⟨h1, h2⟩ := step_one (q := q) hk hk0 (hw a List.mem_cons_self)
    have hl := h1.len
    obtain ⟨h3, h4⟩ := ih (s := (vstep k (s, q) a).1) (q := (vstep k (s, q) a).2) (by omega) (by rw [h1.same k hk hk0]; exact hk0) (fun w hw2 => by rw [hl]; exact hw w (List.mem_cons_of_mem _ hw2))
    rw [List.foldl_cons]
    refine ⟨h1.trans h3, fun w hw2 => ?_⟩
    rcases List.mem_cons.1 hw2 with rfl | hw2
    · have ha := hw w List.mem_cons_self
      rw [h3.same w.toNat (by omega) h2]
      exact h2
    · exact h4 w hw2
/-- what has been left has no arrow to what is not known -/
def Swept (G : List (List Int)) (s q : List Int) : Prop := ∀ v : Nat, v < s.length → 0 ≤ s.getD v 0 → (v : Int) ∈ q ∨ ∀ w ∈ G.getD v [], 0 ≤ s.getD w.toNat 0
/-- no steps but at the beginning -/
def Zero (l s : List Int) : Prop := ∀ v : Nat, v < s.length → s.getD v 0 = 0 → (v : Int) ∈ l
theorem bfs_swept {m : Nat} {G : List (List Int)} (hG : Gr m G) (l : List Int) (n : Nat) : ∀ (s q : List Int), BInv m s q → Swept G s q → Zero l s → 2 * negs s + q.length ≤ n → Swept G (bfsL G n s q) [] ∧ Zero l (bfsL G n s q) ∧ (bfsL G n s q).length = m ∧ ∀ v, v < m → 0 ≤ s.getD v 0 → (bfsL G n s q).getD v 0 = s.getD v 0 := by
  induction n with
  | zero =>
    intro s q hI hS hZ hn
    have : q = [] := List.length_eq_zero_iff.1 (by omega)
    subst this
    exact ⟨hS, hZ, hI.len, fun _ _ _ => rfl⟩
  | succ n ih =>
    intro s q hI hS hZ hn
    cases q with
    | nil => exact ⟨hS, hZ, hI.len, fun _ _ _ => rfl⟩
    | cons k q =>
      obtain ⟨hk1, hk2⟩ := hI.que k List.mem_cons_self
      have hlen := hI.len
      have hI' : BInv m s q := ⟨hI.len, hI.low, hI.high, fun w hw => hI.que w (List.mem_cons_of_mem _ hw)⟩
      have hkG : k.toNat < G.length := by rw [hG.len]; omega
      have e : G.getD k.toNat [] ∈ G := by
        have e : G.getD k.toNat [] = G[k.toNat] := by simp [List.getD_eq_getElem?_getD, hkG]
        rw [e]
        exact List.getElem_mem _
      have hin := hG.inn _ e
      obtain ⟨v1, v2⟩ := vsteps_inv (show k.toNat < m by omega) (G.getD k.toNat []) hI' hk2 hin
      obtain ⟨t1, t2⟩ := step_all (q := q) (G.getD k.toNat []) (k := k.toNat) (s := s) (by omega) hk2 (by rw [hlen]; exact hin)
      have hl2 := t1.len
      simp only [List.length_cons] at hn
      obtain ⟨a1, a2, a3, a4⟩ := ih _ _ v1 (fun v hv h0 => by
        rcases t1.new v (by omega) h0 with c | ⟨c, _⟩
        · rcases hS v (by omega) c with d | d
          · rcases List.mem_cons.1 d with d | d
            · right
              have ev : k.toNat = v := by omega
              rw [← ev]
              exact t2
            · exact Or.inl (t1.que _ d)
          · right
            intro w hw
            have hvG : v < G.length := by rw [hG.len]; omega
            have e2 : G.getD v [] ∈ G := by
              have e : G.getD v [] = G[v] := by simp [List.getD_eq_getElem?_getD, hvG]
              rw [e]
              exact List.getElem_mem _
            have hwi := hG.inn _ e2 w hw
            rw [t1.same w.toNat (by omega) (d w hw)]
            exact d w hw
        · exact Or.inl c) (fun v hv h0 => by
        rcases t1.new v (by omega) (by omega) with c | ⟨_, c⟩
        · exact hZ v (by omega) (by rw [← t1.same v (by omega) c]; exact h0)
        · omega) (by omega)
      refine ⟨a1, a2, a3, fun v hv h0 => ?_⟩
      have := t1.same v (by omega) h0
      show (bfsL G n _ _).getD v 0 = _
      rw [a4 v hv (by rw [this]; exact h0), this]
theorem far0_at (m : Nat) (l : List Int) (hl : ∀ w ∈ l, 0 ≤ w ∧ w < (m : Int)) (v : Nat) (hv : v < m) : (far0 m l).getD v 0 = if (v : Int) ∈ l then 0 else -1 := by
  have key : ∀ (l s : List Int), (∀ w ∈ l, 0 ≤ w ∧ w < (m : Int)) → s.length = m → (l.foldl (fun s w => s.set w.toNat 0) s).getD v 0 = if (v : Int) ∈ l then 0 else s.getD v 0 := by
    intro l
    induction l with
    | nil => intro s _ _; rfl
    | cons a l ih =>
      intro s hw hs
      have ha := hw a List.mem_cons_self
      rw [List.foldl_cons, ih _ (fun w h => hw w (List.mem_cons_of_mem _ h)) (by rw [List.length_set]; exact hs), getD_set_int s _ _ _ (by omega)]
      by_cases c : (v : Int) ∈ l
      · rw [if_pos c, if_pos (List.mem_cons_of_mem _ c)]
      · rw [if_neg c]
        by_cases e : a.toNat = v
        · rw [if_pos e, if_pos (by have : (v : Int) = a := by omega
                                   rw [this]; exact List.mem_cons_self)]
        · rw [if_neg e, if_neg (fun q => by
            rcases List.mem_cons.1 q with q | q
            · omega
            · exact c q)]
  have := key l (List.replicate m (-1)) hl (by simp)
  rw [far0, this]
  congr 1
  simp [List.getD_eq_getElem?_getD, hv]
/-- the steps tell what is reached -/
theorem farL_facts {m : Nat} {G : List (List Int)} (hG : Gr m G) (l : List Int) (hw : ∀ w ∈ l, 0 ≤ w ∧ w < (m : Int)) : (farL G l).length = m ∧ Swept G (farL G l) [] ∧ Zero l (farL G l) ∧ (∀ w ∈ l, (farL G l).getD w.toNat 0 = 0) ∧ Pred G (farL G l) := by
  have hI := far0_inv m l hw
  have hn := negs_le (far0 m l)
  have hlen := hI.len
  have hS : Swept G (far0 m l) l := fun v hv h0 => by
    rw [far0_at m l hw v (by omega)] at h0
    split at h0
    · rename_i h; exact Or.inl h
    · omega
  have hZ : Zero l (far0 m l) := fun v hv h0 => by
    rw [far0_at m l hw v (by omega)] at h0
    split at h0
    · rename_i h; exact h
    · omega
  have hb := bfs_swept hG l (2 * m + l.length) (far0 m l) l hI hS hZ (by omega)
  have hP := farL_pred hG l hw
  rw [farL, hG.len] at hP ⊢
  obtain ⟨b1, b2, b3, b4⟩ := hb
  refine ⟨b3, b1, b2, fun w hwl => ?_, hP⟩
  have hwi := hw w hwl
  have e : (far0 m l).getD w.toNat 0 = 0 := by
    rw [far0_at m l hw w.toNat (by omega), if_pos (by rw [Int.toNat_of_nonneg hwi.1]; exact hwl)]
  rw [b4 w.toNat (by omega) (by omega), e]
theorem gG_in {m : Nat} {G : List (List Int)} (hG : Gr m G) : ∀ x, ∀ y ∈ gG G x, 0 ≤ y ∧ y < (m : Int) := by
  intro x y hy
  unfold gG at hy
  split at hy
  · by_cases q : x.toNat < G.length
    · have e : G.getD x.toNat [] = G[x.toNat] := by simp [List.getD_eq_getElem?_getD, q]
      rw [e] at hy
      exact hG.inn _ (List.getElem_mem q) y hy
    · rw [List.getD_eq_getElem?_getD, List.getElem?_eq_none (Nat.le_of_not_lt q)] at hy
      cases hy
  · cases hy
theorem farL_way {m : Nat} {G : List (List Int)} (hG : Gr m G) (l : List Int) (hw : ∀ w ∈ l, 0 ≤ w ∧ w < (m : Int)) (v : Int) (hv : 0 ≤ v ∧ v < (m : Int)) : 0 ≤ (farL G l).getD v.toNat 0 ↔ ∃ u ∈ l, Way (gG G) u v := by
  obtain ⟨h1, h2, h3, h4, h5⟩ := farL_facts hG l hw
  constructor
  · have key : ∀ (n : Nat) (v : Nat), v < m → (farL G l).getD v 0 = (n : Int) → ∃ u ∈ l, Way (gG G) u (v : Int) := by
      intro n
      induction n with
      | zero =>
        intro v hv h0
        exact ⟨(v : Int), h3 v (by omega) h0, Way.here _⟩
      | succ n ih =>
        intro v hv h0
        obtain ⟨u, u1, u2, u3⟩ := h5 v (by omega) (by omega)
        obtain ⟨a, a1, a2⟩ := ih u (by omega) (by omega)
        exact ⟨a, a1, a2.snoc (by rw [gG_at G (by omega), Int.toNat_natCast]; exact u2)⟩
    intro h0
    obtain ⟨n, hn⟩ := Int.eq_ofNat_of_zero_le h0
    have := key n v.toNat (by omega) hn
    rwa [Int.toNat_of_nonneg hv.1] at this
  · rintro ⟨u, hu, huv⟩
    have hui := hw u hu
    have key : (0 ≤ v ∧ v < (m : Int)) ∧ 0 ≤ (farL G l).getD v.toNat 0 := Way.closed (P := fun x => (0 ≤ x ∧ x < (m : Int)) ∧ 0 ≤ (farL G l).getD x.toNat 0) (fun x hx y hy => by
      have hyi := gG_in hG x y hy
      refine ⟨hyi, ?_⟩
      rcases h2 x.toNat (by omega) hx.2 with c | c
      · cases c
      · rw [gG_at G hx.1.1] at hy
        exact c y hy) huv ⟨hui, by rw [h4 u hu]; omega⟩
    exact key.2
theorem mem_reachL {m : Nat} {G : List (List Int)} (hG : Gr m G) (l : List Int) (hw : ∀ w ∈ l, 0 ≤ w ∧ w < (m : Int)) (v : Int) : v ∈ reachL G l ↔ (0 ≤ v ∧ v < (m : Int)) ∧ ∃ u ∈ l, Way (gG G) u v := by
  obtain ⟨h1, _⟩ := farL_facts hG l hw
  unfold reachL
  simp only [List.mem_map, List.mem_filter, List.mem_range, decide_eq_true_eq, h1]
  constructor
  · rintro ⟨i, ⟨hi, h0⟩, rfl⟩
    have hv : 0 ≤ Int.ofNat i ∧ Int.ofNat i < (m : Int) := ⟨Int.natCast_nonneg _, by simp; omega⟩
    exact ⟨hv, (farL_way hG l hw (Int.ofNat i) hv).1 (by simpa using h0)⟩
  · rintro ⟨hv, h⟩
    exact ⟨v.toNat, ⟨by omega, (farL_way hG l hw v hv).2 h⟩, Int.toNat_of_nonneg hv.1⟩
/-- a graph as the laws want it -/
def goodL (G : List (List Int)) : Bool := decide ((G.length : Int) ≤ 1200) && (G.all (fun l => rises (G.length : Int) l) && decide ((tot G : Int) ≤ 20000))
theorem tot_cons (a : List Int) (G : List (List Int)) : tot (a :: G) = a.length + tot G := by simp [tot]
theorem good_impl_L0 (g : DGraph) (hr : ∀ r ∈ g.2, r.2.length ≤ 100000) (hn : g.2.length ≤ 100000) (d : Nat) : ∀ (i : Nat) (A : Int), i + d = g.2.length → 0 ≤ A → A + 100000 * d ≤ 100000000000 →
    impl_GoodGraph_L0 g A g (g.2.length : Int) (i : Int) = some (bif (g.2.drop i).all (fun r => rises (g.2.length : Int) r.2) then .inr (A + (tot ((g.2.drop i).map Prod.snd) : Int)) else .inl false) := by
  induction d with
  | zero =>
    intro i A hi hA hB
    rw [impl_GoodGraph_L0_eq, gF (by omega), List.drop_of_length_le (by omega)]
    simp [tot]
  | succ d ih =>
    intro i A hi hA hB
    have hlt : i < g.2.length := by omega
    have hx := hr _ (List.getElem_mem hlt)
    rw [impl_GoodGraph_L0_eq, gT (by omega), gT (by omega), gT (by omega), getD_at g.2 _ i hlt, isIncreasing _ _ (by omega), some_bind, List.drop_eq_getElem_cons hlt, List.all_cons]
    cases hh : rises (g.2.length : Int) (g.2[i]).2 with
    | false => rfl
    | true =>
      rw [Bool.not_true, cond_false, up1 i (by omega), bind_id, wr (by omega), ih (i + 1) _ (by omega) (by omega) (by omega), Bool.true_and, List.map_cons, tot_cons]
      congr 3
      omega
theorem good_spec_L0 (g : DGraph) (hr : ∀ r ∈ g.2, r.2.length ≤ 100000) (hn : g.2.length ≤ 1200) (d : Nat) : ∀ (i : Nat) (A : Int), i + d = g.2.length → 0 ≤ A → A + 100000 * d ≤ 100000000000 →
    spec_GoodGraph_L0 g A g (g.2.length : Int) (i : Int) = some (bif (g.2.drop i).all (fun r => rises (g.2.length : Int) r.2) then .inr (A + (tot ((g.2.drop i).map Prod.snd) : Int)) else .inl false) := by
  induction d with
  | zero =>
    intro i A hi hA hB
    rw [spec_GoodGraph_L0_eq, gF (by omega), List.drop_of_length_le (by omega)]
    simp [tot]
  | succ d ih =>
    intro i A hi hA hB
    have hlt : i < g.2.length := by omega
    have hx := hr _ (List.getElem_mem hlt)
    rw [spec_GoodGraph_L0_eq, gT (by omega), gT (by omega), gT (by omega), getD_at g.2 _ i hlt, List.drop_eq_getElem_cons hlt, List.all_cons]
    by_cases c : ((g.2[i]).2.length : Int) > 1200
    · rw [gT c]
      cases hh : rises (g.2.length : Int) (g.2[i]).2 with
      | false => rfl
      | true =>
        have := rises_length hh (by omega)
        omega
    · rw [gF c, spec_l11Points_eq, wr (by omega), l1Rising _ _ (by omega), some_bind, some_bind]
      cases hh : rises (g.2.length : Int) (g.2[i]).2 with
      | false => rfl
      | true =>
        rw [Bool.not_true, cond_false, up1 i (by omega), bind_id, wr (by omega), ih (i + 1) _ (by omega) (by omega) (by omega), Bool.true_and, List.map_cons, tot_cons]
        congr 3
        omega
theorem good_both (g : DGraph) (hr : ∀ r ∈ g.2, r.2.length ≤ 100000) (hn : g.2.length ≤ 100000) : impl_GoodGraph g = some (goodL (g.2.map Prod.snd)) ∧ spec_GoodGraph g = some (goodL (g.2.map Prod.snd)) := by
  have ea : ((g.2.map Prod.snd).all fun l => rises ((g.2.map Prod.snd).length : Int) l) = g.2.all fun r => rises (g.2.length : Int) r.2 := by rw [List.all_map, List.length_map]; rfl
  unfold goodL
  rw [ea, List.length_map, impl_GoodGraph_eq, spec_GoodGraph_eq]
  by_cases c : (g.2.length : Int) > 1200
  · rw [gT c, gT c, decide_eq_false (by omega)]
    exact ⟨rfl, rfl⟩
  · have e1 := good_impl_L0 g hr hn g.2.length 0 0 (by omega) (by omega) (by omega)
    have e2 := good_spec_L0 g hr (by omega) g.2.length 0 0 (by omega) (by omega) (by omega)
    have e1' : impl_GoodGraph_L0 g 0 g (g.2.length : Int) 0 = _ := e1
    have e2' : spec_GoodGraph_L0 g 0 g (g.2.length : Int) 0 = _ := e2
    rw [gF c, gF c, e1', e2', some_bind, List.drop_zero, decide_eq_true (by omega), Bool.true_and, Int.zero_add]
    cases g.2.all fun r => rises (g.2.length : Int) r.2 <;> exact ⟨rfl, rfl⟩
theorem goodL_in {G : List (List Int)} (h : goodL G = true) : G.length ≤ 1200 ∧ (∀ l ∈ G, rises (G.length : Int) l = true) ∧ tot G ≤ 20000 := by
  simp only [goodL, Bool.and_eq_true, decide_eq_true_eq, List.all_eq_true] at h
  exact ⟨by omega, h.2.1, by omega⟩
theorem goodL_gr {G : List (List Int)} (h : goodL G = true) : Gr G.length G ∧ ∀ l ∈ G, l.length ≤ 2000 := by
  obtain ⟨h1, h2, h3⟩ := goodL_in h
  have hl : ∀ l ∈ G, l.length ≤ 1200 := fun l hl => by
    have := rises_length (h2 l hl) (by omega)
    omega
  exact ⟨⟨rfl, fun l hl w hw => rises_in (h2 l hl) w hw, fun l h => by have := hl l h; omega, by omega⟩, fun l h => by have := hl l h; omega⟩
/-! what the laws ask -/
theorem sameInts_same (f g : Bool) (l : List Int) (hl : l.length ≤ 1048576) : laws_sameInts (f, l) (g, l) = some true := by
  have key : ∀ (d i : Nat), i + d = l.length → laws_sameInts_L0 (f, l) (g, l) (l.length : Int) (i : Int) = some (.inr ()) := by
    intro d
    induction d with
    | zero => intro i hi; rw [laws_sameInts_L0_eq, gF (by omega)]
    | succ d ih =>
      intro i hi
      have hlt : i < l.length := by omega
      rw [laws_sameInts_L0_eq, gT (by omega), gT (by omega), gT (by simp only; omega), gT (by omega), gT (by simp only; omega), bF (by simp), up1 i (by omega), bind_id, ih (i + 1) (by omega)]
  have := key l.length 0 (by omega)
  have h' : laws_sameInts_L0 (f, l) (g, l) (l.length : Int) 0 = _ := this
  rw [laws_sameInts_eq, bF (by simp), h', some_bind]
theorem has_eq (b : Bool) (l : List Int) (n : Int) (hl : l.length ≤ 1048576) : laws_has (b, l) n = some (l.any fun x => x == n) := by
  have h := any_loop l (fun x => x == n) true (fun i => laws_has_L0 n (b, l) (l.length : Int) i) (fun i h => by
    rw [laws_has_L0_eq, gT (by omega), gT (by omega), gT (by simp only; omega), getD_at l _ i h, up1 i (by omega), bind_id]) (by rw [laws_has_L0_eq, gF (by omega)])
  rw [laws_has_eq]
  simp only [h, some_bind]
  cases l.any fun x => x == n <;> rfl
theorem gG_turn {m : Nat} {G : List (List Int)} (hG : Gr m G) : ∀ x y, 0 ≤ x ∧ x < (m : Int) → (y ∈ gG (turnL G) x ↔ x ∈ gG G y) := by
  have hg : ∀ l ∈ G, ∀ w ∈ l, 0 ≤ w ∧ w < (G.length : Int) := by rw [hG.len]; exact hG.inn
  intro x y hx
  rw [gG_at _ hx.1, mem_turnL hg]
  have ex : ((x.toNat : Nat) : Int) = x := Int.toNat_of_nonneg hx.1
  unfold gG
  constructor
  · rintro ⟨v, hv1, rfl, hv3⟩
    rw [if_pos (by omega), Int.toNat_natCast, ← ex]
    exact hv3
  · intro h
    split at h
    · rename_i hy
      by_cases q : y.toNat < G.length
      · exact ⟨y.toNat, q, (Int.toNat_of_nonneg hy).symm, by rw [ex]; exact h⟩
      · rw [List.getD_eq_getElem?_getD, List.getElem?_eq_none (Nat.le_of_not_lt q)] at h
        cases h
    · cases h
/-- ways in a graph that is turned around -/
theorem way_turn {m : Nat} {G : List (List Int)} (hG : Gr m G) {a b : Int} (hb : 0 ≤ b ∧ b < (m : Int)) : Way (gG G) a b → Way (gG (turnL G)) b a := by
  intro h
  induction h with
  | here a => exact Way.here a
  | step e _ ih => exact (ih hb).snoc ((gG_turn hG _ _ (gG_in hG _ _ e)).2 e)
theorem turn_way {m : Nat} {G : List (List Int)} (hG : Gr m G) (hT : Gr m (turnL G)) {a b : Int} (ha : 0 ≤ a ∧ a < (m : Int)) : Way (gG (turnL G)) a b → Way (gG G) b a := by
  intro h
  induction h with
  | here a => exact Way.here a
  | step e _ ih => exact (ih (gG_in hT _ _ e)).snoc ((gG_turn hG _ _ ha).1 e)
/-- the least of the marks -/
theorem bestL_least (s : List Int) (l : List Int) (hl : ∀ x ∈ l, 0 ≤ x) (x : Int) (hx : x ∈ l) (h0 : 0 ≤ s.getD x.toNat 0) : 0 ≤ bestL s l ∧ s.getD (bestL s l).toNat 0 ≤ s.getD x.toNat 0 := by
  have key : ∀ (l : List Int) (b : Int), (∀ x ∈ l, 0 ≤ x) → ((0 ≤ b ∧ s.getD b.toNat 0 ≤ s.getD x.toNat 0) ∨ x ∈ l) → 0 ≤ l.foldl (bstep s) b ∧ s.getD (l.foldl (bstep s) b).toNat 0 ≤ s.getD x.toNat 0 := by
    intro l
    induction l with
    | nil => intro b _ h; exact h.resolve_right (by simp)
    | cons a l ih =>
      intro b hl h
      rw [List.foldl_cons]
      have ha := hl a List.mem_cons_self
      refine ih _ (fun y hy => hl y (List.mem_cons_of_mem _ hy)) ?_
      unfold bstep
      rcases h with ⟨b0, b1⟩ | h
      · left
        by_cases c : s.getD a.toNat 0 ≥ 0
        · rw [if_pos c, if_neg (by omega)]
          by_cases c2 : s.getD a.toNat 0 < s.getD b.toNat 0
          · rw [if_pos c2]; exact ⟨ha, by omega⟩
          · rw [if_neg c2]; exact ⟨b0, b1⟩
        · rw [if_neg c]; exact ⟨b0, b1⟩
      · rcases List.mem_cons.1 h with rfl | h
        · left
          rw [if_pos (show s.getD x.toNat 0 ≥ 0 from h0)]
          by_cases c : b < 0
          · rw [if_pos c]; exact ⟨ha, Int.le_refl _⟩
          · rw [if_neg c]
            by_cases c2 : s.getD x.toNat 0 < s.getD b.toNat 0
            · rw [if_pos c2]; exact ⟨ha, Int.le_refl _⟩
            · rw [if_neg c2]; exact ⟨by omega, by omega⟩
        · exact Or.inr h
  exact key l (-1) hl (Or.inr hx)
theorem bestL_from (s : List Int) (l : List Int) : bestL s l < 0 ∨ (bestL s l ∈ l ∧ 0 ≤ s.getD (bestL s l).toNat 0) := by
  have key : ∀ (l m : List Int) (b : Int), (b < 0 ∨ (b ∈ m ∧ 0 ≤ s.getD b.toNat 0)) → (l.foldl (bstep s) b < 0 ∨ (l.foldl (bstep s) b ∈ m ++ l ∧ 0 ≤ s.getD (l.foldl (bstep s) b).toNat 0)) := by
    intro l
    induction l with
    | nil => intro m b h; rw [List.append_nil]; exact h
    | cons a l ih =>
      intro m b h
      have := ih (m ++ [a]) (bstep s b a) (by
        unfold bstep
        by_cases c : s.getD a.toNat 0 ≥ 0
        · rw [if_pos c]
          by_cases c2 : b < 0
          · rw [if_pos c2]; exact Or.inr ⟨by simp, c⟩
          · rw [if_neg c2]
            by_cases c3 : s.getD a.toNat 0 < s.getD b.toNat 0
            · rw [if_pos c3]; exact Or.inr ⟨by simp, c⟩
            · rw [if_neg c3]; exact h.imp id fun q => ⟨List.mem_append_left _ q.1, q.2⟩
        · rw [if_neg c]; exact h.imp id fun q => ⟨List.mem_append_left _ q.1, q.2⟩)
      rw [List.append_assoc] at this
      exact this
  exact key l [] (-1) (Or.inl (by decide))
theorem nearL_at {G : List (List Int)} {s : List Int} {v : Int} (h : ∃ u ∈ G.getD v.toNat [], s.getD u.toNat 0 = s.getD v.toNat 0 - 1) : nearL G s v ∈ G.getD v.toNat [] ∧ s.getD (nearL G s v).toNat 0 = s.getD v.toNat 0 - 1 := by
  obtain ⟨u, u1, u2⟩ := h
  unfold nearL
  cases q : (G.getD v.toNat []).find? fun w => s.getD w.toNat 0 == s.getD v.toNat 0 - 1 with
  | none =>
    have := List.find?_eq_none.1 q u u1
    exact absurd (beq_iff_eq.2 u2) this
  | some w => exact ⟨List.mem_of_find?_eq_some q, by simpa using List.find?_some q⟩
theorem wayL_all {m : Nat} {G : List (List Int)} (hG : Gr m G) (s : List Int) (hP : ∀ v : Nat, v < m → 0 < s.getD v 0 → ∃ u ∈ G.getD v [], s.getD u.toNat 0 = s.getD v 0 - 1) (n : Nat) : ∀ (k : Nat) (v : Int) (out : List Int), (0 ≤ v ∧ v < (m : Int)) → s.getD v.toNat 0 = (n : Int) → n ≤ k →
    ∃ t, wayL G s k v out = out ++ t ∧ t.length = n ∧ (∀ i, i < n → (v :: t).getD (i + 1) 0 ∈ G.getD ((v :: t).getD i 0).toNat []) ∧ ∀ i, i ≤ n → (0 ≤ (v :: t).getD i 0 ∧ (v :: t).getD i 0 < (m : Int)) ∧ s.getD ((v :: t).getD i 0).toNat 0 = (n : Int) - i := by
  induction n with
  | zero =>
    intro k v out hv h0 _
    refine ⟨[], ?_, rfl, fun i hi => by omega, fun i hi => ?_⟩
    · cases k with
      | zero => simp [wayL]
      | succ k => rw [wayL, if_neg (by omega), List.append_nil]
    · obtain rfl : i = 0 := by omega
      exact ⟨hv, by simpa using h0⟩
  | succ n ih =>
    intro k v out hv h0 hk
    obtain ⟨k, rfl⟩ : ∃ k', k = k' + 1 := ⟨k - 1, by omega⟩
    obtain ⟨n1, n2⟩ := nearL_at (hP v.toNat (by omega) (by omega))
    have hvG : v.toNat < G.length := by rw [hG.len]; omega
    have e : G.getD v.toNat [] = G[v.toNat] := by simp [List.getD_eq_getElem?_getD, hvG]
    have hin := hG.inn _ (List.getElem_mem hvG) _ (e ▸ n1)
    obtain ⟨t, t1, t2, t3, t4⟩ := ih k (nearL G s v) (out ++ [nearL G s v]) hin (by omega) (by omega)
    refine ⟨nearL G s v :: t, ?_, by simp [t2], fun i hi => ?_, fun i hi => ?_⟩
    · rw [wayL, if_pos (by omega), t1, List.append_assoc]
      rfl
    · cases i with
      | zero => simpa using n1
      | succ i =>
        have := t3 i (by omega)
        simpa only [List.getD_cons_succ] using this
    · cases i with
      | zero => exact ⟨hv, by simpa using h0⟩
      | succ i =>
        have := t4 i (by omega)
        simp only [List.getD_cons_succ]
        exact ⟨this.1, by omega⟩
/-- what is known of a shortest way -/
structure ShortWay (G : List (List Int)) (fr to l : List Int) : Prop where
  len : l.length ≤ G.length
  pos : 1 ≤ l.length
  head : l.getD 0 0 ∈ fr
  last : l.getD (l.length - 1) 0 ∈ to
  arc : ∀ i, i + 1 < l.length → l.getD (i + 1) 0 ∈ G.getD (l.getD i 0).toNat []
  inn : ∀ i, i < l.length → 0 ≤ l.getD i 0 ∧ l.getD i 0 < (G.length : Int)
  notf : ∀ i, i + 1 < l.length → ¬ l.getD (i + 1) 0 ∈ fr
  nott : ∀ i, i + 1 < l.length → ¬ l.getD i 0 ∈ to
theorem leastL_some {m : Nat} {G : List (List Int)} (hG : Gr m G) (hs : ∀ l ∈ G, l.length ≤ 2000) (fr to : List Int) (hfw : ∀ w ∈ fr, 0 ≤ w ∧ w < (m : Int)) (ht : to.length ≤ 10000) (htw : ∀ w ∈ to, 0 ≤ w ∧ w < (m : Int)) {l : List Int} (h : leastL G fr to = some l) : ShortWay G fr to l := by
  have hT := turnL_gr hG hs
  have hg : ∀ l ∈ G, ∀ w ∈ l, 0 ≤ w ∧ w < (G.length : Int) := by rw [hG.len]; exact hG.inn
  have hI := farL_inv hT to ht htw
  obtain ⟨f1, f2, f3, f4, f5⟩ := farL_facts hT to htw
  have hP2 : ∀ v : Nat, v < m → 0 < (farL (turnL G) to).getD v 0 → ∃ u ∈ G.getD v [], (farL (turnL G) to).getD u.toNat 0 = (farL (turnL G) to).getD v 0 - 1 := by
    intro v hv h0
    obtain ⟨u, u1, u2, u3⟩ := f5 v (by omega) h0
    obtain ⟨v', _, hv2, hv3⟩ := (mem_turnL hg u (v : Int)).1 u2
    have : v' = v := by omega
    subst this
    exact ⟨(u : Int), hv3, by rw [Int.toNat_natCast]; exact u3⟩
  unfold leastL at h
  by_cases c : bestL (farL (turnL G) to) fr < 0
  · rw [if_pos c] at h; cases h
  · rw [if_neg c] at h
    obtain ⟨b1, b2⟩ := (bestL_from (farL (turnL G) to) fr).resolve_left c
    have hb := hfw _ b1
    have hmin := fun x hx h0 => (bestL_least (farL (turnL G) to) fr (fun x hx => (hfw x hx).1) x hx h0).2
    generalize bestL (farL (turnL G) to) fr = v at h c b1 b2 hb hmin
    generalize farL (turnL G) to = s at h hI f1 f2 f3 f4 f5 hP2 b2 hmin
    obtain ⟨n, hn⟩ := Int.eq_ofNat_of_zero_le b2
    have hhi := hI.high _ (getD_mem (s := s) (i := v.toNat) (by omega))
    obtain ⟨t, t1, t2, t3, t4⟩ := wayL_all hG s hP2 n G.length v [v] hb hn (by rw [hG.len]; omega)
    rw [t1] at h
    have el : l = v :: t := (Option.some.inj h).symm
    subst el
    have hl : (v :: t).length = n + 1 := by rw [List.length_cons, t2]
    refine ⟨by rw [hl, hG.len]; omega, by omega, by simpa using b1, ?_, fun i hi => t3 i (by omega), fun i hi => ?_, fun i hi q => ?_, fun i hi q => ?_⟩
    · obtain ⟨a1, a2⟩ := t4 n (Nat.le_refl _)
      rw [hl, Nat.add_sub_cancel]
      have := f3 ((v :: t).getD n 0).toNat (by omega) (by omega)
      rwa [Int.toNat_of_nonneg a1.1] at this
    · rw [hG.len]
      exact (t4 i (by omega)).1
    · obtain ⟨a1, a2⟩ := t4 (i + 1) (by omega)
      have := hmin _ q (by omega)
      omega
    · obtain ⟨a1, a2⟩ := t4 i (by omega)
      have := f4 _ q
      omega
theorem leastL_none {m : Nat} {G : List (List Int)} (hG : Gr m G) (hs : ∀ l ∈ G, l.length ≤ 2000) (fr to : List Int) (hfw : ∀ w ∈ fr, 0 ≤ w ∧ w < (m : Int)) (htw : ∀ w ∈ to, 0 ≤ w ∧ w < (m : Int)) (h : leastL G fr to = none) {x y : Int} (hx : x ∈ fr) (hy : y ∈ to) : ¬ Way (gG G) x y := by
  intro hw
  have hT := turnL_gr hG hs
  have h1 : Way (gG (turnL G)) y x := way_turn hG (htw y hy) hw
  have h2 := (farL_way hT to htw x (hfw x hx)).2 ⟨y, hy, h1⟩
  have h3 := (bestL_least (farL (turnL G) to) fr (fun x hx => (hfw x hx).1) x hx h2).1
  unfold leastL at h
  rw [if_neg (by omega)] at h
  cases h
theorem row_mem (R : List (Bool × List Int)) (k : Nat) (hk : k < R.length) : R.getD k (true, []) ∈ R ∧ (R.map Prod.snd).getD k [] = (R.getD k (true, [])).2 := by
  have e : R.getD k (true, []) = R[k] := by simp [List.getD_eq_getElem?_getD, hk]
  refine ⟨by rw [e]; exact List.getElem_mem _, ?_⟩
  rw [e]
  simp [List.getD_eq_getElem?_getD, hk]
/-- an arc within a part -/
def arcB (G : List (List Int)) (P : List Int) (p : Int) : Bool := (List.range G.length).any fun v => P.getD v 0 == p && (G.getD v []).any fun w => P.getD w.toNat 0 == p
/-- a point of a part -/
def hitB (P goal : List Int) (p : Int) : Bool := goal.any fun k => P.getD k.toNat 0 == p
/-- a fair part -/
def fairB (G : List (List Int)) (P : List Int) (goals : List (List Int)) (p : Int) : Bool := arcB G P p && goals.all fun goal => hitB P goal p
/-- what is known of the parts of a graph, of a list of points -/
def PartOk (m : Nat) (P : List Int) : Prop := P.length = m ∧ ∀ v : Nat, v < m → 0 ≤ P.getD v 0 ∧ P.getD v 0 < (m : Int)
def GoalOk (m : Nat) (l : List Int) : Prop := l.length ≤ 100000 ∧ ∀ x ∈ l, 0 ≤ x ∧ x < (m : Int)
theorem getD_set_fl (s : List Bool) (i j : Nat) (a : Bool) (hi : i < s.length) : (s.set i a).getD j false = if i = j then a else s.getD j false := by
  rw [List.getD_eq_getElem?_getD, List.getElem?_set, List.getD_eq_getElem?_getD]
  by_cases h : i = j
  · subst h; simp [hi]
  · simp [h]
theorem fairV_L2 {m : Nat} (hm : m ≤ 10000) (goals : Bool × List (Bool × List Int)) (pb : Bool) {P : List Int} (hP : PartOk m P) (n : Int) (b : Bool) (out : Bool × List Bool) (v : Nat) (hv : v < m) (t28 : Bool × List (Bool × List Int)) (t29 t30 : Int) (r : Bool × List Int) (hr : r.2.length ≤ 100000) (hw : ∀ w ∈ r.2, 0 ≤ w ∧ w < (m : Int)) (d : Nat) : ∀ (i : Nat) (F : List Bool), i + d = r.2.length → F.length = m →
    ∃ F' : List Bool, impl_fairVertices_L2 goals (pb, P) n (b, F) out (v : Int) t28 t29 t30 r (r.2.length : Int) (i : Int) = some (b, F') ∧ F'.length = m ∧ ∀ p : Nat, p < m → F'.getD p false = (F.getD p false || (P.getD v 0 == (p : Int) && (r.2.drop i).any fun w => P.getD w.toNat 0 == (p : Int))) := by
  have hPl := hP.1
  obtain ⟨hv0, hv1⟩ := hP.2 v hv
  induction d with
  | zero => intro i F hi hF; exact ⟨F, by rw [impl_fairVertices_L2_eq, gF (by omega)], hF, fun p hp => by rw [List.drop_of_length_le (by omega)]; simp⟩
  | succ d ih =>
    intro i F hi hF
    have hlt : i < r.2.length := by omega
    have hx := hw _ (List.getElem_mem hlt)
    have step : impl_fairVertices_L2 goals (pb, P) n (b, F) out (v : Int) t28 t29 t30 r (r.2.length : Int) (i : Int) = impl_fairVertices_L2 goals (pb, P) n (b, F.set (P.getD v 0).toNat (F.getD (P.getD v 0).toNat false || (P.getD (r.2[i]).toNat 0 == P.getD v 0))) out (v : Int) t28 t29 t30 r (r.2.length : Int) ((i + 1 : Nat) : Int) := by
      rw [impl_fairVertices_L2_eq, gT (by omega), gT (by omega), gT (by omega), getD_at r.2 _ i hlt, up1 i (by omega)]
      simp only [Int.toNat_natCast, bind_id]
      rw [gT (by omega), gT (by omega), gT (by omega), gT (by omega), gT hv0, gT (by omega)]
      cases hc : F.getD (P.getD v 0).toNat false with
      | true => rw [cond_true, gT hv0, gT (by omega), Bool.true_or]
      | false => rw [cond_false, gT hx.1, gT (by omega), gT (by omega), gT (by omega), gT hv0, gT (by omega), Bool.false_or]
    obtain ⟨F', f1, f2, f3⟩ := ih (i + 1) (F.set (P.getD v 0).toNat (F.getD (P.getD v 0).toNat false || (P.getD (r.2[i]).toNat 0 == P.getD v 0))) (by omega) (by rw [List.length_set]; exact hF)
    refine ⟨F', by rw [step, f1], f2, fun p hp => ?_⟩
    rw [f3 p hp, getD_set_fl _ _ _ _ (by omega), List.drop_eq_getElem_cons hlt, List.any_cons]
    by_cases c : P.getD v 0 = (p : Int)
    · rw [if_pos (by omega), c, Int.toNat_natCast, beq_self_eq_true, Bool.true_and, Bool.true_and, Bool.or_assoc]
    · rw [if_neg (by omega), beqF c, Bool.false_and, Bool.false_and]
theorem fairV_L0 {m : Nat} {G : List (List Int)} (hG : Gr m G) (hs : ∀ l ∈ G, l.length ≤ 2000) (goals : Bool × List (Bool × List Int)) (pb : Bool) {P : List Int} (hP : PartOk m P) (n : Int) (b nb : Bool) (out : Bool × List Bool) {R : List (Bool × List Int)} (hR : R.map Prod.snd = G) (d : Nat) : ∀ (i : Nat) (F : List Bool), i + d = m → F.length = m →
    ∃ F' : List Bool, impl_fairVertices_L0 goals (pb, P) n (b, F) out (nb, R) (m : Int) (i : Int) = some (b, F') ∧ F'.length = m ∧ ∀ p : Nat, p < m → F'.getD p false = (F.getD p false || (List.range' i d).any fun v => P.getD v 0 == (p : Int) && (G.getD v []).any fun w => P.getD w.toNat 0 == (p : Int)) := by
  have hsm := hG.small
  have hRl : R.length = m := by rw [← hG.len, ← hR, List.length_map]
  induction d with
  | zero => intro i F hi hF; exact ⟨F, by rw [impl_fairVertices_L0_eq, gF (by omega)], hF, fun p hp => by simp⟩
  | succ d ih =>
    intro i F hi hF
    obtain ⟨r1, r2, r3⟩ := rows_at hR (k := i) (by rw [hG.len]; omega)
    have hsh := hs _ r3
    obtain ⟨F1, f1, f2, f3⟩ := fairV_L2 hsm goals pb hP n b out i (by omega) (nb, R) (m : Int) (i : Int) (R.getD i (true, [])) (by rw [r2]; omega) (by rw [r2]; exact hG.inn _ r3) (R.getD i (true, [])).2.length 0 F (by omega) hF
    have f1' : impl_fairVertices_L2 goals (pb, P) n (b, F) out (i : Int) (nb, R) (m : Int) (i : Int) (R.getD i (true, [])) ((R.getD i (true, [])).2.length : Int) 0 = _ := f1
    obtain ⟨F', g1, g2, g3⟩ := ih (i + 1) F1 (by omega) f2
    refine ⟨F', ?_, g2, fun p hp => ?_⟩
    · rw [impl_fairVertices_L0_eq, gT (by omega), gT (by omega), gT (by simp only; omega), Int.toNat_natCast]
      simp only [f1', some_bind]
      rw [up1 i (by omega), bind_id, g1]
    · rw [g3 p hp, f3 p hp, r2, List.drop_zero, List.range'_succ, List.any_cons, Bool.or_assoc]
theorem fairV_L6 {m : Nat} (hm : m ≤ 10000) (pb : Bool) {P : List Int} (hP : PartOk m P) (n : Int) (fair out : Bool × List Bool) (b : Bool) (t67 : Bool × List (Bool × List Int)) (t68 t69 : Int) (r : Bool × List Int) (hr : GoalOk m r.2) (d : Nat) : ∀ (i : Nat) (F : List Bool), i + d = r.2.length → F.length = m →
    ∃ F' : List Bool, impl_fairVertices_L6 (pb, P) n fair out (b, F) t67 t68 t69 r (r.2.length : Int) (i : Int) = some (b, F') ∧ F'.length = m ∧ ∀ p : Nat, p < m → F'.getD p false = (F.getD p false || hitB P (r.2.drop i) (p : Int)) := by
  have hPl := hP.1
  have hrl := hr.1
  induction d with
  | zero => intro i F hi hF; exact ⟨F, by rw [impl_fairVertices_L6_eq, gF (by omega)], hF, fun p hp => by rw [List.drop_of_length_le (by omega)]; simp [hitB]⟩
  | succ d ih =>
    intro i F hi hF
    have hlt : i < r.2.length := by omega
    have hx := hr.2 _ (List.getElem_mem hlt)
    obtain ⟨hv0, hv1⟩ := hP.2 (r.2[i]).toNat (by omega)
    obtain ⟨F', f1, f2, f3⟩ := ih (i + 1) (F.set (P.getD (r.2[i]).toNat 0).toNat true) (by omega) (by rw [List.length_set]; exact hF)
    refine ⟨F', ?_, f2, fun p hp => ?_⟩
    · rw [impl_fairVertices_L6_eq, gT (by omega), gT (by omega), gT (by omega), getD_at r.2 _ i hlt, up1 i (by omega), gT hx.1, gT (by simp only; omega), gT hv0, gT (by simp only; omega), bind_id, f1]
    · rw [f3 p hp, getD_set_fl _ _ _ _ (by omega), List.drop_eq_getElem_cons hlt, hitB, hitB, List.any_cons]
      by_cases c : P.getD (r.2[i]).toNat 0 = (p : Int)
      · rw [if_pos (by omega), c, beq_self_eq_true, Bool.true_or, Bool.or_true]
      · rw [if_neg (by omega), beqF c, Bool.false_or]
theorem fairV_L8 {m : Nat} (hm : m ≤ 10000) (part : Bool × List Int) (n : Int) (out : Bool × List Bool) (b hb : Bool) (Q : List Bool) (hQ : Q.length = m) (t67 : Bool × List (Bool × List Int)) (t68 t69 : Int) (d : Nat) : ∀ (i : Nat) (F : List Bool), i + d = m → F.length = m →
    ∃ F' : List Bool, impl_fairVertices_L8 part n (b, F) out (hb, Q) t67 t68 t69 (m : Int) (i : Int) = some (b, F') ∧ F'.length = m ∧ ∀ p : Nat, p < m → F'.getD p false = if i ≤ p then (F.getD p false && Q.getD p false) else F.getD p false := by
  induction d with
  | zero => intro i F hi hF; exact ⟨F, by rw [impl_fairVertices_L8_eq, gF (by omega)], hF, fun p hp => by rw [if_neg (by omega)]⟩
  | succ d ih =>
    intro i F hi hF
    have step : impl_fairVertices_L8 part n (b, F) out (hb, Q) t67 t68 t69 (m : Int) (i : Int) = impl_fairVertices_L8 part n (b, F.set i (F.getD i false && Q.getD i false)) out (hb, Q) t67 t68 t69 (m : Int) ((i + 1 : Nat) : Int) := by
      rw [impl_fairVertices_L8_eq, gT (by omega), gT (by omega), gT (by simp only; omega), up1 i (by omega)]
      simp only [Int.toNat_natCast, bind_id]
      cases hc : F.getD i false with
      | true => rw [cond_true, gT (by omega), gT (by omega), gT (by omega), gT (by omega), Bool.true_and]
      | false => rw [cond_false, gT (by omega), gT (by omega), Bool.false_and]
    obtain ⟨F', f1, f2, f3⟩ := ih (i + 1) (F.set i (F.getD i false && Q.getD i false)) (by omega) (by rw [List.length_set]; exact hF)
    refine ⟨F', by rw [step, f1], f2, fun p hp => ?_⟩
    rw [f3 p hp, getD_set_fl _ _ _ _ (by omega)]
    by_cases c : i = p
    · subst c
      rw [if_neg (by omega), if_pos rfl, if_pos (Nat.le_refl _)]
    · by_cases c2 : i + 1 ≤ p
      · rw [if_pos c2, if_neg c, if_pos (by omega)]
      · rw [if_neg c2, if_neg c, if_neg (by omega)]
theorem fairV_L4 {m : Nat} (hm : m ≤ 10000) (pb : Bool) {P : List Int} (hP : PartOk m P) (out : Bool × List Bool) (b gb : Bool) (Q : List (Bool × List Int)) (hQ : ∀ r ∈ Q, GoalOk m r.2) (hQl : Q.length ≤ 100000) (d : Nat) : ∀ (i : Nat) (F : List Bool), i + d = Q.length → F.length = m →
    ∃ F' : List Bool, impl_fairVertices_L4 (pb, P) (m : Int) (b, F) out (gb, Q) (Q.length : Int) (i : Int) = some (b, F') ∧ F'.length = m ∧ ∀ p : Nat, p < m → F'.getD p false = (F.getD p false && (Q.drop i).all fun r => hitB P r.2 (p : Int)) := by
  have hlim := lim_eq
  induction d with
  | zero => intro i F hi hF; exact ⟨F, by rw [impl_fairVertices_L4_eq, gF (by omega)], hF, fun p hp => by rw [List.drop_of_length_le (by omega)]; simp⟩
  | succ d ih =>
    intro i F hi hF
    have hlt : i < Q.length := by omega
    have hr := hQ _ (List.getElem_mem hlt)
    obtain ⟨F1, f1, f2, f3⟩ := fairV_L6 hm pb hP (m : Int) (b, F) out false (gb, Q) (Q.length : Int) (i : Int) Q[i] hr (Q[i]).2.length 0 (List.replicate m false) (by omega) (by simp)
    have f1' : impl_fairVertices_L6 (pb, P) (m : Int) (b, F) out (false, List.replicate m false) (gb, Q) (Q.length : Int) (i : Int) Q[i] ((Q[i]).2.length : Int) 0 = _ := f1
    obtain ⟨F2, g1, g2, g3⟩ := fairV_L8 hm (pb, P) (m : Int) out b false F1 f2 (gb, Q) (Q.length : Int) (i : Int) m 0 F (by omega) hF
    have g1' : impl_fairVertices_L8 (pb, P) (m : Int) (b, F) out (false, F1) (gb, Q) (Q.length : Int) (i : Int) (m : Int) 0 = _ := g1
    obtain ⟨F', k1, k2, k3⟩ := ih (i + 1) F2 (by omega) g2
    refine ⟨F', ?_, k2, fun p hp => ?_⟩
    · rw [impl_fairVertices_L4_eq, gT (by omega), gT (by omega), gT (by simp only; omega), gT (by omega), gT (by omega), gT (by omega), gT (by omega), getD_at Q _ i hlt]
      simp only [Int.toNat_natCast, f1', some_bind, f2, hF, g1']
      rw [up1 i (by omega), bind_id, k1]
    · have e0 : (List.replicate m false).getD p false = false := by
        rw [List.getD_eq_getElem?_getD, List.getElem?_replicate]
        split <;> rfl
      rw [k3 p hp, g3 p hp, if_pos (Nat.zero_le _), f3 p hp, e0, Bool.false_or, List.drop_zero, List.drop_eq_getElem_cons hlt, List.all_cons, Bool.and_assoc]
theorem fairV_L10 {m : Nat} (hm : m ≤ 10000) (pb : Bool) {P : List Int} (hP : PartOk m P) (b ob : Bool) (F : List Bool) (hF : F.length = m) (d : Nat) : ∀ (i : Nat) (o : List Bool), i + d = m → o.length = m →
    ∃ o' : List Bool, impl_fairVertices_L10 (pb, P) (b, F) (ob, o) (m : Int) (i : Int) = some (ob, o') ∧ o'.length = m ∧ ∀ v : Nat, v < m → o'.getD v false = if i ≤ v then F.getD (P.getD v 0).toNat false else o.getD v false := by
  have hPl := hP.1
  induction d with
  | zero => intro i o hi ho; exact ⟨o, by rw [impl_fairVertices_L10_eq, gF (by omega)], ho, fun p hp => by rw [if_neg (by omega)]⟩
  | succ d ih =>
    intro i o hi ho
    obtain ⟨hv0, hv1⟩ := hP.2 i (by omega)
    obtain ⟨o', f1, f2, f3⟩ := ih (i + 1) (o.set i (F.getD (P.getD i 0).toNat false)) (by omega) (by rw [List.length_set]; exact ho)
    refine ⟨o', ?_, f2, fun p hp => ?_⟩
    · rw [impl_fairVertices_L10_eq, gT (by omega), gT (by omega), gT (by simp only; omega), up1 i (by omega), Int.toNat_natCast, gT hv0, gT (by simp only; omega), gT (by omega), gT (by simp only; omega), bind_id, f1]
    · rw [f3 p hp, getD_set_fl _ _ _ _ (by omega)]
      by_cases c : i = p
      · subst c
        rw [if_neg (by omega), if_pos rfl, if_pos (Nat.le_refl _)]
      · by_cases c2 : i + 1 ≤ p
        · rw [if_pos c2, if_pos (by omega)]
        · rw [if_neg c2, if_neg c, if_neg (by omega)]
theorem fl_rep (m p : Nat) : (List.replicate m false).getD p false = false := by
  rw [List.getD_eq_getElem?_getD, List.getElem?_replicate]
  split <;> rfl
/-- the marks of the fair points -/
def fairF (G : List (List Int)) (P : List Int) (goals : List (List Int)) : List Bool := (List.range G.length).map fun v => fairB G P goals (P.getD v 0)
theorem fairVertices {m : Nat} {G : List (List Int)} (h1 : 1 ≤ m) (hG : Gr m G) (hs : ∀ l ∈ G, l.length ≤ 2000) (nb : Bool) {R : List (Bool × List Int)} (hR : R.map Prod.snd = G) {pb : Bool} {P : List Int} (hP : PartOk m P) (e : impl_parts (nb, R) = some (pb, P)) (gb : Bool) (Q : List (Bool × List Int)) (hQ : ∀ r ∈ Q, GoalOk m r.2) (hQl : Q.length ≤ 100000) : impl_fairVertices (nb, R) (gb, Q) = some (false, fairF G P (Q.map Prod.snd)) := by
  have hlim := lim_eq
  have hsm := hG.small
  have hRl : R.length = m := by rw [← hG.len, ← hR, List.length_map]
  have hPl := hP.1
  obtain ⟨F1, a1, a2, a3⟩ := fairV_L0 hG hs (gb, Q) pb hP (m : Int) false nb (false, List.replicate m false) hR m 0 (List.replicate m false) (by omega) (by simp)
  have a1' : impl_fairVertices_L0 (gb, Q) (pb, P) (m : Int) (false, List.replicate m false) (false, List.replicate m false) (nb, R) (m : Int) 0 = _ := a1
  obtain ⟨F2, b1, b2, b3⟩ := fairV_L4 hsm pb hP (false, List.replicate m false) false gb Q hQ hQl Q.length 0 F1 (by omega) a2
  have b1' : impl_fairVertices_L4 (pb, P) (m : Int) (false, F1) (false, List.replicate m false) (gb, Q) (Q.length : Int) 0 = _ := b1
  obtain ⟨F3, c1, c2, c3⟩ := fairV_L10 hsm pb hP false false F2 b2 m 0 (List.replicate m false) (by omega) (by simp)
  have c1' : impl_fairVertices_L10 (pb, P) (false, F2) (false, List.replicate m false) (m : Int) 0 = _ := c1
  have eF : F3 = fairF G P (Q.map Prod.snd) := by
    apply List.ext_getElem (by rw [c2, fairF, List.length_map, List.length_range, hG.len])
    intro v hv1 hv2
    obtain ⟨q0, q1⟩ := hP.2 v (by omega)
    have := c3 v (by omega)
    rw [if_pos (Nat.zero_le _), b3 _ (by omega), a3 _ (by omega), fl_rep, Bool.false_or, List.drop_zero, Int.toNat_of_nonneg q0] at this
    rw [List.getD_eq_getElem?_getD, List.getElem?_eq_getElem hv1, Option.getD_some] at this
    simp only [fairF, List.getElem_map, List.getElem_range]
    rw [this, fairB, arcB, hG.len, List.range_eq_range', List.all_map]
    rfl
  rw [impl_fairVertices_eq, e, some_bind]
  simp only [hRl, Int.toNat_natCast, List.length_replicate]
  rw [gT (by omega), gT (by omega), gT (by omega), gT (by omega), gT (by omega), gT (by omega), gT (by omega), gT (by omega), a1', some_bind]
  simp only [b1', some_bind, c1']
  rw [eF]
/-- the arrows within parts; those within one part -/
def withinL (G : List (List Int)) (P : List Int) : List (List Int) := (List.range G.length).map fun v => (G.getD v []).filter fun w => P.getD v 0 == P.getD w.toNat 0
def insideL (G : List (List Int)) (P : List Int) (own : Int) : List (List Int) := (List.range G.length).map fun v => (G.getD v []).filter fun w => P.getD v 0 == own && P.getD w.toNat 0 == own
theorem any_same {α : Type} {l : List α} {p q : α → Bool} (h : ∀ x ∈ l, p x = q x) : l.any p = l.any q := by
  induction l with
  | nil => rfl
  | cons a l ih => rw [List.any_cons, List.any_cons, h a List.mem_cons_self, ih fun x hx => h x (List.mem_cons_of_mem _ hx)]
theorem getD_set_pair (s : List (Bool × List Int)) (i j : Nat) (a : Bool × List Int) (hi : i < s.length) : (s.set i a).getD j (true, []) = if i = j then a else s.getD j (true, []) := by
  rw [List.getD_eq_getElem?_getD, List.getElem?_set, List.getD_eq_getElem?_getD]
  by_cases h : i = j
  · subst h; simp [hi]
  · simp [h]
theorem rep_pair (m j : Nat) : (List.replicate m ((true, []) : Bool × List Int)).getD j (true, []) = (true, []) := by
  rw [List.getD_eq_getElem?_getD, List.getElem?_replicate]
  split <;> rfl
theorem within_L2 {m : Nat} (hm : m ≤ 10000) (pb : Bool) {P : List Int} (hP : PartOk m P) (b : Bool) (v : Nat) (hv : v < m) (t13 : Bool × List (Bool × List Int)) (t14 t15 : Int) (r : Bool × List Int) (hr : r.2.length ≤ 100000) (hw : ∀ w ∈ r.2, 0 ≤ w ∧ w < (m : Int)) (d : Nat) : ∀ (i : Nat) (R : List (Bool × List Int)), i + d = r.2.length → R.length = m → (R.getD v (true, [])).2.length + d ≤ 200000 →
    ∃ R' : List (Bool × List Int), spec_l11Within_L2 (pb, P) (b, R) (v : Int) t13 t14 t15 r (r.2.length : Int) (i : Int) = some (b, R') ∧ R'.length = m ∧ ∀ j, j < m → (R'.getD j (true, [])).2 = if v = j then (R.getD v (true, [])).2 ++ (r.2.drop i).filter (fun w => P.getD v 0 == P.getD w.toNat 0) else (R.getD j (true, [])).2 := by
  have hlim := lim_eq
  have hPl := hP.1
  induction d with
  | zero =>
    intro i R hi hR ht
    refine ⟨R, by rw [spec_l11Within_L2_eq, gF (by omega)], hR, fun j hj => ?_⟩
    rw [List.drop_of_length_le (by omega), List.filter_nil, List.append_nil]
    split
    · rename_i e; rw [e]
    · rfl
  | succ d ih =>
    intro i R hi hR ht
    have hlt : i < r.2.length := by omega
    have hx := hw _ (List.getElem_mem hlt)
    rw [spec_l11Within_L2_eq, gT (by omega), gT (by omega), gT (by omega), getD_at r.2 _ i hlt, up1 i (by omega)]
    simp only [Int.toNat_natCast, bind_id]
    rw [gT (by omega), gT (by omega), gT hx.1, gT (by omega), List.drop_eq_getElem_cons hlt, List.filter_cons]
    cases hq : P.getD v 0 == P.getD (r.2[i]).toNat 0 with
    | true =>
      obtain ⟨R', a1, a2, a3⟩ := ih (i + 1) (R.set v ((R.getD v (true, [])).1 && false, (R.getD v (true, [])).2 ++ [r.2[i]])) (by omega) (by rw [List.length_set]; exact hR) (by rw [getD_set_pair _ _ _ _ (by omega), if_pos rfl, List.length_append, List.length_singleton]; omega)
      refine ⟨R', ?_, a2, fun j hj => ?_⟩
      · rw [cond_true, gT (by omega), gT (by omega), gT (by rw [List.length_singleton]; omega), gT (by omega), gT (by omega), bT (by simp), a1]
      · rw [a3 j hj, getD_set_pair _ _ _ _ (by omega), getD_set_pair _ _ _ _ (by omega), if_pos rfl, if_pos rfl]
        split
        · rw [List.append_assoc]; rfl
        · rfl
    | false =>
      obtain ⟨R', a1, a2, a3⟩ := ih (i + 1) R (by omega) hR (by omega)
      refine ⟨R', by rw [cond_false, a1], a2, fun j hj => ?_⟩
      rw [a3 j hj]
      simp only [Bool.false_eq_true, if_false]
theorem within_rows {m : Nat} {G : List (List Int)} (hG : Gr m G) (R' : List (Bool × List Int)) (h : R'.length = m) (q : Nat → Int → Bool) (hq : ∀ j, j < m → (R'.getD j (true, [])).2 = (G.getD j []).filter (q j)) : R'.map Prod.snd = (List.range G.length).map fun v => (G.getD v []).filter (q v) := by
  apply List.ext_getElem (by simp [h, hG.len])
  intro j h1 h2
  have h1' : j < R'.length := by simpa using h1
  have := hq j (by omega)
  simp only [List.getElem_map, List.getElem_range]
  rw [← this]
  simp [List.getD_eq_getElem?_getD, h1']
theorem within_spec {m : Nat} {G : List (List Int)} (hG : Gr m G) (hs : ∀ l ∈ G, l.length ≤ 2000) (nb : Bool) {R : List (Bool × List Int)} (hR : R.map Prod.snd = G) (pb : Bool) {P : List Int} (hP : PartOk m P) : ∃ W, spec_l11Within (nb, R) (pb, P) = some (false, W) ∧ W.map Prod.snd = withinL G P := by
  have hlim := lim_eq
  have hsm := hG.small
  have hRl : R.length = m := by rw [← hG.len, ← hR, List.length_map]
  have key : ∀ (d i : Nat) (Q : List (Bool × List Int)), i + d = m → Q.length = m → (∀ j, i ≤ j → (Q.getD j (true, [])).2 = []) →
      ∃ W, spec_l11Within_L0 (pb, P) (false, Q) (nb, R) (m : Int) (i : Int) = some (false, W) ∧ W.length = m ∧ ∀ j, j < m → (W.getD j (true, [])).2 = if i ≤ j then (G.getD j []).filter (fun w => P.getD j 0 == P.getD w.toNat 0) else (Q.getD j (true, [])).2 := by
    intro d
    induction d with
    | zero => intro i Q hi hQ _; exact ⟨Q, by rw [spec_l11Within_L0_eq, gF (by omega)], hQ, fun j hj => by rw [if_neg (by omega)]⟩
    | succ d ih =>
      intro i Q hi hQ hz
      obtain ⟨r1, r2, r3⟩ := rows_at hR (k := i) (by rw [hG.len]; omega)
      have hsh := hs _ r3
      have hz0 := hz i (Nat.le_refl _)
      obtain ⟨Q1, a1, a2, a3⟩ := within_L2 hsm pb hP false i (by omega) (nb, R) (m : Int) (i : Int) (R.getD i (true, [])) (by rw [r2]; omega) (by rw [r2]; exact hG.inn _ r3) (R.getD i (true, [])).2.length 0 Q (by omega) hQ (by rw [hz0, r2, List.length_nil]; omega)
      have a1' : spec_l11Within_L2 (pb, P) (false, Q) (i : Int) (nb, R) (m : Int) (i : Int) (R.getD i (true, [])) ((R.getD i (true, [])).2.length : Int) 0 = _ := a1
      obtain ⟨W, g1, g2, g3⟩ := ih (i + 1) Q1 (by omega) a2 (fun j hj => by
        by_cases c : j < m
        · rw [a3 j c, if_neg (by omega), hz j (by omega)]
        · rw [List.getD_eq_getElem?_getD, List.getElem?_eq_none (by omega)]
          rfl)
      refine ⟨W, ?_, g2, fun j hj => ?_⟩
      · rw [spec_l11Within_L0_eq, gT (by omega), gT (by omega), gT (by simp only; omega), Int.toNat_natCast]
        simp only [a1', some_bind]
        rw [up1 i (by omega), bind_id, g1]
      · rw [g3 j hj, a3 j hj]
        by_cases c : i = j
        · subst c
          rw [if_neg (by omega), if_pos rfl, if_pos (Nat.le_refl _), hz0, List.nil_append, List.drop_zero, r2]
        · by_cases c2 : i + 1 ≤ j
          · rw [if_pos c2, if_pos (by omega)]
          · rw [if_neg c2, if_neg c, if_neg (by omega)]
  obtain ⟨W, g1, g2, g3⟩ := key m 0 (List.replicate m (true, [])) (by omega) (by simp) (fun j _ => by rw [rep_pair])
  have g1' : spec_l11Within_L0 (pb, P) (false, List.replicate m (true, [])) (nb, R) (m : Int) 0 = _ := g1
  refine ⟨W, ?_, within_rows hG W g2 _ fun j hj => by rw [g3 j hj, if_pos (Nat.zero_le _)]⟩
  rw [spec_l11Within_eq]
  simp only [hRl, Int.toNat_natCast]
  rw [gT (by omega), gT (by omega), gT (by omega), gT (by omega), g1', some_bind]
theorem fairS_L0 {m : Nat} (hm : m ≤ 10000) (next goals : Bool × List (Bool × List Int)) (pb : Bool) {P : List Int} (hP : PartOk m P) (b wb : Bool) (met : Bool × List Int) (W : List (Bool × List Int)) (hW : W.length = m) (d : Nat) : ∀ (i : Nat) (F : List Bool), i + d = m → F.length = m →
    ∃ F' : List Bool, spec_l11Fair_L0 next goals (pb, P) (b, F) met (wb, W) (m : Int) (i : Int) = some (b, F') ∧ F'.length = m ∧ ∀ p : Nat, p < m → F'.getD p false = (F.getD p false || (List.range' i d).any fun v => P.getD v 0 == (p : Int) && decide (((W.getD v (true, [])).2.length : Int) > 0)) := by
  have hPl := hP.1
  induction d with
  | zero => intro i F hi hF; exact ⟨F, by rw [spec_l11Fair_L0_eq, gF (by omega)], hF, fun p hp => by simp⟩
  | succ d ih =>
    intro i F hi hF
    obtain ⟨hv0, hv1⟩ := hP.2 i (by omega)
    have step : spec_l11Fair_L0 next goals (pb, P) (b, F) met (wb, W) (m : Int) (i : Int) = spec_l11Fair_L0 next goals (pb, P) (b, F.set (P.getD i 0).toNat (F.getD (P.getD i 0).toNat false || decide (((W.getD i (true, [])).2.length : Int) > 0))) met (wb, W) (m : Int) ((i + 1 : Nat) : Int) := by
      rw [spec_l11Fair_L0_eq, gT (by omega), gT (by omega), gT (by simp only; omega), up1 i (by omega)]
      simp only [Int.toNat_natCast, bind_id]
      rw [gT (by omega), gT (by omega), gT (by omega), gT (by omega), gT hv0, gT (by omega)]
      cases hc : F.getD (P.getD i 0).toNat false with
      | true => rw [cond_true, gT hv0, gT (by omega), Bool.true_or]
      | false => rw [cond_false, gT hv0, gT (by omega), Bool.false_or]
    obtain ⟨F', f1, f2, f3⟩ := ih (i + 1) (F.set (P.getD i 0).toNat (F.getD (P.getD i 0).toNat false || decide (((W.getD i (true, [])).2.length : Int) > 0))) (by omega) (by rw [List.length_set]; exact hF)
    refine ⟨F', by rw [step, f1], f2, fun p hp => ?_⟩
    rw [f3 p hp, getD_set_fl _ _ _ _ (by omega), List.range'_succ, List.any_cons]
    by_cases c : P.getD i 0 = (p : Int)
    · rw [if_pos (by omega), c, Int.toNat_natCast, beq_self_eq_true, Bool.true_and, Bool.or_assoc]
    · rw [if_neg (by omega), beqF c, Bool.false_and, Bool.false_or]
theorem fairS_L4 {m : Nat} (hm : m ≤ 10000) (next goals : Bool × List (Bool × List Int)) (pb : Bool) {P : List Int} (hP : PartOk m P) (arrow : Bool × List Bool) (b : Bool) (jj : Nat) (hjj : jj ≤ 100000) (t54 : Bool × List (Bool × List Int)) (t55 t56 : Int) (r : Bool × List Int) (hr : GoalOk m r.2) (d : Nat) : ∀ (i : Nat) (M : List Int), i + d = r.2.length → M.length = m →
    ∃ M' : List Int, spec_l11Fair_L4 next goals (pb, P) arrow (b, M) (jj : Int) t54 t55 t56 r (r.2.length : Int) (i : Int) = some (b, M') ∧ M'.length = m ∧ ∀ p : Nat, p < m → M'.getD p 0 = if M.getD p 0 = (jj : Int) ∧ hitB P (r.2.drop i) (p : Int) = true then (jj : Int) + 1 else M.getD p 0 := by
  have hPl := hP.1
  have hrl := hr.1
  induction d with
  | zero => intro i M hi hM; exact ⟨M, by rw [spec_l11Fair_L4_eq, gF (by omega)], hM, fun p hp => by rw [List.drop_of_length_le (by omega), if_neg (by simp [hitB])]⟩
  | succ d ih =>
    intro i M hi hM
    have hlt : i < r.2.length := by omega
    have hx := hr.2 _ (List.getElem_mem hlt)
    obtain ⟨hv0, hv1⟩ := hP.2 (r.2[i]).toNat (by omega)
    have hcons : ∀ p : Int, hitB P (r.2.drop i) p = (P.getD (r.2[i]).toNat 0 == p || hitB P (r.2.drop (i + 1)) p) := fun p => by rw [hitB, List.drop_eq_getElem_cons hlt, List.any_cons]; rfl
    rw [spec_l11Fair_L4_eq, gT (by omega), gT (by omega), gT (by omega), getD_at r.2 _ i hlt, up1 i (by omega)]
    simp only [bind_id]
    rw [gT hx.1, gT (by omega), gT hv0, gT (by omega)]
    by_cases c : M.getD (P.getD (r.2[i]).toNat 0).toNat 0 = (jj : Int)
    · obtain ⟨M', f1, f2, f3⟩ := ih (i + 1) (M.set (P.getD (r.2[i]).toNat 0).toNat ((jj : Int) + 1)) (by omega) (by rw [List.length_set]; exact hM)
      refine ⟨M', ?_, f2, fun p hp => ?_⟩
      · rw [bT (by rw [c]; exact beq_self_eq_true _), gT hx.1, gT (by omega), gT hv0, gT (by omega), wr (by omega), f1]
      · rw [f3 p hp, getD_set_int _ _ _ _ (by omega), hcons]
        by_cases e : P.getD (r.2[i]).toNat 0 = (p : Int)
        · rw [if_pos (show (P.getD (r.2[i]).toNat 0).toNat = p by omega), if_neg (by omega), e, beq_self_eq_true, Bool.true_or, if_pos ⟨by rw [← c]; congr 1; omega, rfl⟩]
        · rw [if_neg (show ¬ (P.getD (r.2[i]).toNat 0).toNat = p by omega), beqF e, Bool.false_or]
    · obtain ⟨M', f1, f2, f3⟩ := ih (i + 1) M (by omega) hM
      refine ⟨M', ?_, f2, fun p hp => ?_⟩
      · rw [bF (beqF c), f1]
      · rw [f3 p hp, hcons]
        by_cases e : P.getD (r.2[i]).toNat 0 = (p : Int)
        · have : ¬ M.getD p 0 = (jj : Int) := fun q => c (by rw [← q]; congr 1; omega)
          rw [if_neg (fun q => this q.1), if_neg (fun q => this q.1)]
        · rw [beqF e, Bool.false_or]
theorem fairS_L2 {m : Nat} (hm : m ≤ 10000) (next goals : Bool × List (Bool × List Int)) (pb : Bool) {P : List Int} (hP : PartOk m P) (arrow : Bool × List Bool) (b gb : Bool) (Q : List (Bool × List Int)) (hQ : ∀ r ∈ Q, GoalOk m r.2) (hQl : Q.length ≤ 100000) (d : Nat) : ∀ (i : Nat) (M : List Int), i + d = Q.length → M.length = m → (∀ p : Nat, p < m → 0 ≤ M.getD p 0 ∧ M.getD p 0 ≤ (i : Int)) →
    ∃ M' : List Int, spec_l11Fair_L2 next goals (pb, P) arrow (b, M) (gb, Q) (Q.length : Int) (i : Int) = some (b, M') ∧ M'.length = m ∧ ∀ p : Nat, p < m → (M'.getD p 0 == (Q.length : Int)) = (M.getD p 0 == (i : Int) && (Q.drop i).all fun r => hitB P r.2 (p : Int)) := by
  induction d with
  | zero => intro i M hi hM h0; exact ⟨M, by rw [spec_l11Fair_L2_eq, gF (by omega)], hM, fun p hp => by rw [List.drop_of_length_le (by omega), List.all_nil, Bool.and_true, show i = Q.length by omega]⟩
  | succ d ih =>
    intro i M hi hM h0
    have hlt : i < Q.length := by omega
    have hr := hQ _ (List.getElem_mem hlt)
    obtain ⟨M1, a1, a2, a3⟩ := fairS_L4 hm next goals pb hP arrow b i (by omega) (gb, Q) (Q.length : Int) (i : Int) Q[i] hr (Q[i]).2.length 0 M (by omega) hM
    have a1' : spec_l11Fair_L4 next goals (pb, P) arrow (b, M) (i : Int) (gb, Q) (Q.length : Int) (i : Int) Q[i] ((Q[i]).2.length : Int) 0 = _ := a1
    obtain ⟨M', g1, g2, g3⟩ := ih (i + 1) M1 (by omega) a2 (fun p hp => by
      have := h0 p hp
      rw [a3 p hp]
      split <;> omega)
    refine ⟨M', ?_, g2, fun p hp => ?_⟩
    · rw [spec_l11Fair_L2_eq, gT (by omega), gT (by omega), gT (by simp only; omega), getD_at Q _ i hlt]
      simp only [a1', some_bind]
      rw [up1 i (by omega), bind_id, g1]
    · have h := h0 p hp
      rw [g3 p hp, a3 p hp, List.drop_eq_getElem_cons hlt, List.all_cons, List.drop_zero, ← Bool.and_assoc]
      congr 1
      by_cases c : M.getD p 0 = (i : Int)
      · rw [c, beq_self_eq_true, Bool.true_and]
        cases hitB P (Q[i]).2 (p : Int) with
        | true => rw [if_pos ⟨rfl, rfl⟩]; simp
        | false => rw [if_neg (by simp)]; exact beqF (by omega)
      · rw [if_neg (fun q => c q.1), beqF c, Bool.false_and]
        exact beqF (by omega)
theorem fairS_L6 {m : Nat} (hm : m ≤ 10000) (goals : Bool × List (Bool × List Int)) (pb : Bool) {P : List Int} (hP : PartOk m P) (ab mb : Bool) (A : List Bool) (hA : A.length = m) (M : List Int) (hM : M.length = m) (d : Nat) : ∀ (i : Nat) (b : Bool) (o : List Int), i + d = m → o.length ≤ i →
    ∃ b', spec_l11Fair_L6 goals (pb, P) (ab, A) (mb, M) (b, o) (m : Int) (i : Int) = some (b', o ++ ((List.range' i d).filter fun v => A.getD (P.getD v 0).toNat false && M.getD (P.getD v 0).toNat 0 == (goals.2.length : Int)).map Int.ofNat) := by
  have hlim := lim_eq
  have hPl := hP.1
  induction d with
  | zero => intro i b o hi ho; exact ⟨b, by rw [spec_l11Fair_L6_eq, gF (by omega)]; simp⟩
  | succ d ih =>
    intro i b o hi ho
    obtain ⟨hv0, hv1⟩ := hP.2 i (by omega)
    rw [spec_l11Fair_L6_eq, gT (by omega), gT (by omega), gT (by simp only; omega), up1 i (by omega)]
    simp only [Int.toNat_natCast, bind_id]
    rw [gT hv0, gT (by omega), List.range'_succ, List.filter_cons]
    cases hA1 : A.getD (P.getD i 0).toNat false with
    | true =>
      rw [cond_true, gT (by omega), gT (by omega), gT hv0, gT (by omega)]
      cases hM1 : M.getD (P.getD i 0).toNat 0 == (goals.2.length : Int) with
      | true =>
        obtain ⟨b', e⟩ := ih (i + 1) (b && false) (o ++ [(i : Int)]) (by omega) (by simp; omega)
        exact ⟨b', by rw [cond_true, gT (by simp; omega), e, if_pos (by rfl), List.append_assoc]; rfl⟩
      | false =>
        obtain ⟨b', e⟩ := ih (i + 1) b o (by omega) (by omega)
        exact ⟨b', by rw [cond_false, e, if_neg (by simp)]⟩
    | false =>
      obtain ⟨b', e⟩ := ih (i + 1) b o (by omega) (by omega)
      exact ⟨b', by rw [cond_false, e, if_neg (by simp)]⟩
/-- the fair points -/
def fairL (G : List (List Int)) (P : List Int) (goals : List (List Int)) : List Int := ((List.range G.length).filter fun v => fairB G P goals (P.getD v 0)).map Int.ofNat
theorem withinL_row {G : List (List Int)} {P : List Int} {v : Nat} (hv : v < G.length) : (withinL G P).getD v [] = (G.getD v []).filter fun w => P.getD v 0 == P.getD w.toNat 0 := by
  simp [withinL, List.getD_eq_getElem?_getD, hv]
theorem l11Fair {m : Nat} {G : List (List Int)} (h1 : 1 ≤ m) (hG : Gr m G) (hs : ∀ l ∈ G, l.length ≤ 2000) (nb : Bool) {R : List (Bool × List Int)} (hR : R.map Prod.snd = G) {pb : Bool} {P : List Int} (hP : PartOk m P) (e : spec_l11Parts (nb, R) = some (pb, P)) (gb : Bool) (Q : List (Bool × List Int)) (hQ : ∀ r ∈ Q, GoalOk m r.2) (hQl : Q.length ≤ 100000) : ∃ b, spec_l11Fair (nb, R) (gb, Q) = some (b, fairL G P (Q.map Prod.snd)) := by
  have hlim := lim_eq
  have hsm := hG.small
  have hRl : R.length = m := by rw [← hG.len, ← hR, List.length_map]
  have hPl := hP.1
  obtain ⟨W, w1, w2⟩ := within_spec hG hs nb hR pb hP
  have hWl : W.length = m := by have := congrArg List.length w2; simp [withinL, hG.len] at this; exact this
  obtain ⟨F1, a1, a2, a3⟩ := fairS_L0 hsm (nb, R) (gb, Q) pb hP false false (false, List.replicate m 0) W hWl m 0 (List.replicate m false) (by omega) (by simp)
  have a1' : spec_l11Fair_L0 (nb, R) (gb, Q) (pb, P) (false, List.replicate m false) (false, List.replicate m 0) (false, W) (m : Int) 0 = _ := a1
  have z0 : ∀ p, (List.replicate m (0 : Int)).getD p 0 = 0 := fun p => by
    rw [List.getD_eq_getElem?_getD, List.getElem?_replicate]
    split <;> rfl
  obtain ⟨M, b1, b2, b3⟩ := fairS_L2 hsm (nb, R) (gb, Q) pb hP (false, F1) false gb Q hQ hQl Q.length 0 (List.replicate m 0) (by omega) (by simp) (fun p hp => by rw [z0]; omega)
  have b1' : spec_l11Fair_L2 (nb, R) (gb, Q) (pb, P) (false, F1) (false, List.replicate m 0) (gb, Q) (Q.length : Int) 0 = _ := b1
  obtain ⟨b', c1⟩ := fairS_L6 hsm (gb, Q) pb hP false false F1 a2 M b2 m 0 true [] (by omega) (by simp)
  have c1' : spec_l11Fair_L6 (gb, Q) (pb, P) (false, F1) (false, M) (true, []) (m : Int) 0 = _ := c1
  refine ⟨b', ?_⟩
  rw [spec_l11Fair_eq, e, some_bind]
  simp only [w1, some_bind, hRl, hWl, Int.toNat_natCast]
  rw [gT (by omega), gT (by omega), gT (by omega), gT (by omega), gT (by omega), gT (by omega), gT (by omega), gT (by omega), a1', some_bind]
  simp only [b1', some_bind, c1', List.nil_append]
  rw [fairL, hG.len, List.range_eq_range']
  congr 3
  apply List.filter_congr
  intro v hv
  have hvm : v < m := by simpa using hv
  obtain ⟨q0, q1⟩ := hP.2 v hvm
  rw [b3 _ (by omega), a3 _ (by omega), fl_rep, Bool.false_or, z0, Int.toNat_of_nonneg q0, fairB, List.drop_zero, List.all_map]
  have e0 : ((0 : Int) == ((0 : Nat) : Int)) = true := by simp
  rw [e0, Bool.true_and]
  congr 1
  rw [arcB, hG.len, List.range_eq_range']
  apply any_same
  intro u hu
  have hum : u < m := by simpa using hu
  have erow : (W.getD u (true, [])).2 = (G.getD u []).filter fun w => P.getD u 0 == P.getD w.toNat 0 := by
    rw [← withinL_row (by rw [hG.len]; exact hum), ← w2]
    have : u < W.length := by omega
    simp [List.getD_eq_getElem?_getD, this]
  rw [erow]
  cases hc : P.getD u 0 == P.getD v 0 with
  | false => rfl
  | true =>
    rw [beq_iff_eq] at hc
    rw [Bool.true_and, Bool.true_and, Bool.eq_iff_iff, decide_eq_true_eq, List.any_eq_true]
    constructor
    · intro h
      obtain ⟨w, hw⟩ := List.exists_mem_of_length_pos (l := (G.getD u []).filter fun w => P.getD u 0 == P.getD w.toNat 0) (by omega)
      rw [List.mem_filter, beq_iff_eq] at hw
      exact ⟨w, hw.1, by rw [beq_iff_eq, ← hw.2, hc]⟩
    · rintro ⟨w, hw1, hw2⟩
      rw [beq_iff_eq] at hw2
      have := List.length_pos_of_mem (List.mem_filter.2 ⟨hw1, by rw [beq_iff_eq, hw2, hc]⟩ : w ∈ (G.getD u []).filter fun w => P.getD u 0 == P.getD w.toNat 0)
      omega
theorem inside_L2 {m : Nat} (hm : m ≤ 10000) (pb : Bool) {P : List Int} (hP : PartOk m P) (own : Int) (b : Bool) (v : Nat) (hv : v < m) (t13 : Bool × List (Bool × List Int)) (t14 t15 : Int) (r : Bool × List Int) (hr : r.2.length ≤ 100000) (hw : ∀ w ∈ r.2, 0 ≤ w ∧ w < (m : Int)) (d : Nat) : ∀ (i : Nat) (R : List (Bool × List Int)), i + d = r.2.length → R.length = m → (R.getD v (true, [])).2.length + d ≤ 200000 →
    ∃ R' : List (Bool × List Int), impl_inside_L2 (pb, P) own (b, R) (v : Int) t13 t14 t15 r (r.2.length : Int) (i : Int) = some (b, R') ∧ R'.length = m ∧ ∀ j, j < m → (R'.getD j (true, [])).2 = if v = j then (R.getD v (true, [])).2 ++ (r.2.drop i).filter (fun w => P.getD v 0 == own && P.getD w.toNat 0 == own) else (R.getD j (true, [])).2 := by
  have hlim := lim_eq
  have hPl := hP.1
  induction d with
  | zero =>
    intro i R hi hR ht
    refine ⟨R, by rw [impl_inside_L2_eq, gF (by omega)], hR, fun j hj => ?_⟩
    rw [List.drop_of_length_le (by omega), List.filter_nil, List.append_nil]
    split
    · rename_i e; rw [e]
    · rfl
  | succ d ih =>
    intro i R hi hR ht
    have hlt : i < r.2.length := by omega
    have hx := hw _ (List.getElem_mem hlt)
    rw [impl_inside_L2_eq, gT (by omega), gT (by omega), gT (by omega), getD_at r.2 _ i hlt, up1 i (by omega)]
    simp only [Int.toNat_natCast, bind_id]
    rw [gT (by omega), gT (by omega), List.drop_eq_getElem_cons hlt, List.filter_cons]
    cases hq : P.getD v 0 == own with
    | true =>
      rw [cond_true, gT hx.1, gT (by omega), Bool.true_and]
      cases hq2 : P.getD (r.2[i]).toNat 0 == own with
      | true =>
        obtain ⟨R', a1, a2, a3⟩ := ih (i + 1) (R.set v ((R.getD v (true, [])).1 && false, (R.getD v (true, [])).2 ++ [r.2[i]])) (by omega) (by rw [List.length_set]; exact hR) (by rw [getD_set_pair _ _ _ _ (by omega), if_pos rfl, List.length_append, List.length_singleton]; omega)
        refine ⟨R', ?_, a2, fun j hj => ?_⟩
        · rw [cond_true, gT (by omega), gT (by omega), gT (by rw [List.length_singleton]; omega), gT (by omega), gT (by omega), bT (by simp), a1]
        · rw [a3 j hj, getD_set_pair _ _ _ _ (by omega), getD_set_pair _ _ _ _ (by omega), if_pos rfl, if_pos rfl]
          split
          · rw [List.append_assoc, hq]; simp only [Bool.true_and]; rfl
          · rfl
      | false =>
        obtain ⟨R', a1, a2, a3⟩ := ih (i + 1) R (by omega) hR (by omega)
        refine ⟨R', by rw [cond_false, a1], a2, fun j hj => ?_⟩
        rw [a3 j hj, hq]
        simp only [Bool.true_and, Bool.false_eq_true, if_false]
    | false =>
      obtain ⟨R', a1, a2, a3⟩ := ih (i + 1) R (by omega) hR (by omega)
      refine ⟨R', by rw [cond_false, a1], a2, fun j hj => ?_⟩
      rw [a3 j hj, hq]
      simp only [Bool.false_and, Bool.false_eq_true, if_false]
theorem inside_impl {m : Nat} {G : List (List Int)} (hG : Gr m G) (hs : ∀ l ∈ G, l.length ≤ 2000) (nb : Bool) {R : List (Bool × List Int)} (hR : R.map Prod.snd = G) (pb : Bool) {P : List Int} (hP : PartOk m P) (own : Int) : ∃ W, impl_inside (nb, R) (pb, P) own = some (false, W) ∧ W.map Prod.snd = insideL G P own := by
  have hlim := lim_eq
  have hsm := hG.small
  have hRl : R.length = m := by rw [← hG.len, ← hR, List.length_map]
  have key : ∀ (d i : Nat) (Q : List (Bool × List Int)), i + d = m → Q.length = m → (∀ j, i ≤ j → (Q.getD j (true, [])).2 = []) →
      ∃ W, impl_inside_L0 (pb, P) own (false, Q) (nb, R) (m : Int) (i : Int) = some (false, W) ∧ W.length = m ∧ ∀ j, j < m → (W.getD j (true, [])).2 = if i ≤ j then (G.getD j []).filter (fun w => P.getD j 0 == own && P.getD w.toNat 0 == own) else (Q.getD j (true, [])).2 := by
    intro d
    induction d with
    | zero => intro i Q hi hQ _; exact ⟨Q, by rw [impl_inside_L0_eq, gF (by omega)], hQ, fun j hj => by rw [if_neg (by omega)]⟩
    | succ d ih =>
      intro i Q hi hQ hz
      obtain ⟨r1, r2, r3⟩ := rows_at hR (k := i) (by rw [hG.len]; omega)
      have hsh := hs _ r3
      have hz0 := hz i (Nat.le_refl _)
      obtain ⟨Q1, a1, a2, a3⟩ := inside_L2 hsm pb hP own false i (by omega) (nb, R) (m : Int) (i : Int) (R.getD i (true, [])) (by rw [r2]; omega) (by rw [r2]; exact hG.inn _ r3) (R.getD i (true, [])).2.length 0 Q (by omega) hQ (by rw [hz0, r2, List.length_nil]; omega)
      have a1' : impl_inside_L2 (pb, P) own (false, Q) (i : Int) (nb, R) (m : Int) (i : Int) (R.getD i (true, [])) ((R.getD i (true, [])).2.length : Int) 0 = _ := a1
      obtain ⟨W, g1, g2, g3⟩ := ih (i + 1) Q1 (by omega) a2 (fun j hj => by
        by_cases c : j < m
        · rw [a3 j c, if_neg (by omega), hz j (by omega)]
        · rw [List.getD_eq_getElem?_getD, List.getElem?_eq_none (by omega)]
          rfl)
      refine ⟨W, ?_, g2, fun j hj => ?_⟩
      · rw [impl_inside_L0_eq, gT (by omega), gT (by omega), gT (by simp only; omega), Int.toNat_natCast]
        simp only [a1', some_bind]
        rw [up1 i (by omega), bind_id, g1]
      · rw [g3 j hj, a3 j hj]
        by_cases c : i = j
        · subst c
          rw [if_neg (by omega), if_pos rfl, if_pos (Nat.le_refl _), hz0, List.nil_append, List.drop_zero, r2]
        · by_cases c2 : i + 1 ≤ j
          · rw [if_pos c2, if_pos (by omega)]
          · rw [if_neg c2, if_neg c, if_neg (by omega)]
  obtain ⟨W, g1, g2, g3⟩ := key m 0 (List.replicate m (true, [])) (by omega) (by simp) (fun j _ => by rw [rep_pair])
  have g1' : impl_inside_L0 (pb, P) own (false, List.replicate m (true, [])) (nb, R) (m : Int) 0 = _ := g1
  refine ⟨W, ?_, within_rows hG W g2 _ fun j hj => by rw [g3 j hj, if_pos (Nat.zero_le _)]⟩
  rw [impl_inside_eq]
  simp only [hRl, Int.toNat_natCast]
  rw [gT (by omega), gT (by omega), gT (by omega), gT (by omega), g1', some_bind]
/-! the nearest fair point -/
theorem meet_impl {m : Nat} (hm : m ≤ 10000) (sb fb : Bool) (s : List Int) (hs : s.length = m) (F : List Bool) (hF : F.length = m) (d : Nat) : ∀ (i : Nat) (best : Int), i + d = m → best < (m : Int) →
    impl_meeting_L0 (sb, s) best (fb, F) (m : Int) (i : Int) = some ((((List.range' i d).filter fun v => F.getD v false).map Int.ofNat).foldl (bstep s) best) := by
  induction d with
  | zero => intro i best hi hb; rw [impl_meeting_L0_eq, gF (by omega)]; simp
  | succ d ih =>
    intro i best hi hb
    rw [impl_meeting_L0_eq, gT (by omega), gT (by omega), gT (by simp only; omega), up1 i (by omega), List.range'_succ, List.filter_cons]
    simp only [Int.toNat_natCast, bind_id]
    cases hc : F.getD i false with
    | false => rw [cond_false, ih (i + 1) best (by omega) hb]; simp only [Bool.false_eq_true, if_false]
    | true =>
      simp only [cond_true, if_true, List.map_cons, List.foldl_cons]
      have ei : s.getD (Int.toNat (Int.ofNat i)) 0 = s.getD i 0 := rfl
      rw [gT (by omega), gT (by omega)]
      by_cases c1 : s.getD i 0 ≥ 0
      · rw [gT c1]
        by_cases c2 : best < 0
        · have e : bstep s best (Int.ofNat i) = (i : Int) := by unfold bstep; rw [ei, if_pos c1, if_pos c2]; rfl
          rw [gT c2, e, ih (i + 1) (i : Int) (by omega) (by omega)]
        · rw [gF c2, gT (by omega), gT (by omega), gT (by omega), gT (by omega)]
          by_cases c3 : s.getD i 0 < s.getD best.toNat 0
          · have e : bstep s best (Int.ofNat i) = (i : Int) := by unfold bstep; rw [ei, if_pos c1, if_neg c2, if_pos c3]; rfl
            rw [gT c3, e, ih (i + 1) (i : Int) (by omega) (by omega)]
          · have e : bstep s best (Int.ofNat i) = best := by unfold bstep; rw [ei, if_pos c1, if_neg c2, if_neg c3]
            rw [gF c3, e, ih (i + 1) best (by omega) hb]
      · have e : bstep s best (Int.ofNat i) = best := by unfold bstep; rw [ei, if_neg c1]
        rw [gF c1, e, ih (i + 1) best (by omega) hb]
theorem meet_spec {m : Nat} (hm : m ≤ 10000) (next : Bool × List (Bool × List Int)) (from_ : Bool × List Int) (goals : Bool × List (Bool × List Int)) (sb lb : Bool) (s : List Int) (hs : s.length = m) (l : List Int) (hl : l.length ≤ 100000) (hw : ∀ x ∈ l, 0 ≤ x ∧ x < (m : Int)) (d : Nat) : ∀ (i : Nat) (best : Int), i + d = l.length → best < (m : Int) →
    spec_l11Lasso_L0 next from_ goals (sb, s) best (lb, l) (l.length : Int) (i : Int) = some ((l.drop i).foldl (bstep s) best) := by
  induction d with
  | zero => intro i best hi hb; rw [spec_l11Lasso_L0_eq, gF (by omega), List.drop_of_length_le (by omega)]; rfl
  | succ d ih =>
    intro i best hi hb
    have hlt : i < l.length := by omega
    have hx := hw _ (List.getElem_mem hlt)
    rw [spec_l11Lasso_L0_eq, gT (by omega), gT (by omega), gT (by simp only; omega), getD_at l _ i hlt, up1 i (by omega), List.drop_eq_getElem_cons hlt, List.foldl_cons]
    simp only [bind_id]
    rw [gT hx.1, gT (by omega)]
    by_cases c1 : s.getD (l[i]).toNat 0 ≥ 0
    · rw [gT c1]
      by_cases c2 : best < 0
      · have e : bstep s best l[i] = l[i] := by unfold bstep; rw [if_pos c1, if_pos c2]
        rw [gT c2, e, ih (i + 1) l[i] (by omega) hx.2]
      · rw [gF c2, gT hx.1, gT (by omega), gT (by omega), gT (by omega)]
        by_cases c3 : s.getD (l[i]).toNat 0 < s.getD best.toNat 0
        · have e : bstep s best l[i] = l[i] := by unfold bstep; rw [if_pos c1, if_neg c2, if_pos c3]
          rw [gT c3, e, ih (i + 1) l[i] (by omega) hx.2]
        · have e : bstep s best l[i] = best := by unfold bstep; rw [if_pos c1, if_neg c2, if_neg c3]
          rw [gF c3, e, ih (i + 1) best (by omega) hb]
    · have e : bstep s best l[i] = best := by unfold bstep; rw [if_neg c1]
      rw [gF c1, e, ih (i + 1) best (by omega) hb]
theorem fairF_L (G : List (List Int)) (P : List Int) (goals : List (List Int)) : ((List.range G.length).filter fun v => (fairF G P goals).getD v false).map Int.ofNat = fairL G P goals := by
  rw [fairL]
  congr 1
  apply List.filter_congr
  intro v hv
  have hv' : v < G.length := by simpa using hv
  simp [fairF, List.getD_eq_getElem?_getD, hv']
theorem gr_filter {m : Nat} {G : List (List Int)} (hG : Gr m G) (hs : ∀ l ∈ G, l.length ≤ 2000) (q : Nat → Int → Bool) : Gr m ((List.range G.length).map fun v => (G.getD v []).filter (q v)) ∧ ∀ l ∈ (List.range G.length).map fun v => (G.getD v []).filter (q v), l.length ≤ 2000 := by
  have row : ∀ l ∈ (List.range G.length).map fun v => (G.getD v []).filter (q v), ∃ r ∈ G, l.length ≤ r.length ∧ ∀ w ∈ l, w ∈ r := by
    intro l hl
    obtain ⟨v, hv, rfl⟩ := List.mem_map.1 hl
    have hv' : v < G.length := by simpa using hv
    have e : G.getD v [] = G[v] := by simp [List.getD_eq_getElem?_getD, hv']
    exact ⟨G.getD v [], by rw [e]; exact List.getElem_mem _, List.length_filter_le _ _, fun w hw => (List.mem_filter.1 hw).1⟩
  refine ⟨⟨by rw [List.length_map, List.length_range]; exact hG.len, fun l hl w hw => ?_, fun l hl => ?_, hG.small⟩, fun l hl => ?_⟩
  · obtain ⟨r, r1, _, r3⟩ := row l hl
    exact hG.inn r r1 w (r3 w hw)
  · obtain ⟨r, r1, r2, _⟩ := row l hl
    exact Nat.le_trans r2 (hG.short r r1)
  · obtain ⟨r, r1, r2, _⟩ := row l hl
    exact Nat.le_trans r2 (hs r r1)
theorem filter_row {G : List (List Int)} (q : Nat → Int → Bool) {v : Nat} (hv : v < G.length) : ((List.range G.length).map fun v => (G.getD v []).filter (q v)).getD v [] = (G.getD v []).filter (q v) := by
  simp [List.getD_eq_getElem?_getD, hv]
/-- a row of a graph that is turned around -/
def colL (G : List (List Int)) (n j : Nat) : List Int := (List.range n).flatMap fun v => ((G.getD v []).filter fun w => w == (j : Int)).map fun _ => (v : Int)
theorem turn1_row (v : Int) (j : Nat) (row : List Int) : ∀ o : List (List Int), (∀ w ∈ row, 0 ≤ w ∧ w < (o.length : Int)) → (turn1 v row o).getD j [] = o.getD j [] ++ (row.filter fun w => w == (j : Int)).map fun _ => v := by
  induction row with
  | nil => intro o _; simp [turn1]
  | cons a row ih =>
    intro o hw
    have ha := hw a List.mem_cons_self
    have := ih (o.set a.toNat (o.getD a.toNat [] ++ [v])) (fun x hx => by rw [List.length_set]; exact hw x (List.mem_cons_of_mem _ hx))
    rw [turn1] at this
    rw [turn1, List.foldl_cons, this, getD_set_row _ _ _ _ (by omega), List.filter_cons]
    by_cases c : a = (j : Int)
    · rw [if_pos (by omega), if_pos (by rw [beq_iff_eq]; exact c), List.map_cons, List.append_assoc, show a.toNat = j by omega]
      rfl
    · rw [if_neg (by omega), if_neg (by rw [beq_iff_eq]; exact c)]
theorem turnL_col {G : List (List Int)} (hg : ∀ l ∈ G, ∀ w ∈ l, 0 ≤ w ∧ w < (G.length : Int)) (j : Nat) : (turnL G).getD j [] = colL G G.length j := by
  have key : ∀ n, n ≤ G.length → ((List.range n).foldl (fun o (v : Nat) => turn1 (v : Int) (G.getD v []) o) (List.replicate G.length [])).getD j [] = colL G n j := by
    intro n
    induction n with
    | zero =>
      intro _
      rw [List.range_zero, List.foldl_nil, colL, List.range_zero, List.flatMap_nil, List.getD_eq_getElem?_getD, List.getElem?_replicate]
      split <;> rfl
    | succ n ih =>
      intro hn
      have hlt : n < G.length := by omega
      have e : G.getD n [] = G[n] := by simp [List.getD_eq_getElem?_getD, hlt]
      obtain ⟨t1, _, _⟩ := turns_facts G hg n (by omega)
      rw [List.range_succ, List.foldl_append, List.foldl_cons, List.foldl_nil, turn1_row _ _ _ _ (fun w hw => by rw [t1]; exact hg _ (by rw [e]; exact List.getElem_mem hlt) w hw), ih (by omega), colL, colL, List.range_succ, List.flatMap_append]
      simp
  exact key G.length (Nat.le_refl _)
/-! the search sees what it comes to alone -/
theorem vsteps_que (k : Nat) (ws : List Int) : ∀ s q : List Int, ∀ w ∈ (ws.foldl (vstep k) (s, q)).2, w ∈ q ∨ w ∈ ws := by
  induction ws with
  | nil => intro s q w h; exact Or.inl h
  | cons a ws ih =>
    intro s q w h
    rw [List.foldl_cons] at h
    unfold vstep at h
    by_cases c : s.getD a.toNat 0 < 0
    · simp only [if_pos c] at h
      rcases ih _ _ w h with h | h
      · rcases List.mem_append.1 h with h | h
        · exact Or.inl h
        · rw [List.mem_singleton] at h
          exact Or.inr (by rw [h]; exact List.mem_cons_self)
      · exact Or.inr (List.mem_cons_of_mem _ h)
    · simp only [if_neg c] at h
      rcases ih _ _ w h with h | h
      · exact Or.inl h
      · exact Or.inr (List.mem_cons_of_mem _ h)
theorem bfs_cong {G G' : List (List Int)} (C : Int → Prop) (hrow : ∀ k, C k → G.getD k.toNat [] = G'.getD k.toNat [] ∧ ∀ w ∈ G.getD k.toNat [], C w) (n : Nat) : ∀ s q : List Int, (∀ k ∈ q, C k) → bfsL G n s q = bfsL G' n s q := by
  induction n with
  | zero => intro s q _; rfl
  | succ n ih =>
    intro s q hq
    cases q with
    | nil => rfl
    | cons k q =>
      obtain ⟨e, h⟩ := hrow k (hq k List.mem_cons_self)
      show bfsL G n _ _ = bfsL G' n _ _
      rw [← e]
      refine ih _ _ fun w hw => ?_
      rcases vsteps_que _ _ _ _ w hw with c | c
      · exact hq w (List.mem_cons_of_mem _ c)
      · exact h w c
theorem farL_cong {G G' : List (List Int)} (hl : G.length = G'.length) (C : Int → Prop) (hrow : ∀ k, C k → G.getD k.toNat [] = G'.getD k.toNat [] ∧ ∀ w ∈ G.getD k.toNat [], C w) (l : List Int) (h : ∀ k ∈ l, C k) : farL G l = farL G' l := by
  rw [farL, farL, hl]
  exact bfs_cong C hrow _ _ _ h
theorem wayL_cong {G G' : List (List Int)} (s : List Int) (C : Int → Prop) (hrow : ∀ k, C k → G.getD k.toNat [] = G'.getD k.toNat [] ∧ ∀ w ∈ G.getD k.toNat [], C w) (n : Nat) : ∀ (v : Int) (out : List Int), C v → wayL G s n v out = wayL G' s n v out := by
  induction n with
  | zero => intro v out _; rfl
  | succ n ih =>
    intro v out hv
    obtain ⟨e, h⟩ := hrow v hv
    have en : nearL G s v = nearL G' s v := by rw [nearL, nearL, e]
    have hc : C (nearL G s v) := by
      unfold nearL
      cases q : (G.getD v.toNat []).find? fun w => s.getD w.toNat 0 == s.getD v.toNat 0 - 1 with
      | none => exact hv
      | some w => exact h w (List.mem_of_find?_eq_some q)
    rw [wayL, wayL, ← en, ih _ _ hc]
/-- within one part the two graphs have the same ways -/
theorem least_inside {m : Nat} {G : List (List Int)} (hG : Gr m G) (hs : ∀ l ∈ G, l.length ≤ 2000) (P : List Int) (own : Int) (fr to : List Int) (hf : ∀ x ∈ fr, (0 ≤ x ∧ x < (m : Int)) ∧ P.getD x.toNat 0 = own) (ht : ∀ x ∈ to, (0 ≤ x ∧ x < (m : Int)) ∧ P.getD x.toNat 0 = own) : leastL (insideL G P own) fr to = leastL (withinL G P) fr to := by
  have i1 : Gr m (insideL G P own) ∧ ∀ l ∈ insideL G P own, l.length ≤ 2000 := gr_filter hG hs fun v w => P.getD v 0 == own && P.getD w.toNat 0 == own
  have w1 : Gr m (withinL G P) ∧ ∀ l ∈ withinL G P, l.length ≤ 2000 := gr_filter hG hs fun v w => P.getD v 0 == P.getD w.toNat 0
  have li : (insideL G P own).length = m := i1.1.len
  have lw : (withinL G P).length = m := w1.1.len
  have gi : ∀ l ∈ insideL G P own, ∀ w ∈ l, 0 ≤ w ∧ w < ((insideL G P own).length : Int) := by rw [li]; exact i1.1.inn
  have gw : ∀ l ∈ withinL G P, ∀ w ∈ l, 0 ≤ w ∧ w < ((withinL G P).length : Int) := by rw [lw]; exact w1.1.inn
  have ri : ∀ v, v < m → (insideL G P own).getD v [] = (G.getD v []).filter fun w => P.getD v 0 == own && P.getD w.toNat 0 == own := fun v hv => filter_row (fun v w => P.getD v 0 == own && P.getD w.toNat 0 == own) (by rw [hG.len]; exact hv)
  have rw_ : ∀ v, v < m → (withinL G P).getD v [] = (G.getD v []).filter fun w => P.getD v 0 == P.getD w.toNat 0 := fun v hv => filter_row (fun v w => P.getD v 0 == P.getD w.toNat 0) (by rw [hG.len]; exact hv)
  have hin : ∀ v : Nat, v < m → ∀ w ∈ G.getD v [], 0 ≤ w ∧ w < (m : Int) := fun v hv w hw => by
    have hv' : v < G.length := by rw [hG.len]; exact hv
    have e : G.getD v [] = G[v] := by simp [List.getD_eq_getElem?_getD, hv']
    exact hG.inn _ (List.getElem_mem hv') w (e ▸ hw)
  have row : ∀ k, ((0 ≤ k ∧ k < (m : Int)) ∧ P.getD k.toNat 0 = own) → (insideL G P own).getD k.toNat [] = (withinL G P).getD k.toNat [] ∧ ∀ w ∈ (insideL G P own).getD k.toNat [], (0 ≤ w ∧ w < (m : Int)) ∧ P.getD w.toNat 0 = own := by
    intro k hk
    rw [ri k.toNat (by omega), rw_ k.toNat (by omega), hk.2]
    refine ⟨?_, fun w hw => ?_⟩
    · apply List.filter_congr
      intro w _
      rw [beq_self_eq_true, Bool.true_and, Bool.eq_iff_iff, beq_iff_eq, beq_iff_eq]
      exact eq_comm
    · rw [List.mem_filter, Bool.and_eq_true, beq_iff_eq, beq_iff_eq] at hw
      exact ⟨hin k.toNat (by omega) w hw.1, hw.2.2⟩
  have trow : ∀ k, ((0 ≤ k ∧ k < (m : Int)) ∧ P.getD k.toNat 0 = own) → (turnL (insideL G P own)).getD k.toNat [] = (turnL (withinL G P)).getD k.toNat [] ∧ ∀ w ∈ (turnL (insideL G P own)).getD k.toNat [], (0 ≤ w ∧ w < (m : Int)) ∧ P.getD w.toNat 0 = own := by
    intro k hk
    constructor
    · rw [turnL_col gi, turnL_col gw, li, lw, colL, colL]
      have key : ∀ v ∈ List.range m, (((insideL G P own).getD v []).filter fun w => w == ((k.toNat : Nat) : Int)) = (((withinL G P).getD v []).filter fun w => w == ((k.toNat : Nat) : Int)) := by
        intro v hv
        have hv' : v < m := by simpa using hv
        rw [ri v hv', rw_ v hv', List.filter_filter, List.filter_filter]
        apply List.filter_congr
        intro w _
        by_cases c : w = ((k.toNat : Nat) : Int)
        · have e : P.getD w.toNat 0 = own := by rw [c, Int.toNat_natCast]; exact hk.2
          rw [e, beq_self_eq_true, Bool.and_true]
        · rw [beqF c, Bool.false_and, Bool.false_and]
      rw [List.flatMap_def, List.flatMap_def]
      congr 1
      apply List.map_congr_left
      intro v hv
      rw [key v hv]
    · intro w hw
      obtain ⟨v, hv, rfl, hvk⟩ := (mem_turnL gi k.toNat w).1 hw
      rw [li] at hv
      rw [ri v hv, List.mem_filter, Bool.and_eq_true, beq_iff_eq] at hvk
      exact ⟨by omega, by rw [Int.toNat_natCast]; exact hvk.2.1⟩
  have tl : (turnL (insideL G P own)).length = (turnL (withinL G P)).length := by
    have a := (turns_facts _ gi _ (Nat.le_refl _)).1
    have b := (turns_facts _ gw _ (Nat.le_refl _)).1
    have a' : (turnL (insideL G P own)).length = (insideL G P own).length := a
    have b' : (turnL (withinL G P)).length = (withinL G P).length := b
    rw [a', b', li, lw]
  have ef := farL_cong tl (fun k => (0 ≤ k ∧ k < (m : Int)) ∧ P.getD k.toNat 0 = own) trow to ht
  rw [leastL, leastL, ef, li, lw]
  by_cases c : bestL (farL (turnL (withinL G P)) to) fr < 0
  · simp only [if_pos c]
  · simp only [if_neg c]
    have hb := ((bestL_from (farL (turnL (withinL G P)) to) fr).resolve_left c).1
    rw [wayL_cong _ (fun k => (0 ≤ k ∧ k < (m : Int)) ∧ P.getD k.toNat 0 = own) row m _ _ (hf _ hb)]
/-! ways within a part -/
theorem isl_both {g : Int → List Int} {x y m k : Int} (h : IsL g x m) (h2 : IsL g y k) : m = k ↔ Scc g x y := by
  constructor
  · rintro rfl
    exact h.1.trans h2.1.symm
  · intro e
    exact (h.of e).one h2
/-- the numbers of the parts -/
def PartsOf (m : Nat) (G : List (List Int)) (P : List Int) : Prop := P.length = m ∧ ∀ x, 0 ≤ x ∧ x < (m : Int) → IsL (gG G) x (P.getD x.toNat 0)
theorem way_in {m : Nat} {G : List (List Int)} (hG : Gr m G) {a b : Int} (h : Way (gG G) a b) (ha : 0 ≤ a ∧ a < (m : Int)) : 0 ≤ b ∧ b < (m : Int) := Way.closed (P := fun y => 0 ≤ y ∧ y < (m : Int)) (fun x _ y hy => gG_in hG x y hy) h ha
theorem PartsOf.ok {m : Nat} {G : List (List Int)} {P : List Int} (hG : Gr m G) (h : PartsOf m G P) : PartOk m P := ⟨h.1, fun v hv => by
  have := h.2 (v : Int) (by omega)
  rw [Int.toNat_natCast] at this
  exact way_in hG this.1.1 (by omega)⟩
theorem PartsOf.same {m : Nat} {G : List (List Int)} {P : List Int} (h : PartsOf m G P) {x y : Int} (hx : 0 ≤ x ∧ x < (m : Int)) (hy : 0 ≤ y ∧ y < (m : Int)) : P.getD x.toNat 0 = P.getD y.toNat 0 ↔ Scc (gG G) x y := isl_both (h.2 x hx) (h.2 y hy)
theorem mem_within {m : Nat} {G : List (List Int)} (hG : Gr m G) {P : List Int} {x y : Int} (hx : 0 ≤ x ∧ x < (m : Int)) : y ∈ gG (withinL G P) x ↔ y ∈ gG G x ∧ P.getD x.toNat 0 = P.getD y.toNat 0 := by
  rw [gG_at _ hx.1, gG_at _ hx.1, withinL_row (by rw [hG.len]; omega), List.mem_filter, beq_iff_eq]
theorem way_within {m : Nat} {G : List (List Int)} (hG : Gr m G) {P : List Int} (h : PartsOf m G P) {a b : Int} (hw : Way (gG G) a b) : (0 ≤ a ∧ a < (m : Int)) → Way (gG G) b a → Way (gG (withinL G P)) a b := by
  induction hw with
  | here a => exact fun _ _ => Way.here a
  | step e hw ih =>
    intro ha hb
    have hc := gG_in hG _ _ e
    have hs := (h.same ha hc).2 ⟨Way.arc e, hw.trans hb⟩
    exact Way.step ((mem_within hG ha).2 ⟨e, hs⟩) (ih hc (hb.snoc e))
theorem clone_any (r : Bool × List Int) (hf : r.1 = true → r.2 = []) (hl : r.2.length ≤ 1048576) : slices_Clone_int r = some r := by
  obtain ⟨b, l⟩ := r
  cases b with
  | false => exact cloneInt_F l hl
  | true =>
    obtain rfl : l = [] := hf rfl
    rw [slices_Clone_int_eq, cond_true]
/-- those of a goal that lie in a part -/
def goalIn (P goal : List Int) (own : Int) : List Int := goal.filter fun k => P.getD k.toNat 0 == own
theorem delete_fair {m : Nat} (hm : m ≤ 10000) (pb : Bool) {P : List Int} (hP : PartOk m P) (meet : Int) (hme : 0 ≤ meet ∧ meet < (m : Int)) (l : Bool × List Int) (hl : GoalOk m l.2) : slices_DeleteFunc_int_by_fairLasso_1 l ((pb, P), (meet, ())) = some (l.1, goalIn P l.2 (P.getD meet.toNat 0)) := by
  have hPl := hP.1
  have hll := hl.1
  have one : ∀ x, 0 ≤ x ∧ x < (m : Int) → impl_fairLasso_1 x (pb, P) meet = some (!(P.getD x.toNat 0 == P.getD meet.toNat 0)) := fun x hx => by
    rw [impl_fairLasso_1_eq, gT hx.1, gT (by simp only; omega), gT hme.1, gT (by simp only; omega)]
    rfl
  have hX := loop_find l.2 (fun s => !(P.getD s.toNat 0 == P.getD meet.toNat 0)) (fun i => slices_IndexFunc_int_by_fairLasso_1_L0 l ((pb, P), (meet, ())) (l.2.length : Int) i) (fun i hi => by
    rw [slices_IndexFunc_int_by_fairLasso_1_L0_eq, gT (by omega), gT (by omega), gT (by omega), getD_at l.2 _ i hi, one _ (hl.2 _ (List.getElem_mem hi)), some_bind, up1 i (by omega), bind_id]) (by rw [slices_IndexFunc_int_by_fairLasso_1_L0_eq, gF (by omega)])
  have e : goalIn P l.2 (P.getD meet.toNat 0) = l.2.filter (fun s => !!(P.getD s.toNat 0 == P.getD meet.toNat 0)) := by
    rw [goalIn]
    congr 1
    funext x
    rw [Bool.not_not]
  rw [slices_DeleteFunc_int_by_fairLasso_1_eq, slices_IndexFunc_int_by_fairLasso_1_eq, e]
  exact delete_of (f := l.1) (fun x => 0 ≤ x ∧ x < (m : Int)) (fun s i j => slices_DeleteFunc_int_by_fairLasso_1_L0 s ((pb, P), (meet, ())) i j) (by omega) hl.2 (fun s i j hij hj hn2 hP2 => by
    rw [slices_DeleteFunc_int_by_fairLasso_1_L0_eq, gT (by simp only; omega), gT (by omega), gT (by simp only; omega), getD_at s _ j hj, one _ (hP2 _ (List.getElem_mem hj)), some_bind, gT (by omega), gT (by simp only; omega), up1 j (by omega), up1 i (by omega), bind_id, bind_id, Int.toNat_natCast]) (fun s i hn => by rw [slices_DeleteFunc_int_by_fairLasso_1_L0_eq, gF (by simp only; omega)]) hX
theorem lasso_L4 {m : Nat} (hm : m ≤ 10000) (pb : Bool) {P : List Int} (hP : PartOk m P) (meet : Int) (hme : 0 ≤ meet ∧ meet < (m : Int)) (stem : Bool × List Int) (inner : Bool × List (Bool × List Int)) (loop : Bool × List Int) (t77 : Bool × List (Bool × List Int)) (t78 t79 : Int) (l : Bool × List Int) (hl : GoalOk m l.2) (d : Nat) : ∀ (i : Nat) (b : Bool) (o : List Int), i + d = l.2.length → o.length ≤ i →
    ∃ b', spec_l11Lasso_L4 meet stem (pb, P) inner loop (b, o) t77 t78 t79 l (l.2.length : Int) (i : Int) = some (b', o ++ goalIn P (l.2.drop i) (P.getD meet.toNat 0)) := by
  have hlim := lim_eq
  have hPl := hP.1
  have hll := hl.1
  induction d with
  | zero => intro i b o hi ho; exact ⟨b, by rw [spec_l11Lasso_L4_eq, gF (by omega), List.drop_of_length_le (by omega)]; simp [goalIn]⟩
  | succ d ih =>
    intro i b o hi ho
    have hlt : i < l.2.length := by omega
    have hx := hl.2 _ (List.getElem_mem hlt)
    rw [spec_l11Lasso_L4_eq, gT (by omega), gT (by omega), gT (by omega), getD_at l.2 _ i hlt, up1 i (by omega), List.drop_eq_getElem_cons hlt, goalIn, List.filter_cons]
    simp only [bind_id]
    rw [gT hx.1, gT (by omega), gT hme.1, gT (by omega)]
    cases hq : P.getD (l.2[i]).toNat 0 == P.getD meet.toNat 0 with
    | true =>
      obtain ⟨b', e⟩ := ih (i + 1) (b && false) (o ++ [l.2[i]]) (by omega) (by simp; omega)
      exact ⟨b', by rw [cond_true, gT (by simp; omega), e, if_pos rfl, List.append_assoc]; rfl⟩
    | false =>
      obtain ⟨b', e⟩ := ih (i + 1) b o (by omega) (by omega)
      exact ⟨b', by rw [cond_false, e]; simp only [Bool.false_eq_true, if_false]; rfl⟩
/-! ways as lists -/
def lastD (l : List Int) : Int := l.getD (l.length - 1) 0
def Arcs (G : List (List Int)) (l : List Int) : Prop := ∀ i, i + 1 < l.length → l.getD (i + 1) 0 ∈ G.getD (l.getD i 0).toNat []
theorem getD_app (l t : List Int) (i : Nat) : (l ++ t).getD i 0 = if i < l.length then l.getD i 0 else t.getD (i - l.length) 0 := by
  rw [List.getD_eq_getElem?_getD, List.getD_eq_getElem?_getD, List.getD_eq_getElem?_getD]
  split
  · rename_i h; rw [List.getElem?_append_left h]
  · rename_i h; rw [List.getElem?_append_right (by omega)]
theorem getD_drop1 (l : List Int) (i : Nat) : (l.drop 1).getD i 0 = l.getD (i + 1) 0 := by
  rw [List.getD_eq_getElem?_getD, List.getElem?_drop, List.getD_eq_getElem?_getD, Nat.add_comm]
theorem getD_join (l g : List Int) (h1 : 1 ≤ l.length) (h2 : 1 ≤ g.length) (h : g.getD 0 0 = lastD l) (i : Nat) (hi : l.length ≤ i + 1) : (l ++ g.drop 1).getD i 0 = g.getD (i + 1 - l.length) 0 := by
  rw [getD_app]
  split
  · have e : i = l.length - 1 := by omega
    rw [show i + 1 - l.length = 0 by omega, h, lastD, e]
  · rw [getD_drop1]
    congr 1
    omega
theorem arcs_join {G : List (List Int)} {l g : List Int} (hl : Arcs G l) (hg : Arcs G g) (h1 : 1 ≤ l.length) (h2 : 1 ≤ g.length) (h : g.getD 0 0 = lastD l) : Arcs G (l ++ g.drop 1) := by
  intro i hi
  rw [List.length_append, List.length_drop] at hi
  by_cases c : i + 1 < l.length
  · have := hl i c
    rw [getD_app, getD_app, if_pos c, if_pos (by omega)]
    exact this
  · rw [getD_join l g h1 h2 h (i + 1) (by omega), getD_join l g h1 h2 h i (by omega)]
    have := hg (i + 1 - l.length) (by omega)
    rw [show i + 1 + 1 - l.length = i + 1 - l.length + 1 by omega]
    exact this
theorem last_join {l g : List Int} (h1 : 1 ≤ l.length) (h2 : 1 ≤ g.length) (h : g.getD 0 0 = lastD l) : lastD (l ++ g.drop 1) = lastD g := by
  rw [lastD, getD_join l g h1 h2 h _ (by rw [List.length_append, List.length_drop]; omega), lastD, List.length_append, List.length_drop]
  congr 1
  omega
theorem getD_in {l : List Int} {i : Nat} (h : i < l.length) : l.getD i 0 ∈ l := by
  have e : l.getD i 0 = l[i] := by simp [List.getD_eq_getElem?_getD, h]
  rw [e]
  exact List.getElem_mem h
theorem mem_getD {l : List Int} {x : Int} (h : x ∈ l) : ∃ i, i < l.length ∧ l.getD i 0 = x := by
  obtain ⟨i, hi, rfl⟩ := List.getElem_of_mem h
  exact ⟨i, hi, by simp [List.getD_eq_getElem?_getD, hi]⟩

end Go.Proofs.Ytnnoohfloniinaa.R
