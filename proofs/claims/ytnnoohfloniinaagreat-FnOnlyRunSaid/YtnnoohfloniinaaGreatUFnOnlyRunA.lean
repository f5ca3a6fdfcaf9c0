/- The plain law of FnOnlyRun: what the two functions compute is the same. -/
import Derived.Test.YtnnoohfloniinaaGreatEFnOnlyRun
import Derived.Laws.MathBits
set_option linter.all false
namespace Go.Proofs.YtnnoohfloniinaaGreat.R
open Go.Rf
/-- The greatest word of a width. -/
def top (wide : Int) : Int := 2 ^ wide.toNat - 1
theorem top_in {wide : Int} (h : 1 ≤ wide ∧ wide ≤ 64) : 1 ≤ top wide ∧ top wide ≤ 18446744073709551615 := by
  obtain ⟨n, rfl⟩ := Int.eq_ofNat_of_zero_le (show 0 ≤ wide by omega)
  have h1 := pow_le64 (n := n) (by omega)
  have h2 : (2 : Nat) ^ 1 ≤ 2 ^ n := Nat.pow_le_pow_right (by decide) (by omega)
  have e : ((2 : Int) ^ n) = ((2 ^ n : Nat) : Int) := by simp
  simp only [top, Int.toNat_natCast, e]
  omega
theorem l1In_eq (n lo hi : Int) : spec_l1In n lo hi = some (decide (lo ≤ n ∧ n ≤ hi)) := by
  rw [spec_l1In_eq]
  by_cases h : n ≥ lo
  · rw [gT h]; congr 1; apply decide_eq_decide.mpr; omega
  · rw [gF h]; congr 1; symm; apply decide_eq_false; omega
theorem bShr_eq (k : IntKind) (x : Int) (n : Nat) (h : n ≤ k.bits) : bShr k x (n : Int) = x / 2 ^ n := by
  unfold bShr
  rw [show min ((n : Int)).toNat k.bits = n by simp only [Int.toNat_natCast]; omega, Int.fdiv_eq_ediv_of_nonneg _ (Int.le_of_lt (Int.pow_pos (by decide)))]
theorem and_top {wide a : Int} (hw : 1 ≤ wide ∧ wide ≤ 64) (ha : U64 a) : bAnd .u64 a (top wide) = a % (top wide + 1) := by
  obtain ⟨n, rfl⟩ := Int.eq_ofNat_of_zero_le (show 0 ≤ wide by omega)
  obtain ⟨m, rfl⟩ := Int.eq_ofNat_of_zero_le ha.1
  have e : ((2 : Int) ^ n) = ((2 ^ n : Nat) : Int) := by simp
  have hm : m < 2 ^ 64 := by have := ha.2; simp; omega
  have hp := pow_le64 (n := n) (by omega)
  have h0 : 0 < (2 : Nat) ^ n := Nat.two_pow_pos _
  have e2 : top ((n : Nat) : Int) = ((2 ^ n - 1 : Nat) : Int) := by
    simp only [top, Int.toNat_natCast, e]
    omega
  have e3 : top ((n : Nat) : Int) + 1 = ((2 ^ n : Nat) : Int) := by rw [e2]; omega
  rw [e3, e2, bAnd_eq m (2 ^ n - 1) hm (by simp; omega), Nat.and_two_pow_sub_one_eq_mod]
  rfl
/-- Words of a width. -/
def W5 (wide a : Int) : Prop := 0 ≤ a ∧ a ≤ top wide
theorem W5.u64 {wide a : Int} (hw : 1 ≤ wide ∧ wide ≤ 64) (h : W5 wide a) : U64 a := ⟨h.1, by have := h.2; have := top_in hw; omega⟩
inductive TypedV (wide : Int) : List Int → List Int → Prop
  | nil : TypedV wide [] []
  | snoc {ks st : List Int} {k v : Int} : TypedV wide ks st → W5 wide v → (k = 2 → v ≤ 1) → TypedV wide (ks ++ [k]) (st ++ [v])
theorem TypedV.inv {wide : Int} {ks st : List Int} (h : TypedV wide ks st) : (ks = [] ∧ st = []) ∨ ∃ ks' st' k v, ks = ks' ++ [k] ∧ st = st' ++ [v] ∧ TypedV wide ks' st' ∧ W5 wide v ∧ (k = 2 → v ≤ 1) := by
  cases h with
  | nil => exact .inl ⟨rfl, rfl⟩
  | snoc h1 h2 h3 => exact .inr ⟨_, _, _, _, rfl, rfl, h1, h2, h3⟩
theorem TypedV.len {wide : Int} {ks st : List Int} (h : TypedV wide ks st) : ks.length = st.length := by
  induction h with
  | nil => rfl
  | snoc _ _ _ ih => simp [ih]
theorem shl_one_i64 (i : Nat) (h : i < 63) : bShl .i64 1 (i : Int) = ((2 ^ i : Nat) : Int) := by
  unfold bShl
  have e : min ((i : Int)).toNat (IntKind.i64.bits) = i := by
    simp only [Int.toNat_natCast, IntKind.bits]
    omega
  rw [e, Int.one_mul]
  have h2 : (2 : Nat) ^ i < 2 ^ 63 := Nat.pow_lt_pow_right (by decide) h
  have h3 : ((2 ^ i : Nat) : Int) < ((2 ^ 63 : Nat) : Int) := by exact_mod_cast h2
  have h4 : (0 : Int) ≤ ((2 ^ i : Nat) : Int) := Int.natCast_nonneg _
  rw [wr]
  · simp
  · simp at h4 h3; omega
theorem any_loop {α ρ : Type} (l : List α) (q : α → Bool) (y : ρ) (F : Int → Option (ρ ⊕ Unit))
    (hs : ∀ (i : Nat) (h : i < l.length), F (i : Int) = bif q l[i] then some (.inl y) else F ((i + 1 : Nat) : Int)) (he : F (l.length : Int) = some (.inr ())) : F 0 = some (bif l.any q then .inl y else .inr ()) := by
  have := loop_all l (fun x => !q x) (β := ρ ⊕ Unit) (.inr ()) (.inl y) F (fun i h => by rw [hs i h]; cases q l[i] <;> rfl) he
  rw [this, List.any_eq_not_all_not]
  cases (l.all fun x => !q x) <;> rfl
theorem all_loop {α : Type} (l : List α) (q : α → Bool) (F : Int → Option (Bool ⊕ Unit))
    (hs : ∀ (i : Nat) (h : i < l.length), F (i : Int) = bif !q l[i] then some (.inl false) else F ((i + 1 : Nat) : Int)) (he : F (l.length : Int) = some (.inr ())) : F 0 = some (if l.all q = true then .inr () else .inl false) := by
  have := loop_all l q (β := Bool ⊕ Unit) (.inr ()) (.inl false) F (fun i h => by rw [hs i h]; cases q l[i] <;> rfl) he
  rw [this]
  cases l.all q <;> rfl
theorem all_upto (n : Nat) (q : Nat → Bool) (F : Int → Option (Bool ⊕ Unit)) (hs : ∀ (i : Nat), i < n → F (i : Int) = bif !q i then some (.inl false) else F ((i + 1 : Nat) : Int)) (he : F (n : Int) = some (.inr ())) :
    F 0 = some (if (List.range n).all q = true then .inr () else .inl false) :=
  all_loop (List.range n) q F (fun i h => by rw [List.getElem_range]; exact hs i (by simpa using h)) (by rw [List.length_range]; exact he)
/-- Do the numbers of a list rise from 0 on, below a bound? -/
def rises (n : Int) (l : List Int) : Bool := (List.range l.length).all fun i => decide (0 ≤ l.getD i 0 ∧ l.getD i 0 < n) && (decide (i = 0) || decide (l.getD (i - 1) 0 < l.getD i 0))
theorem rises_length {n : Int} {l : List Int} (h : rises n l = true) (h0 : 0 ≤ n) : (l.length : Int) ≤ n := by
  have key : ∀ i : Nat, i < l.length → (i : Int) ≤ l.getD i 0 := by
    intro i
    induction i with
    | zero =>
      intro hi
      have := (List.all_eq_true.1 h) 0 (List.mem_range.2 hi)
      rw [Bool.and_eq_true, decide_eq_true_eq] at this
      exact this.1.1
    | succ i ih =>
      intro hi
      have := (List.all_eq_true.1 h) (i + 1) (List.mem_range.2 hi)
      rw [Bool.and_eq_true, decide_eq_true_eq, Bool.or_eq_true, decide_eq_true_eq, decide_eq_true_eq] at this
      have h2 := ih (by omega)
      rcases this.2 with h3 | h3
      · omega
      · simp only [Nat.add_sub_cancel] at h3
        omega
  by_cases hl : l.length = 0
  · omega
  · have h1 := key (l.length - 1) (by omega)
    have := (List.all_eq_true.1 h) (l.length - 1) (List.mem_range.2 (by omega))
    rw [Bool.and_eq_true, decide_eq_true_eq] at this
    have := this.1.2
    omega
theorem getD_nat {α : Type} (l : List α) (z : α) (i : Nat) : l.getD (Int.toNat (i : Int)) z = l.getD i z := by rw [Int.toNat_natCast]
theorem isIncreasing (l : Bool × List Int) (n : Int) (hl : l.2.length ≤ 1048576) : impl_isIncreasing l n = some (rises n l.2) := by
  rw [impl_isIncreasing_eq, all_upto l.2.length (fun i => decide (0 ≤ l.2.getD i 0 ∧ l.2.getD i 0 < n) && (decide (i = 0) || decide (l.2.getD (i - 1) 0 < l.2.getD i 0))) (fun i => impl_isIncreasing_L0 l n l (l.2.length : Int) i) (fun i h => by
    rw [impl_isIncreasing_L0_eq, gT (by omega), gT (by omega), gT (by omega), getD_nat, up1 i (by omega), bind_id]
    by_cases c1 : 0 ≤ l.2.getD i 0 ∧ l.2.getD i 0 < n
    · rw [gF (by omega), gF (by omega), decide_eq_true c1, Bool.true_and]
      by_cases c2 : i = 0
      · rw [gF (by omega), decide_eq_true c2]; rfl
      · rw [gT (by omega), gT (by rw [wr (by omega)]; omega), gT (by rw [wr (by omega)]; omega), dn1 i (by omega) (by omega), getD_nat, decide_eq_false c2, Bool.false_or]
        by_cases c3 : l.2.getD (i - 1) 0 < l.2.getD i 0
        · rw [gF (by omega), decide_eq_true c3]; rfl
        · rw [gT (by omega), decide_eq_false c3]; rfl
    · rw [decide_eq_false c1]
      by_cases c4 : l.2.getD i 0 < 0
      · rw [gT c4]; rfl
      · rw [gF c4, gT (by omega)]; rfl) (by rw [impl_isIncreasing_L0_eq, gF (by omega)]), some_bind]
  unfold rises
  generalize (List.range l.2.length).all _ = q
  cases q <;> rfl
theorem top32 : top 32 = 4294967295 := by decide
theorem mulWords {x y : Int} (hx : 0 ≤ x ∧ x < 65536) (hy : 0 ≤ y ∧ y < 65536) : bits_Mul x y = some (0, x * y) := by
  have a1 : bShr .u64 x 32 = 0 := by rw [show (32 : Int) = ((32 : Nat) : Int) from rfl, bShr_eq .u64 x 32 (by decide)]; exact Int.ediv_eq_zero_of_lt hx.1 (by omega)
  have a2 : bShr .u64 y 32 = 0 := by rw [show (32 : Int) = ((32 : Nat) : Int) from rfl, bShr_eq .u64 y 32 (by decide)]; exact Int.ediv_eq_zero_of_lt hy.1 (by omega)
  have b1 : bAnd .u64 x 4294967295 = x := by rw [← top32, and_top (by omega) ⟨hx.1, by omega⟩, top32, Int.emod_eq_of_lt hx.1 (by omega)]
  have b2 : bAnd .u64 y 4294967295 = y := by rw [← top32, and_top (by omega) ⟨hy.1, by omega⟩, top32, Int.emod_eq_of_lt hy.1 (by omega)]
  have h0 : 0 ≤ x * y := Int.mul_nonneg hx.1 hy.1
  have h1 : x * y < 65536 * 65536 := by
    have := Int.mul_le_mul (show x ≤ 65535 by omega) (show y ≤ 65535 by omega) hy.1 (by omega)
    omega
  have w0 : IntKind.u64.wrap 0 = 0 := wru (by omega)
  have w1 : IntKind.u64.wrap (x * y) = x * y := wru (by omega)
  have s1 : bShr .u64 (x * y) 32 = 0 := by rw [show (32 : Int) = ((32 : Nat) : Int) from rfl, bShr_eq .u64 _ 32 (by decide)]; exact Int.ediv_eq_zero_of_lt h0 (by omega)
  have s0 : bShr .u64 0 32 = 0 := by decide
  have c0 : bAnd .u64 0 4294967295 = 0 := by decide
  rw [bits_Mul_eq, bits_Mul64_eq, a1, a2, b1, b2, w1, s1]
  simp only [Int.zero_mul, Int.mul_zero, Int.add_zero, w0, s0, c0, some_bind]
/-- a number put into its place in a rising list, unless it is there -/
def insL (n : Int) : List Int → List Int
  | [] => [n]
  | x :: l => if x < n then x :: insL n l else if x = n then x :: l else n :: x :: l
def Rising (l : List Int) : Prop := l.Pairwise (· < ·)
theorem insL_mem (n : Int) (l : List Int) : ∀ x, x ∈ insL n l ↔ x = n ∨ x ∈ l := by
  induction l with
  | nil => intro x; simp [insL]
  | cons y l ih =>
    intro x
    unfold insL
    split
    · rw [List.mem_cons, ih, List.mem_cons]
      constructor
      · rintro (h | h | h)
        · exact .inr (.inl h)
        · exact .inl h
        · exact .inr (.inr h)
      · rintro (h | h | h)
        · exact .inr (.inl h)
        · exact .inl h
        · exact .inr (.inr h)
    · split
      · rename_i h1 h2
        constructor
        · exact .inr
        · rintro (h | h)
          · rw [h, ← h2]; exact List.mem_cons_self
          · exact h
      · rw [List.mem_cons]
theorem insL_rising (n : Int) (l : List Int) (h : Rising l) : Rising (insL n l) := by
  induction l with
  | nil => exact List.pairwise_singleton _ _
  | cons y l ih =>
    obtain ⟨h1, h2⟩ := List.pairwise_cons.1 h
    unfold insL
    split
    · rename_i c
      refine List.pairwise_cons.2 ⟨fun x hx => ?_, ih h2⟩
      rcases (insL_mem n l x).1 hx with rfl | hx
      · exact c
      · exact h1 x hx
    · split
      · exact h
      · rename_i c1 c2
        refine List.pairwise_cons.2 ⟨fun x hx => ?_, h⟩
        rcases List.mem_cons.1 hx with rfl | hx
        · omega
        · have := h1 x hx
          omega
/-- rising lists with the same members are the same -/
theorem rising_ext : ∀ (a b : List Int), Rising a → Rising b → (∀ x, x ∈ a ↔ x ∈ b) → a = b := by
  intro a
  induction a with
  | nil =>
    intro b _ _ h
    cases b with
    | nil => rfl
    | cons y b => exact absurd ((h y).2 List.mem_cons_self) (by simp)
  | cons x a ih =>
    intro b ha hb h
    cases b with
    | nil => exact absurd ((h x).1 List.mem_cons_self) (by simp)
    | cons y b =>
      obtain ⟨a1, a2⟩ := List.pairwise_cons.1 ha
      obtain ⟨b1, b2⟩ := List.pairwise_cons.1 hb
      have hxy : x = y := by
        have h1 := (h x).1 List.mem_cons_self
        have h2 := (h y).2 List.mem_cons_self
        rcases List.mem_cons.1 h1 with e | h1
        · exact e
        · rcases List.mem_cons.1 h2 with e | h2
          · exact e.symm
          · have := b1 x h1
            have := a1 y h2
            omega
      subst hxy
      rw [ih b a2 b2 (fun z => ?_)]
      constructor
      · intro hz
        rcases List.mem_cons.1 ((h z).1 (List.mem_cons_of_mem _ hz)) with e | hz2
        · have := a1 z hz
          omega
        · exact hz2
      · intro hz
        rcases List.mem_cons.1 ((h z).2 (List.mem_cons_of_mem _ hz)) with e | hz2
        · have := b1 z hz
          omega
        · exact hz2
/-- the numbers of a list, rising, each once -/
def sortL (l : List Int) : List Int := l.foldl (fun o n => insL n o) []
theorem foldl_ins (l : List Int) : ∀ o, Rising o → Rising (l.foldl (fun o n => insL n o) o) ∧ ∀ x, x ∈ l.foldl (fun o n => insL n o) o ↔ x ∈ o ∨ x ∈ l := by
  induction l with
  | nil => intro o h; exact ⟨h, by simp⟩
  | cons n l ih =>
    intro o h
    obtain ⟨q1, q2⟩ := ih (insL n o) (insL_rising n o h)
    refine ⟨q1, fun x => ?_⟩
    rw [List.foldl_cons, q2, insL_mem, List.mem_cons]
    constructor
    · rintro ((h | h) | h)
      · exact .inr (.inl h)
      · exact .inl h
      · exact .inr (.inr h)
    · rintro (h | h | h)
      · exact .inl (.inr h)
      · exact .inl (.inl h)
      · exact .inr h
theorem sortL_rising (l : List Int) : Rising (sortL l) := (foldl_ins l [] List.Pairwise.nil).1
theorem sortL_mem (l : List Int) : ∀ x, x ∈ sortL l ↔ x ∈ l := by
  intro x
  rw [sortL, (foldl_ins l [] List.Pairwise.nil).2]
  simp
def under (n : Int) (l : List Int) : Nat := (l.takeWhile fun x => decide (x < n)).length
theorem under_le (n : Int) (l : List Int) : under n l ≤ l.length := by
  unfold under
  exact (List.takeWhile_sublist _).length_le
theorem insL_eq (n : Int) (l : List Int) : insL n l = if under n l < l.length ∧ l.getD (under n l) 0 = n then l else l.take (under n l) ++ n :: l.drop (under n l) := by
  induction l with
  | nil => rfl
  | cons x l ih =>
    unfold insL
    by_cases h : x < n
    · have e : under n (x :: l) = under n l + 1 := by simp [under, h]
      rw [if_pos h, ih, e]
      by_cases c : under n l < l.length ∧ l.getD (under n l) 0 = n
      · rw [if_pos c, if_pos ⟨by simp; omega, by simpa using c.2⟩]
      · rw [if_neg c, if_neg (fun hh => c ⟨by have := hh.1; simp at this; omega, by simpa using hh.2⟩)]
        rfl
    · have e : under n (x :: l) = 0 := by simp [under, h]
      rw [if_neg h, e]
      by_cases c : x = n
      · rw [if_pos c, if_pos ⟨by simp, by simpa using c⟩]
      · rw [if_neg c, if_neg (fun hh => c (by simpa using hh.2))]
        rfl
/-- where the search for a place stops -/
theorem under_step (n : Int) (l : List Int) (d : Nat) : ∀ i : Nat, i + d = l.length → (i < l.length ∧ l.getD i 0 < n → under n (l.drop i) = under n (l.drop (i + 1)) + 1) ∧ (¬ (i < l.length ∧ l.getD i 0 < n) → under n (l.drop i) = 0) := by
  intro i hi
  constructor
  · rintro ⟨h1, h2⟩
    have e : l.getD i 0 = l[i] := by simp [List.getD_eq_getElem?_getD, h1]
    rw [e] at h2
    rw [List.drop_eq_getElem_cons h1]
    unfold under
    rw [List.takeWhile_cons, if_pos (by simpa using h2), List.length_cons]
  · intro h
    by_cases h1 : i < l.length
    · have e : l.getD i 0 = l[i] := by simp [List.getD_eq_getElem?_getD, h1]
      have h2 : ¬ l[i] < n := fun hh => h ⟨h1, by rw [e]; exact hh⟩
      rw [List.drop_eq_getElem_cons h1]
      unfold under
      rw [List.takeWhile_cons, if_neg (by simpa using h2)]
      rfl
    · rw [List.drop_of_length_le (by omega)]
      rfl
theorem l1Put_L0 (b : Bool) (l : List Int) (n : Int) (hl : l.length ≤ 1048576) (d : Nat) : ∀ i : Nat, i + d = l.length → spec_l1Put_L0 (b, l) n (i : Int) = some ((i + under n (l.drop i) : Nat) : Int) := by
  induction d with
  | zero =>
    intro i hi
    rw [spec_l1Put_L0_eq, gF (by simp only; omega), List.drop_of_length_le (by omega)]
    rfl
  | succ d ih =>
    intro i hi
    obtain ⟨h1, h2⟩ := under_step n l (d + 1) i hi
    rw [spec_l1Put_L0_eq, gT (by simp only; omega), gT (by omega), gT (by simp only; omega), getD_nat, up1 i (by omega), bind_id]
    by_cases c : l.getD i 0 < n
    · rw [gT c, ih (i + 1) (by omega), h1 ⟨by omega, c⟩]
      congr 2
      omega
    · rw [gF c, h2 (fun h => c h.2)]
      rfl
theorem insL_length (n : Int) (l : List Int) : (insL n l).length ≤ l.length + 1 := by
  induction l with
  | nil => simp [insL]
  | cons x l ih =>
    unfold insL
    split
    · simp only [List.length_cons]; omega
    · split <;> simp
theorem l1PutF (b : Bool) (l : List Int) (n : Int) (hl : l.length ≤ 1000000) : ∃ f, spec_l1Put (b, l) n = some (f, insL n l) ∧ (f = true → b = true ∧ l ≠ []) := by
  have hlim := lim_eq
  have h := l1Put_L0 b l n (by omega) l.length 0 (by omega)
  rw [List.drop_zero, Nat.zero_add] at h
  have h' : spec_l1Put_L0 (b, l) n 0 = _ := h
  have hk := under_le n l
  rw [spec_l1Put_eq, h', some_bind, insL_eq]
  generalize under n l = k at hk
  have hfin : ∀ (x : Option (Bool × List Int)), x = (bif decide (0 ≤ (k : Int)) then
      bif decide ((k : Int) ≤ ((b, l).2.length : Int)) then
      bif decide (([] : List Int).length + (((b, l).2.take (Int.toNat (k : Int))).drop 0).length ≤ lim) then
      bif decide (([] ++ (((b, l).2.take (Int.toNat (k : Int))).drop 0)).length + [n].length ≤ lim) then
      bif decide (0 ≤ (k : Int)) then
      bif decide ((k : Int) ≤ ((b, l).2.length : Int)) then
      bif decide ((([] ++ (((b, l).2.take (Int.toNat (k : Int))).drop 0)) ++ [n]).length + (((b, l).2.take (b, l).2.length).drop (Int.toNat (k : Int))).length ≤ lim) then
      some (false, ((([] ++ (((b, l).2.take (Int.toNat (k : Int))).drop 0)) ++ [n]) ++ (((b, l).2.take (b, l).2.length).drop (Int.toNat (k : Int)))))
      else none else none else none else none else none else none else none) → x = some (false, l.take k ++ n :: l.drop k) := by
    rintro x rfl
    rw [gT (by omega), gT (by simp only; omega), gT (by simp; omega), gT (by simp; omega), gT (by omega), gT (by simp only; omega), gT (by simp; omega)]
    simp
  by_cases c : k < l.length
  · rw [gT (by simp only; omega), gT (by omega), gT (by simp only; omega), getD_nat]
    by_cases c2 : l.getD k 0 = n
    · rw [bT (by rw [beq_iff_eq]; exact c2), if_pos ⟨c, c2⟩]
      exact ⟨b, rfl, fun h => ⟨h, fun e => by rw [e] at c; simp at c⟩⟩
    · rw [bF (beqF c2), if_neg (fun h => c2 h.2)]
      exact ⟨false, hfin _ rfl, by simp⟩
  · rw [gF (by simp only; omega), if_neg (fun h => c h.1)]
    exact ⟨false, hfin _ rfl, by simp⟩
theorem l1Put (b : Bool) (l : List Int) (n : Int) (hl : l.length ≤ 1000000) : ∃ f, spec_l1Put (b, l) n = some (f, insL n l) := by
  obtain ⟨f, e, _⟩ := l1PutF b l n hl
  exact ⟨f, e⟩
theorem marked_L0 (t : Bool × List Bool) (hl : t.2.length ≤ 100000) (d : Nat) : ∀ (i : Nat) (o : List Int), i + d = t.2.length → o.length ≤ i →
    impl_marked_L0 (false, o) t (t.2.length : Int) (i : Int) = some (false, o ++ ((List.range' i d).filter fun j => t.2.getD j false).map Int.ofNat) := by
  have hlim := lim_eq
  induction d with
  | zero =>
    intro i o hi ho
    rw [impl_marked_L0_eq, gF (by omega)]
    simp
  | succ d ih =>
    intro i o hi ho
    have hlt : i < t.2.length := by omega
    rw [impl_marked_L0_eq, gT (by omega), gT (by omega), gT (by omega), getD_nat, up1 i (by omega), bind_id, bind_id, List.range'_succ, List.filter_cons]
    cases t.2.getD i false with
    | true => rw [cond_true, gT (by simp; omega), Bool.and_false, ih (i + 1) _ (by omega) (by simp; omega)]; simp
    | false => rw [cond_false, ih (i + 1) o (by omega) (by omega)]; simp
theorem marked (t : Bool × List Bool) (hl : t.2.length ≤ 100000) : impl_marked t = some (false, ((List.range t.2.length).filter fun j => t.2.getD j false).map Int.ofNat) := by
  have h := marked_L0 t hl t.2.length 0 [] (by omega) (by simp)
  have h' : impl_marked_L0 (false, []) t (t.2.length : Int) 0 = _ := h
  rw [impl_marked_eq, h', some_bind, List.range_eq_range']
  rfl
theorem bOr_i64 (a b : Nat) (ha : a < 2 ^ 62) (hb : b < 2 ^ 62) : bOr .i64 (a : Int) (b : Int) = ((a ||| b : Nat) : Int) := by
  unfold bOr
  show IntKind.i64.wrap (((BitVec.ofInt 64 (a : Int) ||| BitVec.ofInt 64 (b : Int)).toNat : Nat) : Int) = _
  rw [BitVec.toNat_or, BitVec.ofInt_natCast, BitVec.ofInt_natCast, BitVec.toNat_ofNat, BitVec.toNat_ofNat, Nat.mod_eq_of_lt (by omega), Nat.mod_eq_of_lt (by omega)]
  have := Nat.or_lt_two_pow ha hb
  exact wr ⟨by omega, by simp at this; omega⟩
theorem compact_sorted (zs : List Int) (h : zs.Pairwise (· ≤ ·)) : Rising (Lib.compact zs) ∧ ∀ x, x ∈ Lib.compact zs ↔ x ∈ zs := by
  have hget : ∀ i (hi : i < zs.length), zs.toArray[i]! = zs[i] := fun i hi => by simp [hi]
  have hle : ∀ i j (hj : j < zs.length) (hij : i ≤ j), zs[i]'(by omega) ≤ zs[j] := by
    intro i j hj hij
    rcases Nat.lt_or_ge i j with h1 | h1
    · exact List.pairwise_iff_getElem.1 h i j (by omega) hj h1
    · obtain rfl : i = j := by omega
      exact Int.le_refl _
  refine ⟨?_, fun x => ⟨compact_mem x, ?_⟩⟩
  · unfold Lib.compact Lib.compactUpTo
    rw [Rising, List.pairwise_map]
    refine List.Pairwise.imp_of_mem (fun {a b} ha hb hab => ?_) (List.Pairwise.filter _ List.pairwise_lt_range)
    rw [List.mem_filter, List.mem_range] at ha hb
    have h1 := hb.2
    simp only [Lib.keeps, decide_eq_true_eq] at h1
    rw [hget a ha.1, hget b hb.1]
    rcases h1 with h1 | h1
    · omega
    · rw [hget b hb.1, hget (b - 1) (by omega)] at h1
      have h2 := hle a (b - 1) (by omega) (by omega)
      have h3 := hle (b - 1) b hb.1 (by omega)
      omega
  · intro hx
    obtain ⟨i, hi, rfl⟩ := List.getElem_of_mem hx
    have key : ∀ i (hi : i < zs.length), zs[i] ∈ Lib.compact zs := by
      intro i
      induction i with
      | zero =>
        intro hi
        unfold Lib.compact Lib.compactUpTo
        exact List.mem_map.2 ⟨0, List.mem_filter.2 ⟨List.mem_range.2 hi, by simp [Lib.keeps]⟩, hget 0 hi⟩
      | succ i ih =>
        intro hi
        by_cases c : zs[i + 1] = zs[i]
        · rw [c]; exact ih (by omega)
        · unfold Lib.compact Lib.compactUpTo
          refine List.mem_map.2 ⟨i + 1, List.mem_filter.2 ⟨List.mem_range.2 hi, ?_⟩, hget (i + 1) hi⟩
          simp only [Lib.keeps, decide_eq_true_eq]
          right
          rw [hget (i + 1) hi, Nat.add_sub_cancel, hget i (by omega)]
          exact c
    exact key i hi
theorem sort_compact (l : List Int) : Lib.compact (l.mergeSort fun a b => decide (a ≤ b)) = sortL l := by
  have h := List.pairwise_mergeSort (le := fun a b : Int => decide (a ≤ b)) (by intro a b c; simp; omega) (by intro a b; simp; omega) l
  obtain ⟨h1, h2⟩ := compact_sorted (l.mergeSort fun a b => decide (a ≤ b)) (h.imp (by simp))
  refine rising_ext _ _ h1 (sortL_rising l) fun x => ?_
  rw [h2, sortL_mem]
  exact (List.mergeSort_perm l _).mem_iff
theorem sorted_run {α : Type} (l : List Int) (hl : l.length ≤ 1048576) (f : Bool × List Int → Option α) : ((slices_Sort_int (false, l)).bind fun r => (slices_Compact_int (r.1, r.2)).bind f) = f (false, sortL l) := by
  have hlim := lim_eq
  rw [slices_Sort_int_eq, bind_id]
  have e : sortI (false, l) = some (false, l.mergeSort fun a b => decide (a ≤ b)) := by
    unfold sortI
    rw [cond_false, gT (by simp only; omega)]
  rw [e, some_bind, slices_Compact_int_eq, bind_id]
  have e2 : compactI (false, l.mergeSort fun a b => decide (a ≤ b)) = some (false, sortL l) := by
    unfold compactI
    rw [cond_false, gT (by simp only [List.length_mergeSort]; omega), sort_compact]
  show (compactI (false, l.mergeSort fun a b => decide (a ≤ b))).bind f = _
  rw [e2, some_bind]
theorem foldl_insL (l : List Int) : ∀ o, (l.foldl (fun o n => insL n o) o).length ≤ o.length + l.length := by
  induction l with
  | nil => intro o; simp
  | cons a l ih =>
    intro o
    rw [List.foldl_cons, List.length_cons]
    have h1 := ih (insL a o)
    have h2 := insL_length a o
    omega
theorem sortL_length (l : List Int) : (sortL l).length ≤ l.length := by
  have := foldl_insL l []
  simpa [sortL] using this
theorem cloneInt_F (l : List Int) (hl : l.length ≤ 1048576) : slices_Clone_int (false, l) = some (false, l) := by
  have hlim := lim_eq
  rw [slices_Clone_int_eq, cond_false, gT (by simp; omega), List.nil_append]
theorem containsInt (l : Bool × List Int) (n : Int) (hl : l.2.length ≤ 1048576) : slices_Contains_int l n = some (l.2.any fun x => n == x) := by
  have h := loop_find l.2 (fun x => n == x) (fun i => slices_Index_int_L0 l n (l.2.length : Int) i) (fun i h => by
    rw [slices_Index_int_L0_eq, gT (by omega), gT (by omega), gT (by omega), getD_at l.2 _ i h, up1 i (by omega), bind_id]) (by rw [slices_Index_int_L0_eq, gF (by omega)])
  rw [slices_Contains_int_eq, slices_Index_int_eq]
  exact contains_of h
/-- a graph's rows, whatever their marks of nil -/
structure Gr (m : Nat) (G : List (List Int)) : Prop where
  len : G.length = m
  inn : ∀ l ∈ G, ∀ w ∈ l, 0 ≤ w ∧ w < (m : Int)
  short : ∀ l ∈ G, l.length ≤ 20000000
  small : m ≤ 10000
/-- how many operands an operator of formulas has -/
def needS (op : Int) : Int := if op = 1 ∨ op = 2 then 0 else if op = 3 ∨ op = 4 then 1 else if 5 ≤ op ∧ op ≤ 8 then 2 else -1
theorem beq_lit (a b : Int) : (a == b) = decide (a = b) := rfl
theorem needS_spec (op : Int) : spec_l10Need op = some (needS op) := by
  rw [spec_l10Need_eq, needS]
  by_cases h : 1 ≤ op ∧ op ≤ 8
  · have : op = 1 ∨ op = 2 ∨ op = 3 ∨ op = 4 ∨ op = 5 ∨ op = 6 ∨ op = 7 ∨ op = 8 := by omega
    rcases this with rfl | rfl | rfl | rfl | rfl | rfl | rfl | rfl <;> rfl
  · rw [beqF (show ¬ op = 1 by omega), beqF (show ¬ op = 2 by omega), beqF (show ¬ op = 3 by omega), beqF (show ¬ op = 4 by omega), beqF (show ¬ op = 5 by omega), beqF (show ¬ op = 6 by omega), beqF (show ¬ op = 7 by omega), beqF (show ¬ op = 8 by omega), if_neg (by omega), if_neg (by omega), if_neg (by omega)]
    rfl
theorem needS_impl (op : Int) : impl_operandsOfSaid op = some (needS op) := by
  rw [impl_operandsOfSaid_eq, needS]
  by_cases h : 1 ≤ op ∧ op ≤ 8
  · have : op = 1 ∨ op = 2 ∨ op = 3 ∨ op = 4 ∨ op = 5 ∨ op = 6 ∨ op = 7 ∨ op = 8 := by omega
    rcases this with rfl | rfl | rfl | rfl | rfl | rfl | rfl | rfl <;> rfl
  · rw [beqF (show ¬ op = 1 by omega), beqF (show ¬ op = 2 by omega), beqF (show ¬ op = 3 by omega), beqF (show ¬ op = 4 by omega), beqF (show ¬ op = 5 by omega), beqF (show ¬ op = 6 by omega), beqF (show ¬ op = 7 by omega), beqF (show ¬ op = 8 by omega), if_neg (by omega), if_neg (by omega), if_neg (by omega)]
    rfl
theorem needS_in (op : Int) : -1 ≤ needS op ∧ needS op ≤ 2 := by
  unfold needS
  split
  · omega
  · split
    · omega
    · split <;> omega
/-- a node of a formula, by itself -/
def nodeOk (x : DSaid) : Bool := if x.1 = 1 then decide (0 ≤ x.2 ∧ x.2 ≤ 2) else if x.1 = 2 then decide (0 ≤ x.2 ∧ x.2 ≤ 1) else decide (0 < needS x.1) && decide (x.2 = 0)
theorem isSaid (x : DSaid) : impl_isSaid x = some (nodeOk x) := by
  rw [impl_isSaid_eq, nodeOk]
  by_cases h1 : x.1 = 1
  · rw [bT (by rw [beq_iff_eq]; exact h1), if_pos h1]
    by_cases c : x.2 ≥ 0
    · rw [gT c]
      congr 1
      exact decide_eq_decide.mpr ⟨fun h => ⟨c, by omega⟩, fun h => by omega⟩
    · rw [gF c, decide_eq_false (by omega)]
  · rw [bF (beqF h1), if_neg h1]
    by_cases h2 : x.1 = 2
    · rw [bT (by rw [beq_iff_eq]; exact h2), if_pos h2]
      by_cases c : x.2 = 0
      · rw [bT (by rw [beq_iff_eq]; exact c), decide_eq_true (by omega)]
      · rw [bF (beqF c), beq_lit]
        congr 1
        exact decide_eq_decide.mpr ⟨fun h => by omega, fun h => by omega⟩
    · rw [bF (beqF h2), if_neg h2, needS_impl, some_bind]
      by_cases c : needS x.1 > 0
      · rw [gT c, decide_eq_true (show 0 < needS x.1 from c), Bool.true_and, beq_lit]
      · rw [gF c, decide_eq_false (show ¬ 0 < needS x.1 from c), Bool.false_and]
theorem l10N (x : DSaid) : spec_l10N x = some (if x.1 = 1 then decide (0 ≤ x.2 ∧ x.2 ≤ 2) else if x.1 = 2 then decide (0 ≤ x.2 ∧ x.2 ≤ 1) else decide (x.2 = 0)) := by
  rw [spec_l10N_eq]
  by_cases h1 : x.1 = 1
  · rw [bT (by rw [beq_iff_eq]; exact h1), if_pos h1, l1In_eq, some_bind]
  · rw [bF (beqF h1), if_neg h1]
    by_cases h2 : x.1 = 2
    · rw [bT (by rw [beq_iff_eq]; exact h2), if_pos h2, l1In_eq, some_bind]
    · rw [bF (beqF h2), if_neg h2, beq_lit]
/-- how many values lie there behind some nodes; none if they are no nodes of a formula -/
def pileS : List DSaid → Int → Option Int
  | [], v => some v
  | x :: l, v => if nodeOk x = true ∧ needS x.1 ≤ v then pileS l (v + (1 - needS x.1)) else none
def goodSaid (f : List DSaid) : Bool := decide (1 ≤ (f.length : Int) ∧ (f.length : Int) ≤ 16) && (pileS f 0 == some 1)
theorem said_L0 (f : Bool × List DSaid) (hl : f.2.length ≤ 1000) (d : Nat) : ∀ (i : Nat) (v : Int), i + d = f.2.length → 0 ≤ v ∧ v ≤ 2 * i →
    (∃ x, impl_GoodSaid_L0 v f (f.2.length : Int) (i : Int) = some x ∧ spec_GoodSaid_L0 v f (f.2.length : Int) (i : Int) = some x ∧ x = match pileS (f.2.drop i) v with
      | some z => .inr z
      | none => .inl false) := by
  induction d with
  | zero =>
    intro i v hi hv
    rw [impl_GoodSaid_L0_eq, spec_GoodSaid_L0_eq, gF (by omega), gF (by omega), List.drop_of_length_le (by omega)]
    exact ⟨_, rfl, rfl, rfl⟩
  | succ d ih =>
    intro i v hi hv
    have hlt : i < f.2.length := by omega
    have hn := needS_in f.2[i].1
    have ei : impl_GoodSaid_L0 v f (f.2.length : Int) (i : Int) = (bif !nodeOk f.2[i] then some (.inl false) else bif decide (v < needS f.2[i].1) then some (.inl false) else impl_GoodSaid_L0 (v + (1 - needS f.2[i].1)) f (f.2.length : Int) ((i + 1 : Nat) : Int)) := by
      rw [impl_GoodSaid_L0_eq, gT (by omega), gT (by omega), gT (by omega), getD_at f.2 _ i hlt, needS_impl, some_bind, isSaid, some_bind, wr (n := 1 - needS f.2[i].1) (by omega), wr (n := v + (1 - needS f.2[i].1)) (by omega), up1 i (by omega), bind_id]
    have es : spec_GoodSaid_L0 v f (f.2.length : Int) (i : Int) = (bif !nodeOk f.2[i] then some (.inl false) else bif decide (v < needS f.2[i].1) then some (.inl false) else spec_GoodSaid_L0 (v + (1 - needS f.2[i].1)) f (f.2.length : Int) ((i + 1 : Nat) : Int)) := by
      rw [spec_GoodSaid_L0_eq, gT (by omega), gT (by omega), gT (by omega), getD_at f.2 _ i hlt, needS_spec, some_bind, l10N, some_bind, wr (n := 1 - needS f.2[i].1) (by omega), wr (n := v + (1 - needS f.2[i].1)) (by omega), up1 i (by omega), bind_id]
      unfold nodeOk
      by_cases h1 : f.2[i].1 = 1
      · rw [if_pos h1, if_pos h1, gF (by rw [h1]; decide)]
      · rw [if_neg h1, if_neg h1]
        by_cases h2 : f.2[i].1 = 2
        · rw [if_pos h2, if_pos h2, gF (by rw [h2]; decide)]
        · rw [if_neg h2, if_neg h2]
          by_cases c : needS f.2[i].1 < 0
          · rw [gT c, decide_eq_false (show ¬ 0 < needS f.2[i].1 by omega)]
            rfl
          · have : 0 < needS f.2[i].1 := by
              have h3 : needS f.2[i].1 ≠ 0 := by
                unfold needS at c ⊢
                rw [if_neg (by omega)] at c ⊢
                split
                · decide
                · split <;> decide
              omega
            rw [gF c, decide_eq_true this, Bool.true_and]
    rw [ei, es, List.drop_eq_getElem_cons hlt, pileS]
    cases h1 : nodeOk f.2[i] with
    | false => exact ⟨_, rfl, rfl, by simp⟩
    | true =>
      rw [Bool.not_true, cond_false, cond_false]
      by_cases c : v < needS f.2[i].1
      · rw [gT c, gT c, if_neg (by omega)]
        exact ⟨_, rfl, rfl, rfl⟩
      · rw [gF c, gF c, if_pos ⟨rfl, by omega⟩]
        exact ih (i + 1) _ (by omega) (by omega)
theorem goodSaid_both (f : Bool × List DSaid) : impl_GoodSaid f = some (goodSaid f.2) ∧ spec_GoodSaid f = some (goodSaid f.2) := by
  rw [impl_GoodSaid_eq, spec_GoodSaid_eq, l1In_eq, some_bind, goodSaid]
  by_cases c : 1 ≤ (f.2.length : Int) ∧ (f.2.length : Int) ≤ 16
  · obtain ⟨x, e1, e2, e3⟩ := said_L0 f (by omega) f.2.length 0 0 (by omega) (by omega)
    have e1' : impl_GoodSaid_L0 0 f (f.2.length : Int) 0 = _ := e1
    have e2' : spec_GoodSaid_L0 0 f (f.2.length : Int) 0 = _ := e2
    rw [gF (by omega), gF (by omega), e1', some_bind, decide_eq_true c, Bool.not_true, cond_false, e2', some_bind, e3, List.drop_zero, Bool.true_and]
    cases pileS f.2 0 with
    | none => exact ⟨rfl, rfl⟩
    | some z =>
      have e : ((some z : Option Int) == some 1) = (z == 1) := rfl
      rw [e]
      exact ⟨rfl, rfl⟩
  · rw [decide_eq_false c]
    refine ⟨?_, rfl⟩
    by_cases c1 : (f.2.length : Int) < 1
    · rw [gT c1]; rfl
    · rw [gF c1, gT (by omega)]; rfl
/-- the nodes that are tracked because of the i-th -/
def trk (op : Int) (i : Int) : List Int := if op = 7 ∨ op = 8 then [i, i - 1] else if op = 4 then [i - 1] else []
def trksL (f : List DSaid) : List Int := ((f.length : Int) - 1) :: (List.range f.length).flatMap fun i => trk (f.getD i (0, 0)).1 (i : Int)
def trackL (f : List DSaid) : List Int := sortL (trksL f)
theorem trk_length (op i : Int) : (trk op i).length ≤ 2 := by
  unfold trk
  split
  · simp
  · split <;> simp
theorem l13Tracked_L0 (f : Bool × List DSaid) (hl : f.2.length ≤ 1000) (d : Nat) : ∀ (i : Nat) (b : Bool) (o : List Int), i + d = f.2.length → o.length ≤ 1 + 2 * i →
    ∃ b', spec_l13Tracked_L0 (b, o) f (f.2.length : Int) (i : Int) = some (b', ((List.range' i d).flatMap fun j => trk (f.2.getD j (0, 0)).1 (j : Int)).foldl (fun o n => insL n o) o) := by
  induction d with
  | zero =>
    intro i b o hi ho
    rw [spec_l13Tracked_L0_eq, gF (by omega)]
    exact ⟨b, rfl⟩
  | succ d ih =>
    intro i b o hi ho
    have hlt : i < f.2.length := by omega
    have eg : f.2.getD i (0, 0) = f.2[i] := by simp [List.getD_eq_getElem?_getD, hlt]
    rw [spec_l13Tracked_L0_eq, gT (by omega), gT (by omega), gT (by omega), getD_nat, List.range'_succ, List.flatMap_cons, List.foldl_append, wr (n := (i : Int) - 1) (by omega), up1 i (by omega)]
    have putTwo : ∃ b', ((spec_l1Put (b, o) (i : Int)).bind fun r => (spec_l1Put r ((i : Int) - 1)).bind fun r1 => (spec_l13Tracked_L0 r1 f (f.2.length : Int) ((i + 1 : Nat) : Int)).bind fun r => some r) = some (b', ((List.range' (i + 1) d).flatMap fun j => trk (f.2.getD j (0, 0)).1 (j : Int)).foldl (fun o n => insL n o) (insL ((i : Int) - 1) (insL (i : Int) o))) := by
      obtain ⟨f1, e1⟩ := l1Put b o (i : Int) (by omega)
      have l1 := insL_length (i : Int) o
      obtain ⟨f2, e2⟩ := l1Put f1 (insL (i : Int) o) ((i : Int) - 1) (by omega)
      have l2 := insL_length ((i : Int) - 1) (insL (i : Int) o)
      obtain ⟨b', g⟩ := ih (i + 1) f2 (insL ((i : Int) - 1) (insL (i : Int) o)) (by omega) (by omega)
      rw [e1, some_bind, e2, some_bind, bind_id, g]
      exact ⟨b', rfl⟩
    by_cases c7 : (f.2.getD i (0, 0)).1 = 7
    · rw [bT (by rw [beq_iff_eq]; exact c7), bT (by rw [beq_iff_eq]; exact c7)]
      have : trk (f.2.getD i (0, 0)).1 (i : Int) = [(i : Int), (i : Int) - 1] := by unfold trk; rw [if_pos (.inl c7)]
      rw [this]
      exact putTwo
    · rw [bF (beqF c7)]
      by_cases c8 : (f.2.getD i (0, 0)).1 = 8
      · rw [bT (by rw [beq_iff_eq]; exact c8)]
        have : trk (f.2.getD i (0, 0)).1 (i : Int) = [(i : Int), (i : Int) - 1] := by unfold trk; rw [if_pos (.inr c8)]
        rw [this]
        exact putTwo
      · rw [bF (beqF c8)]
        by_cases c4 : (f.2.getD i (0, 0)).1 = 4
        · rw [bT (by rw [beq_iff_eq]; exact c4)]
          have : trk (f.2.getD i (0, 0)).1 (i : Int) = [(i : Int) - 1] := by unfold trk; rw [if_neg (by omega), if_pos c4]
          rw [this]
          obtain ⟨f1, e1⟩ := l1Put b o ((i : Int) - 1) (by omega)
          have l1 := insL_length ((i : Int) - 1) o
          obtain ⟨b', g⟩ := ih (i + 1) f1 (insL ((i : Int) - 1) o) (by omega) (by omega)
          rw [e1, some_bind, bind_id, g]
          exact ⟨b', rfl⟩
        · rw [bF (beqF c4)]
          have : trk (f.2.getD i (0, 0)).1 (i : Int) = [] := by unfold trk; rw [if_neg (by omega), if_neg c4]
          rw [this, bind_id]
          exact ih (i + 1) b o (by omega) (by omega)
theorem l13Tracked (f : Bool × List DSaid) (hl : f.2.length ≤ 1000) : ∃ b, spec_l13Tracked f = some (b, trackL f.2) := by
  obtain ⟨b, g⟩ := l13Tracked_L0 f hl f.2.length 0 false [(f.2.length : Int) - 1] (by omega) (by simp)
  have g' : spec_l13Tracked_L0 (false, [(f.2.length : Int) - 1]) f (f.2.length : Int) 0 = _ := g
  rw [spec_l13Tracked_eq, wr (by omega), g', some_bind, trackL, trksL, sortL, List.foldl_cons, List.range_eq_range']
  exact ⟨b, rfl⟩
/-- the operands of the nodes, with the last one of each known -/
def OpsOk (f : List DSaid) (i : Nat) (R : List (Bool × List Int)) : Prop := R.length = i ∧ ∀ (j : Nat) (hj : j < i), ((R.getD j (true, [])).2.length : Int) = needS (f.getD j (0, 0)).1 ∧ (needS (f.getD j (0, 0)).1 = 1 → (R.getD j (true, [])).2.getD 0 0 = (j : Int) - 1) ∧ (needS (f.getD j (0, 0)).1 = 2 → (R.getD j (true, [])).2.getD 1 0 = (j : Int) - 1)
theorem operands_L0 (f : Bool × List DSaid) (hl : f.2.length ≤ 1000) (d : Nat) : ∀ (i : Nat) (st : List Int) (R : List (Bool × List Int)), i + d = f.2.length → OpsOk f.2 i R → st.length ≤ i → (0 < i → st.getLast? = some ((i : Int) - 1)) → (pileS (f.2.drop i) (st.length : Int)).isSome = true →
    ∃ R', impl_operandIndexes_L0 (false, R) (false, st) f (f.2.length : Int) (i : Int) = some (false, R') ∧ OpsOk f.2 f.2.length R' := by
  have hlim := lim_eq
  induction d with
  | zero =>
    intro i st R hi hR hst hlast hp
    obtain rfl : i = f.2.length := by omega
    exact ⟨R, by rw [impl_operandIndexes_L0_eq, gF (by omega)], hR⟩
  | succ d ih =>
    intro i st R hi hR hst hlast hp
    have hlt : i < f.2.length := by omega
    have hn := needS_in f.2[i].1
    have eg : f.2.getD i (0, 0) = f.2[i] := by simp [List.getD_eq_getElem?_getD, hlt]
    rw [List.drop_eq_getElem_cons hlt, pileS] at hp
    by_cases c : nodeOk f.2[i] = true ∧ needS f.2[i].1 ≤ (st.length : Int)
    · rw [if_pos c] at hp
      have hnn : 0 ≤ needS f.2[i].1 := by
        have h1 := c.1
        unfold nodeOk at h1
        by_cases a1 : f.2[i].1 = 1
        · rw [a1]; decide
        · by_cases a2 : f.2[i].1 = 2
          · rw [a2]; decide
          · rw [if_neg a1, if_neg a2, Bool.and_eq_true, decide_eq_true_eq] at h1
            omega
      obtain ⟨nd, hnd⟩ := Int.eq_ofNat_of_zero_le hnn
      have hle : nd ≤ st.length := by have := c.2; omega
      have ew : IntKind.i64.wrap ((st.length : Int) - needS f.2[i].1) = ((st.length - nd : Nat) : Int) := by rw [wr (by omega)]; omega
      have hdrop : (st.drop (st.length - nd)).length = nd := by rw [List.length_drop]; omega
      have hR1 := hR.1
      obtain ⟨R', g1, g2⟩ := ih (i + 1) (st.take (st.length - nd) ++ [(i : Int)]) (R ++ [(false, st.drop (st.length - nd))]) (by omega) ⟨by simp [hR1], fun j hj => by
          by_cases e : j = i
          · subst e
            have e1 : (R ++ [(false, st.drop (st.length - nd))]).getD j (true, []) = (false, st.drop (st.length - nd)) := by
              rw [List.getD_eq_getElem?_getD, ← hR1, List.getElem?_concat_length]; rfl
            rw [e1, eg, hnd]
            refine ⟨by rw [hdrop], fun h1 => ?_, fun h2 => ?_⟩
            · have hnd1 : nd = 1 := by omega
              have hl0 := hlast (by omega)
              rw [List.getLast?_eq_getElem?] at hl0
              show (st.drop (st.length - nd)).getD 0 0 = _
              rw [List.getD_eq_getElem?_getD, List.getElem?_drop, hnd1]
              simp only [Nat.add_zero]
              rw [hl0]
              rfl
            · have hnd1 : nd = 2 := by omega
              have hl0 := hlast (by omega)
              rw [List.getLast?_eq_getElem?] at hl0
              show (st.drop (st.length - nd)).getD 1 0 = _
              rw [List.getD_eq_getElem?_getD, List.getElem?_drop, hnd1, show st.length - 2 + 1 = st.length - 1 by omega]
              rw [hl0]
              rfl
          · have hj2 : j < i := by omega
            have e1 : (R ++ [(false, st.drop (st.length - nd))]).getD j (true, []) = R.getD j (true, []) := by
              rw [List.getD_eq_getElem?_getD, List.getElem?_append_left (by omega), List.getD_eq_getElem?_getD]
            rw [e1]
            exact hR.2 j hj2⟩ (by simp; omega) (fun _ => by rw [List.getLast?_concat]; simp) (by
          have e2 : (((st.take (st.length - nd) ++ [(i : Int)]).length : Nat) : Int) = (st.length : Int) + (1 - needS f.2[i].1) := by simp; omega
          rw [e2]
          exact hp)
      refine ⟨R', ?_, g2⟩
      have etk : (st.take st.length).drop (st.length - nd) = st.drop (st.length - nd) := by rw [List.take_length]
      rw [impl_operandIndexes_L0_eq, gT (by omega), gT (by omega), gT (by omega), getD_at f.2 _ i hlt, needS_impl, some_bind]
      simp only [ew, Int.toNat_natCast, etk]
      rw [gT (by omega), gT (by omega), cloneInt_F _ (by omega), some_bind, gT (by simp; omega), gT (by omega), gT (by omega), gT (by simp; omega), up1 i (by omega), bind_id, Bool.and_false, List.drop_zero, g1]
    · rw [if_neg c] at hp
      cases hp
theorem goodSaid_in {f : List DSaid} (h : goodSaid f = true) : 1 ≤ f.length ∧ f.length ≤ 16 ∧ pileS f 0 = some 1 := by
  simp only [goodSaid, Bool.and_eq_true, decide_eq_true_eq, beq_iff_eq] at h
  exact ⟨by omega, by omega, h.2⟩
theorem operandIndexes (f : Bool × List DSaid) (h : goodSaid f.2 = true) : ∃ R, impl_operandIndexes f = some (false, R) ∧ OpsOk f.2 f.2.length R := by
  obtain ⟨h1, h2, h3⟩ := goodSaid_in h
  obtain ⟨R, g1, g2⟩ := operands_L0 f (by omega) f.2.length 0 [] [] (by omega) ⟨rfl, fun j hj => by omega⟩ (by simp) (fun h => by omega) (by
    show (pileS (f.2.drop 0) 0).isSome = true
    rw [List.drop_zero, h3]
    rfl)
  have g1' : impl_operandIndexes_L0 (false, []) (false, []) f (f.2.length : Int) 0 = _ := g1
  exact ⟨R, by rw [impl_operandIndexes_eq, g1', some_bind], g2⟩
theorem tracked_L0 (f : Bool × List DSaid) (hl : f.2.length ≤ 1000) (R : List (Bool × List Int)) (hR : OpsOk f.2 f.2.length R) (d : Nat) : ∀ (i : Nat) (o : List Int), i + d = f.2.length → o.length ≤ 1 + 2 * i →
    impl_tracked_L0 (false, o) (false, R) f (f.2.length : Int) (i : Int) = some (false, o ++ (List.range' i d).flatMap fun j => trk (f.2.getD j (0, 0)).1 (j : Int)) := by
  have hlim := lim_eq
  induction d with
  | zero =>
    intro i o hi ho
    rw [impl_tracked_L0_eq, gF (by omega)]
    simp
  | succ d ih =>
    intro i o hi ho
    have hlt : i < f.2.length := by omega
    obtain ⟨r1, r2, r3⟩ := hR.2 i hlt
    have hR1 := hR.1
    rw [impl_tracked_L0_eq, gT (by omega), gT (by omega), gT (by omega), getD_nat, List.range'_succ, List.flatMap_cons, up1 i (by omega)]
    have putTwo : ∀ (hop : (f.2.getD i (0, 0)).1 = 7 ∨ (f.2.getD i (0, 0)).1 = 8), (bif decide (0 ≤ (i : Int)) then bif decide ((i : Int) < (R.length : Int)) then bif decide (1 < (((R.getD (Int.toNat (i : Int)) (true, [])).2).length : Int)) then
        bif decide (o.length + [(i : Int), (((R.getD (Int.toNat (i : Int)) (true, [])).2).getD 1 0)].length ≤ lim) then
        (impl_tracked_L0 ((false && false), (o ++ [(i : Int), (((R.getD (Int.toNat (i : Int)) (true, [])).2).getD 1 0)])) (false, R) f (f.2.length : Int) ((i + 1 : Nat) : Int)).bind fun r => some r else none else none else none else none) = some (false, o ++ (trk (f.2.getD i (0, 0)).1 (i : Int) ++ (List.range' (i + 1) d).flatMap fun j => trk (f.2.getD j (0, 0)).1 (j : Int))) := by
      intro hop
      have hn2 : needS (f.2.getD i (0, 0)).1 = 2 := by rcases hop with h | h <;> rw [h] <;> rfl
      have e1 := r3 hn2
      rw [hn2] at r1
      have et : trk (f.2.getD i (0, 0)).1 (i : Int) = [(i : Int), (i : Int) - 1] := by unfold trk; rw [if_pos hop]
      rw [Int.toNat_natCast, gT (by omega), gT (by omega), gT (by omega), e1, gT (by simp; omega), bind_id, Bool.and_false, ih (i + 1) _ (by omega) (by simp; omega), et]
      simp
    by_cases c7 : (f.2.getD i (0, 0)).1 = 7
    · rw [bT (by rw [beq_iff_eq]; exact c7), bT (by rw [beq_iff_eq]; exact c7)]
      exact putTwo (.inl c7)
    · rw [bF (beqF c7)]
      by_cases c8 : (f.2.getD i (0, 0)).1 = 8
      · rw [bT (by rw [beq_iff_eq]; exact c8)]
        exact putTwo (.inr c8)
      · rw [bF (beqF c8)]
        by_cases c4 : (f.2.getD i (0, 0)).1 = 4
        · rw [bT (by rw [beq_iff_eq]; exact c4)]
          have hn1 : needS (f.2.getD i (0, 0)).1 = 1 := by rw [c4]; rfl
          have e1 := r2 hn1
          rw [hn1] at r1
          have et : trk (f.2.getD i (0, 0)).1 (i : Int) = [(i : Int) - 1] := by unfold trk; rw [if_neg (by omega), if_pos c4]
          simp only [Int.toNat_natCast]
          rw [gT (by omega), gT (by omega), gT (by omega), e1, gT (by simp; omega), bind_id, Bool.and_false, ih (i + 1) _ (by omega) (by simp; omega), et]
          simp
        · rw [bF (beqF c4), bind_id, ih (i + 1) o (by omega) (by omega)]
          have et : trk (f.2.getD i (0, 0)).1 (i : Int) = [] := by unfold trk; rw [if_neg (by omega), if_neg c4]
          rw [et]
          rfl
theorem trks_length (f : List DSaid) (d i : Nat) : ((List.range' i d).flatMap fun j => trk (f.getD j (0, 0)).1 (j : Int)).length ≤ 2 * d := by
  induction d generalizing i with
  | zero => simp
  | succ d ih =>
    have h1 := trk_length (f.getD i (0, 0)).1 (i : Int)
    have h2 := ih (i + 1)
    rw [List.range'_succ, List.flatMap_cons, List.length_append]
    omega
theorem tracked (f : Bool × List DSaid) (h : goodSaid f.2 = true) : impl_tracked f = some (false, trackL f.2) := by
  obtain ⟨h1, h2, h3⟩ := goodSaid_in h
  obtain ⟨R, e1, hR⟩ := operandIndexes f h
  have e2 := tracked_L0 f (by omega) R hR f.2.length 0 [(f.2.length : Int) - 1] (by omega) (by simp)
  have e2' : impl_tracked_L0 (false, [(f.2.length : Int) - 1]) (false, R) f (f.2.length : Int) 0 = _ := e2
  have hl := trks_length f.2 f.2.length 0
  rw [impl_tracked_eq, e1, some_bind, wr (by omega), e2', some_bind, sorted_run _ (by simp only [List.length_append, List.length_cons, List.length_nil]; omega), trackL, trksL, List.range_eq_range']
  rfl
/-- a formula whose tracked nodes are few enough -/
def goodTr (f : List DSaid) : Bool := goodSaid f && decide (((trackL f).length : Int) ≤ 5)
theorem goodTr_both (f : Bool × List DSaid) : impl_isTracked f = some (goodTr f.2) ∧ spec_l13Good f = some (goodTr f.2) := by
  obtain ⟨g1, g2⟩ := goodSaid_both f
  rw [impl_isTracked_eq, spec_l13Good_eq, g1, g2, some_bind, some_bind, goodTr]
  cases h : goodSaid f.2 with
  | false => exact ⟨rfl, rfl⟩
  | true =>
    obtain ⟨h1, h2, h3⟩ := goodSaid_in h
    obtain ⟨b, e⟩ := l13Tracked f (by omega)
    rw [cond_true, cond_true, tracked f h, e, some_bind, some_bind, Bool.true_and]
    exact ⟨rfl, rfl⟩
theorem indexInt (l : Bool × List Int) (n : Int) (hl : l.2.length ≤ 1048576) : slices_Index_int l n = some (bif l.2.any (fun x => n == x) then (l.2.findIdx (fun x => n == x) : Int) else -1) := by
  have h := loop_find l.2 (fun x => n == x) (fun i => slices_Index_int_L0 l n (l.2.length : Int) i) (fun i h => by
    rw [slices_Index_int_L0_eq, gT (by omega), gT (by omega), gT (by omega), getD_at l.2 _ i h, up1 i (by omega), bind_id]) (by rw [slices_Index_int_L0_eq, gF (by omega)])
  rw [slices_Index_int_eq, h, some_bind]
  cases l.2.any (fun x => n == x) <;> rfl
/-- where the subtree of a node begins -/
inductive From (f : List DSaid) : Nat → Nat → Prop
  | sub0 {k : Nat} : needS (f.getD k (0, 0)).1 = 0 → From f k k
  | sub1 {k s : Nat} : needS (f.getD (k + 1) (0, 0)).1 = 1 → From f k s → From f (k + 1) s
  | sub2 {k s t : Nat} : needS (f.getD (k + 1) (0, 0)).1 = 2 → From f k (s + 1) → From f s t → From f (k + 1) t
theorem l10From_end (f : Bool × List DSaid) (x : Int) : spec_l10From_L0 f x 0 = some x := by
  rw [spec_l10From_L0_eq, gF (by omega)]
theorem From_le {f : List DSaid} {k s : Nat} (h : From f k s) : s ≤ k := by
  induction h with
  | sub0 _ => exact Nat.le_refl _
  | sub1 _ _ ih => omega
  | sub2 _ _ _ ih1 ih2 => omega
theorem l10From (f : Bool × List DSaid) (hl : f.2.length ≤ 1000) {k s : Nat} (h : From f.2 k s) : k < f.2.length → spec_l10From f (k : Int) = some (s : Int) := by
  induction h with
  | @sub0 k hn =>
    intro hk
    rw [spec_l10From_eq, gT (by omega), gT (by omega), getD_nat, needS_spec, hn, some_bind, l10From_end, some_bind]
  | @sub1 k s hn h1 ih =>
    intro hk
    rw [spec_l10From_eq, gT (by omega), gT (by omega), getD_nat, needS_spec, hn, some_bind, spec_l10From_L0_eq, gT (by omega), dn1 (k + 1) (by omega) (by omega), Nat.add_sub_cancel, ih (by omega), some_bind, wr (by omega), show (1 : Int) - 1 = 0 by omega, l10From_end]
    rfl
  | @sub2 k s t hn h1 h2 ih1 ih2 =>
    intro hk
    have hs := From_le h1
    rw [spec_l10From_eq, gT (by omega), gT (by omega), getD_nat, needS_spec, hn, some_bind, spec_l10From_L0_eq, gT (by omega), dn1 (k + 1) (by omega) (by omega), Nat.add_sub_cancel, ih1 (by omega), some_bind, wr (by omega), show (2 : Int) - 1 = 1 by omega, spec_l10From_L0_eq, gT (by omega), dn1 (s + 1) (by omega) (by omega), Nat.add_sub_cancel, ih2 (by omega), some_bind, wr (by omega), show (1 : Int) - 1 = 0 by omega, l10From_end]
    rfl
/-- the roots of the subtrees that lie on the stack behind some nodes -/
inductive Stk (f : List DSaid) : List Int → Nat → Prop
  | nil : Stk f [] 0
  | snoc {st : List Int} {s k : Nat} : Stk f st s → From f k s → Stk f (st ++ [(k : Int)]) (k + 1)
theorem Stk_step {f : List DSaid} {st : List Int} {i : Nat} (h : Stk f st i) (nd : Nat) (hn : needS (f.getD i (0, 0)).1 = (nd : Int)) (h2 : nd ≤ 2) (hle : nd ≤ st.length) :
    Stk f (st.take (st.length - nd) ++ [(i : Int)]) (i + 1) ∧ (nd = 1 → (st.drop (st.length - nd)).getD 0 0 = (i : Int) - 1) ∧ (nd = 2 → (st.drop (st.length - nd)).getD 1 0 = (i : Int) - 1 ∧ ∃ k : Nat, (st.drop (st.length - nd)).getD 0 0 = (k : Int) ∧ From f (i - 1) (k + 1)) := by
  have h3 : nd = 0 ∨ nd = 1 ∨ nd = 2 := by omega
  rcases h3 with rfl | rfl | rfl
  · refine ⟨?_, fun h => by omega, fun h => by omega⟩
    rw [Nat.sub_zero, List.take_length]
    exact .snoc h (.sub0 hn)
  · cases h with
    | nil => exact absurd hle (by simp)
    | @snoc st s k h1 h4 =>
      have e : (st ++ [(k : Int)]).length - 1 = st.length := by simp
      rw [e, List.take_left, List.drop_left]
      refine ⟨.snoc h1 (.sub1 hn h4), fun _ => ?_, fun h => by omega⟩
      show (k : Int) = ((k + 1 : Nat) : Int) - 1
      omega
  · cases h with
    | nil => exact absurd hle (by simp)
    | @snoc st s k h1 h4 =>
      cases h1 with
      | nil => exact absurd hle (by simp)
      | @snoc st2 s2 k2 h5 h6 =>
        have e : (st2 ++ [(k2 : Int)] ++ [(k : Int)]).length - 2 = st2.length := by simp
        rw [e, List.append_assoc, List.take_left, List.drop_left]
        refine ⟨.snoc h5 (.sub2 hn h4 h6), fun h => by omega, fun _ => ⟨?_, k2, rfl, h4⟩⟩
        show (k : Int) = ((k + 1 : Nat) : Int) - 1
        omega
/-- the operands of the nodes -/
structure OpsAre (f : List DSaid) (i : Nat) (R : List (Bool × List Int)) : Prop where
  len : R.length = i
  pos : ∀ j : Nat, j < i → needS (f.getD j (0, 0)).1 ≤ (j : Int)
  many : ∀ j : Nat, j < i → ((R.getD j (true, [])).2.length : Int) = needS (f.getD j (0, 0)).1
  op1 : ∀ j : Nat, j < i → needS (f.getD j (0, 0)).1 = 1 → (R.getD j (true, [])).2.getD 0 0 = (j : Int) - 1
  op2 : ∀ j : Nat, j < i → needS (f.getD j (0, 0)).1 = 2 → (R.getD j (true, [])).2.getD 1 0 = (j : Int) - 1 ∧ ∃ k : Nat, (R.getD j (true, [])).2.getD 0 0 = (k : Int) ∧ From f (j - 1) (k + 1)
theorem OpsAre_snoc {f : List DSaid} {i : Nat} {R : List (Bool × List Int)} (h : OpsAre f i R) (b : Bool) (l : List Int) (h0 : needS (f.getD i (0, 0)).1 ≤ (i : Int)) (h1 : (l.length : Int) = needS (f.getD i (0, 0)).1) (h2 : needS (f.getD i (0, 0)).1 = 1 → l.getD 0 0 = (i : Int) - 1)
    (h3 : needS (f.getD i (0, 0)).1 = 2 → l.getD 1 0 = (i : Int) - 1 ∧ ∃ k : Nat, l.getD 0 0 = (k : Int) ∧ From f (i - 1) (k + 1)) : OpsAre f (i + 1) (R ++ [(b, l)]) := by
  have hl := h.len
  have e1 : (R ++ [(b, l)]).getD i (true, []) = (b, l) := by
    rw [List.getD_eq_getElem?_getD, ← hl, List.getElem?_concat_length]; rfl
  have e2 : ∀ j : Nat, j < i → (R ++ [(b, l)]).getD j (true, []) = R.getD j (true, []) := fun j hj => by
    rw [List.getD_eq_getElem?_getD, List.getElem?_append_left (by omega), List.getD_eq_getElem?_getD]
  refine ⟨by simp [hl], fun j hj => ?_, fun j hj => ?_, fun j hj hn => ?_, fun j hj hn => ?_⟩ <;> by_cases e : j = i
  · subst e; exact h0
  · exact h.pos j (by omega)
  · subst e; rw [e1]; exact h1
  · rw [e2 j (by omega)]; exact h.many j (by omega)
  · subst e; rw [e1]; exact h2 hn
  · rw [e2 j (by omega)]; exact h.op1 j (by omega) hn
  · subst e; rw [e1]; exact h3 hn
  · rw [e2 j (by omega)]; exact h.op2 j (by omega) hn
theorem nodeOk_need {x : DSaid} (h : nodeOk x = true) : 0 ≤ needS x.1 := by
  unfold nodeOk at h
  by_cases a1 : x.1 = 1
  · rw [a1]; decide
  · by_cases a2 : x.1 = 2
    · rw [a2]; decide
    · rw [if_neg a1, if_neg a2, Bool.and_eq_true, decide_eq_true_eq] at h
      omega
theorem opsAre_L0 (f : Bool × List DSaid) (hl : f.2.length ≤ 1000) (d : Nat) : ∀ (i : Nat) (st : List Int) (R : List (Bool × List Int)), i + d = f.2.length → OpsAre f.2 i R → Stk f.2 st i → st.length ≤ i → (pileS (f.2.drop i) (st.length : Int)).isSome = true →
    ∃ R', impl_operandIndexes_L0 (false, R) (false, st) f (f.2.length : Int) (i : Int) = some (false, R') ∧ OpsAre f.2 f.2.length R' := by
  have hlim := lim_eq
  induction d with
  | zero =>
    intro i st R hi hR hS hst hp
    obtain rfl : i = f.2.length := by omega
    exact ⟨R, by rw [impl_operandIndexes_L0_eq, gF (by omega)], hR⟩
  | succ d ih =>
    intro i st R hi hR hS hst hp
    have hlt : i < f.2.length := by omega
    have hn := needS_in f.2[i].1
    have eg : f.2.getD i (0, 0) = f.2[i] := by simp [List.getD_eq_getElem?_getD, hlt]
    rw [List.drop_eq_getElem_cons hlt, pileS] at hp
    by_cases c : nodeOk f.2[i] = true ∧ needS f.2[i].1 ≤ (st.length : Int)
    · rw [if_pos c] at hp
      obtain ⟨nd, hnd⟩ := Int.eq_ofNat_of_zero_le (nodeOk_need c.1)
      have hle : nd ≤ st.length := by have := c.2; omega
      have ew : IntKind.i64.wrap ((st.length : Int) - needS f.2[i].1) = ((st.length - nd : Nat) : Int) := by rw [wr (by omega)]; omega
      have hdrop : (st.drop (st.length - nd)).length = nd := by rw [List.length_drop]; omega
      have hR1 := hR.len
      have hl1 : (st.take (st.length - nd) ++ [(i : Int)]).length ≤ i + 1 := by simp; omega
      have e2 : (((st.take (st.length - nd) ++ [(i : Int)]).length : Nat) : Int) = (st.length : Int) + (1 - needS f.2[i].1) := by simp; omega
      have q1 : needS f.2[i].1 = 1 → nd = 1 := by omega
      have q2 : needS f.2[i].1 = 2 → nd = 2 := by omega
      have hS' := Stk_step hS nd (by rw [eg]; exact hnd) (by omega) hle
      have hA := OpsAre_snoc hR false (st.drop (st.length - nd)) (by rw [eg]; omega) (by rw [hdrop, eg, hnd]) (fun h => hS'.2.1 (q1 (eg ▸ h))) (fun h => hS'.2.2 (q2 (eg ▸ h)))
      have s1 := hS'.1
      clear hS'
      obtain ⟨R', g1, g2⟩ := ih (i + 1) (st.take (st.length - nd) ++ [(i : Int)]) (R ++ [(false, st.drop (st.length - nd))]) (by omega) hA s1 hl1 (by
          rw [e2]
          exact hp)
      refine ⟨R', ?_, g2⟩
      have etk : (st.take st.length).drop (st.length - nd) = st.drop (st.length - nd) := by rw [List.take_length]
      rw [impl_operandIndexes_L0_eq, gT (by omega), gT (by omega), gT (by omega), getD_at f.2 _ i hlt, needS_impl, some_bind]
      simp only [ew, Int.toNat_natCast, etk]
      rw [gT (by omega), gT (by omega), cloneInt_F _ (by omega), some_bind, gT (by simp; omega), gT (by omega), gT (by omega), gT (by simp; omega), up1 i (by omega), bind_id, Bool.and_false, List.drop_zero, g1]
    · rw [if_neg c] at hp
      cases hp
theorem opsAre (f : Bool × List DSaid) (h : goodSaid f.2 = true) : ∃ R, impl_operandIndexes f = some (false, R) ∧ OpsAre f.2 f.2.length R := by
  obtain ⟨h1, h2, h3⟩ := goodSaid_in h
  obtain ⟨R, g1, g2⟩ := opsAre_L0 f (by omega) f.2.length 0 [] [] (by omega) ⟨rfl, fun j hj => by omega, fun j hj => by omega, fun j hj => by omega, fun j hj => by omega⟩ .nil (by simp) (by
    show (pileS (f.2.drop 0) 0).isSome = true
    rw [List.drop_zero, h3]
    rfl)
  have g1' : impl_operandIndexes_L0 (false, []) (false, []) f (f.2.length : Int) 0 = _ := g1
  exact ⟨R, by rw [impl_operandIndexes_eq, g1', some_bind], g2⟩
/-- each node of a good formula is a node -/
theorem pileS_ok : ∀ (l : List DSaid) (v : Int), (pileS l v).isSome = true → ∀ x ∈ l, nodeOk x = true
  | [], _, _, x, hx => by cases hx
  | y :: l, v, h, x, hx => by
    rw [pileS] at h
    by_cases c : nodeOk y = true ∧ needS y.1 ≤ v
    · rw [if_pos c] at h
      rcases List.mem_cons.1 hx with rfl | hx
      · exact c.1
      · exact pileS_ok l _ h x hx
    · rw [if_neg c] at h
      cases h
theorem goodSaid_ok {f : List DSaid} (h : goodSaid f = true) (i : Nat) (hi : i < f.length) : nodeOk f[i] = true := by
  obtain ⟨_, _, h3⟩ := goodSaid_in h
  exact pileS_ok f 0 (by rw [h3]; rfl) _ (List.getElem_mem hi)
/-- is a bit of a number set? -/
def bitAt (g : Int) (i : Nat) : Bool := bAnd .i64 (bShr .i64 g (i : Int)) 1 == 1
/-- does a guess say that a tracked node holds? -/
def saysL (T : List Int) (g node : Int) : Bool := T.any (fun x => node == x) && bitAt g (T.findIdx fun x => node == x)
theorem l13Says_L0 (T : Bool × List Int) (hl : T.2.length ≤ 1000) (g node : Int) (d : Nat) : ∀ i : Nat, i + d = T.2.length →
    spec_l13Says_L0 g node T (T.2.length : Int) (i : Int) = some (bif (T.2.drop i).any (fun x => node == x) then .inl (bitAt g (i + (T.2.drop i).findIdx fun x => node == x)) else .inr ()) := by
  induction d with
  | zero =>
    intro i hi
    rw [spec_l13Says_L0_eq, gF (by omega), List.drop_of_length_le (by omega)]
    rfl
  | succ d ih =>
    intro i hi
    have hlt : i < T.2.length := by omega
    rw [spec_l13Says_L0_eq, gT (by omega), gT (by omega), gT (by omega), getD_at T.2 _ i hlt, List.drop_eq_getElem_cons hlt, List.any_cons, List.findIdx_cons, wru (by omega), gF (by omega), up1 i (by omega), bind_id, ih (i + 1) (by omega)]
    by_cases e : T.2[i] = node
    · have e1 : (T.2[i] == node) = true := by rw [beq_iff_eq]; exact e
      have e2 : (node == T.2[i]) = true := by rw [beq_iff_eq]; exact e.symm
      rw [e1, e2, cond_true, Bool.true_or, cond_true, cond_true]
      rfl
    · have e1 : (T.2[i] == node) = false := beqF e
      have e2 : (node == T.2[i]) = false := beqF (fun h => e h.symm)
      rw [e1, e2, cond_false, Bool.false_or, cond_false]
      have e3 : i + 1 + (T.2.drop (i + 1)).findIdx (fun x => node == x) = i + ((T.2.drop (i + 1)).findIdx (fun x => node == x) + 1) := by omega
      rw [e3]
theorem l13Says (T : Bool × List Int) (hl : T.2.length ≤ 1000) (g node : Int) : spec_l13Says T g node = some (saysL T.2 g node) := by
  have e := l13Says_L0 T hl g node T.2.length 0 (by omega)
  rw [List.drop_zero, Nat.zero_add] at e
  have e' : spec_l13Says_L0 g node T (T.2.length : Int) 0 = _ := e
  rw [spec_l13Says_eq, e', some_bind, saysL]
  cases T.2.any (fun x => node == x) <;> rfl
theorem assumes (T : Bool × List Int) (hl : T.2.length ≤ 1000) (g node : Int) (h : node ∈ T.2) : impl_assumes T g node = some (saysL T.2 g node) := by
  have hany : (T.2.any fun x => node == x) = true := List.any_eq_true.2 ⟨node, h, by simp⟩
  rw [impl_assumes_eq, indexInt T node (by omega), some_bind, saysL, hany, cond_true, gF (by omega), Bool.true_and]
  rfl
theorem mem_trackL {f : List DSaid} {x : Int} : x ∈ trackL f ↔ x = (f.length : Int) - 1 ∨ ∃ i : Nat, i < f.length ∧ x ∈ trk (f.getD i (0, 0)).1 (i : Int) := by
  rw [trackL, sortL_mem, trksL, List.mem_cons, List.mem_flatMap]
  constructor
  · rintro (h | ⟨i, h1, h2⟩)
    · exact .inl h
    · exact .inr ⟨i, List.mem_range.1 h1, h2⟩
  · rintro (h | ⟨i, h1, h2⟩)
    · exact .inl h
    · exact .inr ⟨i, List.mem_range.2 h1, h2⟩
theorem tr_self {f : List DSaid} {i : Nat} (hi : i < f.length) (h : (f.getD i (0, 0)).1 = 7 ∨ (f.getD i (0, 0)).1 = 8) : (i : Int) ∈ trackL f :=
  mem_trackL.2 (.inr ⟨i, hi, by unfold trk; rw [if_pos h]; exact List.mem_cons_self⟩)
theorem tr_prev {f : List DSaid} {i : Nat} (hi : i < f.length) (h : (f.getD i (0, 0)).1 = 7 ∨ (f.getD i (0, 0)).1 = 8 ∨ (f.getD i (0, 0)).1 = 4) : (i : Int) - 1 ∈ trackL f := by
  refine mem_trackL.2 (.inr ⟨i, hi, ?_⟩)
  unfold trk
  rcases h with h | h | h
  · rw [if_pos (.inl h)]; simp
  · rw [if_pos (.inr h)]; simp
  · rw [if_neg (by omega), if_pos h]; simp
theorem tr_root {f : List DSaid} : (f.length : Int) - 1 ∈ trackL f := mem_trackL.2 (.inl rfl)
theorem trackL_length {f : List DSaid} (h : f.length ≤ 16) : (trackL f).length ≤ 33 := by
  have h1 := sortL_length (trksL f)
  have h2 := trks_length f f.length 0
  rw [← List.range_eq_range'] at h2
  have h3 : (trksL f).length ≤ 1 + 2 * f.length := by rw [trksL, List.length_cons]; omega
  have h4 : (trackL f).length ≤ (trksL f).length := h1
  omega
theorem node_ops {x : DSaid} (h : nodeOk x = true) : (x.1 = 1 ∧ 0 ≤ x.2 ∧ x.2 ≤ 2) ∨ (x.1 = 2) ∨ x.1 = 3 ∨ x.1 = 4 ∨ x.1 = 5 ∨ x.1 = 6 ∨ x.1 = 7 ∨ x.1 = 8 := by
  unfold nodeOk at h
  by_cases a1 : x.1 = 1
  · rw [if_pos a1, decide_eq_true_eq] at h
    exact .inl ⟨a1, h⟩
  · by_cases a2 : x.1 = 2
    · exact .inr (.inl a2)
    · rw [if_neg a1, if_neg a2, Bool.and_eq_true, decide_eq_true_eq] at h
      have h1 := h.1
      unfold needS at h1
      by_cases a3 : x.1 = 3 ∨ x.1 = 4
      · omega
      · by_cases a5 : 5 ≤ x.1 ∧ x.1 ≤ 8
        · omega
        · rw [if_neg (by omega), if_neg a3, if_neg a5] at h1
          omega
theorem now_step (f : Bool × List DSaid) (hf : goodSaid f.2 = true) (R : List (Bool × List Int)) (hR : OpsAre f.2 f.2.length R) (lttr next : Int) (tb : Bool) (b b' : Bool) (out : List Bool) (i : Nat) (hi : i < f.2.length) (ho : out.length = i) :
    ∃ v, impl_evalNow_L0 lttr next (b, out) (false, R) (false, trackL f.2) f (f.2.length : Int) (i : Int) = impl_evalNow_L0 lttr next (b && false, out ++ [v]) (false, R) (false, trackL f.2) f (f.2.length : Int) ((i + 1 : Nat) : Int) ∧
      spec_l13Now_L0 f (tb, trackL f.2) lttr next (b', out) f (f.2.length : Int) (i : Int) = spec_l13Now_L0 f (tb, trackL f.2) lttr next (b' && false, out ++ [v]) f (f.2.length : Int) ((i + 1 : Nat) : Int) := by
  have hlim := lim_eq
  obtain ⟨n1, n2, n3⟩ := goodSaid_in hf
  have htl := trackL_length n2
  have hok := goodSaid_ok hf i hi
  have eg : f.2.getD i (0, 0) = f.2[i] := by simp [List.getD_eq_getElem?_getD, hi]
  rw [← eg] at hok
  have hRl := hR.len
  have t1 : decide ((i : Int) < (f.2.length : Int)) = true := decide_eq_true (by omega)
  have t2 : decide (0 ≤ (i : Int)) = true := decide_eq_true (by omega)
  have t3 : decide ((i : Int) < (R.length : Int)) = true := decide_eq_true (by omega)
  have tl : ∀ v : Bool, decide (out.length + [v].length ≤ lim) = true := fun v => decide_eq_true (by simp; omega)
  have hpos := hR.pos i hi
  have hmany := hR.many i hi
  have says : ∀ node, spec_l13Says (tb, trackL f.2) next node = some (saysL (trackL f.2) next node) := fun node => l13Says (tb, trackL f.2) (by simp only; omega) next node
  have ass : ∀ node, node ∈ trackL f.2 → impl_assumes (false, trackL f.2) next node = some (saysL (trackL f.2) next node) := fun node h => assumes (false, trackL f.2) (by simp only; omega) next node h
  have hun : ∀ n : Nat, n < 4611686018427387904 → IntKind.i64.wrap ((n : Int) + 1) = ((n + 1 : Nat) : Int) := fun n h => up1 n h
  have upi := up1 i (by omega)
  rw [impl_evalNow_L0_eq, spec_l13Now_L0_eq]
  simp only [t1, t2, cond_true, getD_nat, upi, bind_id, tl]
  generalize hx : f.2.getD i (0, 0) = x at *
  rcases node_ops hok with ⟨h, m1, m2⟩ | h | h | h | h | h | h | h
  · simp only [h, Int.reduceBEq, beq_self_eq_true, cond_true, cond_false, wru (n := x.2) (by omega), gF (show ¬ x.2 < 0 by omega)]
    exact ⟨_, rfl, rfl⟩
  · simp only [h, Int.reduceBEq, beq_self_eq_true, cond_true, cond_false]
    exact ⟨_, rfl, rfl⟩
  · have hn : needS x.1 = 1 := by rw [h]; rfl
    have o1 := hR.op1 i hi (by rw [hx]; exact hn)
    rw [hn] at hpos hmany
    have e1 : (i : Int) - 1 = ((i - 1 : Nat) : Int) := by omega
    have d1 : decide (((i - 1 : Nat) : Int) < (out.length : Int)) = true := decide_eq_true (by omega)
    have d2 : decide (0 ≤ ((i - 1 : Nat) : Int)) = true := decide_eq_true (by omega)
    simp only [h, Int.reduceBEq, beq_self_eq_true, cond_true, cond_false, t3, hmany, o1, e1, d1, d2, Int.toNat_natCast, Int.reduceLT, decide_true, wr (n := ((i - 1 : Nat) : Int)) (by omega)]
    exact ⟨_, rfl, rfl⟩
  · have hn : needS x.1 = 1 := by rw [h]; rfl
    have o1 := hR.op1 i hi (by rw [hx]; exact hn)
    rw [hn] at hpos hmany
    have e0 := ass _ (tr_prev hi (by rw [hx]; exact .inr (.inr h)))
    simp only [h, Int.reduceBEq, beq_self_eq_true, cond_true, cond_false, t3, hmany, o1, e0, says, some_bind, Int.reduceLT, decide_true, wr (n := (i : Int) - 1) (by omega), tl]
    exact ⟨_, rfl, rfl⟩
  all_goals
    have hn : needS x.1 = 2 := by rw [h]; rfl
    obtain ⟨o1, k, o2, o3⟩ := hR.op2 i hi (by rw [hx]; exact hn)
    rw [hn] at hpos hmany
    have hk := From_le o3
    have e1 : (i : Int) - 1 = ((i - 1 : Nat) : Int) := by omega
    have d1 : decide (((i - 1 : Nat) : Int) < (out.length : Int)) = true := decide_eq_true (by omega)
    have d2 : decide (0 ≤ ((i - 1 : Nat) : Int)) = true := decide_eq_true (by omega)
    have d3 : decide ((k : Int) < (out.length : Int)) = true := decide_eq_true (by omega)
    have d4 : decide (0 ≤ (k : Int)) = true := decide_eq_true (by omega)
    have hfrom := l10From f (by omega) o3 (by omega)
    have e2 : IntKind.i64.wrap (((k + 1 : Nat) : Int) - 1) = (k : Int) := by rw [wr (by omega)]; omega
    try have e3 := ass _ (tr_self hi (by rw [hx]; first | exact .inl h | exact .inr h))
    simp only [h, Int.reduceBEq, beq_self_eq_true, cond_true, cond_false, t3, hmany, o1, o2, e1, e2, d1, d2, d3, d4, Int.toNat_natCast, Int.reduceLT, decide_true, wr (n := ((i - 1 : Nat) : Int)) (by omega), hfrom, says, some_bind, tl]
    try simp only [e3, some_bind, tl, cond_true]
    cases out.getD (i - 1) false <;> cases out.getD k false <;> exact ⟨_, rfl, rfl⟩
theorem goodTr_in {f : List DSaid} (h : goodTr f = true) : goodSaid f = true ∧ (trackL f).length ≤ 5 := by
  simp only [goodTr, Bool.and_eq_true, decide_eq_true_eq] at h
  exact ⟨h.1, by omega⟩
theorem trackL_in {f : List DSaid} (R : List (Bool × List Int)) (hR : OpsAre f f.length R) (h0 : 1 ≤ f.length) : ∀ x ∈ trackL f, 0 ≤ x ∧ x < (f.length : Int) := by
  intro x hx
  rcases mem_trackL.1 hx with rfl | ⟨i, hi, h⟩
  · omega
  · have hp := hR.pos i hi
    unfold trk at h
    by_cases c : (f.getD i (0, 0)).1 = 7 ∨ (f.getD i (0, 0)).1 = 8
    · have : needS (f.getD i (0, 0)).1 = 2 := by rcases c with c | c <;> rw [c] <;> rfl
      rw [if_pos c] at h
      simp only [List.mem_cons, List.not_mem_nil, or_false] at h
      omega
    · rw [if_neg c] at h
      by_cases c4 : (f.getD i (0, 0)).1 = 4
      · have : needS (f.getD i (0, 0)).1 = 1 := by rw [c4]; rfl
        rw [if_pos c4] at h
        simp only [List.mem_cons, List.not_mem_nil, or_false] at h
        omega
      · rw [if_neg c4] at h
        cases h
theorem now_L0 (f : Bool × List DSaid) (hf : goodSaid f.2 = true) (R : List (Bool × List Int)) (hR : OpsAre f.2 f.2.length R) (lttr next : Int) (tb : Bool) (d : Nat) : ∀ (i : Nat) (b b' : Bool) (out : List Bool), i + d = f.2.length → out.length = i →
    ∃ out' c c', impl_evalNow_L0 lttr next (b, out) (false, R) (false, trackL f.2) f (f.2.length : Int) (i : Int) = some (c, out') ∧ spec_l13Now_L0 f (tb, trackL f.2) lttr next (b', out) f (f.2.length : Int) (i : Int) = some (c', out') ∧ out'.length = f.2.length := by
  induction d with
  | zero =>
    intro i b b' out hi ho
    exact ⟨out, b, b', by rw [impl_evalNow_L0_eq, gF (by omega)], by rw [spec_l13Now_L0_eq, gF (by omega)], by omega⟩
  | succ d ih =>
    intro i b b' out hi ho
    obtain ⟨v, e1, e2⟩ := now_step f hf R hR lttr next tb b b' out i (by omega) ho
    rw [e1, e2]
    exact ih (i + 1) _ _ _ (by omega) (by simp [ho])
theorem now_both (f : Bool × List DSaid) (hf : goodSaid f.2 = true) (lttr next : Int) (tb : Bool) :
    ∃ out c c', impl_evalNow f lttr next = some (c, out) ∧ spec_l13Now f (tb, trackL f.2) lttr next = some (c', out) ∧ out.length = f.2.length := by
  obtain ⟨R, r1, hR⟩ := opsAre f hf
  obtain ⟨out, c, c', e1, e2, e3⟩ := now_L0 f hf R hR lttr next tb f.2.length 0 false true [] (by omega) rfl
  have e1' : impl_evalNow_L0 lttr next (false, []) (false, R) (false, trackL f.2) f (f.2.length : Int) 0 = _ := e1
  have e2' : spec_l13Now_L0 f (tb, trackL f.2) lttr next (true, []) f (f.2.length : Int) 0 = _ := e2
  exact ⟨out, c, c', by rw [impl_evalNow_eq, r1, some_bind, tracked f hf, some_bind]; simp only [e1', some_bind], by rw [spec_l13Now_eq, e2', some_bind], e3⟩
theorem guess_L0 (T : List Int) (hT : T.length ≤ 5) (out : List Bool) (hin : ∀ x ∈ T, 0 ≤ x ∧ x < (out.length : Int)) (tb c c' : Bool) (d : Nat) : ∀ (i a : Nat), i + d = T.length → a < 2 ^ i →
    ∃ g : Nat, impl_guessOf_L0 (c, out) (a : Int) (false, T) (T.length : Int) (i : Int) = some (g : Int) ∧ spec_l13Guess_L0 (c', out) (a : Int) (tb, T) (T.length : Int) (i : Int) = some (g : Int) ∧ g < 2 ^ T.length := by
  induction d with
  | zero =>
    intro i a hi ha
    obtain rfl : i = T.length := by omega
    exact ⟨a, by rw [impl_guessOf_L0_eq, gF (by omega)], by rw [spec_l13Guess_L0_eq, gF (by omega)], ha⟩
  | succ d ih =>
    intro i a hi ha
    have hlt : i < T.length := by omega
    obtain ⟨m1, m2⟩ := hin _ (List.getElem_mem hlt)
    have hp : (2 : Nat) ^ i ≤ 2 ^ 5 := Nat.pow_le_pow_right (by decide) (by omega)
    have hp1 : (2 : Nat) ^ (i + 1) = 2 ^ i * 2 := Nat.pow_succ ..
    have hor : a ||| 2 ^ i < 2 ^ (i + 1) := Nat.or_lt_two_pow (by omega) (by rw [hp1]; have := Nat.two_pow_pos i; omega)
    have e : bOr .i64 (a : Int) (bShl .i64 1 (i : Int)) = ((a ||| 2 ^ i : Nat) : Int) := by
      rw [shl_one_i64 i (by omega), bOr_i64 a (2 ^ i) (by omega) (by omega)]
    rw [impl_guessOf_L0_eq, spec_l13Guess_L0_eq]
    simp only [gT (show (i : Int) < (T.length : Int) by omega), gT (show (0 : Int) ≤ (i : Int) by omega), getD_at T _ i hlt, gT m1, gT m2, wru (n := (i : Int)) (by omega), gF (show ¬ (i : Int) < 0 by omega), up1 i (by omega), bind_id, e]
    cases out.getD (T[i]).toNat false with
    | true => exact ih (i + 1) _ (by omega) hor
    | false => exact ih (i + 1) a (by omega) (by omega)
/-- the guess now for a lttr and a guess of what comes next -/
noncomputable def gssF (f : Bool × List DSaid) (lttr next : Int) : Nat := ((impl_guessOf f lttr next).getD 0).toNat
def manyG (f : List DSaid) : Nat := 2 ^ (trackL f).length
theorem manyG_in {f : List DSaid} (h : goodTr f = true) : 1 ≤ manyG f ∧ manyG f ≤ 32 := by
  have h1 : manyG f ≤ 2 ^ 5 := Nat.pow_le_pow_right (by decide) (goodTr_in h).2
  have h2 : 0 < manyG f := Nat.two_pow_pos _
  omega
theorem guess_both (f : Bool × List DSaid) (hf : goodTr f.2 = true) (lttr next : Int) (tb : Bool) :
    impl_guessOf f lttr next = some (gssF f lttr next : Int) ∧ spec_l13Guess f (tb, trackL f.2) lttr next = some (gssF f lttr next : Int) ∧ gssF f lttr next < manyG f.2 := by
  obtain ⟨h1, h2⟩ := goodTr_in hf
  obtain ⟨R, r1, hR⟩ := opsAre f h1
  have hin := trackL_in R hR (goodSaid_in h1).1
  obtain ⟨out, c, c', e1, e2, e3⟩ := now_both f h1 lttr next tb
  obtain ⟨g, g1, g2, g3⟩ := guess_L0 (trackL f.2) h2 out (by rw [e3]; exact hin) tb c c' (trackL f.2).length 0 0 (by omega) (by decide)
  have g1' : impl_guessOf_L0 (c, out) 0 (false, trackL f.2) ((trackL f.2).length : Int) 0 = _ := g1
  have g2' : spec_l13Guess_L0 (c', out) 0 (tb, trackL f.2) ((trackL f.2).length : Int) 0 = _ := g2
  have i1 : impl_guessOf f lttr next = some (g : Int) := by
    rw [impl_guessOf_eq, e1, some_bind, tracked f h1, some_bind]
    simp only [g1', some_bind]
  have hg : gssF f lttr next = g := by rw [gssF, i1]; rfl
  rw [hg]
  refine ⟨i1, ?_, g3⟩
  rw [spec_l13Guess_eq, e2, some_bind]
  simp only [g2', some_bind]
theorem many_shl (n : Nat) (h : n ≤ 5) : bShl .i64 1 (n : Int) = ((2 ^ n : Nat) : Int) := shl_one_i64 n (by omega)
theorem guesses (f : Bool × List DSaid) (hf : goodTr f.2 = true) : impl_guesses f = some (manyG f.2 : Int) := by
  obtain ⟨h1, h2⟩ := goodTr_in hf
  rw [impl_guesses_eq, tracked f h1, some_bind, gF (by omega), many_shl _ h2]
  rfl
/-- the numbers below m for which something holds -/
def upTo (m : Nat) (q : Int → Bool) : List Int := ((List.range m).filter fun j : Nat => q (j : Int)).map Int.ofNat
theorem upTo_loop (m : Nat) (q : Int → Bool) (F : Bool × List Int → Int → Option (Bool × List Int))
    (hs : ∀ (j : Nat) (b : Bool) (o : List Int), j < m → o.length ≤ j → F (b, o) (j : Int) = bif q (j : Int) then F (b && false, o ++ [(j : Int)]) ((j + 1 : Nat) : Int) else F (b, o) ((j + 1 : Nat) : Int))
    (he : ∀ (b : Bool) (o : List Int), F (b, o) (m : Int) = some (b, o)) (b : Bool) : ∃ c, F (b, []) 0 = some (c, upTo m q) := by
  have key : ∀ (d j : Nat) (b : Bool) (o : List Int), j + d = m → o.length ≤ j → ∃ c, F (b, o) (j : Int) = some (c, o ++ ((List.range' j d).filter fun j : Nat => q (j : Int)).map Int.ofNat) := by
    intro d
    induction d with
    | zero =>
      intro j b o hj ho
      obtain rfl : j = m := by omega
      exact ⟨b, by rw [he]; simp⟩
    | succ d ih =>
      intro j b o hj ho
      rw [hs j b o (by omega) ho, List.range'_succ, List.filter_cons]
      cases hq : q (j : Int) with
      | true =>
        obtain ⟨c, g⟩ := ih (j + 1) (b && false) (o ++ [(j : Int)]) (by omega) (by simp; omega)
        exact ⟨c, by rw [cond_true, g]; simp⟩
      | false =>
        obtain ⟨c, g⟩ := ih (j + 1) b o (by omega) (by omega)
        exact ⟨c, by rw [cond_false, g]; simp⟩
  obtain ⟨c, g⟩ := key m 0 b [] (by omega) (by simp)
  exact ⟨c, by rw [upTo, List.range_eq_range']; exact g⟩
theorem upTo_length (m : Nat) (q : Int → Bool) : (upTo m q).length ≤ m := by
  rw [upTo, List.length_map]
  refine Nat.le_trans (List.length_filter_le _ _) ?_
  simp
theorem mem_upTo {m : Nat} {q : Int → Bool} {x : Int} : x ∈ upTo m q ↔ (0 ≤ x ∧ x < (m : Int)) ∧ q x = true := by
  simp only [upTo, List.mem_map, List.mem_filter, List.mem_range]
  constructor
  · rintro ⟨i, ⟨h1, h2⟩, rfl⟩
    exact ⟨⟨Int.natCast_nonneg _, by simp; omega⟩, h2⟩
  · rintro ⟨⟨h1, h2⟩, h3⟩
    exact ⟨x.toNat, ⟨by omega, by rw [Int.toNat_of_nonneg h1]; exact h3⟩, Int.toNat_of_nonneg h1⟩
/-- the guesses that a goal holds -/
def goalB (T : List Int) (op i g : Int) : Bool := if op = 7 then !saysL T g i || saysL T g (i - 1) else saysL T g i || !saysL T g (i - 1)
def goalAt (f : List DSaid) (i : Nat) : List (List Int) := if (f.getD i (0, 0)).1 = 7 ∨ (f.getD i (0, 0)).1 = 8 then [upTo (manyG f) (goalB (trackL f) (f.getD i (0, 0)).1 (i : Int))] else []
def goalsL (f : List DSaid) : List (List Int) := (List.range f.length).flatMap (goalAt f)
theorem goal_impl (f : Bool × List DSaid) (hf : goodTr f.2 = true) (R : List (Bool × List Int)) (hR : OpsAre f.2 f.2.length R) (i : Nat) (hi : i < f.2.length) (hx : (f.2.getD i (0, 0)).1 = 7 ∨ (f.2.getD i (0, 0)).1 = 8) :
    ∃ c, impl_guessesWith_by_goalsOf_1 f ((false, trackL f.2), ((i : Int), ((false, R), ((f.2.getD i (0, 0)), ())))) = some (c, upTo (manyG f.2) (goalB (trackL f.2) (f.2.getD i (0, 0)).1 (i : Int))) := by
  have hlim := lim_eq
  obtain ⟨h1, h2⟩ := goodTr_in hf
  have hn := (goodSaid_in h1).2.1
  have hm := manyG_in hf
  have hRl := hR.len
  have hneed : needS (f.2.getD i (0, 0)).1 = 2 := by rcases hx with h | h <;> rw [h] <;> rfl
  have hmany := hR.many i hi
  obtain ⟨o1, _⟩ := hR.op2 i hi hneed
  rw [hneed] at hmany
  have ass : ∀ g node, node ∈ trackL f.2 → impl_assumes (false, trackL f.2) g node = some (saysL (trackL f.2) g node) := fun g node h => assumes (false, trackL f.2) (by simp only; omega) g node h
  have one : ∀ g : Int, impl_goalsOf_1 g (false, trackL f.2) (i : Int) (false, R) (f.2.getD i (0, 0)) = some (goalB (trackL f.2) (f.2.getD i (0, 0)).1 (i : Int) g) := by
    intro g
    rw [impl_goalsOf_1_eq, ass g _ (tr_self hi hx), some_bind, gT (by omega), gT (by simp only; omega)]
    simp only [getD_nat, hmany, Int.reduceLT, decide_true, cond_true, o1]
    rw [ass g _ (tr_prev hi (by omega)), some_bind]
    unfold goalB
    rcases hx with hx | hx
    · simp only [hx, Int.reduceBEq, beq_self_eq_true, cond_true, cond_false, if_true]
      cases saysL (trackL f.2) g (i : Int) <;> cases saysL (trackL f.2) g ((i : Int) - 1) <;> rfl
    · simp only [hx, Int.reduceBEq, beq_self_eq_true, cond_true, cond_false]
      rw [if_neg (by decide)]
      cases saysL (trackL f.2) g (i : Int) <;> cases saysL (trackL f.2) g ((i : Int) - 1) <;> rfl
  obtain ⟨c, e⟩ := upTo_loop (manyG f.2) (goalB (trackL f.2) (f.2.getD i (0, 0)).1 (i : Int)) (fun o j => impl_guessesWith_by_goalsOf_1_L0 ((false, trackL f.2), ((i : Int), ((false, R), ((f.2.getD i (0, 0)), ())))) o (manyG f.2 : Int) j) (fun j b o hj ho => by
    have tl : decide (o.length + [(j : Int)].length ≤ lim) = true := decide_eq_true (by simp; omega)
    rw [impl_guessesWith_by_goalsOf_1_L0_eq, gT (by omega)]
    simp only [one, some_bind, up1 j (by omega), bind_id, tl, cond_true]) (fun b o => by
    rw [impl_guessesWith_by_goalsOf_1_L0_eq, gF (by omega)]) false
  exact ⟨c, by rw [impl_guessesWith_by_goalsOf_1_eq, guesses f hf, some_bind]; rw [show impl_guessesWith_by_goalsOf_1_L0 _ (false, []) (manyG f.2 : Int) 0 = _ from e, some_bind]⟩
theorem goalsOf_L0 (f : Bool × List DSaid) (hf : goodTr f.2 = true) (R : List (Bool × List Int)) (hR : OpsAre f.2 f.2.length R) (d : Nat) : ∀ (i : Nat) (b : Bool) (o : List (Bool × List Int)), i + d = f.2.length → o.length ≤ i →
    ∃ c X, impl_goalsOf_L0 f (b, o) (false, R) (false, trackL f.2) f (f.2.length : Int) (i : Int) = some (c, o ++ X) ∧ X.map Prod.snd = (List.range' i d).flatMap (goalAt f.2) ∧ X.length ≤ d := by
  have hlim := lim_eq
  obtain ⟨h1, h2⟩ := goodTr_in hf
  have hn := (goodSaid_in h1).2.1
  induction d with
  | zero =>
    intro i b o hi ho
    exact ⟨b, [], by rw [impl_goalsOf_L0_eq, gF (by omega)]; simp, by simp, by simp⟩
  | succ d ih =>
    intro i b o hi ho
    have hlt : i < f.2.length := by omega
    rw [impl_goalsOf_L0_eq, gT (by omega), gT (by omega), gT (by omega), getD_nat, up1 i (by omega), List.range'_succ, List.flatMap_cons]
    by_cases c : (f.2.getD i (0, 0)).1 = 7 ∨ (f.2.getD i (0, 0)).1 = 8
    · obtain ⟨c0, e0⟩ := goal_impl f hf R hR i hlt c
      obtain ⟨c1, X, g1, g2, g3⟩ := ih (i + 1) (b && false) (o ++ [(c0, upTo (manyG f.2) (goalB (trackL f.2) (f.2.getD i (0, 0)).1 (i : Int)))]) (by omega) (by simp; omega)
      refine ⟨c1, (c0, upTo (manyG f.2) (goalB (trackL f.2) (f.2.getD i (0, 0)).1 (i : Int))) :: X, ?_, ?_, by simp; omega⟩
      · simp only [e0, some_bind]
        rcases c with c | c <;> simp only [c, Int.reduceBNe, bne_self_eq_false, cond_true, cond_false] <;> rw [c] at g1 <;> rw [gT (by simp; omega), bind_id, g1] <;> simp
      · rw [goalAt, if_pos c, List.map_cons, g2]
        rfl
    · obtain ⟨c1, X, g1, g2, g3⟩ := ih (i + 1) b o (by omega) (by omega)
      refine ⟨c1, X, ?_, ?_, by omega⟩
      · rw [bT (by rw [bne_iff_ne]; omega), bT (by rw [bne_iff_ne]; omega), bind_id, g1]
      · rw [goalAt, if_neg c, g2]
        rfl
theorem goalsOf (f : Bool × List DSaid) (hf : goodTr f.2 = true) : ∃ c X, impl_goalsOf f = some (c, X) ∧ X.map Prod.snd = goalsL f.2 ∧ X.length ≤ f.2.length := by
  obtain ⟨h1, h2⟩ := goodTr_in hf
  obtain ⟨R, r1, hR⟩ := opsAre f h1
  obtain ⟨c, X, g1, g2, g3⟩ := goalsOf_L0 f hf R hR f.2.length 0 false [] (by omega) (by simp)
  have g1' : impl_goalsOf_L0 f (false, []) (false, R) (false, trackL f.2) f (f.2.length : Int) 0 = _ := g1
  exact ⟨c, X, by rw [impl_goalsOf_eq, r1, some_bind, tracked f h1, some_bind]; simp only [g1', some_bind]; rfl, by rw [g2, goalsL, List.range_eq_range'], g3⟩
def rowAt (X : List (Bool × List Int)) (k : Nat) : List Int := (X.getD k (true, [])).2
/-- what some puts hand to a row -/
def pick (S : List (Nat × Int)) (k : Nat) : List Int := (S.filter fun e => e.1 == k).map Prod.snd
theorem pick_append (S S' : List (Nat × Int)) (k : Nat) : pick (S ++ S') k = pick S k ++ pick S' k := by
  simp [pick]
theorem pick_length (S : List (Nat × Int)) (k : Nat) : (pick S k).length ≤ S.length := by
  rw [pick, List.length_map]
  exact List.length_filter_le _ _
/-- rows, with some puts done -/
structure Did (X X' : List (Bool × List Int)) (S : List (Nat × Int)) : Prop where
  len : X'.length = X.length
  row : ∀ k : Nat, k < X.length → rowAt X' k = rowAt X k ++ pick S k
def Bnd (X : List (Bool × List Int)) (n : Nat) : Prop := ∀ k : Nat, k < X.length → (rowAt X k).length ≤ n
theorem Did.refl (X : List (Bool × List Int)) : Did X X [] := ⟨rfl, fun k _ => by simp [pick]⟩
theorem Did.trans {X X' X'' : List (Bool × List Int)} {S S' : List (Nat × Int)} (h : Did X X' S) (h' : Did X' X'' S') : Did X X'' (S ++ S') := by
  refine ⟨by rw [h'.len, h.len], fun k hk => ?_⟩
  rw [h'.row k (by rw [h.len]; exact hk), h.row k hk, pick_append, List.append_assoc]
theorem Did.bnd {X X' : List (Bool × List Int)} {S : List (Nat × Int)} (h : Did X X' S) {n : Nat} (hb : Bnd X n) : Bnd X' (n + S.length) := by
  intro k hk
  rw [h.len] at hk
  rw [h.row k hk, List.length_append]
  have := hb k hk
  have := pick_length S k
  omega
theorem Did.put {X : List (Bool × List Int)} {k : Nat} (hk : k < X.length) (b : Bool) (z : Int) : Did X (X.set k (b, rowAt X k ++ [z])) [(k, z)] := by
  refine ⟨List.length_set, fun j hj => ?_⟩
  by_cases e : k = j
  · subst e
    simp [rowAt, List.getD_eq_getElem?_getD, hk, pick]
  · have e' : (k == j) = false := by rw [beq_eq_false_iff_ne]; exact e
    simp [rowAt, List.getD_eq_getElem?_getD, List.getElem?_set_ne e, pick, e']
theorem findIdx?_lt {α : Type} {K : List α} {q : α → Bool} {i : Nat} (h : K.findIdx? q = some i) : i < K.length := by
  rw [List.findIdx?_eq_some_iff_getElem] at h
  exact h.1
theorem findIdx?_more {α : Type} {K L : List α} {q : α → Bool} {i : Nat} (h : K.findIdx? q = some i) : (K ++ L).findIdx? q = some i := by
  rw [List.findIdx?_append, h]
  rfl
theorem findIdx?_new {α : Type} {K : List α} {q : α → Bool} {x : α} (h : K.findIdx? q = none) (hx : q x = true) : (K ++ [x]).findIdx? q = some K.length := by
  rw [List.findIdx?_append, h, List.findIdx?_cons, hx]
  simp
theorem findIdx?_at {α : Type} [BEq α] [LawfulBEq α] {K : List α} {x : α} {i : Nat} (h : K.findIdx? (fun y => x == y) = some i) : K[i]? = some x := by
  rw [List.findIdx?_eq_some_iff_getElem] at h
  obtain ⟨h1, h2, _⟩ := h
  rw [List.getElem?_eq_getElem h1]
  exact congrArg some (eq_of_beq h2).symm
/-- what can be reached along arrows -/
inductive Way (g : Int → List Int) : Int → Int → Prop
  | here (a : Int) : Way g a a
  | step {a b c : Int} : b ∈ g a → Way g b c → Way g a c
theorem Way.trans {g : Int → List Int} {a b c : Int} (h : Way g a b) (h2 : Way g b c) : Way g a c := by
  induction h with
  | here a => exact h2
  | step e _ ih => exact Way.step e (ih h2)
theorem Way.arc {g : Int → List Int} {a b : Int} (h : b ∈ g a) : Way g a b := Way.step h (Way.here b)
theorem Way.snoc {g : Int → List Int} {a b c : Int} (h : Way g a b) (h2 : c ∈ g b) : Way g a c := h.trans (Way.arc h2)
/-- what is closed along arrows keeps its ways in -/
theorem Way.closed {g : Int → List Int} {P : Int → Prop} (hc : ∀ x, P x → ∀ y ∈ g x, P y) {a b : Int} (h : Way g a b) : P a → P b := by
  induction h with
  | here a => exact id
  | step e _ ih => exact fun h => ih (hc _ h _ e)
theorem Way.turn {g r : Int → List Int} (hr : ∀ x y, y ∈ r x → x ∈ g y) {a b : Int} (h : Way r a b) : Way g b a := by
  induction h with
  | here a => exact Way.here a
  | step e _ ih => exact ih.trans (Way.arc (hr _ _ e))
/-- each leads to the other -/
def Scc (g : Int → List Int) (a b : Int) : Prop := Way g a b ∧ Way g b a
theorem Scc.refl (g : Int → List Int) (a : Int) : Scc g a a := ⟨Way.here a, Way.here a⟩
theorem Scc.symm {g : Int → List Int} {a b : Int} (h : Scc g a b) : Scc g b a := ⟨h.2, h.1⟩
theorem Scc.trans {g : Int → List Int} {a b c : Int} (h : Scc g a b) (h2 : Scc g b c) : Scc g a c := ⟨h.1.trans h2.1, h2.2.trans h.2⟩
/-- the least of a part -/
def IsL (g : Int → List Int) (x m : Int) : Prop := Scc g x m ∧ ∀ y, Scc g x y → m ≤ y
theorem IsL.one {g : Int → List Int} {x m k : Int} (h : IsL g x m) (h2 : IsL g x k) : m = k := Int.le_antisymm (h.2 k h2.1) (h2.2 m h.1)
theorem IsL.of {g : Int → List Int} {x y m : Int} (h : IsL g x m) (e : Scc g x y) : IsL g y m := ⟨e.symm.trans h.1, fun z hz => h.2 z (e.trans hz)⟩
/-- the place from which choices are read: what is known of it -/
def CurOk (c : Dl1Cur) (B : Int) : Prop := c.1.2.length ≤ 1048576 ∧ (∀ x ∈ c.1.2, 0 ≤ x ∧ x ≤ 255) ∧ 0 ≤ c.2.1 ∧ c.2.1 ≤ B
theorem CurOk.mono {c : Dl1Cur} {B C : Int} (h : CurOk c B) (hb : B ≤ C) : CurOk c C := ⟨h.1, h.2.1, h.2.2.1, Int.le_trans h.2.2.2 hb⟩
theorem top8 : top 8 = 255 := by decide
theorem byte_of (s : Int) (hs : 0 ≤ s ∧ s < 18446744073709551616) : ∃ b, IntKind.i64.wrap (bAnd .u64 (bShr .u64 s 40) 255) = b ∧ 0 ≤ b ∧ b ≤ 255 := by
  have e1 : bShr .u64 s 40 = s / 2 ^ 40 := bShr_eq .u64 s 40 (by decide)
  have h1 : 0 ≤ s / 2 ^ 40 := Int.ediv_nonneg hs.1 (by decide)
  have h2 : s / 2 ^ 40 ≤ s := Int.ediv_le_self _ hs.1
  have e2 : bAnd .u64 (s / 2 ^ 40) 255 = s / 2 ^ 40 % 256 := by
    rw [← top8, and_top (by omega) ⟨h1, by omega⟩, top8]
    rfl
  refine ⟨s / 2 ^ 40 % 256, ?_, by omega, by omega⟩
  rw [e1, e2, wr (by omega)]
theorem cur_next (c : Dl1Cur) (B : Int) (h : CurOk c B) (hB : B ≤ 1000000000000) : ∃ c' b, spec_l1Cur_next c.1 c.2.1 c.2.2 = some (c', b) ∧ CurOk c' (B + 1) ∧ 0 ≤ b ∧ b ≤ 255 := by
  obtain ⟨h1, h2, h3, h4⟩ := h
  have hw : ∀ n : Int, 0 ≤ IntKind.u64.wrap n ∧ IntKind.u64.wrap n < 18446744073709551616 := fun n => by rw [wru_mod]; omega
  rw [spec_l1Cur_next_eq]
  by_cases c1 : c.2.1 < (c.1.2.length : Int)
  · have hx : 0 ≤ c.1.2.getD (Int.toNat c.2.1) 0 ∧ c.1.2.getD (Int.toNat c.2.1) 0 ≤ 255 := by
      have hlt : Int.toNat c.2.1 < c.1.2.length := by omega
      have e : c.1.2.getD (Int.toNat c.2.1) 0 = c.1.2[Int.toNat c.2.1] := by simp [List.getD_eq_getElem?_getD, hlt]
      rw [e]
      exact h2 _ (List.getElem_mem hlt)
    rw [gT c1, gT h3, gT c1, gT (by rw [wr (by omega)]; omega)]
    exact ⟨_, _, rfl, ⟨h1, h2, by simp only; rw [wr (by omega)]; omega, by simp only; rw [wr (by omega)]; omega⟩, by rw [wr (by omega)]; exact hx.1, by rw [wr (by omega)]; exact hx.2⟩
  · rw [gF c1, gF (by rw [wr (by omega)]; omega)]
    obtain ⟨b, e1, e2, e3⟩ := byte_of (IntKind.u64.wrap ((IntKind.u64.wrap ((IntKind.u64.wrap (c.2.2 * 6364136223846793005)) + (IntKind.u64.wrap 0))) + 1442695040888963407)) (hw _)
    exact ⟨_, _, rfl, ⟨h1, h2, by simp only; rw [wr (by omega)]; omega, by simp only; rw [wr (by omega)]; omega⟩, by rw [e1]; exact e2, by rw [e1]; exact e3⟩
theorem cur_pick (c : Dl1Cur) (n : Int) (B : Int) (h : CurOk c B) (hB : B ≤ 900000000000) (hn : n ≤ 9000000000000000000) : ∃ c' x, spec_l1Cur_pick c n = some (c', x) ∧ CurOk c' (B + 2) ∧ 0 ≤ x ∧ (1 ≤ n → x < n) := by
  rw [spec_l1Cur_pick_eq]
  by_cases c1 : n ≤ 1
  · rw [gT c1]
    exact ⟨c, 0, rfl, h.mono (by omega), by omega, fun h => by omega⟩
  · rw [gF c1]
    obtain ⟨c2, b, e1, h1, b1, b2⟩ := cur_next c B h (by omega)
    rw [e1, some_bind]
    have hz : (n == 0) = false := beqF (by omega)
    by_cases c3 : n > 200
    · obtain ⟨c4, b', e2, h2, b3, b4⟩ := cur_next c2 (B + 1) h1 (by omega)
      rw [gT c3, e2, some_bind, bF hz]
      have e3 : IntKind.i64.wrap (IntKind.i64.wrap (b * 256) + b') = b * 256 + b' := by rw [wr (show -9223372036854775808 ≤ b * 256 ∧ b * 256 < 9223372036854775808 by omega), wr (by omega)]
      simp only [e3]
      refine ⟨_, _, rfl, h2.mono (by omega), Int.tmod_nonneg _ (by omega), fun _ => ?_⟩
      rw [Int.tmod_eq_emod_of_nonneg (by omega)]
      exact Int.emod_lt_of_pos _ (by omega)
    · rw [gF c3, bF hz]
      refine ⟨_, _, rfl, h1.mono (by omega), Int.tmod_nonneg _ b1, fun _ => ?_⟩
      rw [Int.tmod_eq_emod_of_nonneg b1]
      exact Int.emod_lt_of_pos _ (by omega)
theorem cur_one (c : Dl1Cur) (n : Int) (B : Int) (h : CurOk c B) (hB : B ≤ 900000000000) (hn : n ≤ 9000000000000000000) : ∃ c' b, spec_l1Cur_one c n = some (c', b) ∧ CurOk c' (B + 2) := by
  obtain ⟨c', x, e, h1, _, _⟩ := cur_pick c n B h hB hn
  rw [spec_l1Cur_one_eq, e, some_bind]
  exact ⟨c', _, rfl, h1⟩
/-- the arrows of a graph given by its rows -/
def gG (G : List (List Int)) : Int → List Int := fun x => if 0 ≤ x then G.getD x.toNat [] else []
/-- one arrow: what is known stays, what is new waits -/
structure Step1 (k : Nat) (s q : List Int) (s2 q2 : List Int) : Prop where
  len : s2.length = s.length
  same : ∀ v, v < s.length → 0 ≤ s.getD v 0 → s2.getD v 0 = s.getD v 0
  new : ∀ v, v < s.length → 0 ≤ s2.getD v 0 → 0 ≤ s.getD v 0 ∨ ((v : Int) ∈ q2 ∧ 1 ≤ s2.getD v 0)
  que : ∀ w ∈ q, w ∈ q2
theorem Step1.refl (k : Nat) (s q : List Int) : Step1 k s q s q := ⟨rfl, fun _ _ _ => rfl, fun _ _ h => Or.inl h, fun _ h => h⟩
theorem Step1.trans {k : Nat} {s q s2 q2 s3 q3 : List Int} (h : Step1 k s q s2 q2) (h2 : Step1 k s2 q2 s3 q3) : Step1 k s q s3 q3 := by
  refine ⟨by rw [h2.len, h.len], fun v hv h0 => ?_, fun v hv h0 => ?_, fun w hw => h2.que w (h.que w hw)⟩
  · rw [h2.same v (by rw [h.len]; exact hv) (by rw [h.same v hv h0]; exact h0), h.same v hv h0]
  · rcases h2.new v (by rw [h.len]; exact hv) h0 with a | ⟨a, b⟩
    · rcases h.new v hv a with c | ⟨c, d⟩
      · exact Or.inl c
      · refine Or.inr ⟨h2.que _ c, ?_⟩
        rw [h2.same v (by rw [h.len]; exact hv) a]
        exact d
    · exact Or.inr ⟨a, b⟩
theorem gG_in {m : Nat} {G : List (List Int)} (hG : Gr m G) : ∀ x, ∀ y ∈ gG G x, 0 ≤ y ∧ y < (m : Int) := by
  intro x y hy
  unfold gG at hy
  split at hy
  · by_cases q : x.toNat < G.length
    · have e : G.getD x.toNat [] = G[x.toNat] := by simp [List.getD_eq_getElem?_getD, q]
      rw [e] at hy
      exact hG.inn _ (List.getElem_mem q) y hy
    · rw [List.getD_eq_getElem?_getD, List.getElem?_eq_none (Nat.le_of_not_lt q)] at hy
      cases hy
  · cases hy
theorem sameInts_same (f g : Bool) (l : List Int) (hl : l.length ≤ 1048576) : laws_sameInts (f, l) (g, l) = some true := by
  have key : ∀ (d i : Nat), i + d = l.length → laws_sameInts_L0 (f, l) (g, l) (l.length : Int) (i : Int) = some (.inr ()) := by
    intro d
    induction d with
    | zero => intro i hi; rw [laws_sameInts_L0_eq, gF (by omega)]
    | succ d ih =>
      intro i hi
      have hlt : i < l.length := by omega
      rw [laws_sameInts_L0_eq, gT (by omega), gT (by omega), gT (by simp only; omega), gT (by omega), gT (by simp only; omega), bF (by simp), up1 i (by omega), bind_id, ih (i + 1) (by omega)]
  have := key l.length 0 (by omega)
  have h' : laws_sameInts_L0 (f, l) (g, l) (l.length : Int) 0 = _ := this
  rw [laws_sameInts_eq, bF (by simp), h', some_bind]
theorem has_eq (b : Bool) (l : List Int) (n : Int) (hl : l.length ≤ 1048576) : laws_has (b, l) n = some (l.any fun x => x == n) := by
  have h := any_loop l (fun x => x == n) true (fun i => laws_has_L0 n (b, l) (l.length : Int) i) (fun i h => by
    rw [laws_has_L0_eq, gT (by omega), gT (by omega), gT (by simp only; omega), getD_at l _ i h, up1 i (by omega), bind_id]) (by rw [laws_has_L0_eq, gF (by omega)])
  rw [laws_has_eq]
  simp only [h, some_bind]
  cases l.any fun x => x == n <;> rfl
theorem getD_pair {l : List Int} {i j : Nat} (h : Rising l) (hi : i < j) (hj : j < l.length) : l.getD i 0 < l.getD j 0 := by
  have e1 : l.getD i 0 = l[i]'(by omega) := by simp [List.getD_eq_getElem?_getD, show i < l.length by omega]
  have e2 : l.getD j 0 = l[j] := by simp [List.getD_eq_getElem?_getD, hj]
  rw [e1, e2]
  exact List.pairwise_iff_getElem.1 h i j (by omega) hj hi
theorem rises_of {n : Int} {l : List Int} (h : Rising l) (hr : ∀ x ∈ l, 0 ≤ x ∧ x < n) : rises n l = true := by
  unfold rises
  rw [List.all_eq_true]
  intro i hi
  rw [List.mem_range] at hi
  have e : l.getD i 0 = l[i] := by simp [List.getD_eq_getElem?_getD, hi]
  have hx := hr _ (List.getElem_mem hi)
  rw [Bool.and_eq_true]
  refine ⟨decide_eq_true (by rw [e]; exact hx), ?_⟩
  by_cases c : i = 0
  · rw [decide_eq_true c]; rfl
  · rw [decide_eq_true (getD_pair h (show i - 1 < i by omega) hi), Bool.or_true]
/-- what is known of the parts of a graph, of a list of points -/
def PartOk (m : Nat) (P : List Int) : Prop := P.length = m ∧ ∀ v : Nat, v < m → 0 ≤ P.getD v 0 ∧ P.getD v 0 < (m : Int)
theorem isl_both {g : Int → List Int} {x y m k : Int} (h : IsL g x m) (h2 : IsL g y k) : m = k ↔ Scc g x y := by
  constructor
  · rintro rfl
    exact h.1.trans h2.1.symm
  · intro e
    exact (h.of e).one h2
/-- the numbers of the parts -/
def PartsOf (m : Nat) (G : List (List Int)) (P : List Int) : Prop := P.length = m ∧ ∀ x, 0 ≤ x ∧ x < (m : Int) → IsL (gG G) x (P.getD x.toNat 0)
theorem way_in {m : Nat} {G : List (List Int)} (hG : Gr m G) {a b : Int} (h : Way (gG G) a b) (ha : 0 ≤ a ∧ a < (m : Int)) : 0 ≤ b ∧ b < (m : Int) := Way.closed (P := fun y => 0 ≤ y ∧ y < (m : Int)) (fun x _ y hy => gG_in hG x y hy) h ha
theorem PartsOf.ok {m : Nat} {G : List (List Int)} {P : List Int} (hG : Gr m G) (h : PartsOf m G P) : PartOk m P := ⟨h.1, fun v hv => by
  have := h.2 (v : Int) (by omega)
  rw [Int.toNat_natCast] at this
  exact way_in hG this.1.1 (by omega)⟩
theorem PartsOf.same {m : Nat} {G : List (List Int)} {P : List Int} (h : PartsOf m G P) {x y : Int} (hx : 0 ≤ x ∧ x < (m : Int)) (hy : 0 ≤ y ∧ y < (m : Int)) : P.getD x.toNat 0 = P.getD y.toNat 0 ↔ Scc (gG G) x y := isl_both (h.2 x hx) (h.2 y hy)
/-- the place behind a place of a lasso -/
def nxP (s n k : Nat) : Nat := if k + 1 < n then k + 1 else s
/-- the letter at a place -/
def ltL (a b : List Int) (k : Nat) : Int := if k < a.length then a.getD k 0 else b.getD (k - a.length) 0
/-- what a node says of a place, by its operands there and by itself at the next one -/
def ruleX (x : DSaid) (lt : Nat → Int) (A B : List Bool) (nx : Nat → Nat) (k : Nat) (later : Bool) : Bool :=
  if x.1 = 1 then bAnd .i64 (bShr .i64 (lt k) x.2) 1 == 1
  else if x.1 = 2 then x.2 == 1
  else if x.1 = 3 then !B.getD k false
  else if x.1 = 4 then B.getD (nx k) false
  else if x.1 = 5 then A.getD k false && B.getD k false
  else if x.1 = 6 then A.getD k false || B.getD k false
  else if x.1 = 7 then B.getD k false || (A.getD k false && later)
  else B.getD k false && (A.getD k false || later)
def turnR (ru : Nat → Bool → Bool) (nx : Nat → Nat) : Nat → List Bool → List Bool
  | 0, r => r
  | k + 1, r => turnR ru nx k (r.set k (ru k (r.getD (nx k) false)))
def rowR (ru : Nat → Bool → Bool) (nx : Nat → Nat) (n : Nat) (b : Bool) : List Bool := turnR ru nx n (turnR ru nx n (List.replicate n b))
theorem turnR_length (ru : Nat → Bool → Bool) (nx : Nat → Nat) : ∀ (k : Nat) (r : List Bool), (turnR ru nx k r).length = r.length := by
  intro k
  induction k with
  | zero => intro r; rfl
  | succ k ih => intro r; rw [turnR, ih, List.length_set]
theorem rowR_length (ru : Nat → Bool → Bool) (nx : Nat → Nat) (n : Nat) (b : Bool) : (rowR ru nx n b).length = n := by rw [rowR, turnR_length, turnR_length, List.length_replicate]
theorem getD_setB (m : List Bool) (i j : Nat) (v : Bool) : (m.set i v).getD j false = if i = j ∧ j < m.length then v else m.getD j false := by
  simp only [List.getD_eq_getElem?_getD, List.getElem?_set]
  by_cases h : i = j
  · subst h
    by_cases h2 : i < m.length
    · simp [h2]
    · simp [h2]
  · simp [h]
theorem turnR_flat (ru : Nat → Bool → Bool) (nx : Nat → Nat) (hf : ∀ k b, ru k b = ru k false) : ∀ (k : Nat) (r : List Bool) (j : Nat), j < r.length → (turnR ru nx k r).getD j false = if j < k then ru j false else r.getD j false := by
  intro k
  induction k with
  | zero => intro r j _; rw [if_neg (by omega)]; rfl
  | succ k ih =>
    intro r j hj
    rw [turnR, ih _ j (by rw [List.length_set]; exact hj), getD_setB]
    by_cases h1 : j < k
    · rw [if_pos h1, if_pos (by omega)]
    · rw [if_neg h1]
      by_cases h2 : k = j
      · subst h2
        rw [if_pos ⟨rfl, hj⟩, if_pos (by omega), hf]
      · rw [if_neg (fun q => h2 q.1), if_neg (by omega)]
theorem rowR_flat (ru : Nat → Bool → Bool) (nx : Nat → Nat) (hf : ∀ k b, ru k b = ru k false) (n : Nat) (b : Bool) : rowR ru nx n b = (List.range n).map fun k => ru k false := by
  refine List.ext_getElem (by rw [rowR_length]; simp) (fun i h1 h2 => ?_)
  have hi : i < n := by rw [rowR_length] at h1; exact h1
  have := turnR_flat ru nx hf n (turnR ru nx n (List.replicate n b)) i (by rw [turnR_length, List.length_replicate]; exact hi)
  rw [if_pos hi, List.getD_eq_getElem?_getD, List.getElem?_eq_getElem (by rw [turnR_length, turnR_length, List.length_replicate]; exact hi)] at this
  simp only [List.getElem_map, List.getElem_range]
  exact this
theorem spec_letter (l : DLasso) (h : l.1.2.length + l.2.2.length ≤ 100000) (k : Nat) (hk : k < l.1.2.length + l.2.2.length) : spec_l9At l (k : Int) = some (ltL l.1.2 l.2.2 k) := by
  rw [spec_l9At_eq]
  unfold ltL
  by_cases c : k < l.1.2.length
  · rw [gT (by omega), gT (by omega), gT (by omega), Int.toNat_natCast, if_pos c]
  · have e : Int.tmod (IntKind.i64.wrap ((k : Int) - (l.1.2.length : Int))) (l.2.2.length : Int) = ((k - l.1.2.length : Nat) : Int) := by
      rw [wr (by omega), Int.tmod_eq_emod_of_nonneg (by omega), Int.emod_eq_of_lt (by omega) (by omega)]
      omega
    rw [gF (by omega), bF (beqF (by omega)), e, gT (by omega), gT (by omega), Int.toNat_natCast, if_neg c]
theorem impl_letter (l : DLasso) (h : l.1.2.length + l.2.2.length ≤ 100000) (k : Nat) (hk : k < l.1.2.length + l.2.2.length) : impl_Lasso_letterAt l (k : Int) = some (ltL l.1.2 l.2.2 k) := by
  rw [impl_Lasso_letterAt_eq]
  unfold ltL
  by_cases c : k < l.1.2.length
  · rw [gT (by omega), gT (by omega), gT (by omega), Int.toNat_natCast, if_pos c]
  · have e : Int.tmod (IntKind.i64.wrap ((k : Int) - (l.1.2.length : Int))) (l.2.2.length : Int) = ((k - l.1.2.length : Nat) : Int) := by
      rw [wr (by omega), Int.tmod_eq_emod_of_nonneg (by omega), Int.emod_eq_of_lt (by omega) (by omega)]
      omega
    rw [gF (by omega), bF (beqF (by omega)), e, gT (by omega), gT (by omega), Int.toNat_natCast, if_neg c]
theorem impl_next (l : DLasso) (h : l.1.2.length + l.2.2.length ≤ 100000) (k : Nat) (hk : k < l.1.2.length + l.2.2.length) : impl_Lasso_nextPlace l (k : Int) = some ((nxP l.1.2.length (l.1.2.length + l.2.2.length) k : Nat) : Int) := by
  rw [impl_Lasso_nextPlace_eq, wr (by omega), wr (by omega)]
  unfold nxP
  by_cases c : k + 1 < l.1.2.length + l.2.2.length
  · rw [gT (by omega), if_pos c]; rfl
  · rw [gF (by omega), if_neg c]
theorem nxP_lt {s n k : Nat} (hs : s < n) : nxP s n k < n := by
  unfold nxP
  split <;> omega
/-! the program's rules -/
theorem hold1 (b : Bool) (R : List (Bool × List Bool)) (k : Nat) (h0 : 0 < R.length) (hk : k < (R.getD 0 (true, [])).2.length) : impl_Lasso_holdsAlong_1 (k : Int) (b, R) = some ((R.getD 0 (true, [])).2.getD k false) := by
  rw [impl_Lasso_holdsAlong_1_eq, gT (by simp only; omega), gT (by omega), gT (by simp only; omega), Int.toNat_natCast]
theorem hold2 (b : Bool) (R : List (Bool × List Bool)) (k : Nat) (h0 : 1 < R.length) (hk : k < (R.getD 1 (true, [])).2.length) : impl_Lasso_holdsAlong_2 (k : Int) (b, R) = some ((R.getD 1 (true, [])).2.getD k false) := by
  rw [impl_Lasso_holdsAlong_2_eq, gT (by simp only; omega), gT (by omega), gT (by simp only; omega), Int.toNat_natCast]
theorem rep_bool_L0 (v : Bool) (c : Nat) (hc : c ≤ 100000) (d : Nat) : ∀ (m : Nat) (b : Bool) (rest : List Bool), m + d = c → 1 ≤ m → rest.length = d →
    slices_Repeat_bool_L0 (b, List.replicate m v ++ rest) (m : Int) = some (b, List.replicate c v) := by
  induction d using Nat.strongRecOn with
  | _ d ih =>
    intro m b rest hm h1 hr
    have hl : (List.replicate m v ++ rest).length = c := by rw [List.length_append, List.length_replicate]; omega
    rw [slices_Repeat_bool_L0_eq]
    simp only [hl]
    by_cases c0 : m < c
    · have et : (List.replicate m v ++ rest).take m = List.replicate m v := List.take_left' (by simp)
      have e1 : ((List.replicate m v).drop 0).take (c - m) = List.replicate (min (c - m) m) v := by rw [List.drop_zero, List.take_replicate]
      have e2 : ((List.replicate m v).drop 0).length = m := by simp
      have e3 : (List.replicate m v ++ rest).drop (m + min m (c - m)) = rest.drop (min m (c - m)) := by
        rw [List.drop_append]
        have : (List.replicate m v).drop (m + min m (c - m)) = [] := List.drop_of_length_le (by rw [List.length_replicate]; omega)
        rw [this, List.nil_append, List.length_replicate]
        congr 1
        omega
      rw [gT (by omega), gT (by omega), gT (by omega), gT (by omega), gT (by omega)]
      simp only [Int.toNat_natCast, et, e1, e2, e3]
      have key := ih (d - min m (c - m)) (by omega) (m + min m (c - m)) b (rest.drop (min m (c - m))) (by omega) (by omega) (by rw [List.length_drop]; omega)
      rw [wr (by omega), bind_id, show (m : Int) + ((min m (c - m) : Nat) : Int) = ((m + min m (c - m) : Nat) : Int) by omega, ← List.append_assoc, List.replicate_append_replicate, Nat.min_comm (c - m) m]
      exact key
    · have hd : d = 0 := by omega
      subst hd
      have : rest = [] := List.eq_nil_of_length_eq_zero hr
      subst this
      rw [gF (by omega), List.append_nil, show m = c by omega]
theorem rep_bool (v : Bool) (c : Nat) (h1 : 1 ≤ c) (hc : c ≤ 60000) : slices_Repeat_bool (false, [v]) (c : Int) = some (false, List.replicate c v) := by
  have hlim := lim_eq
  have e := mulWords (x := 1) (y := (c : Int)) (by omega) (by omega)
  rw [slices_Repeat_bool_eq, gF (by omega)]
  have e1 : IntKind.u64.wrap (((false, [v]) : Bool × List Bool).2.length : Int) = 1 := by rw [wru (by simp)]; rfl
  have e2 : IntKind.u64.wrap (c : Int) = (c : Int) := wru (by omega)
  have e3 : IntKind.i64.wrap ((1 : Int) * (c : Int)) = (c : Int) := by rw [wr (by omega)]; omega
  rw [e1, e2, e, some_bind]
  simp only [e3, Int.toNat_natCast, List.length_replicate]
  rw [gF (by omega), gF (by omega), gT (by omega), gT (by omega), gT (by omega), gT (by omega)]
  have e4 : ([v] : List Bool).take c ++ (List.replicate c false).drop (min ([v] : List Bool).length c) = List.replicate 1 v ++ (List.replicate c false).drop 1 := by
    rw [List.take_of_length_le (by simp; omega), show min ([v] : List Bool).length c = 1 by simp; omega]
    rfl
  have e5 : ((min ([v] : List Bool).length c : Nat) : Int) = ((1 : Nat) : Int) := by simp; omega
  rw [e4, e5, rep_bool_L0 v c (by omega) (c - 1) 1 false _ (by omega) (by omega) (by simp)]
  rfl
/-! the reference's cells -/
theorem u64_small {n : Int} (h : 0 ≤ n ∧ n ≤ 2) : IntKind.u64.wrap n = n := wru (by omega)
theorem node_ops2 {x : DSaid} (h : nodeOk x = true) : (x.1 = 1 ∧ 0 ≤ x.2 ∧ x.2 ≤ 2) ∨ x.1 = 2 ∨ x.1 = 3 ∨ x.1 = 4 ∨ x.1 = 5 ∨ x.1 = 6 ∨ x.1 = 7 ∨ x.1 = 8 := by
  have hn := nodeOk_need h
  unfold nodeOk at h
  by_cases h1 : x.1 = 1
  · rw [if_pos h1, decide_eq_true_eq] at h
    exact .inl ⟨h1, h⟩
  · right
    have : ¬ needS x.1 = -1 := by omega
    unfold needS at this
    by_cases h2 : x.1 = 1 ∨ x.1 = 2
    · omega
    · rw [if_neg h2] at this
      by_cases h3 : x.1 = 3 ∨ x.1 = 4
      · omega
      · rw [if_neg h3] at this
        by_cases h4 : 5 ≤ x.1 ∧ x.1 ≤ 8
        · omega
        · rw [if_neg h4] at this
          exact absurd rfl this
/-- the rows of a node's operands -/
structure Opnds (f : List DSaid) (T : List (Bool × List Bool)) (i n : Nat) (A B : List Bool) : Prop where
  ar1 : needS (f.getD i (0, 0)).1 = 1 → 1 ≤ i ∧ (T.getD (i - 1) (true, [])).2 = B ∧ B.length = n
  ar2 : needS (f.getD i (0, 0)).1 = 2 → 1 ≤ i ∧ (T.getD (i - 1) (true, [])).2 = B ∧ B.length = n ∧ A.length = n ∧ ∃ k, From f (i - 1) (k + 1) ∧ k < i ∧ (T.getD k (true, [])).2 = A
theorem cell_spec (f : Bool × List DSaid) (hl : f.2.length ≤ 1000) (b : Bool) (T : List (Bool × List Bool)) (i n : Nat) (hi : i < f.2.length) (hT : T.length = i) (hok : nodeOk (f.2.getD i (0, 0)) = true) {A B : List Bool} (ho : Opnds f.2 T i n A B) (lt : Nat → Int) (nx : Nat → Nat) (k : Nat) (hk : k < n) (hnx : nx k < n) (hn : n ≤ 100000) (later : Bool) :
    spec_l10Cell f (b, T) (i : Int) (lt k) (k : Int) (nx k : Int) later = some (ruleX (f.2.getD i (0, 0)) lt A B nx k later) := by
  rw [spec_l10Cell_eq, gT (by omega), gT (by omega)]
  simp only [Int.toNat_natCast]
  have hops := node_ops2 hok
  obtain ⟨o1, o2⟩ := ho
  obtain ⟨x, hx⟩ : ∃ x, f.2.getD i (0, 0) = x := ⟨_, rfl⟩
  rw [hx] at hops o1 o2
  simp only [hx]
  unfold ruleX
  rcases hops with ⟨h, hx1, hx2⟩ | h | h | h | h
  · rw [bT (by simpa using h), if_pos h, u64_small ⟨hx1, hx2⟩, gF (by omega)]
  · rw [bF (beqF (by omega)), bT (by simpa using h), if_neg (by omega), if_pos h]
  · obtain ⟨p1, p2, p3⟩ := o1 (by rw [h]; rfl)
    have ew : IntKind.i64.wrap ((i : Int) - 1) = ((i - 1 : Nat) : Int) := dn1 i (by omega) (by omega)
    rw [bF (beqF (by omega)), bF (beqF (by omega)), bT (by simpa using h), if_neg (by omega), if_neg (by omega), if_pos h, ew]
    simp only [Int.toNat_natCast, p2]
    rw [gT (by omega), gT (by omega), gT (by omega), gT (by omega)]
  · obtain ⟨p1, p2, p3⟩ := o1 (by rw [h]; rfl)
    have ew : IntKind.i64.wrap ((i : Int) - 1) = ((i - 1 : Nat) : Int) := dn1 i (by omega) (by omega)
    rw [bF (beqF (by omega)), bF (beqF (by omega)), bF (beqF (by omega)), bT (by simpa using h), if_neg (by omega), if_neg (by omega), if_neg (by omega), if_pos h, ew]
    simp only [Int.toNat_natCast, p2]
    rw [gT (by omega), gT (by omega), gT (by omega), gT (by omega)]
  · have h2 : 5 ≤ x.1 ∧ x.1 ≤ 8 := by omega
    obtain ⟨p1, p2, p3, p4, kk, p5, p6, p7⟩ := o2 (by unfold needS; rw [if_neg (by omega), if_neg (by omega), if_pos h2])
    have ew : IntKind.i64.wrap ((i : Int) - 1) = ((i - 1 : Nat) : Int) := dn1 i (by omega) (by omega)
    have ew2 : IntKind.i64.wrap (((kk + 1 : Nat) : Int) - 1) = (kk : Int) := by rw [wr (by omega)]; omega
    rw [bF (beqF (by omega)), bF (beqF (by omega)), bF (beqF (by omega)), bF (beqF (by omega)), if_neg (by omega), if_neg (by omega), if_neg (by omega), if_neg (by omega), ew, l10From f hl p5 (by omega), some_bind, ew2]
    simp only [Int.toNat_natCast, p2, p7]
    rw [gT (by omega), gT (by omega), gT (by omega), gT (by omega), gT (by omega), gT (by omega), gT (by omega), gT (by omega)]
    generalize A.getD k false = a
    generalize B.getD k false = c
    rcases h with h | h | h | h
    · rw [bT (by simpa using h), if_pos h]; cases a <;> rfl
    · rw [bF (beqF (by omega)), bT (by simpa using h), if_neg (by omega), if_pos h]; cases a <;> rfl
    · rw [bF (beqF (by omega)), bF (beqF (by omega)), bT (by simpa using h), if_neg (by omega), if_neg (by omega), if_pos h]; cases a <;> cases c <;> rfl
    · rw [bF (beqF (by omega)), bF (beqF (by omega)), bF (beqF (by omega)), if_neg (by omega), if_neg (by omega), if_neg (by omega)]; cases a <;> cases c <;> rfl
theorem table_L6 (f : Bool × List DSaid) (hl : f.2.length ≤ 1000) (l : DLasso) (b rb : Bool) (T : List (Bool × List Bool)) (i : Nat) (hi : i < f.2.length) (hT : T.length = i) (hok : nodeOk (f.2.getD i (0, 0)) = true) (hn : l.1.2.length + l.2.2.length ≤ 100000) (hpos : 0 < l.2.2.length) {A B : List Bool} (ho : Opnds f.2 T i (l.1.2.length + l.2.2.length) A B) (turn : Int) (t : Bool × List DSaid) (t2 t3 : Int) : ∀ (k : Nat) (r : List Bool), k ≤ l.1.2.length + l.2.2.length → r.length = l.1.2.length + l.2.2.length →
    spec_l10Table_L6 f l ((l.1.2.length + l.2.2.length : Nat) : Int) (b, T) (i : Int) (rb, r) turn ((k : Int) - 1) t t2 t3 = some (rb, turnR (ruleX (f.2.getD i (0, 0)) (ltL l.1.2 l.2.2) A B (nxP l.1.2.length (l.1.2.length + l.2.2.length))) (nxP l.1.2.length (l.1.2.length + l.2.2.length)) k r) := by
  intro k
  induction k with
  | zero =>
    intro r _ _
    rw [spec_l10Table_L6_eq, gF (by omega)]
    rfl
  | succ k ih =>
    intro r hk hr
    have ew : IntKind.i64.wrap ((k : Int) + 1) = ((k + 1 : Nat) : Int) := up1 k (by omega)
    have ew2 : IntKind.i64.wrap ((k : Int) - 1) = (k : Int) - 1 := wr (by omega)
    have hnx : nxP l.1.2.length (l.1.2.length + l.2.2.length) k < l.1.2.length + l.2.2.length := nxP_lt (by omega)
    have hc := fun later => cell_spec f hl b T i (l.1.2.length + l.2.2.length) hi hT hok ho (ltL l.1.2 l.2.2) (nxP l.1.2.length (l.1.2.length + l.2.2.length)) k (by omega) hnx hn later
    have key := ih (r.set k (ruleX (f.2.getD i (0, 0)) (ltL l.1.2 l.2.2) A B (nxP l.1.2.length (l.1.2.length + l.2.2.length)) k (r.getD (nxP l.1.2.length (l.1.2.length + l.2.2.length) k) false))) (by omega) (by rw [List.length_set]; exact hr)
    rw [show ((k + 1 : Nat) : Int) - 1 = (k : Int) by omega, spec_l10Table_L6_eq, gT (by omega), spec_letter l hn k (by omega), some_bind, some_bind, turnR]
    simp only [ew, ew2, bind_id, Int.toNat_natCast]
    by_cases c : k + 1 < l.1.2.length + l.2.2.length
    · have e : nxP l.1.2.length (l.1.2.length + l.2.2.length) k = k + 1 := by unfold nxP; rw [if_pos c]
      rw [e] at hc key ⊢
      rw [bF (beqF (by omega)), gT (by omega), gT (by omega), hc, some_bind, gT (by omega), gT (by omega)]
      exact key
    · have e : nxP l.1.2.length (l.1.2.length + l.2.2.length) k = l.1.2.length := by unfold nxP; rw [if_neg c]
      rw [e] at hc key ⊢
      rw [bT (by rw [beq_iff_eq]; omega), gT (by omega), gT (by omega), hc, some_bind, gT (by omega), gT (by omega)]
      exact key
theorem table_L4 (f : Bool × List DSaid) (hl : f.2.length ≤ 1000) (l : DLasso) (b rb : Bool) (T : List (Bool × List Bool)) (i : Nat) (hi : i < f.2.length) (hT : T.length = i) (hok : nodeOk (f.2.getD i (0, 0)) = true) (hn : l.1.2.length + l.2.2.length ≤ 100000) (hpos : 0 < l.2.2.length) {A B : List Bool} (ho : Opnds f.2 T i (l.1.2.length + l.2.2.length) A B) (t : Bool × List DSaid) (t2 t3 : Int) (v : Bool) :
    spec_l10Table_L4 f l ((l.1.2.length + l.2.2.length : Nat) : Int) (b, T) (i : Int) (rb, List.replicate (l.1.2.length + l.2.2.length) v) 0 t t2 t3 = some (rb, rowR (ruleX (f.2.getD i (0, 0)) (ltL l.1.2 l.2.2) A B (nxP l.1.2.length (l.1.2.length + l.2.2.length))) (nxP l.1.2.length (l.1.2.length + l.2.2.length)) (l.1.2.length + l.2.2.length) v) := by
  have e := fun turn r hr => table_L6 f hl l b rb T i hi hT hok hn hpos ho turn t t2 t3 (l.1.2.length + l.2.2.length) r (Nat.le_refl _) hr
  have ew : IntKind.i64.wrap (((l.1.2.length + l.2.2.length : Nat) : Int) - 1) = ((l.1.2.length + l.2.2.length : Nat) : Int) - 1 := wr (by omega)
  rw [spec_l10Table_L4_eq, gT (by omega), ew, e 0 _ (by simp), some_bind, bind_id, show IntKind.i64.wrap (0 + 1) = 1 by decide, spec_l10Table_L4_eq, gT (by omega), ew, e 1 _ (by rw [turnR_length, List.length_replicate]), some_bind, bind_id, show IntKind.i64.wrap (1 + 1) = 2 by decide, spec_l10Table_L4_eq, gF (by omega)]
  rfl
theorem table_L2 (f : Bool × List DSaid) (l : DLasso) (n : Int) (out : Bool × List (Bool × List Bool)) (i : Int) (x : DSaid) (rb : Bool) (t : Bool × List DSaid) (t2 t3 : Int) (m : Nat) (hm : m ≤ 100000) (d : Nat) : ∀ k : Nat, k + d = m →
    spec_l10Table_L2 f l n out i x (rb, List.replicate k (x.1 == 8) ++ List.replicate d false) t t2 t3 (m : Int) (k : Int) = some (rb, List.replicate m (x.1 == 8)) := by
  induction d with
  | zero =>
    intro k hk
    rw [spec_l10Table_L2_eq, gF (by omega), List.replicate_zero, List.append_nil, show k = m by omega]
  | succ d ih =>
    intro k hk
    have hl : (List.replicate k (x.1 == 8) ++ List.replicate (d + 1) false).length = m := by simp; omega
    rw [spec_l10Table_L2_eq, gT (by omega), gT (by omega), gT (by simp only; omega), Int.toNat_natCast, up1 k (by omega), bind_id]
    have e : (List.replicate k (x.1 == 8) ++ List.replicate (d + 1) false).set k (x.1 == 8) = List.replicate (k + 1) (x.1 == 8) ++ List.replicate d false := by
      rw [List.set_append_right _ _ (by simp), List.length_replicate, Nat.sub_self, List.replicate_succ, List.set_cons_zero, List.replicate_succ', List.append_assoc]
      rfl
    simp only [e]
    exact ih (k + 1) (by omega)
/-- the row of a node -/
def rowX (x : DSaid) (l : DLasso) (A B : List Bool) : List Bool := rowR (ruleX x (ltL l.1.2 l.2.2) A B (nxP l.1.2.length (l.1.2.length + l.2.2.length))) (nxP l.1.2.length (l.1.2.length + l.2.2.length)) (l.1.2.length + l.2.2.length) (x.1 == 8)
theorem rowX_length (x : DSaid) (l : DLasso) (A B : List Bool) : (rowX x l A B).length = l.1.2.length + l.2.2.length := rowR_length _ _ _ _
/-! the program's rows -/
theorem fixed3_L2 (l : DLasso) (hn : l.1.2.length + l.2.2.length ≤ 100000) (hpos : 0 < l.2.2.length) (b1 b2 rb : Bool) (R : List (Bool × List Bool)) (hR : 1 < R.length) (h0 : (R.getD 0 (true, [])).2.length = l.1.2.length + l.2.2.length) (h1 : (R.getD 1 (true, [])).2.length = l.1.2.length + l.2.2.length) (x : DSaid) (hx : x.1 = 7) : ∀ (k : Nat) (r : List Bool), k ≤ l.1.2.length + l.2.2.length → r.length = l.1.2.length + l.2.2.length →
    impl_Lasso_fixed_by_Lasso_holdsAlong_3_L2 l ((((b1, R), ()), (((b2, R), ()), ()))) (rb, r) ((k : Int) - 1) = some (rb, turnR (ruleX x (ltL l.1.2 l.2.2) (R.getD 0 (true, [])).2 (R.getD 1 (true, [])).2 (nxP l.1.2.length (l.1.2.length + l.2.2.length))) (nxP l.1.2.length (l.1.2.length + l.2.2.length)) k r) := by
  intro k
  induction k with
  | zero =>
    intro r _ _
    rw [impl_Lasso_fixed_by_Lasso_holdsAlong_3_L2_eq, gT (by omega)]
    rfl
  | succ k ih =>
    intro r hk hr
    have hnx : nxP l.1.2.length (l.1.2.length + l.2.2.length) k < l.1.2.length + l.2.2.length := nxP_lt (by omega)
    rw [show ((k + 1 : Nat) : Int) - 1 = (k : Int) by omega, impl_Lasso_fixed_by_Lasso_holdsAlong_3_L2_eq, gF (by omega), gT (by simp only; omega), impl_next l hn k (by omega), some_bind, gT (by omega), gT (by simp only; omega), impl_Lasso_holdsAlong_3_eq]
    simp only [hold2 b1 R k hR (by omega), hold1 b2 R k (by omega) (by omega), some_bind, Int.toNat_natCast, bind_id]
    have key := ih (r.set k (ruleX x (ltL l.1.2 l.2.2) (R.getD 0 (true, [])).2 (R.getD 1 (true, [])).2 (nxP l.1.2.length (l.1.2.length + l.2.2.length)) k (r.getD (nxP l.1.2.length (l.1.2.length + l.2.2.length) k) false))) (by omega) (by rw [List.length_set]; exact hr)
    rw [turnR]
    have er : (bif (R.getD 1 (true, [])).2.getD k false then some true else bif (R.getD 0 (true, [])).2.getD k false then some (r.getD (nxP l.1.2.length (l.1.2.length + l.2.2.length) k) false) else some false) = some (ruleX x (ltL l.1.2 l.2.2) (R.getD 0 (true, [])).2 (R.getD 1 (true, [])).2 (nxP l.1.2.length (l.1.2.length + l.2.2.length)) k (r.getD (nxP l.1.2.length (l.1.2.length + l.2.2.length) k) false)) := by
      unfold ruleX
      rw [if_neg (by omega), if_neg (by omega), if_neg (by omega), if_neg (by omega), if_neg (by omega), if_neg (by omega), if_pos hx]
      cases (R.getD 1 (true, [])).2.getD k false <;> cases (R.getD 0 (true, [])).2.getD k false <;> rfl
    rw [er, some_bind, gT (by omega), gT (by omega)]
    exact key
theorem fixed4_L2 (l : DLasso) (hn : l.1.2.length + l.2.2.length ≤ 100000) (hpos : 0 < l.2.2.length) (b1 b2 rb : Bool) (R : List (Bool × List Bool)) (hR : 1 < R.length) (h0 : (R.getD 0 (true, [])).2.length = l.1.2.length + l.2.2.length) (h1 : (R.getD 1 (true, [])).2.length = l.1.2.length + l.2.2.length) (x : DSaid) (hx : x.1 = 8) : ∀ (k : Nat) (r : List Bool), k ≤ l.1.2.length + l.2.2.length → r.length = l.1.2.length + l.2.2.length →
    impl_Lasso_fixed_by_Lasso_holdsAlong_4_L2 l ((((b1, R), ()), (((b2, R), ()), ()))) (rb, r) ((k : Int) - 1) = some (rb, turnR (ruleX x (ltL l.1.2 l.2.2) (R.getD 0 (true, [])).2 (R.getD 1 (true, [])).2 (nxP l.1.2.length (l.1.2.length + l.2.2.length))) (nxP l.1.2.length (l.1.2.length + l.2.2.length)) k r) := by
  intro k
  induction k with
  | zero =>
    intro r _ _
    rw [impl_Lasso_fixed_by_Lasso_holdsAlong_4_L2_eq, gT (by omega)]
    rfl
  | succ k ih =>
    intro r hk hr
    have hnx : nxP l.1.2.length (l.1.2.length + l.2.2.length) k < l.1.2.length + l.2.2.length := nxP_lt (by omega)
    rw [show ((k + 1 : Nat) : Int) - 1 = (k : Int) by omega, impl_Lasso_fixed_by_Lasso_holdsAlong_4_L2_eq, gF (by omega), gT (by simp only; omega), impl_next l hn k (by omega), some_bind, gT (by omega), gT (by simp only; omega), impl_Lasso_holdsAlong_4_eq]
    simp only [hold2 b1 R k hR (by omega), hold1 b2 R k (by omega) (by omega), some_bind, Int.toNat_natCast, bind_id]
    have key := ih (r.set k (ruleX x (ltL l.1.2 l.2.2) (R.getD 0 (true, [])).2 (R.getD 1 (true, [])).2 (nxP l.1.2.length (l.1.2.length + l.2.2.length)) k (r.getD (nxP l.1.2.length (l.1.2.length + l.2.2.length) k) false))) (by omega) (by rw [List.length_set]; exact hr)
    rw [turnR]
    have er : (bif (R.getD 1 (true, [])).2.getD k false then (bif (R.getD 0 (true, [])).2.getD k false then some true else some (r.getD (nxP l.1.2.length (l.1.2.length + l.2.2.length) k) false)) else some false) = some (ruleX x (ltL l.1.2 l.2.2) (R.getD 0 (true, [])).2 (R.getD 1 (true, [])).2 (nxP l.1.2.length (l.1.2.length + l.2.2.length)) k (r.getD (nxP l.1.2.length (l.1.2.length + l.2.2.length) k) false)) := by
      unfold ruleX
      rw [if_neg (by omega), if_neg (by omega), if_neg (by omega), if_neg (by omega), if_neg (by omega), if_neg (by omega), if_neg (by omega)]
      cases (R.getD 1 (true, [])).2.getD k false <;> cases (R.getD 0 (true, [])).2.getD k false <;> rfl
    rw [er, some_bind, gT (by omega), gT (by omega)]
    exact key
/-- a node's operands, as the program has them -/
structure OpsR (x : DSaid) (n : Nat) (R : List (Bool × List Bool)) (A B : List Bool) : Prop where
  ar1 : needS x.1 = 1 → 0 < R.length ∧ (R.getD 0 (true, [])).2 = B ∧ B.length = n
  ar2 : needS x.1 = 2 → 1 < R.length ∧ (R.getD 0 (true, [])).2 = A ∧ (R.getD 1 (true, [])).2 = B ∧ A.length = n ∧ B.length = n
theorem alongS_L1 (l : DLasso) (hn : l.1.2.length + l.2.2.length ≤ 100000) (hpos : 0 < l.2.2.length) (x : DSaid) (hok : nodeOk x = true) (h6 : x.1 ≤ 6) (b : Bool) (R : List (Bool × List Bool)) {A B : List Bool} (ho : OpsR x (l.1.2.length + l.2.2.length) R A B) (d : Nat) : ∀ (i : Nat) (ob : Bool), i + d = l.1.2.length + l.2.2.length →
    ∃ ob', impl_Lasso_holdsAlong_L1 l x ((b, R), ()) ((b, R), ()) (ob, (List.range i).map fun k => ruleX x (ltL l.1.2 l.2.2) A B (nxP l.1.2.length (l.1.2.length + l.2.2.length)) k false) ((l.1.2.length + l.2.2.length : Nat) : Int) (i : Int) = some (ob', (List.range (l.1.2.length + l.2.2.length)).map fun k => ruleX x (ltL l.1.2 l.2.2) A B (nxP l.1.2.length (l.1.2.length + l.2.2.length)) k false) := by
  have hlim := lim_eq
  induction d with
  | zero =>
    intro i ob hi
    rw [impl_Lasso_holdsAlong_L1_eq, gF (by omega), show i = l.1.2.length + l.2.2.length by omega]
    exact ⟨ob, rfl⟩
  | succ d ih =>
    intro i ob hi
    have hnx : nxP l.1.2.length (l.1.2.length + l.2.2.length) i < l.1.2.length + l.2.2.length := nxP_lt (by omega)
    have hlen : ∀ v : Bool, ((List.range i).map fun k => ruleX x (ltL l.1.2 l.2.2) A B (nxP l.1.2.length (l.1.2.length + l.2.2.length)) k false).length + [v].length ≤ lim := fun v => by simp; omega
    obtain ⟨ob', key⟩ := ih (i + 1) (ob && false) (by omega)
    rw [List.range_succ, List.map_append, List.map_cons, List.map_nil] at key
    refine ⟨ob', ?_⟩
    rw [impl_Lasso_holdsAlong_L1_eq, gT (by omega)]
    simp only [hlen, decide_true, cond_true, bind_id, up1 i (show i < 4611686018427387904 by omega)]
    have hops := node_ops2 hok
    obtain ⟨o1, o2⟩ := ho
    rcases hops with ⟨h, hx1, hx2⟩ | h | h | h | h
    · have e : ruleX x (ltL l.1.2 l.2.2) A B (nxP l.1.2.length (l.1.2.length + l.2.2.length)) i false = (bAnd .i64 (bShr .i64 (ltL l.1.2 l.2.2 i) x.2) 1 == 1) := by unfold ruleX; rw [if_pos h]
      rw [e] at key
      rw [bT (by simpa using h), impl_letter l hn i (by omega), some_bind, gF (by omega)]
      exact key
    · have e : ruleX x (ltL l.1.2 l.2.2) A B (nxP l.1.2.length (l.1.2.length + l.2.2.length)) i false = (x.2 == 1) := by unfold ruleX; rw [if_neg (by omega), if_pos h]
      rw [e] at key
      rw [bF (beqF (by omega)), bF (beqF (by omega)), bF (beqF (by omega)), bF (beqF (by omega)), bF (beqF (by omega))]
      exact key
    · obtain ⟨p1, p2, p3⟩ := o1 (by rw [h]; rfl)
      have e : ruleX x (ltL l.1.2 l.2.2) A B (nxP l.1.2.length (l.1.2.length + l.2.2.length)) i false = !B.getD i false := by unfold ruleX; rw [if_neg (by omega), if_neg (by omega), if_pos h]
      rw [e] at key
      rw [bF (beqF (by omega)), bT (by simpa using h), hold1 b R i p1 (by rw [p2]; omega), some_bind, p2]
      exact key
    · obtain ⟨p1, p2, p3⟩ := o1 (by rw [h]; rfl)
      have e : ruleX x (ltL l.1.2 l.2.2) A B (nxP l.1.2.length (l.1.2.length + l.2.2.length)) i false = B.getD (nxP l.1.2.length (l.1.2.length + l.2.2.length) i) false := by unfold ruleX; rw [if_neg (by omega), if_neg (by omega), if_neg (by omega), if_pos h]
      rw [e] at key
      rw [bF (beqF (by omega)), bF (beqF (by omega)), bT (by simpa using h), impl_next l hn i (by omega), some_bind, hold1 b R _ p1 (by rw [p2]; omega), some_bind, p2]
      exact key
    · have h56 : x.1 = 5 ∨ x.1 = 6 := by omega
      obtain ⟨p1, p2, p3, p4, p5⟩ := o2 (by unfold needS; rw [if_neg (by omega), if_neg (by omega), if_pos (by omega)])
      have e1 := hold1 b R i (by omega) (by rw [p2]; omega)
      have e2 := hold2 b R i p1 (by rw [p3]; omega)
      rw [p2] at e1
      rw [p3] at e2
      rcases h56 with h | h
      · have e : ruleX x (ltL l.1.2 l.2.2) A B (nxP l.1.2.length (l.1.2.length + l.2.2.length)) i false = (A.getD i false && B.getD i false) := by unfold ruleX; rw [if_neg (by omega), if_neg (by omega), if_neg (by omega), if_neg (by omega), if_pos h]
        rw [e] at key
        rw [bF (beqF (by omega)), bF (beqF (by omega)), bF (beqF (by omega)), bT (by simpa using h), e1, some_bind, e2, some_bind]
        cases hv : A.getD i false with
        | true => rw [hv, Bool.true_and] at key; exact key
        | false => rw [hv, Bool.false_and] at key; exact key
      · have e : ruleX x (ltL l.1.2 l.2.2) A B (nxP l.1.2.length (l.1.2.length + l.2.2.length)) i false = (A.getD i false || B.getD i false) := by unfold ruleX; rw [if_neg (by omega), if_neg (by omega), if_neg (by omega), if_neg (by omega), if_neg (by omega), if_pos h]
        rw [e] at key
        rw [bF (beqF (by omega)), bF (beqF (by omega)), bF (beqF (by omega)), bF (beqF (by omega)), bT (by simpa using h), e1, some_bind, e2, some_bind]
        cases hv : A.getD i false with
        | true => rw [hv, Bool.true_or] at key; exact key
        | false => rw [hv, Bool.false_or] at key; exact key
theorem ruleX_flat (x : DSaid) (h0 : 1 ≤ x.1) (h6 : x.1 ≤ 6) (lt : Nat → Int) (A B : List Bool) (nx : Nat → Nat) (k : Nat) (b : Bool) : ruleX x lt A B nx k b = ruleX x lt A B nx k false := by
  unfold ruleX
  by_cases h1 : x.1 = 1
  · rw [if_pos h1, if_pos h1]
  by_cases h2 : x.1 = 2
  · rw [if_neg h1, if_pos h2, if_neg h1, if_pos h2]
  by_cases h3 : x.1 = 3
  · simp only [if_neg h1, if_neg h2, if_pos h3]
  by_cases h4 : x.1 = 4
  · simp only [if_neg h1, if_neg h2, if_neg h3, if_pos h4]
  by_cases h5 : x.1 = 5
  · simp only [if_neg h1, if_neg h2, if_neg h3, if_neg h4, if_pos h5]
  by_cases h66 : x.1 = 6
  · simp only [if_neg h1, if_neg h2, if_neg h3, if_neg h4, if_neg h5, if_pos h66]
  · exfalso
    omega
theorem holds_row (l : DLasso) (hn : l.1.2.length + l.2.2.length ≤ 60000) (hpos : 0 < l.2.2.length) (x : DSaid) (hok : nodeOk x = true) (b : Bool) (R : List (Bool × List Bool)) {A B : List Bool} (ho : OpsR x (l.1.2.length + l.2.2.length) R A B) :
    ∃ b', impl_Lasso_holdsAlong l x (b, R) = some (b', rowX x l A B) := by
  have hops := node_ops2 hok
  have ew : IntKind.i64.wrap ((l.1.2.length : Int) + (l.2.2.length : Int)) = ((l.1.2.length + l.2.2.length : Nat) : Int) := by rw [wr (by omega)]; omega
  rw [impl_Lasso_holdsAlong_eq]
  by_cases h7 : x.1 = 7
  · obtain ⟨p1, p2, p3, p4, p5⟩ := ho.ar2 (by unfold needS; rw [if_neg (by omega), if_neg (by omega), if_pos (by omega)])
    have e := fun r hr => fixed3_L2 l (by omega) hpos b b false R p1 (by rw [p2]; exact p4) (by rw [p3]; exact p5) x h7 (l.1.2.length + l.2.2.length) r (Nat.le_refl _) hr
    have hl : ∀ r : List Bool, r.length = l.1.2.length + l.2.2.length → impl_Lasso_fixed_by_Lasso_holdsAlong_3_L2 l (((b, R), ()), (((b, R), ()), ())) (false, r) ((r.length : Int) - 1) = some (false, turnR (ruleX x (ltL l.1.2 l.2.2) A B (nxP l.1.2.length (l.1.2.length + l.2.2.length))) (nxP l.1.2.length (l.1.2.length + l.2.2.length)) (l.1.2.length + l.2.2.length) r) := fun r hr => by
      rw [hr, e r hr, p2, p3]
    have h8 : (x.1 == 8) = false := beqF (by omega)
    rw [bT (by simpa using h7), impl_Lasso_fixed_by_Lasso_holdsAlong_3_eq, ew, rep_bool false _ (by omega) (by omega), some_bind]
    simp only
    rw [impl_Lasso_fixed_by_Lasso_holdsAlong_3_L0_eq, gT (by omega)]
    simp only [hl _ (List.length_replicate ..), some_bind, bind_id, show IntKind.i64.wrap (0 + 1) = 1 by decide]
    rw [impl_Lasso_fixed_by_Lasso_holdsAlong_3_L0_eq, gT (by omega)]
    have hl2 := hl (turnR (ruleX x (ltL l.1.2 l.2.2) A B (nxP l.1.2.length (l.1.2.length + l.2.2.length))) (nxP l.1.2.length (l.1.2.length + l.2.2.length)) (l.1.2.length + l.2.2.length) (List.replicate (l.1.2.length + l.2.2.length) false)) (by rw [turnR_length, List.length_replicate])
    simp only [hl2, some_bind, bind_id, show IntKind.i64.wrap (1 + 1) = 2 by decide]
    rw [impl_Lasso_fixed_by_Lasso_holdsAlong_3_L0_eq, gF (by omega)]
    refine ⟨false, ?_⟩
    unfold rowX rowR
    rw [h8]
    rfl
  rw [bF (beqF h7)]
  by_cases h8 : x.1 = 8
  · obtain ⟨p1, p2, p3, p4, p5⟩ := ho.ar2 (by unfold needS; rw [if_neg (by omega), if_neg (by omega), if_pos (by omega)])
    have e := fun r hr => fixed4_L2 l (by omega) hpos b b false R p1 (by rw [p2]; exact p4) (by rw [p3]; exact p5) x h8 (l.1.2.length + l.2.2.length) r (Nat.le_refl _) hr
    have hl : ∀ r : List Bool, r.length = l.1.2.length + l.2.2.length → impl_Lasso_fixed_by_Lasso_holdsAlong_4_L2 l (((b, R), ()), (((b, R), ()), ())) (false, r) ((r.length : Int) - 1) = some (false, turnR (ruleX x (ltL l.1.2 l.2.2) A B (nxP l.1.2.length (l.1.2.length + l.2.2.length))) (nxP l.1.2.length (l.1.2.length + l.2.2.length)) (l.1.2.length + l.2.2.length) r) := fun r hr => by
      rw [hr, e r hr, p2, p3]
    have h9 : (x.1 == 8) = true := by simpa using h8
    rw [bT h9, impl_Lasso_fixed_by_Lasso_holdsAlong_4_eq, ew, rep_bool true _ (by omega) (by omega), some_bind]
    simp only
    rw [impl_Lasso_fixed_by_Lasso_holdsAlong_4_L0_eq, gT (by omega)]
    simp only [hl _ (List.length_replicate ..), some_bind, bind_id, show IntKind.i64.wrap (0 + 1) = 1 by decide]
    rw [impl_Lasso_fixed_by_Lasso_holdsAlong_4_L0_eq, gT (by omega)]
    have hl2 := hl (turnR (ruleX x (ltL l.1.2 l.2.2) A B (nxP l.1.2.length (l.1.2.length + l.2.2.length))) (nxP l.1.2.length (l.1.2.length + l.2.2.length)) (l.1.2.length + l.2.2.length) (List.replicate (l.1.2.length + l.2.2.length) true)) (by rw [turnR_length, List.length_replicate])
    simp only [hl2, some_bind, bind_id, show IntKind.i64.wrap (1 + 1) = 2 by decide]
    rw [impl_Lasso_fixed_by_Lasso_holdsAlong_4_L0_eq, gF (by omega)]
    refine ⟨false, ?_⟩
    unfold rowX rowR
    rw [h9]
    rfl
  rw [bF (beqF h8), ew]
  obtain ⟨ob', e⟩ := alongS_L1 l (by omega) hpos x hok (by omega) b R ho (l.1.2.length + l.2.2.length) 0 false (by omega)
  have e' : impl_Lasso_holdsAlong_L1 l x ((b, R), ()) ((b, R), ()) (false, []) ((l.1.2.length + l.2.2.length : Nat) : Int) 0 = _ := e
  rw [e', some_bind]
  refine ⟨ob', ?_⟩
  unfold rowX
  rw [rowR_flat _ _ (fun k b => ruleX_flat x (by omega) (by omega) _ _ _ _ k b)]
def rowsS (T : List (Bool × List Bool)) (st : List Int) : List (List Bool) := st.map fun x => (T.getD x.toNat (true, [])).2
theorem getD_rowsS {T S : List (Bool × List Bool)} {st : List Int} (h : S.map Prod.snd = rowsS T st) (j : Nat) (hj : j < st.length) : (S.getD j (true, [])).2 = (T.getD (st.getD j 0).toNat (true, [])).2 := by
  have hl : S.length = st.length := by have := congrArg List.length h; simpa [rowsS] using this
  have := congrArg (fun l => l[j]?) h
  simp only [rowsS, List.getElem?_map, List.getElem?_eq_getElem (show j < S.length by omega), List.getElem?_eq_getElem hj, Option.map_some, Option.some.injEq] at this
  rw [List.getD_eq_getElem?_getD, List.getElem?_eq_getElem (show j < S.length by omega), List.getD_eq_getElem?_getD (l := st), List.getElem?_eq_getElem hj]
  exact this
theorem Stk_lt {f : List DSaid} {st : List Int} {i : Nat} (h : Stk f st i) : ∀ x ∈ st, 0 ≤ x ∧ x < (i : Int) := by
  induction h with
  | nil => intro x hx; cases hx
  | @snoc st s k h1 h2 ih =>
    intro x hx
    have := From_le h2
    rcases List.mem_append.1 hx with q | q
    · have := ih x q; omega
    · rw [List.mem_singleton] at q; omega
theorem turnR_keep (ru : Nat → Bool → Bool) (nx : Nat → Nat) : ∀ (m : Nat) (r : List Bool) (j : Nat), m ≤ j → (turnR ru nx m r).getD j false = r.getD j false := by
  intro m
  induction m with
  | zero => intro r j _; rfl
  | succ m ih =>
    intro r j hj
    rw [turnR, ih _ j (by omega), getD_setB, if_neg (by omega)]
theorem turnR_chain (ru : Nat → Bool → Bool) (s n : Nat) : ∀ (m : Nat) (r : List Bool), m ≤ n → r.length = n → ∀ j, j < m →
    (turnR ru (nxP s n) m r).getD j false = ru j (if j + 1 < m then (turnR ru (nxP s n) m r).getD (j + 1) false else r.getD (nxP s n j) false) := by
  intro m
  induction m with
  | zero => intro r _ _ j hj; omega
  | succ m ih =>
    intro r hm hr j hj
    have hl : (r.set m (ru m (r.getD (nxP s n m) false))).length = n := by rw [List.length_set]; exact hr
    rw [turnR]
    by_cases h1 : j < m
    · rw [ih _ (by omega) hl j h1, if_pos (show j + 1 < m + 1 by omega)]
      by_cases h2 : j + 1 < m
      · rw [if_pos h2]
      · have e : j + 1 = m := by omega
        rw [if_neg h2, turnR_keep _ _ m _ (j + 1) (by omega)]
        have : nxP s n j = j + 1 := by unfold nxP; rw [if_pos (by omega)]
        rw [this]
    · have e : j = m := by omega
      subst e
      rw [turnR_keep _ _ j _ j (by omega), getD_setB, if_pos ⟨rfl, by omega⟩, if_neg (by omega)]
theorem turnR_last (ru : Nat → Bool → Bool) (s n : Nat) (hs : s < n) (r : List Bool) (hr : r.length = n) : (turnR ru (nxP s n) n r).getD (n - 1) false = ru (n - 1) (r.getD s false) := by
  rw [turnR_chain ru s n n r (Nat.le_refl _) hr (n - 1) (by omega), if_neg (by omega)]
  have : nxP s n (n - 1) = s := by unfold nxP; rw [if_neg (by omega)]
  rw [this]
theorem turnR_down (ru : Nat → Bool → Bool) (hm : ∀ k, ru k false = true → ru k true = true) (s n : Nat) (hs : s < n) (d : Nat) : ∀ j, j + d = n - 1 → ∃ G : Bool → Bool, (G false = true → G true = true) ∧ ∀ r : List Bool, r.length = n → (turnR ru (nxP s n) n r).getD j false = G (r.getD s false) := by
  induction d with
  | zero =>
    intro j hj
    obtain rfl : j = n - 1 := by omega
    exact ⟨ru (n - 1), hm _, fun r hr => turnR_last ru s n hs r hr⟩
  | succ d ih =>
    intro j hj
    obtain ⟨G, h1, h2⟩ := ih (j + 1) (by omega)
    refine ⟨fun b => ru j (G b), fun h => ?_, fun r hr => ?_⟩
    · have h : ru j (G false) = true := h
      show ru j (G true) = true
      cases hf : G false with
      | true => rw [hf] at h; rw [h1 hf]; exact h
      | false =>
        rw [hf] at h
        cases ht : G true with
        | true => exact hm j h
        | false => exact h
    · rw [turnR_chain ru s n n r (Nat.le_refl _) hr j (by omega), if_pos (by omega), h2 r hr]
theorem twice (G : Bool → Bool) (h : G false = true → G true = true) (b : Bool) : G (G b) = G b := by
  cases hf : G false with
  | true => have := h hf; cases b <;> simp [hf, this]
  | false =>
    cases ht : G true with
    | true => cases b <;> simp [hf, ht]
    | false => cases b <;> simp [hf, ht]
theorem rowR_fixed (ru : Nat → Bool → Bool) (hm : ∀ k, ru k false = true → ru k true = true) (s n : Nat) (hs : s < n) (b : Bool) (k : Nat) (hk : k < n) :
    (rowR ru (nxP s n) n b).getD k false = ru k ((rowR ru (nxP s n) n b).getD (nxP s n k) false) := by
  have hl : (turnR ru (nxP s n) n (List.replicate n b)).length = n := by rw [turnR_length, List.length_replicate]
  by_cases h1 : k + 1 < n
  · have e : nxP s n k = k + 1 := by unfold nxP; rw [if_pos h1]
    rw [e]
    show (turnR ru (nxP s n) n _).getD k false = _
    rw [turnR_chain ru s n n _ (Nat.le_refl _) hl k hk, if_pos h1]
    rfl
  · obtain rfl : k = n - 1 := by omega
    have e : nxP s n (n - 1) = s := by unfold nxP; rw [if_neg h1]
    obtain ⟨G, g1, g2⟩ := turnR_down ru hm s n hs (n - 1 - s) s (by omega)
    have e1 : (rowR ru (nxP s n) n b).getD s false = (turnR ru (nxP s n) n (List.replicate n b)).getD s false := by
      show (turnR ru (nxP s n) n _).getD s false = _
      rw [g2 _ hl, g2 _ (List.length_replicate ..), twice G g1]
    rw [e, e1]
    exact turnR_last ru s n hs _ hl
theorem ruleX_mono (x : DSaid) (lt : Nat → Int) (A B : List Bool) (nx : Nat → Nat) (k : Nat) (h : ruleX x lt A B nx k false = true) : ruleX x lt A B nx k true = true := by
  unfold ruleX at h ⊢
  repeat' split at h
  all_goals simp_all
def bitsG : List Bool → Nat
  | [] => 0
  | b :: l => (if b = true then 1 else 0) + 2 * bitsG l
theorem bitsG_lt (l : List Bool) : bitsG l < 2 ^ l.length := by
  induction l with
  | nil => simp [bitsG]
  | cons b l ih =>
    rw [bitsG, List.length_cons, Nat.pow_succ]
    split <;> omega
theorem bitsG_snoc (l : List Bool) (b : Bool) : bitsG (l ++ [b]) = bitsG l + if b = true then 2 ^ l.length else 0 := by
  induction l with
  | nil => cases b <;> simp [bitsG]
  | cons a l ih =>
    rw [List.cons_append, bitsG, ih, bitsG, List.length_cons, Nat.pow_succ]
    cases b <;> simp <;> omega
theorem bitsG_or (l : List Bool) : bitsG l ||| 2 ^ l.length = bitsG (l ++ [true]) := by
  rw [bitsG_snoc, if_pos rfl, Nat.or_comm]
  have := Nat.two_pow_add_eq_or_of_lt (bitsG_lt l) 1
  rw [Nat.mul_one] at this
  omega
theorem bitsG_no (l : List Bool) : bitsG l = bitsG (l ++ [false]) := by rw [bitsG_snoc]; simp
theorem bitsG_bit (l : List Bool) : ∀ i : Nat, bitsG l / 2 ^ i % 2 = if l.getD i false = true then 1 else 0 := by
  induction l with
  | nil => intro i; simp [bitsG]
  | cons b l ih =>
    intro i
    cases i with
    | zero =>
      rw [bitsG]
      cases b <;> simp <;> omega
    | succ i =>
      rw [bitsG, Nat.pow_succ, Nat.mul_comm (2 ^ i) 2, ← Nat.div_div_eq_div_mul]
      have : ((if b = true then 1 else 0) + 2 * bitsG l) / 2 = bitsG l := by split <;> omega
      rw [this, ih i]
      simp
theorem bAnd_i64 (a b : Nat) (ha : a < 2 ^ 62) (hb : b < 2 ^ 62) : bAnd .i64 (a : Int) (b : Int) = ((a &&& b : Nat) : Int) := by
  unfold bAnd
  show IntKind.i64.wrap (((BitVec.ofInt 64 (a : Int) &&& BitVec.ofInt 64 (b : Int)).toNat : Nat) : Int) = _
  rw [BitVec.toNat_and, BitVec.ofInt_natCast, BitVec.ofInt_natCast, BitVec.toNat_ofNat, BitVec.toNat_ofNat, Nat.mod_eq_of_lt (by omega), Nat.mod_eq_of_lt (by omega)]
  have := Nat.and_lt_two_pow (n := 62) a hb
  exact wr ⟨by omega, by simp at this; omega⟩
theorem bitAt_bits (l : List Bool) (hl : l.length ≤ 5) (i : Nat) (hi : i ≤ 60) : bitAt (bitsG l : Int) i = l.getD i false := by
  have h1 := bitsG_lt l
  have h2 : (2 : Nat) ^ l.length ≤ 2 ^ 5 := Nat.pow_le_pow_right (by decide) hl
  have e0 : ((bitsG l : Nat) : Int) / 2 ^ i = ((bitsG l / 2 ^ i : Nat) : Int) := by
    rw [Int.natCast_ediv]
    congr 1
  have h3 : bitsG l / 2 ^ i ≤ bitsG l := Nat.div_le_self _ _
  unfold bitAt
  rw [bShr_eq .i64 _ i (by simp [IntKind.bits]; omega), e0, show (1 : Int) = ((1 : Nat) : Int) from rfl, bAnd_i64 _ 1 (by omega) (by omega), Nat.and_one_is_mod, bitsG_bit]
  cases l.getD i false <;> rfl
theorem saysL_bits (T : List Int) (hT : T.length ≤ 5) (v : Int → Bool) (node : Int) (h : node ∈ T) : saysL T ((bitsG (T.map v) : Nat) : Int) node = v node := by
  have hany : (T.any fun x => node == x) = true := List.any_eq_true.2 ⟨node, h, by simp⟩
  have hlt : T.findIdx (fun x => node == x) < T.length := List.findIdx_lt_length_of_exists ⟨node, h, by simp⟩
  have hat := List.findIdx_getElem (w := hlt)
  have hat' : node = T[T.findIdx fun x => node == x] := by simpa using hat
  rw [saysL, hany, Bool.true_and, bitAt_bits _ (by rw [List.length_map]; exact hT) _ (by omega), List.getD_eq_getElem?_getD, List.getElem?_map, List.getElem?_eq_getElem hlt, ← hat']
  rfl
/-- what a node says now, by its operands and by what is said of tracked nodes next -/
def nowAt (x : DSaid) (lttr : Int) (says : Int → Bool) (i : Nat) (a b : Bool) : Bool :=
  if x.1 = 1 then bAnd .i64 (bShr .i64 lttr x.2) 1 == 1
  else if x.1 = 2 then x.2 == 1
  else if x.1 = 3 then !b
  else if x.1 = 4 then says ((i : Int) - 1)
  else if x.1 = 5 then a && b
  else if x.1 = 6 then a || b
  else if x.1 = 7 then b || (a && says (i : Int))
  else b && (a || says (i : Int))
/-- the values of the nodes now are as they have to be -/
def NowOk (f : List DSaid) (lttr : Int) (says : Int → Bool) (out : List Bool) (i : Nat) : Prop := ∀ j : Nat, j < i → ∃ a b, out.getD j false = nowAt (f.getD j (0, 0)) lttr says j a b ∧ (needS (f.getD j (0, 0)).1 = 1 → b = out.getD (j - 1) false) ∧ (needS (f.getD j (0, 0)).1 = 2 → b = out.getD (j - 1) false ∧ ∃ k : Nat, From f (j - 1) (k + 1) ∧ k < j ∧ a = out.getD k false)
theorem now_stepV (f : Bool × List DSaid) (hf : goodSaid f.2 = true) (R : List (Bool × List Int)) (hR : OpsAre f.2 f.2.length R) (lttr next : Int) (tb : Bool) (b b' : Bool) (out : List Bool) (i : Nat) (hi : i < f.2.length) (ho : out.length = i) :
    ∃ v x1 x2, impl_evalNow_L0 lttr next (b, out) (false, R) (false, trackL f.2) f (f.2.length : Int) (i : Int) = impl_evalNow_L0 lttr next (b && false, out ++ [v]) (false, R) (false, trackL f.2) f (f.2.length : Int) ((i + 1 : Nat) : Int) ∧
      spec_l13Now_L0 f (tb, trackL f.2) lttr next (b', out) f (f.2.length : Int) (i : Int) = spec_l13Now_L0 f (tb, trackL f.2) lttr next (b' && false, out ++ [v]) f (f.2.length : Int) ((i + 1 : Nat) : Int) ∧
      v = nowAt (f.2.getD i (0, 0)) lttr (saysL (trackL f.2) next) i x1 x2 ∧ (needS (f.2.getD i (0, 0)).1 = 1 → x2 = out.getD (i - 1) false) ∧ (needS (f.2.getD i (0, 0)).1 = 2 → x2 = out.getD (i - 1) false ∧ ∃ k : Nat, From f.2 (i - 1) (k + 1) ∧ k < i ∧ x1 = out.getD k false) := by
  have hlim := lim_eq
  obtain ⟨n1, n2, n3⟩ := goodSaid_in hf
  have htl := trackL_length n2
  have hok := goodSaid_ok hf i hi
  have eg : f.2.getD i (0, 0) = f.2[i] := by simp [List.getD_eq_getElem?_getD, hi]
  rw [← eg] at hok
  have hRl := hR.len
  have t1 : decide ((i : Int) < (f.2.length : Int)) = true := decide_eq_true (by omega)
  have t2 : decide (0 ≤ (i : Int)) = true := decide_eq_true (by omega)
  have t3 : decide ((i : Int) < (R.length : Int)) = true := decide_eq_true (by omega)
  have tl : ∀ v : Bool, decide (out.length + [v].length ≤ lim) = true := fun v => decide_eq_true (by simp; omega)
  have hpos := hR.pos i hi
  have hmany := hR.many i hi
  have says : ∀ node, spec_l13Says (tb, trackL f.2) next node = some (saysL (trackL f.2) next node) := fun node => l13Says (tb, trackL f.2) (by simp only; omega) next node
  have ass : ∀ node, node ∈ trackL f.2 → impl_assumes (false, trackL f.2) next node = some (saysL (trackL f.2) next node) := fun node h => assumes (false, trackL f.2) (by simp only; omega) next node h
  have hun : ∀ n : Nat, n < 4611686018427387904 → IntKind.i64.wrap ((n : Int) + 1) = ((n + 1 : Nat) : Int) := fun n h => up1 n h
  have upi := up1 i (by omega)
  rw [impl_evalNow_L0_eq, spec_l13Now_L0_eq]
  simp only [t1, t2, cond_true, getD_nat, upi, bind_id, tl]
  generalize hx : f.2.getD i (0, 0) = x at *
  rcases node_ops hok with ⟨h, m1, m2⟩ | h | h | h | h | h | h | h
  · simp only [h, Int.reduceBEq, beq_self_eq_true, cond_true, cond_false, wru (n := x.2) (by omega), gF (show ¬ x.2 < 0 by omega)]
    exact ⟨_, false, false, rfl, rfl, by simp [nowAt, h], fun q => absurd q (by decide), fun q => absurd q (by decide)⟩
  · simp only [h, Int.reduceBEq, beq_self_eq_true, cond_true, cond_false]
    exact ⟨_, false, false, rfl, rfl, by simp [nowAt, h], fun q => absurd q (by decide), fun q => absurd q (by decide)⟩
  · have hn : needS x.1 = 1 := by rw [h]; rfl
    have o1 := hR.op1 i hi (by rw [hx]; exact hn)
    rw [hn] at hpos hmany
    have e1 : (i : Int) - 1 = ((i - 1 : Nat) : Int) := by omega
    have d1 : decide (((i - 1 : Nat) : Int) < (out.length : Int)) = true := decide_eq_true (by omega)
    have d2 : decide (0 ≤ ((i - 1 : Nat) : Int)) = true := decide_eq_true (by omega)
    simp only [h, Int.reduceBEq, beq_self_eq_true, cond_true, cond_false, t3, hmany, o1, e1, d1, d2, Int.toNat_natCast, Int.reduceLT, decide_true, wr (n := ((i - 1 : Nat) : Int)) (by omega)]
    exact ⟨_, false, out.getD (i - 1) false, rfl, rfl, by simp [nowAt, h], fun _ => rfl, fun q => absurd q (by decide)⟩
  · have hn : needS x.1 = 1 := by rw [h]; rfl
    have o1 := hR.op1 i hi (by rw [hx]; exact hn)
    rw [hn] at hpos hmany
    have e0 := ass _ (tr_prev hi (by rw [hx]; exact .inr (.inr h)))
    simp only [h, Int.reduceBEq, beq_self_eq_true, cond_true, cond_false, t3, hmany, o1, e0, says, some_bind, Int.reduceLT, decide_true, wr (n := (i : Int) - 1) (by omega), tl]
    exact ⟨_, false, out.getD (i - 1) false, rfl, rfl, by simp [nowAt, h], fun _ => rfl, fun q => absurd q (by decide)⟩
  all_goals
    have hn : needS x.1 = 2 := by rw [h]; rfl
    obtain ⟨o1, k, o2, o3⟩ := hR.op2 i hi (by rw [hx]; exact hn)
    rw [hn] at hpos hmany
    have hk := From_le o3
    have e1 : (i : Int) - 1 = ((i - 1 : Nat) : Int) := by omega
    have d1 : decide (((i - 1 : Nat) : Int) < (out.length : Int)) = true := decide_eq_true (by omega)
    have d2 : decide (0 ≤ ((i - 1 : Nat) : Int)) = true := decide_eq_true (by omega)
    have d3 : decide ((k : Int) < (out.length : Int)) = true := decide_eq_true (by omega)
    have d4 : decide (0 ≤ (k : Int)) = true := decide_eq_true (by omega)
    have hfrom := l10From f (by omega) o3 (by omega)
    have e2 : IntKind.i64.wrap (((k + 1 : Nat) : Int) - 1) = (k : Int) := by rw [wr (by omega)]; omega
    try have e3 := ass _ (tr_self hi (by rw [hx]; first | exact .inl h | exact .inr h))
    simp only [h, Int.reduceBEq, beq_self_eq_true, cond_true, cond_false, t3, hmany, o1, o2, e1, e2, d1, d2, d3, d4, Int.toNat_natCast, Int.reduceLT, decide_true, wr (n := ((i - 1 : Nat) : Int)) (by omega), hfrom, says, some_bind, tl]
    try simp only [e3, some_bind, tl, cond_true]
    obtain ⟨y1, hy1⟩ : ∃ y, y = out.getD k false := ⟨_, rfl⟩
    obtain ⟨y2, hy2⟩ : ∃ y, y = out.getD (i - 1) false := ⟨_, rfl⟩
    simp only [← hy1, ← hy2]
    cases y2 <;> cases y1 <;> first
      | exact ⟨_, false, false, rfl, rfl, by simp [nowAt, h], fun q => absurd q (by decide), fun _ => ⟨rfl, k, o3, by omega, hy1⟩⟩
      | exact ⟨_, false, true, rfl, rfl, by simp [nowAt, h], fun q => absurd q (by decide), fun _ => ⟨rfl, k, o3, by omega, hy1⟩⟩
      | exact ⟨_, true, false, rfl, rfl, by simp [nowAt, h], fun q => absurd q (by decide), fun _ => ⟨rfl, k, o3, by omega, hy1⟩⟩
      | exact ⟨_, true, true, rfl, rfl, by simp [nowAt, h], fun q => absurd q (by decide), fun _ => ⟨rfl, k, o3, by omega, hy1⟩⟩
theorem now_L0V (f : Bool × List DSaid) (hf : goodSaid f.2 = true) (R : List (Bool × List Int)) (hR : OpsAre f.2 f.2.length R) (lttr next : Int) (tb : Bool) (d : Nat) : ∀ (i : Nat) (b b' : Bool) (out : List Bool), i + d = f.2.length → out.length = i → NowOk f.2 lttr (saysL (trackL f.2) next) out i →
    ∃ out' c c', impl_evalNow_L0 lttr next (b, out) (false, R) (false, trackL f.2) f (f.2.length : Int) (i : Int) = some (c, out') ∧ spec_l13Now_L0 f (tb, trackL f.2) lttr next (b', out) f (f.2.length : Int) (i : Int) = some (c', out') ∧ out'.length = f.2.length ∧ NowOk f.2 lttr (saysL (trackL f.2) next) out' f.2.length := by
  induction d with
  | zero =>
    intro i b b' out hi ho hn
    obtain rfl : i = f.2.length := by omega
    exact ⟨out, b, b', by rw [impl_evalNow_L0_eq, gF (by omega)], by rw [spec_l13Now_L0_eq, gF (by omega)], ho, hn⟩
  | succ d ih =>
    intro i b b' out hi ho hn
    obtain ⟨v, x1, x2, e1, e2, e3, e4, e5⟩ := now_stepV f hf R hR lttr next tb b b' out i (by omega) ho
    have hpos := hR.pos i (by omega)
    have old : ∀ j : Nat, j < i → (out ++ [v]).getD j false = out.getD j false := fun j hj => by
      rw [List.getD_eq_getElem?_getD, List.getElem?_append_left (by omega), List.getD_eq_getElem?_getD]
    have new : (out ++ [v]).getD i false = v := by
      rw [List.getD_eq_getElem?_getD, ← ho, List.getElem?_concat_length]; rfl
    rw [e1, e2]
    refine ih (i + 1) _ _ _ (by omega) (by simp [ho]) (fun j hj => ?_)
    by_cases e : j = i
    · subst e
      refine ⟨x1, x2, by rw [new]; exact e3, fun h => ?_, fun h => ?_⟩
      · rw [old (j - 1) (by omega)]
        exact e4 h
      · obtain ⟨h1, k, h2, h3, h4⟩ := e5 h
        rw [old (j - 1) (by omega)]
        exact ⟨h1, k, h2, h3, by rw [old k h3]; exact h4⟩
    · obtain ⟨a, b, h1, h2, h3⟩ := hn j (by omega)
      refine ⟨a, b, by rw [old j (by omega)]; exact h1, fun h => ?_, fun h => ?_⟩
      · rw [old (j - 1) (by omega)]
        exact h2 h
      · obtain ⟨h4, k, h5, h6, h7⟩ := h3 h
        rw [old (j - 1) (by omega)]
        exact ⟨h4, k, h5, h6, by rw [old k (by omega)]; exact h7⟩
theorem now_bothV (f : Bool × List DSaid) (hf : goodSaid f.2 = true) (lttr next : Int) (tb : Bool) :
    ∃ out c c', impl_evalNow f lttr next = some (c, out) ∧ spec_l13Now f (tb, trackL f.2) lttr next = some (c', out) ∧ out.length = f.2.length ∧ NowOk f.2 lttr (saysL (trackL f.2) next) out f.2.length := by
  obtain ⟨R, r1, hR⟩ := opsAre f hf
  obtain ⟨out, c, c', e1, e2, e3, e4⟩ := now_L0V f hf R hR lttr next tb f.2.length 0 false true [] (by omega) rfl (fun j hj => by omega)
  have e1' : impl_evalNow_L0 lttr next (false, []) (false, R) (false, trackL f.2) f (f.2.length : Int) 0 = _ := e1
  have e2' : spec_l13Now_L0 f (tb, trackL f.2) lttr next (true, []) f (f.2.length : Int) 0 = _ := e2
  exact ⟨out, c, c', by rw [impl_evalNow_eq, r1, some_bind, tracked f hf, some_bind]; simp only [e1', some_bind], by rw [spec_l13Now_eq, e2', some_bind], e3, e4⟩
/-- a guess out of values -/
def gVals (T : List Int) (out : List Bool) : List Bool := T.map fun x => out.getD x.toNat false
theorem guess_L0V (T : List Int) (hT : T.length ≤ 5) (out : List Bool) (hin : ∀ x ∈ T, 0 ≤ x ∧ x < (out.length : Int)) (tb c c' : Bool) (d : Nat) : ∀ (i : Nat), i + d = T.length →
    impl_guessOf_L0 (c, out) ((bitsG ((gVals T out).take i) : Nat) : Int) (false, T) (T.length : Int) (i : Int) = some ((bitsG (gVals T out) : Nat) : Int) ∧ spec_l13Guess_L0 (c', out) ((bitsG ((gVals T out).take i) : Nat) : Int) (tb, T) (T.length : Int) (i : Int) = some ((bitsG (gVals T out) : Nat) : Int) := by
  have hgl : (gVals T out).length = T.length := List.length_map ..
  induction d with
  | zero =>
    intro i hi
    obtain rfl : i = T.length := by omega
    rw [List.take_of_length_le (by omega)]
    exact ⟨by rw [impl_guessOf_L0_eq, gF (by omega)], by rw [spec_l13Guess_L0_eq, gF (by omega)]⟩
  | succ d ih =>
    intro i hi
    have hlt : i < T.length := by omega
    obtain ⟨m1, m2⟩ := hin _ (List.getElem_mem hlt)
    have hp : (2 : Nat) ^ i ≤ 2 ^ 5 := Nat.pow_le_pow_right (by decide) (by omega)
    have hl : ((gVals T out).take i).length = i := by rw [List.length_take]; omega
    have hb := bitsG_lt ((gVals T out).take i)
    rw [hl] at hb
    have ht : (gVals T out).take (i + 1) = (gVals T out).take i ++ [out.getD (T[i]).toNat false] := by
      rw [List.take_succ, List.getElem?_eq_getElem (by omega)]
      simp [gVals]
    have e : bOr .i64 ((bitsG ((gVals T out).take i) : Nat) : Int) (bShl .i64 1 (i : Int)) = ((bitsG ((gVals T out).take i ++ [true]) : Nat) : Int) := by
      rw [shl_one_i64 i (by omega), bOr_i64 _ (2 ^ i) (by omega) (by omega), ← bitsG_or, hl]
    have h := ih (i + 1) (by omega)
    rw [ht] at h
    rw [impl_guessOf_L0_eq, spec_l13Guess_L0_eq]
    simp only [gT (show (i : Int) < (T.length : Int) by omega), gT (show (0 : Int) ≤ (i : Int) by omega), getD_at T _ i hlt, gT m1, gT m2, wru (n := (i : Int)) (by omega), gF (show ¬ (i : Int) < 0 by omega), up1 i (by omega), bind_id, e]
    cases hv : out.getD (T[i]).toNat false with
    | true => rw [hv] at h; exact h
    | false => rw [hv, ← bitsG_no] at h; exact h
theorem guess_bothV (f : Bool × List DSaid) (hf : goodTr f.2 = true) (lttr next : Int) (tb : Bool) :
    ∃ out, out.length = f.2.length ∧ NowOk f.2 lttr (saysL (trackL f.2) next) out f.2.length ∧ gssF f lttr next = bitsG (gVals (trackL f.2) out) := by
  obtain ⟨h1, h2⟩ := goodTr_in hf
  obtain ⟨R, r1, hR⟩ := opsAre f h1
  have hin := trackL_in R hR (goodSaid_in h1).1
  obtain ⟨out, c, c', e1, e2, e3, e4⟩ := now_bothV f h1 lttr next tb
  obtain ⟨g1, g2⟩ := guess_L0V (trackL f.2) h2 out (by rw [e3]; exact hin) tb c c' (trackL f.2).length 0 (by omega)
  have g1' : impl_guessOf_L0 (c, out) 0 (false, trackL f.2) ((trackL f.2).length : Int) 0 = _ := g1
  refine ⟨out, e3, e4, ?_⟩
  have i1 : impl_guessOf f lttr next = some ((bitsG (gVals (trackL f.2) out) : Nat) : Int) := by
    rw [impl_guessOf_eq, e1, some_bind, tracked f h1, some_bind]
    simp only [g1', some_bind]
  rw [gssF, i1]
  rfl
/-- the row of a node is as its operands' rows make it -/
def RowAt (f : List DSaid) (l : DLasso) (T : List (Bool × List Bool)) (j : Nat) : Prop := ∃ A B, Opnds f T j (l.1.2.length + l.2.2.length) A B ∧ (T.getD j (true, [])).2 = rowX (f.getD j (0, 0)) l A B
theorem RowAt_snoc {f : List DSaid} {l : DLasso} {T : List (Bool × List Bool)} {i : Nat} (hT : T.length = i) (h : ∀ j, j < i → RowAt f l T j) {A B : List Bool} (hO : Opnds f T i (l.1.2.length + l.2.2.length) A B) {b : Bool} {r : List Bool} (hr : r = rowX (f.getD i (0, 0)) l A B) :
    ∀ j, j < i + 1 → RowAt f l (T ++ [(b, r)]) j := by
  have old : ∀ j : Nat, j < i → (T ++ [(b, r)]).getD j (true, []) = T.getD j (true, []) := fun j hj => by
    rw [List.getD_eq_getElem?_getD, List.getElem?_append_left (by omega), List.getD_eq_getElem?_getD]
  have lift : ∀ (j : Nat) (A B : List Bool), j ≤ i → Opnds f T j (l.1.2.length + l.2.2.length) A B → Opnds f (T ++ [(b, r)]) j (l.1.2.length + l.2.2.length) A B := fun j A B hj ho => by
    obtain ⟨o1, o2⟩ := ho
    refine ⟨fun q => ?_, fun q => ?_⟩
    · obtain ⟨h1, h2, h3⟩ := o1 q
      exact ⟨h1, by rw [old (j - 1) (by omega)]; exact h2, h3⟩
    · obtain ⟨h1, h2, h3, h4, k, h5, h6, h7⟩ := o2 q
      exact ⟨h1, by rw [old (j - 1) (by omega)]; exact h2, h3, h4, k, h5, h6, by rw [old k (by omega)]; exact h7⟩
  intro j hj
  by_cases e : j = i
  · subst e
    refine ⟨A, B, lift j A B (Nat.le_refl _) hO, ?_⟩
    rw [List.getD_eq_getElem?_getD, ← hT, List.getElem?_concat_length, hT]
    exact hr
  · obtain ⟨A', B', h1, h2⟩ := h j (by omega)
    exact ⟨A', B', lift j A' B' (by omega) h1, by rw [old j (by omega)]; exact h2⟩
theorem alongV_L0 (f : Bool × List DSaid) (hl : f.2.length ≤ 1000) (l l2 : DLasso) (q1 : l2.1.2 = l.1.2) (q2 : l2.2.2 = l.2.2) (hn : l.1.2.length + l.2.2.length ≤ 60000) (hpos : 0 < l.2.2.length) (d : Nat) : ∀ (i : Nat) (T S : List (Bool × List Bool)) (st : List Int) (fb sb : Bool) (p : Int), i + d = f.2.length → T.length = i → (∀ r ∈ T, r.2.length = l.1.2.length + l.2.2.length) → (∀ j, j < i → RowAt f.2 l T j) → Stk f.2 st i → S.map Prod.snd = rowsS T st → st.length ≤ i → pileS (f.2.drop i) (st.length : Int) = some p →
    ∃ T' S' st' b1 b2, spec_l10Table_L0 f l ((l.1.2.length + l.2.2.length : Nat) : Int) (fb, T) f (f.2.length : Int) (i : Int) = some (b1, T') ∧ impl_Lasso_along_L0 l2 (sb, S) f (f.2.length : Int) (i : Int) = some (b2, S') ∧ T'.length = f.2.length ∧ (∀ r ∈ T', r.2.length = l.1.2.length + l.2.2.length) ∧ (∀ j, j < f.2.length → RowAt f.2 l T' j) ∧ Stk f.2 st' f.2.length ∧ S'.map Prod.snd = rowsS T' st' ∧ (st'.length : Int) = p := by
  have hlim := lim_eq
  induction d with
  | zero =>
    intro i T S st fb sb p hi hT hr hq hS hm hst hp
    obtain rfl : i = f.2.length := by omega
    rw [List.drop_of_length_le (by omega), pileS, Option.some.injEq] at hp
    exact ⟨T, S, st, fb, sb, by rw [spec_l10Table_L0_eq, gF (by omega)], by rw [impl_Lasso_along_L0_eq, gF (by omega)], hT, hr, hq, hS, hm, hp⟩
  | succ d ih =>
    intro i T S st fb sb p hi hT hr hq hS hm hst hp
    have hlt : i < f.2.length := by omega
    have hnn := needS_in f.2[i].1
    have eg : f.2.getD i (0, 0) = f.2[i] := by simp [List.getD_eq_getElem?_getD, hlt]
    have hSl : S.length = st.length := by have := congrArg List.length hm; simpa [rowsS] using this
    rw [List.drop_eq_getElem_cons hlt, pileS] at hp
    by_cases c : nodeOk f.2[i] = true ∧ needS f.2[i].1 ≤ (st.length : Int)
    · rw [if_pos c] at hp
      obtain ⟨nd, hnd⟩ := Int.eq_ofNat_of_zero_le (nodeOk_need c.1)
      have hle : nd ≤ st.length := by have := c.2; omega
      have hS' := Stk_step hS nd (by rw [eg]; exact hnd) (by omega) hle
      have hmd : (S.drop (st.length - nd)).map Prod.snd = rowsS T (st.drop (st.length - nd)) := by unfold rowsS at hm ⊢; rw [List.map_drop, hm, List.map_drop]
      have hdl : (st.drop (st.length - nd)).length = nd := by rw [List.length_drop]; omega
      have hdl2 : (S.drop (st.length - nd)).length = nd := by rw [List.length_drop]; omega
      have hstlt := Stk_lt hS
      have rowlen : ∀ j : Nat, j < i → (T.getD j (true, [])).2.length = l.1.2.length + l.2.2.length := fun j hj => by
        rw [List.getD_eq_getElem?_getD, List.getElem?_eq_getElem (by omega)]
        exact hr _ (List.getElem_mem _)
      obtain ⟨A, B, hO, hR⟩ : ∃ A B, Opnds f.2 T i (l.1.2.length + l.2.2.length) A B ∧ OpsR f.2[i] (l.1.2.length + l.2.2.length) (S.drop (st.length - nd)) A B := by
        have h3 : nd = 0 ∨ nd = 1 ∨ nd = 2 := by omega
        rcases h3 with rfl | rfl | rfl
        · exact ⟨[], [], ⟨fun h => by rw [eg] at h; omega, fun h => by rw [eg] at h; omega⟩, ⟨fun h => by omega, fun h => by omega⟩⟩
        · have h0 := hS'.2.1 rfl
          have g0 := getD_rowsS hmd 0 (by omega)
          have hi1 : 1 ≤ i := by omega
          rw [h0, show ((i : Int) - 1).toNat = i - 1 by omega] at g0
          exact ⟨[], (T.getD (i - 1) (true, [])).2, ⟨fun _ => ⟨hi1, rfl, rowlen _ (by omega)⟩, fun h => by rw [eg] at h; omega⟩, ⟨fun _ => ⟨by omega, g0, rowlen _ (by omega)⟩, fun h => by omega⟩⟩
        · obtain ⟨h0, k, h1, h2⟩ := hS'.2.2 rfl
          have g0 := getD_rowsS hmd 0 (by omega)
          have g1 := getD_rowsS hmd 1 (by omega)
          have hfl := From_le h2
          rw [h1, Int.toNat_natCast] at g0
          rw [h0, show ((i : Int) - 1).toNat = i - 1 by omega] at g1
          exact ⟨(T.getD k (true, [])).2, (T.getD (i - 1) (true, [])).2, ⟨fun h => by rw [eg] at h; omega, fun _ => ⟨by omega, rfl, rowlen _ (by omega), rowlen _ (by omega), k, h2, by omega, rfl⟩⟩, ⟨fun h => by omega, fun _ => ⟨by omega, g0, g1, rowlen _ (by omega), rowlen _ (by omega)⟩⟩⟩
      have e4 := table_L4 f hl l fb false T i hlt hT (by rw [eg]; exact c.1) (by omega) hpos hO f (f.2.length : Int) (i : Int) (f.2[i].1 == 8)
      rw [eg] at e4
      have e4' : spec_l10Table_L4 f l ((l.1.2.length + l.2.2.length : Nat) : Int) (fb, T) (i : Int) (false, List.replicate (l.1.2.length + l.2.2.length) (f.2[i].1 == 8)) 0 f (f.2.length : Int) (i : Int) = some (false, rowX f.2[i] l A B) := e4
      have e2 := table_L2 f l ((l.1.2.length + l.2.2.length : Nat) : Int) (fb, T) (i : Int) f.2[i] false f (f.2.length : Int) (i : Int) (l.1.2.length + l.2.2.length) (by omega) (l.1.2.length + l.2.2.length) 0 (by omega)
      rw [List.replicate_zero, List.nil_append] at e2
      have e2' : spec_l10Table_L2 f l ((l.1.2.length + l.2.2.length : Nat) : Int) (fb, T) (i : Int) f.2[i] (false, List.replicate (l.1.2.length + l.2.2.length) false) f (f.2.length : Int) (i : Int) ((l.1.2.length + l.2.2.length : Nat) : Int) 0 = _ := e2
      obtain ⟨b', eh⟩ := holds_row l2 (by rw [q1, q2]; exact hn) (by rw [q2]; exact hpos) f.2[i] c.1 sb (S.drop (st.length - nd)) (A := A) (B := B) (by rw [q1, q2]; exact hR)
      have hrx : rowX f.2[i] l2 A B = rowX f.2[i] l A B := by unfold rowX; rw [q1, q2]
      rw [hrx] at eh
      have hrow := rowX_length f.2[i] l A B
      have hm2 : (S.take (st.length - nd) ++ [(b', rowX f.2[i] l A B)]).map Prod.snd = rowsS (T ++ [(false, rowX f.2[i] l A B)]) (st.take (st.length - nd) ++ [(i : Int)]) := by
        unfold rowsS at hm ⊢
        rw [List.map_append, List.map_append, List.map_take, hm, ← List.map_take]
        congr 1
        · refine List.map_congr_left (fun x hx => ?_)
          have := hstlt x (List.mem_of_mem_take hx)
          rw [List.getD_eq_getElem?_getD, List.getD_eq_getElem?_getD, List.getElem?_append_left (by omega)]
        · have hget : (T ++ [(false, rowX f.2[i] l A B)]).getD i (true, []) = (false, rowX f.2[i] l A B) := by
            rw [List.getD_eq_getElem?_getD, List.getElem?_append_right (by omega), hT, Nat.sub_self]
            rfl
          rw [List.map_cons, List.map_nil, List.map_cons, List.map_nil, Int.toNat_natCast, hget]
      obtain ⟨T', S', st', b1, b2, k1, k2, k3⟩ := ih (i + 1) (T ++ [(false, rowX f.2[i] l A B)]) (S.take (st.length - nd) ++ [(b', rowX f.2[i] l A B)]) (st.take (st.length - nd) ++ [(i : Int)]) (fb && false) (sb && false) p (by omega) (by simp; omega) (fun r hrr => by
        rcases List.mem_append.1 hrr with q | q
        · exact hr r q
        · rw [List.mem_singleton] at q
          rw [q]
          exact hrow) (RowAt_snoc hT hq hO (by rw [eg])) hS'.1 hm2 (by simp; omega) (by
        have : (((st.take (st.length - nd) ++ [(i : Int)]).length : Nat) : Int) = (st.length : Int) + (1 - needS f.2[i].1) := by simp; omega
        rw [this]
        exact hp)
      refine ⟨T', S', st', b1, b2, ?_, ?_, k3⟩
      · rw [spec_l10Table_L0_eq, gT (by omega), gT (by omega), gT (by omega), gT (by omega), gT (by omega), gT (by omega), gT (by omega), getD_at f.2 _ i hlt]
        simp only [Int.toNat_natCast, List.length_replicate, e2', some_bind, e4', up1 i (show i < 4611686018427387904 by omega), bind_id]
        rw [gT (by simp; omega)]
        exact k1
      · have ew : IntKind.i64.wrap ((S.length : Int) - needS f.2[i].1) = ((st.length - nd : Nat) : Int) := by rw [wr (by omega)]; omega
        have etk : (S.take S.length).drop (st.length - nd) = S.drop (st.length - nd) := by rw [List.take_length]
        rw [impl_Lasso_along_L0_eq, gT (by omega), gT (by omega), gT (by omega), getD_at f.2 _ i hlt, needS_impl, some_bind]
        simp only [ew, Int.toNat_natCast, etk, List.drop_zero]
        rw [gT (by omega), gT (by omega), gT (by omega), gT (by omega), gT (by omega), eh, some_bind, gT (by simp; omega), up1 i (by omega), bind_id]
        exact k2
    · rw [if_neg c] at hp
      cases hp
/-- the table of a lasso: the reference's, and the program's last row -/
theorem tableV (f : Bool × List DSaid) (h1 : f.2.length ≤ 1000) (h0 : 1 ≤ f.2.length) (h3 : pileS f.2 0 = some 1) (l l2 : DLasso) (q1 : l2.1.2 = l.1.2) (q2 : l2.2.2 = l.2.2) (hn : l.1.2.length + l.2.2.length ≤ 60000) (hpos : 0 < l.2.2.length) :
    ∃ b T b2, spec_l10Table f l = some (b, T) ∧ T.length = f.2.length ∧ (∀ r ∈ T, r.2.length = l.1.2.length + l.2.2.length) ∧ (∀ j, j < f.2.length → RowAt f.2 l T j) ∧ impl_Lasso_along l2 f = some (b2, (T.getD (f.2.length - 1) (true, [])).2) := by
  obtain ⟨T', S', st', b1, b2, k1, k2, k3, k4, kq, k5, k6, k7⟩ := alongV_L0 f h1 l l2 q1 q2 hn hpos f.2.length 0 [] [] [] true false 1 (by omega) rfl (fun r hr => by cases hr) (fun j hj => by omega) .nil rfl (by simp) (by rw [List.drop_zero]; exact h3)
  have k1' : spec_l10Table_L0 f l ((l.1.2.length + l.2.2.length : Nat) : Int) (true, []) f (f.2.length : Int) 0 = _ := k1
  have k2' : impl_Lasso_along_L0 l2 (false, []) f (f.2.length : Int) 0 = _ := k2
  have ew : IntKind.i64.wrap ((l.1.2.length : Int) + (l.2.2.length : Int)) = ((l.1.2.length + l.2.2.length : Nat) : Int) := by rw [wr (by omega)]; omega
  have hst : st' = [((f.2.length - 1 : Nat) : Int)] := by
    generalize hlen : f.2.length = m at k5
    cases k5 with
    | nil => simp at k7
    | @snoc st s k z1 z2 =>
      have : st = [] := List.eq_nil_of_length_eq_zero (by simp at k7; omega)
      subst this
      rfl
  subst hst
  have hS1 : S'.length = 1 := by have := congrArg List.length k6; simpa [rowsS] using this
  have hrow := getD_rowsS k6 0 (by simp)
  have e0 : ([((f.2.length - 1 : Nat) : Int)] : List Int).getD 0 0 = ((f.2.length - 1 : Nat) : Int) := rfl
  rw [e0, Int.toNat_natCast] at hrow
  refine ⟨b1, T', (S'.getD 0 (true, [])).1, ?_, k3, k4, kq, ?_⟩
  · rw [spec_l10Table_eq, ew, k1', some_bind]
  · rw [impl_Lasso_along_eq, k2', some_bind, gT (by simp only; omega), ← hrow]
/-! parts of a formula -/
theorem From_fun {f : List DSaid} {k s t : Nat} (h : From f k s) : From f k t → s = t := by
  induction h generalizing t with
  | @sub0 k hn =>
    intro h2
    cases h2 with
    | sub0 _ => rfl
    | sub1 hm _ => rw [hm] at hn; cases hn
    | sub2 hm _ _ => rw [hm] at hn; cases hn
  | @sub1 k s hn h1 ih =>
    intro h2
    cases h2 with
    | sub0 hm => rw [hm] at hn; cases hn
    | sub1 hm h3 => exact ih h3
    | sub2 hm _ _ => rw [hm] at hn; cases hn
  | @sub2 k s t0 hn h1 h2 ih1 ih2 =>
    intro h3
    cases h3 with
    | sub0 hm => rw [hm] at hn; cases hn
    | sub1 hm _ => rw [hm] at hn; cases hn
    | sub2 hm h4 h5 =>
      obtain rfl := Nat.succ.inj (ih1 h4)
      exact ih2 h5
theorem From_shift {f g : List DSaid} {z : Nat} (hg : ∀ j, j < g.length → g.getD j (0, 0) = f.getD (z + j) (0, 0)) {k s : Nat} (h : From g k s) : k < g.length → From f (z + k) (z + s) := by
  induction h with
  | @sub0 k hn => intro hk; exact .sub0 (by rw [← hg k hk]; exact hn)
  | @sub1 k s hn h1 ih =>
    intro hk
    exact .sub1 (k := z + k) (by rw [Nat.add_assoc, ← hg (k + 1) hk]; exact hn) (ih (by omega))
  | @sub2 k s t hn h1 h2 ih1 ih2 =>
    intro hk
    have := From_le h1
    exact .sub2 (k := z + k) (s := z + s) (by rw [Nat.add_assoc, ← hg (k + 1) hk]; exact hn) (ih1 (by omega)) (ih2 (by omega))
theorem pileS_append : ∀ (a b : List DSaid) (v : Int), pileS (a ++ b) v = (pileS a v).bind fun w => pileS b w
  | [], b, v => rfl
  | x :: a, b, v => by
    rw [List.cons_append, pileS, pileS]
    by_cases c : nodeOk x = true ∧ needS x.1 ≤ v
    · rw [if_pos c, if_pos c]
      exact pileS_append a b _
    · rw [if_neg c, if_neg c]
      rfl
/-- the nodes from s up to k -/
def partL (f : List DSaid) (s k : Nat) : List DSaid := (f.take (k + 1)).drop s
theorem partL_snoc {f : List DSaid} {s k : Nat} (hs : s ≤ k) (hk : k + 1 < f.length) : partL f s (k + 1) = partL f s k ++ [f.getD (k + 1) (0, 0)] := by
  unfold partL
  rw [List.take_succ, List.getElem?_eq_getElem hk, List.drop_append_of_le_length (by rw [List.length_take]; omega)]
  simp [List.getD_eq_getElem?_getD, hk]
theorem partL_app {f : List DSaid} {t s k : Nat} (h1 : t ≤ s) (h2 : s < k) (hk : k < f.length) : partL f t k = partL f t s ++ partL f (s + 1) k := by
  unfold partL
  have e : f.take (s + 1) = (f.take (k + 1)).take (s + 1) := by rw [List.take_take, Nat.min_eq_left (by omega)]
  rw [e, ← List.drop_append_of_le_length (l₂ := (f.take (k + 1)).drop (s + 1)) (by simp; omega), List.take_append_drop]
theorem partL_one {f : List DSaid} {k : Nat} (hk : k < f.length) : partL f k k = [f.getD k (0, 0)] := by
  unfold partL
  rw [List.take_succ, List.getElem?_eq_getElem hk, List.drop_append_of_le_length (by rw [List.length_take]; omega), List.drop_of_length_le (by simp; omega)]
  simp [List.getD_eq_getElem?_getD, hk]
theorem partL_length {f : List DSaid} {s k : Nat} (hs : s ≤ k) (hk : k < f.length) : (partL f s k).length = k + 1 - s := by
  unfold partL
  rw [List.length_drop, List.length_take]
  omega
theorem partL_getD {f : List DSaid} {s k : Nat} (hk : k < f.length) (j : Nat) (hj : j < k + 1 - s) : (partL f s k).getD j (0, 0) = f.getD (s + j) (0, 0) := by
  unfold partL
  rw [List.getD_eq_getElem?_getD, List.getElem?_drop, List.getElem?_take_of_lt (by omega), List.getD_eq_getElem?_getD]
theorem pile_part {f : List DSaid} (hok : ∀ j, j < f.length → nodeOk (f.getD j (0, 0)) = true) {k s : Nat} (h : From f k s) : k < f.length → ∀ v : Int, 0 ≤ v → pileS (partL f s k) v = some (v + 1) := by
  induction h with
  | @sub0 k hn =>
    intro hk v hv
    rw [partL_one hk, pileS, if_pos ⟨hok k hk, by omega⟩, hn, pileS]
    simp
  | @sub1 k s hn h1 ih =>
    intro hk v hv
    rw [partL_snoc (From_le h1) hk, pileS_append, ih (by omega) v hv, Option.bind_some, pileS, if_pos ⟨hok _ hk, by omega⟩, hn, pileS]
    simp
  | @sub2 k s t hn h1 h2 ih1 ih2 =>
    intro hk v hv
    have l1 := From_le h1
    have l2 := From_le h2
    rw [partL_snoc (by omega) hk, partL_app l2 (by omega) (by omega), pileS_append, pileS_append, ih2 (by omega) v hv, Option.bind_some, ih1 (by omega) (v + 1) (by omega), Option.bind_some, pileS, if_pos ⟨hok _ hk, by omega⟩, hn, pileS]
    congr 1
    omega
theorem rowX_any {x : DSaid} {l : DLasso} {A B A' B' : List Bool} (h : nodeOk x = true) (h1 : needS x.1 = 1 ∨ needS x.1 = 2 → B = B') (h2 : needS x.1 = 2 → A = A') : rowX x l A B = rowX x l A' B' := by
  have e : ruleX x (ltL l.1.2 l.2.2) A B (nxP l.1.2.length (l.1.2.length + l.2.2.length)) = ruleX x (ltL l.1.2 l.2.2) A' B' (nxP l.1.2.length (l.1.2.length + l.2.2.length)) := by
    funext k later
    unfold ruleX
    rcases node_ops h with ⟨q, _⟩ | q | q | q | q | q | q | q
    · simp [q]
    · simp [q]
    · rw [h1 (.inl (by rw [q]; rfl))]; simp [q]
    · rw [h1 (.inl (by rw [q]; rfl))]; simp [q]
    all_goals rw [h1 (.inr (by rw [q]; rfl)), h2 (by rw [q]; rfl)]
  unfold rowX
  rw [e]
/-- the table of a part of a formula is that part of its table -/
theorem table_part {f g : List DSaid} (hok : ∀ j, j < f.length → nodeOk (f.getD j (0, 0)) = true) {z : Nat} (hz : z + g.length ≤ f.length) (hg : ∀ j, j < g.length → g.getD j (0, 0) = f.getD (z + j) (0, 0)) {l : DLasso} {T U : List (Bool × List Bool)}
    (hT : ∀ j, j < f.length → RowAt f l T j) (hU : ∀ j, j < g.length → RowAt g l U j) : ∀ j, j < g.length → (U.getD j (true, [])).2 = (T.getD (z + j) (true, [])).2 := by
  intro j
  induction j using Nat.strongRecOn with
  | _ j ih =>
    intro hj
    obtain ⟨A, B, ⟨o1, o2⟩, e1⟩ := hT (z + j) (by omega)
    obtain ⟨A', B', ⟨p1, p2⟩, e2⟩ := hU j hj
    rw [e1, e2]
    rw [hg j hj] at p1 p2 ⊢
    refine rowX_any (hok _ (by omega)) (fun h => ?_) (fun h => ?_)
    · rcases h with h | h
      · obtain ⟨a1, a2, _⟩ := o1 h
        obtain ⟨b1, b2, _⟩ := p1 h
        rw [← a2, ← b2, ih (j - 1) (by omega) (by omega), show z + (j - 1) = z + j - 1 by omega]
      · obtain ⟨a1, a2, _⟩ := o2 h
        obtain ⟨b1, b2, _⟩ := p2 h
        rw [← a2, ← b2, ih (j - 1) (by omega) (by omega), show z + (j - 1) = z + j - 1 by omega]
    · obtain ⟨_, _, _, _, k, a5, a6, a7⟩ := o2 h
      obtain ⟨b1, _, _, _, k', b5, b6, b7⟩ := p2 h
      have hs := From_shift hg b5 (by omega)
      rw [show z + (j - 1) = z + j - 1 by omega] at hs
      have := From_fun a5 hs
      rw [← a7, ← b7, ih k' b6 (by omega), show k = z + k' by omega]
theorem sub_L0 (f : Bool × List DSaid) (hl : f.2.length ≤ 1000) (node : Int) {k s : Nat} (h : From f.2 k s) : k < f.2.length → ∀ m : Nat, m ≤ 5000 - k → impl_subtree_L0 f node ((k + 1 : Nat) : Int) ((m + 1 : Nat) : Int) = impl_subtree_L0 f node (s : Int) (m : Int) := by
  have step : ∀ (k m nd : Nat), k < f.2.length → m ≤ 5000 → nd ≤ 2 → needS (f.2.getD k (0, 0)).1 = (nd : Int) → impl_subtree_L0 f node ((k + 1 : Nat) : Int) ((m + 1 : Nat) : Int) = impl_subtree_L0 f node (k : Int) ((m + nd : Nat) : Int) := by
    intro k m nd hk hm hnd hn
    rw [impl_subtree_L0_eq, gT (by omega), dn1 (k + 1) (by omega) (by omega), Nat.add_sub_cancel, gT (by omega), gT (by omega), getD_nat, needS_impl, hn, some_bind, wr (n := (nd : Int) - 1) (by omega), wr (by omega), bind_id, show ((m + 1 : Nat) : Int) + ((nd : Int) - 1) = ((m + nd : Nat) : Int) by omega]
  induction h with
  | @sub0 k hn =>
    intro hk m hm
    rw [step k m 0 hk (by omega) (by omega) hn, Nat.add_zero]
  | @sub1 k s hn h1 ih =>
    intro hk m hm
    rw [step (k + 1) m 1 hk (by omega) (by omega) hn, ih (by omega) m (by omega)]
  | @sub2 k s t hn h1 h2 ih1 ih2 =>
    intro hk m hm
    have := From_le h1
    rw [step (k + 1) m 2 hk (by omega) (by omega) hn, ih1 (by omega) (m + 1) (by omega), ih2 (by omega) m (by omega)]
theorem sub_end (f : Bool × List DSaid) (node : Int) (x : Int) : impl_subtree_L0 f node x 0 = some x := by
  rw [impl_subtree_L0_eq, gF (by omega)]
theorem subtree (f : Bool × List DSaid) (hl : f.2.length ≤ 1000) {k s : Nat} (h : From f.2 k s) (hk : k < f.2.length) : impl_subtree f (k : Int) = some (f.1, partL f.2 s k) := by
  have hs := From_le h
  have e : impl_subtree_L0 f (k : Int) (k : Int) (needS (f.2.getD k (0, 0)).1) = some (s : Int) := by
    cases h with
    | sub0 hn => rw [hn, sub_end]
    | @sub1 k2 _ hn h1 =>
      rw [hn]
      have e1 := sub_L0 f hl ((k2 + 1 : Nat) : Int) h1 (by omega) 0 (by omega)
      rw [show (1 : Int) = ((0 + 1 : Nat) : Int) from rfl, e1]
      exact sub_end f _ _
    | @sub2 k2 s2 _ hn h1 h2 =>
      have := From_le h1
      rw [hn]
      have e1 := sub_L0 f hl ((k2 + 1 : Nat) : Int) h1 (by omega) 1 (by omega)
      have e2 := sub_L0 f hl ((k2 + 1 : Nat) : Int) h2 (by omega) 0 (by omega)
      rw [show (2 : Int) = ((1 + 1 : Nat) : Int) from rfl, e1]
      exact e2.trans (sub_end f _ _)
  rw [impl_subtree_eq, gT (by omega), gT (by omega), getD_nat, needS_impl, some_bind, e, some_bind, up1 k (by omega), gT (by omega), gT (by omega), gT (by omega), gT (by omega), Int.toNat_natCast, Int.toNat_natCast]
  rfl
theorem From_ex {f : List DSaid} {R : List (Bool × List Int)} (hR : OpsAre f f.length R) (hok : ∀ j, j < f.length → nodeOk (f.getD j (0, 0)) = true) : ∀ k, k < f.length → ∃ s, From f k s := by
  intro k
  induction k using Nat.strongRecOn with
  | _ k ih =>
    intro hk
    have hpos := hR.pos k hk
    have hn : needS (f.getD k (0, 0)).1 = 0 ∨ needS (f.getD k (0, 0)).1 = 1 ∨ needS (f.getD k (0, 0)).1 = 2 := by
      have h1 := nodeOk_need (hok k hk)
      have h2 := needS_in (f.getD k (0, 0)).1
      omega
    rcases hn with hn | hn | hn
    · exact ⟨k, .sub0 hn⟩
    · obtain ⟨j, rfl⟩ : ∃ j, k = j + 1 := ⟨k - 1, by omega⟩
      obtain ⟨s, hs⟩ := ih j (by omega) (by omega)
      exact ⟨s, .sub1 hn hs⟩
    · obtain ⟨j, rfl⟩ : ∃ j, k = j + 1 := ⟨k - 1, by omega⟩
      obtain ⟨_, k', _, h1⟩ := hR.op2 (j + 1) hk hn
      rw [Nat.add_sub_cancel] at h1
      have := From_le h1
      obtain ⟨s, hs⟩ := ih k' (by omega) (by omega)
      exact ⟨s, .sub2 hn h1 hs⟩
theorem goodSaid_nodes {f : List DSaid} (h : goodSaid f = true) : ∀ j, j < f.length → nodeOk (f.getD j (0, 0)) = true := fun j hj => by
  have := goodSaid_ok h j hj
  rw [List.getD_eq_getElem?_getD, List.getElem?_eq_getElem hj]
  exact this
/-- the program's row of a part of a formula is the table's -/
theorem along_sub (f : Bool × List DSaid) (hf : goodSaid f.2 = true) (l : DLasso) (hn : l.1.2.length + l.2.2.length ≤ 60000) (hpos : 0 < l.2.2.length) {T : List (Bool × List Bool)} (hT : ∀ j, j < f.2.length → RowAt f.2 l T j) (k : Nat) (hk : k < f.2.length) :
    ∃ g b, impl_subtree f (k : Int) = some g ∧ impl_Lasso_along l g = some (b, (T.getD k (true, [])).2) := by
  obtain ⟨h1, h2, h3⟩ := goodSaid_in hf
  obtain ⟨R, r1, hR⟩ := opsAre f hf
  have hok := goodSaid_nodes hf
  obtain ⟨s, hs⟩ := From_ex hR hok k hk
  have hsk := From_le hs
  have hlen := partL_length hsk hk
  have hp := pile_part hok hs hk 0 (Int.le_refl _)
  obtain ⟨b, U, b2, _, _, _, u1, u2⟩ := tableV (f.1, partL f.2 s k) (by simp only; omega) (by simp only; omega) hp l l rfl rfl hn hpos
  refine ⟨_, b2, subtree f (by omega) hs hk, ?_⟩
  rw [u2]
  have := table_part (f := f.2) (g := partL f.2 s k) hok (z := s) (by omega) (fun j hj => partL_getD hk j (by omega)) hT u1 (k - s) (by omega)
  simp only [hlen] at this ⊢
  rw [show k + 1 - s - 1 = k - s by omega, this, show s + (k - s) = k by omega]
/-- what is said of the tracked nodes at a place -/
def sayAt (T : List (Bool × List Bool)) (k : Nat) (x : Int) : Bool := (T.getD x.toNat (true, [])).2.getD k false
/-- the run, as far as the first i tracked nodes go -/
def runI (T : List (Bool × List Bool)) (tr : List Int) (n i : Nat) : List Int := (List.range n).map fun k => ((bitsG ((tr.take i).map (sayAt T k)) : Nat) : Int)
/-- .. of one more node at the places ahead of j -/
def runJ (T : List (Bool × List Bool)) (tr : List Int) (n i j : Nat) : List Int := (List.range n).map fun k => ((bitsG ((tr.take (if k < j then i + 1 else i)).map (sayAt T k)) : Nat) : Int)
theorem runJ_get (T : List (Bool × List Bool)) (tr : List Int) (n i j k : Nat) (hk : k < n) : (runJ T tr n i j).getD k 0 = ((bitsG ((tr.take (if k < j then i + 1 else i)).map (sayAt T k)) : Nat) : Int) := by
  unfold runJ
  rw [List.getD_eq_getElem?_getD, List.getElem?_map, List.getElem?_range hk]
  rfl
theorem take_bits (T : List (Bool × List Bool)) (tr : List Int) (i k : Nat) (hi : i < tr.length) : (tr.take (i + 1)).map (sayAt T k) = (tr.take i).map (sayAt T k) ++ [sayAt T k tr[i]] := by
  rw [List.take_succ, List.getElem?_eq_getElem hi, List.map_append]
  rfl
theorem run_L2 (f : Bool × List DSaid) (l : DLasso) (T : List (Bool × List Bool)) (tr : List Int) (htr : tr.length ≤ 5) (n i : Nat) (hn : n ≤ 60000) (hi : i < tr.length) (rb b : Bool) (row : List Bool) (hrow : row.length = n) (he : ∀ k, k < n → row.getD k false = sayAt T k tr[i]) (t29 : Bool × List Int) (t30 t31 : Int) (d : Nat) : ∀ j : Nat, j + d = n →
    impl_RunFor_L2 f l (rb, runJ T tr n i j) (i : Int) t29 t30 t31 (b, row) (n : Int) (j : Int) = some (rb, runJ T tr n i n) := by
  have hl : ∀ j, (runJ T tr n i j).length = n := fun j => by unfold runJ; simp
  induction d with
  | zero =>
    intro j hj
    obtain rfl : j = n := by omega
    rw [impl_RunFor_L2_eq, gF (by omega)]
  | succ d ih =>
    intro j hj
    have hp : (2 : Nat) ^ i ≤ 2 ^ 5 := Nat.pow_le_pow_right (by decide) (by omega)
    have hlt := bitsG_lt ((tr.take i).map (sayAt T j))
    rw [List.length_map, List.length_take, Nat.min_eq_left (by omega)] at hlt
    have hv := he j (by omega)
    have hg := runJ_get T tr n i j j (by omega)
    rw [if_neg (by omega)] at hg
    have hset : ∀ v : Int, v = ((bitsG ((tr.take (i + 1)).map (sayAt T j)) : Nat) : Int) → (runJ T tr n i j).set j v = runJ T tr n i (j + 1) := by
      intro v hv
      refine List.ext_getElem (by simp [hl]) fun k h1 h2 => ?_
      have hk : k < n := by rw [List.length_set, hl] at h1; exact h1
      rw [List.getElem_set]
      by_cases e : j = k
      · subst e
        rw [if_pos rfl, hv]
        simp [runJ]
      · rw [if_neg e]
        simp only [runJ, List.getElem_map, List.getElem_range]
        by_cases c : k < j
        · rw [if_pos c, if_pos (by omega)]
        · rw [if_neg c, if_neg (by omega)]
    have hlj := hl j
    rw [impl_RunFor_L2_eq, gT (by omega), gT (by omega), gT (by simp only; omega), up1 j (by omega)]
    simp only [Int.toNat_natCast, hv, hg]
    cases hs : sayAt T j tr[i] with
    | true =>
      have e : bOr .i64 ((bitsG ((tr.take i).map (sayAt T j)) : Nat) : Int) (bShl .i64 1 (i : Int)) = ((bitsG ((tr.take (i + 1)).map (sayAt T j)) : Nat) : Int) := by
        rw [shl_one_i64 i (by omega), bOr_i64 _ (2 ^ i) (by omega) (by omega), take_bits T tr i j hi, hs, ← bitsG_or, List.length_map, List.length_take, Nat.min_eq_left (by omega)]
      rw [cond_true, gT (by omega), gT (by omega), gF (by omega), gT (by omega), gT (by omega), bind_id, e, hset _ rfl]
      exact ih (j + 1) (by omega)
    | false =>
      have e : runJ T tr n i j = runJ T tr n i (j + 1) := by
        have h0 := hset ((runJ T tr n i j).getD j 0) (by rw [hg, take_bits T tr i j hi, hs, ← bitsG_no])
        rw [← h0]
        refine (List.ext_getElem (by simp) fun k h1 h2 => ?_).symm
        rw [List.getElem_set]
        by_cases e : j = k
        · subst e
          rw [if_pos rfl, List.getD_eq_getElem?_getD, List.getElem?_eq_getElem (by omega)]
          rfl
        · rw [if_neg e]
      rw [cond_false, bind_id, e]
      exact ih (j + 1) (by omega)
theorem runI_J0 (T : List (Bool × List Bool)) (tr : List Int) (n i : Nat) : runJ T tr n i 0 = runI T tr n i := by
  unfold runJ runI
  refine List.map_congr_left fun k _ => ?_
  rw [if_neg (by omega)]
theorem runI_Jn (T : List (Bool × List Bool)) (tr : List Int) (n i : Nat) : runJ T tr n i n = runI T tr n (i + 1) := by
  unfold runJ runI
  refine List.map_congr_left fun k hk => ?_
  rw [if_pos (by simpa using hk)]
theorem run_L0 (f : Bool × List DSaid) (hf : goodTr f.2 = true) (l : DLasso) (hn : l.1.2.length + l.2.2.length ≤ 60000) (hpos : 0 < l.2.2.length) {T : List (Bool × List Bool)} (hT : ∀ j, j < f.2.length → RowAt f.2 l T j) (hTl : T.length = f.2.length) (hr : ∀ r ∈ T, r.2.length = l.1.2.length + l.2.2.length) (rb : Bool) (d : Nat) : ∀ i : Nat, i + d = (trackL f.2).length →
    impl_RunFor_L0 f l (rb, runI T (trackL f.2) (l.1.2.length + l.2.2.length) i) (false, trackL f.2) ((trackL f.2).length : Int) (i : Int) = some (rb, runI T (trackL f.2) (l.1.2.length + l.2.2.length) (trackL f.2).length) := by
  obtain ⟨h1, h2⟩ := goodTr_in hf
  obtain ⟨R, r1, hR⟩ := opsAre f h1
  have hin := trackL_in R hR (goodSaid_in h1).1
  induction d with
  | zero =>
    intro i hi
    obtain rfl : i = (trackL f.2).length := by omega
    rw [impl_RunFor_L0_eq, gF (by omega)]
  | succ d ih =>
    intro i hi
    have hlt : i < (trackL f.2).length := by omega
    obtain ⟨m1, m2⟩ := hin _ (List.getElem_mem hlt)
    obtain ⟨k, hk⟩ := Int.eq_ofNat_of_zero_le m1
    obtain ⟨g, b, e1, e2⟩ := along_sub f h1 l hn hpos hT k (by omega)
    have hrl : (T.getD k (true, [])).2.length = l.1.2.length + l.2.2.length := by
      rw [List.getD_eq_getElem?_getD, List.getElem?_eq_getElem (by omega)]
      exact hr _ (List.getElem_mem _)
    have e3 := run_L2 f l T (trackL f.2) h2 (l.1.2.length + l.2.2.length) i hn hlt rb b _ hrl (fun j hj => by rw [hk]; rfl) (false, trackL f.2) ((trackL f.2).length : Int) (i : Int) (l.1.2.length + l.2.2.length) 0 (by omega)
    rw [runI_J0, runI_Jn] at e3
    have e3' : impl_RunFor_L2 f l (rb, runI T (trackL f.2) (l.1.2.length + l.2.2.length) i) (i : Int) (false, trackL f.2) ((trackL f.2).length : Int) (i : Int) (b, (T.getD k (true, [])).2) ((l.1.2.length + l.2.2.length : Nat) : Int) 0 = _ := e3
    rw [impl_RunFor_L0_eq, gT (by omega), gT (by omega), gT (by simp only; omega), getD_at (trackL f.2) _ i hlt, hk, e1, some_bind, e2, some_bind, up1 i (by omega)]
    simp only [hrl, e3', some_bind, bind_id]
    exact ih (i + 1) (by omega)
theorem shl_zero (i : Int) : bShl .i64 0 i = 0 := by
  unfold bShl
  rw [Int.zero_mul]
  rfl
theorem spec_run_L2 (f : Bool × List DSaid) (l : DLasso) (tb : Bool) (T : List (Bool × List Bool)) (all_ : Bool × List Int) (n k : Nat) (hk : k < n) (hn : n ≤ 60000) (tr : List Int) (htr : tr.length ≤ 5) (hin : ∀ x ∈ tr, 0 ≤ x ∧ x < (T.length : Int)) (hr : ∀ r ∈ T, r.2.length = n) (b : Bool) (d : Nat) : ∀ i : Nat, i + d = tr.length →
    spec_RunFor_L2 f l (tb, T) all_ (k : Int) ((bitsG ((tr.take i).map (sayAt T k)) : Nat) : Int) (b, tr) (tr.length : Int) (i : Int) = some ((bitsG (tr.map (sayAt T k)) : Nat) : Int) := by
  induction d with
  | zero =>
    intro i hi
    obtain rfl : i = tr.length := by omega
    rw [spec_RunFor_L2_eq, gF (by omega), List.take_length]
  | succ d ih =>
    intro i hi
    have hlt : i < tr.length := by omega
    obtain ⟨m1, m2⟩ := hin _ (List.getElem_mem hlt)
    have hp : (2 : Nat) ^ i ≤ 2 ^ 5 := Nat.pow_le_pow_right (by decide) (by omega)
    have hb := bitsG_lt ((tr.take i).map (sayAt T k))
    rw [List.length_map, List.length_take, Nat.min_eq_left (by omega)] at hb
    have hrl : (T.getD (tr[i]).toNat (true, [])).2.length = n := by
      rw [List.getD_eq_getElem?_getD, List.getElem?_eq_getElem (by omega)]
      exact hr _ (List.getElem_mem _)
    have ih' := ih (i + 1) (by omega)
    rw [take_bits T tr i k hlt] at ih'
    rw [spec_RunFor_L2_eq, gT (by omega), gT (by omega), gT (by simp only; omega)]
    simp only [getD_at tr _ i hlt]
    rw [gT m1, gT m2, gT (by omega), gT (by omega), spec_l2Bool_eq, Int.toNat_natCast, up1 i (by omega), wru (n := (i : Int)) (by omega)]
    have hs : ((T.getD (tr[i]).toNat (true, [])).2).getD k false = sayAt T k tr[i] := rfl
    rw [hs]
    cases hv : sayAt T k tr[i] with
    | true =>
      rw [hv] at ih'
      rw [cond_true, some_bind, gF (by omega), bind_id, show IntKind.i64.wrap 1 = 1 by decide, shl_one_i64 i (by omega), bOr_i64 _ (2 ^ i) (by omega) (by omega)]
      rw [← bitsG_or, List.length_map, List.length_take, Nat.min_eq_left (by omega)] at ih'
      exact ih'
    | false =>
      rw [hv, ← bitsG_no] at ih'
      rw [cond_false, some_bind, gF (by omega), bind_id, show IntKind.i64.wrap 0 = 0 by decide, shl_zero, show (0 : Int) = ((0 : Nat) : Int) from rfl, bOr_i64 _ 0 (by omega) (by omega), Nat.or_zero]
      exact ih'
theorem spec_run_L0 (f : Bool × List DSaid) (hf : goodTr f.2 = true) (l : DLasso) (hn : l.1.2.length + l.2.2.length ≤ 60000) (tb : Bool) {T : List (Bool × List Bool)} (hTl : T.length = f.2.length) (hr : ∀ r ∈ T, r.2.length = l.1.2.length + l.2.2.length) (d : Nat) : ∀ (k : Nat) (b : Bool), k + d = l.1.2.length + l.2.2.length →
    ∃ b', spec_RunFor_L0 f l (tb, T) (b, (runI T (trackL f.2) (l.1.2.length + l.2.2.length) (trackL f.2).length).take k) (k : Int) = some (b', runI T (trackL f.2) (l.1.2.length + l.2.2.length) (trackL f.2).length) := by
  have hlim := lim_eq
  obtain ⟨h1, h2⟩ := goodTr_in hf
  obtain ⟨R, r1, hR⟩ := opsAre f h1
  have hin := trackL_in R hR (goodSaid_in h1).1
  have hfl := (goodSaid_in h1).2.1
  have hl : (runI T (trackL f.2) (l.1.2.length + l.2.2.length) (trackL f.2).length).length = l.1.2.length + l.2.2.length := by unfold runI; simp
  have ew : IntKind.i64.wrap ((l.1.2.length : Int) + (l.2.2.length : Int)) = ((l.1.2.length + l.2.2.length : Nat) : Int) := by rw [wr (by omega)]; omega
  induction d with
  | zero =>
    intro k b hk
    refine ⟨b, ?_⟩
    rw [spec_RunFor_L0_eq, ew, gF (by omega), List.take_of_length_le (by omega)]
  | succ d ih =>
    intro k b hk
    obtain ⟨fb, e1⟩ := l13Tracked f (by omega)
    have e2 := spec_run_L2 f l tb T (b, (runI T (trackL f.2) (l.1.2.length + l.2.2.length) (trackL f.2).length).take k) (l.1.2.length + l.2.2.length) k (by omega) hn (trackL f.2) h2 (by rw [hTl]; exact hin) hr fb (trackL f.2).length 0 (by omega)
    have e2' : spec_RunFor_L2 f l (tb, T) (b, (runI T (trackL f.2) (l.1.2.length + l.2.2.length) (trackL f.2).length).take k) (k : Int) 0 (fb, trackL f.2) ((trackL f.2).length : Int) 0 = _ := e2
    have et : (runI T (trackL f.2) (l.1.2.length + l.2.2.length) (trackL f.2).length).take (k + 1) = (runI T (trackL f.2) (l.1.2.length + l.2.2.length) (trackL f.2).length).take k ++ [((bitsG ((trackL f.2).map (sayAt T k)) : Nat) : Int)] := by
      rw [List.take_succ, List.getElem?_eq_getElem (by omega)]
      simp [runI]
    obtain ⟨b', h⟩ := ih (k + 1) (b && false) (by omega)
    refine ⟨b', ?_⟩
    rw [spec_RunFor_L0_eq, ew, gT (by omega), e1, some_bind]
    simp only [e2', some_bind]
    rw [gT (by simp; omega), up1 k (by omega), bind_id, ← et]
    exact h
/-- the run of both sides -/
theorem runFor_both (f : Bool × List DSaid) (hf : goodTr f.2 = true) (l : DLasso) (hn : l.1.2.length + l.2.2.length ≤ 60000) (hpos : 0 < l.2.2.length) (g1 : impl_GoodLasso l = some true) (g2 : spec_GoodLasso l = some true) :
    ∃ T : List (Bool × List Bool), T.length = f.2.length ∧ (∀ r ∈ T, r.2.length = l.1.2.length + l.2.2.length) ∧ (∀ j, j < f.2.length → RowAt f.2 l T j) ∧
      (let R := runI T (trackL f.2) (l.1.2.length + l.2.2.length) (trackL f.2).length
      impl_RunFor f l = some ((false, R.take l.1.2.length), ((false, R.drop l.1.2.length), true)) ∧ spec_RunFor f l = some ((false, R.take l.1.2.length), ((false, R.drop l.1.2.length), true))) := by
  have hlim := lim_eq
  obtain ⟨h1, h2⟩ := goodTr_in hf
  obtain ⟨p1, p2, p3⟩ := goodSaid_in h1
  obtain ⟨b, T, b2, t1, t2, t3, t4, t5⟩ := tableV f (by omega) p1 p3 l l rfl rfl hn hpos
  have hl : (runI T (trackL f.2) (l.1.2.length + l.2.2.length) (trackL f.2).length).length = l.1.2.length + l.2.2.length := by unfold runI; simp
  have ew : IntKind.i64.wrap ((l.1.2.length : Int) + (l.2.2.length : Int)) = ((l.1.2.length + l.2.2.length : Nat) : Int) := by rw [wr (by omega)]; omega
  have e0 := run_L0 f hf l hn hpos t4 t2 t3 false (trackL f.2).length 0 (by omega)
  have er : runI T (trackL f.2) (l.1.2.length + l.2.2.length) 0 = List.replicate (l.1.2.length + l.2.2.length) 0 := by
    unfold runI
    refine List.ext_getElem (by simp) fun k h1 h2 => ?_
    simp [bitsG]
  rw [er] at e0
  have e0' : impl_RunFor_L0 f l (false, List.replicate (l.1.2.length + l.2.2.length) 0) (false, trackL f.2) ((trackL f.2).length : Int) 0 = _ := e0
  obtain ⟨b', s0⟩ := spec_run_L0 f hf l hn b t2 t3 (l.1.2.length + l.2.2.length) 0 true (by omega)
  have s0' : spec_RunFor_L0 f l (b, T) (true, []) 0 = _ := s0
  refine ⟨T, t2, t3, t4, ?_, ?_⟩
  · rw [impl_RunFor_eq, (goodTr_both f).1, hf, some_bind, Bool.not_true, cond_false, g1, some_bind, Bool.not_true, cond_false, ew, gT (by omega), gT (by omega), gT (by omega), gT (by omega), tracked f h1, some_bind]
    simp only [Int.toNat_natCast, e0', some_bind]
    rw [gT (by omega), gT (by omega), List.drop_zero, cloneInt_F _ (by simp [hl]; omega), some_bind, gT (by omega), gT (by omega), List.take_length, cloneInt_F _ (by simp [hl]; omega), some_bind]
  · rw [spec_RunFor_eq, (goodTr_both f).2, hf, some_bind, Bool.not_true, cond_false, g2, some_bind, Bool.not_true, cond_false, t1, some_bind]
    simp only [s0', some_bind, Int.toNat_natCast]
    rw [gT (by omega), gT (by omega), List.drop_zero, spec_l1Own_eq, gT (by simp [hl]; omega), some_bind, gT (by omega), gT (by omega), List.take_length, spec_l1Own_eq, gT (by simp [hl]; omega), some_bind]
    rfl
/-- before, by the first number, then the second, then the third -/
def lt3 (x y : DEdge) : Bool := decide (x.1 < y.1) || (decide (x.1 = y.1) && (decide (x.2.1 < y.2.1) || (decide (x.2.1 = y.2.1) && decide (x.2.2 < y.2.2))))
theorem le3_iff (x y : DEdge) : le3 x y = true ↔ x.1 < y.1 ∨ (x.1 = y.1 ∧ (x.2.1 < y.2.1 ∨ (x.2.1 = y.2.1 ∧ x.2.2 ≤ y.2.2))) := by
  simp only [le3, Bool.or_eq_true, Bool.and_eq_true, decide_eq_true_eq]
theorem lt3_iff (x y : DEdge) : lt3 x y = true ↔ x.1 < y.1 ∨ (x.1 = y.1 ∧ (x.2.1 < y.2.1 ∨ (x.2.1 = y.2.1 ∧ x.2.2 < y.2.2))) := by
  simp only [lt3, Bool.or_eq_true, Bool.and_eq_true, decide_eq_true_eq]
theorem le3_total (x y : DEdge) : (le3 x y || le3 y x) = true := by
  rw [Bool.or_eq_true, le3_iff, le3_iff]
  omega
theorem le3_trans (x y z : DEdge) (h1 : le3 x y = true) (h2 : le3 y z = true) : le3 x z = true := by
  rw [le3_iff] at h1 h2 ⊢
  omega
theorem lt3_of (x y : DEdge) (h : le3 x y = true) (hn : x ≠ y) : lt3 x y = true := by
  rw [le3_iff] at h
  rw [lt3_iff]
  have : ¬ (x.1 = y.1 ∧ x.2.1 = y.2.1 ∧ x.2.2 = y.2.2) := fun ⟨a, b, c⟩ => hn (Prod.ext a (Prod.ext b c))
  omega
/-- all edges, letter by letter -/
def rawEdges (G : Nat → Nat → Nat) (many : Nat) : List DEdge := (List.range 8).flatMap fun l => (List.range many).map fun h => ((G l h : Int), ((l : Int), (h : Int)))
theorem mem_raw {G : Nat → Nat → Nat} {many : Nat} {x : DEdge} : x ∈ rawEdges G many ↔ ∃ l h : Nat, l < 8 ∧ h < many ∧ x = ((G l h : Int), ((l : Int), (h : Int))) := by
  simp only [rawEdges, List.mem_flatMap, List.mem_range, List.mem_map]
  constructor
  · rintro ⟨l, h1, h, h2, rfl⟩
    exact ⟨l, h, h1, h2, rfl⟩
  · rintro ⟨l, h, h1, h2, rfl⟩
    exact ⟨l, h1, h, h2, rfl⟩
theorem raw_length (G : Nat → Nat → Nat) (many : Nat) : (rawEdges G many).length = 8 * many := by
  have : ∀ L : List Nat, (L.flatMap fun l => (List.range many).map fun h => (((G l h : Int), ((l : Int), (h : Int))) : DEdge)).length = L.length * many := by
    intro L
    induction L with
    | nil => simp
    | cons a L ih => rw [List.flatMap_cons, List.length_append, ih, List.length_map, List.length_range, List.length_cons, Nat.add_mul]; omega
  rw [rawEdges, this, List.length_range]
theorem raw_nodup (G : Nat → Nat → Nat) (many : Nat) : (rawEdges G many).Nodup := by
  show List.Pairwise (· ≠ ·) (rawEdges G many)
  unfold rawEdges
  rw [List.pairwise_flatMap]
  refine ⟨fun l _ => ?_, ?_⟩
  · rw [List.pairwise_map]
    refine List.Pairwise.imp ?_ (List.nodup_range (n := many))
    intro a b hab h
    have := congrArg (fun x : DEdge => x.2.2) h
    simp at this
    exact hab (Int.ofNat.inj this)
  · refine List.Pairwise.imp ?_ (List.nodup_range (n := 8))
    intro a b hab x hx y hy e
    obtain ⟨h1, _, rfl⟩ := List.mem_map.1 hx
    obtain ⟨h2, _, rfl⟩ := List.mem_map.1 hy
    have := congrArg (fun x : DEdge => x.2.1) e
    simp at this
    exact hab (Int.ofNat.inj this)
/-- all edges in order -/
def allEdges (G : Nat → Nat → Nat) (many : Nat) : List DEdge := (rawEdges G many).mergeSort le3
theorem all_perm (G : Nat → Nat → Nat) (many : Nat) : (allEdges G many).Perm (rawEdges G many) := List.mergeSort_perm _ _
theorem mem_all {G : Nat → Nat → Nat} {many : Nat} {x : DEdge} : x ∈ allEdges G many ↔ ∃ l h : Nat, l < 8 ∧ h < many ∧ x = ((G l h : Int), ((l : Int), (h : Int))) := by
  rw [(all_perm G many).mem_iff, mem_raw]
theorem all_length (G : Nat → Nat → Nat) (many : Nat) : (allEdges G many).length = 8 * many := by rw [(all_perm G many).length_eq, raw_length]
theorem all_rises (G : Nat → Nat → Nat) (many : Nat) (i : Nat) (hi : i + 1 < (allEdges G many).length) : lt3 ((allEdges G many)[i]'(by omega)) ((allEdges G many)[i + 1]) = true := by
  have h1 : (allEdges G many).Pairwise (fun a b => le3 a b = true) := List.pairwise_mergeSort le3_trans le3_total _
  have h2 : (allEdges G many).Nodup := (all_perm G many).nodup_iff.2 (raw_nodup G many)
  refine lt3_of _ _ (List.pairwise_iff_getElem.1 h1 i (i + 1) (by omega) hi (by omega)) (fun e => ?_)
  exact List.pairwise_iff_getElem.1 h2 i (i + 1) (by omega) hi (by omega) e
theorem now_rule {x : DSaid} (hx : nodeOk x = true) {lt : Nat → Int} {A B : List Bool} {nx : Nat → Nat} {k j : Nat} {says : Int → Bool} {a b later : Bool} (h1 : needS x.1 = 1 ∨ needS x.1 = 2 → b = B.getD k false) (h4 : x.1 = 4 → says ((j : Int) - 1) = B.getD (nx k) false) (h2 : needS x.1 = 2 → a = A.getD k false) (h7 : x.1 = 7 ∨ x.1 = 8 → says (j : Int) = later) :
    nowAt x (lt k) says j a b = ruleX x lt A B nx k later := by
  unfold nowAt ruleX
  rcases node_ops hx with ⟨h, _⟩ | h | h | h | h | h | h | h
  · simp [h]
  · simp [h]
  · rw [h1 (.inl (by rw [h]; rfl))]; simp [h]
  · rw [h4 h]; simp [h]
  all_goals rw [h1 (.inr (by rw [h]; rfl)), h2 (by rw [h]; rfl)]
  · simp [h]
  · simp [h]
  · rw [h7 (.inl h)]; simp [h]
  · rw [h7 (.inr h)]; simp [h]
/-- a guess follows from the letter and the guess behind it -/
theorem run_guess (f : Bool × List DSaid) (hf : goodTr f.2 = true) (l : DLasso) (hpos : 0 < l.2.2.length) {T : List (Bool × List Bool)} (hT : ∀ j, j < f.2.length → RowAt f.2 l T j) (hTl : T.length = f.2.length) (k : Nat) (hk : k < l.1.2.length + l.2.2.length) :
    gssF f (ltL l.1.2 l.2.2 k) ((bitsG ((trackL f.2).map (sayAt T (nxP l.1.2.length (l.1.2.length + l.2.2.length) k))) : Nat) : Int) = bitsG ((trackL f.2).map (sayAt T k)) := by
  obtain ⟨h1, h2⟩ := goodTr_in hf
  obtain ⟨R, r1, hR⟩ := opsAre f h1
  have hin := trackL_in R hR (goodSaid_in h1).1
  have hok := goodSaid_nodes h1
  obtain ⟨out, o1, o2, o3⟩ := guess_bothV f hf (ltL l.1.2 l.2.2 k) ((bitsG ((trackL f.2).map (sayAt T (nxP l.1.2.length (l.1.2.length + l.2.2.length) k))) : Nat) : Int) false
  rw [o3]
  have key : ∀ j, j < f.2.length → out.getD j false = sayAt T k (j : Int) := by
    intro j
    induction j using Nat.strongRecOn with
    | _ j ih =>
      intro hj
      obtain ⟨a, b, e1, e2, e3⟩ := o2 j hj
      obtain ⟨A, B, ⟨p1, p2⟩, e4⟩ := hT j hj
      have hfix := rowR_fixed (ruleX (f.2.getD j (0, 0)) (ltL l.1.2 l.2.2) A B (nxP l.1.2.length (l.1.2.length + l.2.2.length))) (ruleX_mono _ _ _ _ _) l.1.2.length (l.1.2.length + l.2.2.length) (by omega) ((f.2.getD j (0, 0)).1 == 8) k hk
      have hsj : ∀ i, sayAt T i (j : Int) = (rowX (f.2.getD j (0, 0)) l A B).getD i false := fun i => by
        unfold sayAt
        rw [Int.toNat_natCast, e4]
      have hpos2 := hR.pos j hj
      have hB : needS (f.2.getD j (0, 0)).1 = 1 ∨ needS (f.2.getD j (0, 0)).1 = 2 → b = B.getD k false ∧ ∀ i, sayAt T i ((j : Int) - 1) = B.getD i false := by
        intro h
        have hB2 : (T.getD (j - 1) (true, [])).2 = B := by
          rcases h with h | h
          · exact (p1 h).2.1
          · exact (p2 h).2.1
        have hj1 : 1 ≤ j := by
          rcases h with h | h
          · exact (p1 h).1
          · exact (p2 h).1
        have hb2 : b = out.getD (j - 1) false := by
          rcases h with h | h
          · exact e2 h
          · exact (e3 h).1
        have hs : ∀ i, sayAt T i ((j : Int) - 1) = B.getD i false := fun i => by
          unfold sayAt
          rw [show ((j : Int) - 1).toNat = j - 1 by omega, hB2]
        refine ⟨?_, hs⟩
        rw [hb2, ih (j - 1) (by omega) (by omega), ← hs k]
        congr 1
        omega
      have hA : needS (f.2.getD j (0, 0)).1 = 2 → a = A.getD k false := by
        intro h
        obtain ⟨_, k1, f1, f2, f3⟩ := e3 h
        obtain ⟨_, _, _, _, k2, f4, f5, f6⟩ := p2 h
        have e := From_fun f1 f4
        have ek : k1 = k2 := by omega
        subst ek
        rw [f3, ih k1 f2 (by omega), ← f6]
        unfold sayAt
        rw [Int.toNat_natCast]
      have says : ∀ node, node ∈ trackL f.2 → saysL (trackL f.2) ((bitsG ((trackL f.2).map (sayAt T (nxP l.1.2.length (l.1.2.length + l.2.2.length) k))) : Nat) : Int) node = sayAt T (nxP l.1.2.length (l.1.2.length + l.2.2.length) k) node := fun node h => saysL_bits _ h2 _ _ h
      rw [e1, hsj k]
      show _ = (rowR _ _ _ _).getD k false
      rw [hfix]
      have hlast : (rowR (ruleX (f.2.getD j (0, 0)) (ltL l.1.2 l.2.2) A B (nxP l.1.2.length (l.1.2.length + l.2.2.length))) (nxP l.1.2.length (l.1.2.length + l.2.2.length)) (l.1.2.length + l.2.2.length) ((f.2.getD j (0, 0)).1 == 8)).getD (nxP l.1.2.length (l.1.2.length + l.2.2.length) k) false = sayAt T (nxP l.1.2.length (l.1.2.length + l.2.2.length) k) (j : Int) := (hsj _).symm
      rw [hlast]
      refine now_rule (hok j hj) (fun h => (hB h).1) (fun h => ?_) hA (fun h => ?_)
      · rw [says _ (tr_prev hj (.inr (.inr h)))]
        exact (hB (.inl (by rw [h]; rfl))).2 _
      · exact says _ (tr_self hj h)
  congr 1
  unfold gVals
  refine List.map_congr_left fun x hx => ?_
  obtain ⟨m1, m2⟩ := hin x hx
  rw [key x.toNat (by omega), Int.toNat_of_nonneg m1]
def rootT (f : List DSaid) : List Int := upTo (manyG f) fun g => saysL (trackL f) g ((f.length : Int) - 1)
theorem rootedT (f : Bool × List DSaid) (hf : goodTr f.2 = true) : ∃ c, impl_rooted f true = some (c, rootT f.2) := by
  have hlim := lim_eq
  obtain ⟨h1, h2⟩ := goodTr_in hf
  have hn := (goodSaid_in h1).2.1
  have hm := manyG_in hf
  have one : ∀ g : Int, impl_rooted_1 g (false, trackL f.2) f true = some (saysL (trackL f.2) g ((f.2.length : Int) - 1)) := by
    intro g
    rw [impl_rooted_1_eq, wr (by omega), assumes (false, trackL f.2) (by simp only; omega) g _ tr_root, some_bind]
    cases saysL (trackL f.2) g ((f.2.length : Int) - 1) <;> rfl
  obtain ⟨c, e⟩ := upTo_loop (manyG f.2) (fun g => saysL (trackL f.2) g ((f.2.length : Int) - 1)) (fun o j => impl_guessesWith_by_rooted_1_L0 ((false, trackL f.2), (f, (true, ()))) o (manyG f.2 : Int) j) (fun j b o hj ho => by
    have tl : decide (o.length + [(j : Int)].length ≤ lim) = true := decide_eq_true (by simp; omega)
    rw [impl_guessesWith_by_rooted_1_L0_eq, gT (by omega)]
    simp only [one, some_bind, up1 j (by omega), bind_id, tl, cond_true]) (fun b o => by
    rw [impl_guessesWith_by_rooted_1_L0_eq, gF (by omega)]) false
  have e' : impl_guessesWith_by_rooted_1_L0 ((false, trackL f.2), (f, (true, ()))) (false, []) (manyG f.2 : Int) 0 = _ := e
  exact ⟨c, by rw [impl_rooted_eq, tracked f h1, some_bind, impl_guessesWith_by_rooted_1_eq, guesses f hf, some_bind]; simp only [e', some_bind]; rfl⟩
theorem upTo_rises (m : Nat) (q : Int → Bool) : rises (m : Int) (upTo m q) = true := by
  refine rises_of ?_ fun x hx => (mem_upTo.1 hx).1
  unfold upTo
  show List.Pairwise _ _
  rw [List.pairwise_map]
  refine List.Pairwise.imp ?_ (List.Pairwise.filter _ List.pairwise_lt_range)
  intro a b hab
  show (a : Int) < (b : Int)
  omega
noncomputable def gssN (f : Bool × List DSaid) (l h : Nat) : Nat := gssF f (l : Int) (h : Int)
theorem auto1_L2 (f : Bool × List DSaid) (hf : goodTr f.2 = true) (t4 : DAuto) (o1 : Bool × List Int) (o3 : Bool × List (Bool × List Int)) (l : Nat) (t16 : Int) (d : Nat) : ∀ (h : Nat) (b : Bool) (E : List DEdge), h + d = manyG f.2 → E.length + d ≤ 100000 → (b = true → E = []) →
    ∃ c, impl_autoFor_L2 f t4 (manyG f.2 : Int) o1 (b, E) o3 (l : Int) t16 (manyG f.2 : Int) (h : Int) = some ((manyG f.2 : Int), (o1, ((c, E ++ (List.range' h d).map fun h : Nat => ((gssN f l h : Int), ((l : Int), (h : Int)))), o3))) ∧ (c = true → E ++ (List.range' h d).map (fun h : Nat => (((gssN f l h : Int), ((l : Int), (h : Int))) : DEdge)) = []) := by
  have hlim := lim_eq
  have hm := manyG_in hf
  induction d with
  | zero =>
    intro h b E hh hE hb
    exact ⟨b, by rw [impl_autoFor_L2_eq, gF (by omega)]; simp, by simpa using hb⟩
  | succ d ih =>
    intro h b E hh hE hb
    obtain ⟨c, e1, e2⟩ := ih (h + 1) (b && false) (E ++ [((gssN f l h : Int), ((l : Int), (h : Int)))]) (by omega) (by simp; omega) (by simp)
    refine ⟨c, ?_, ?_⟩
    · rw [impl_autoFor_L2_eq, gT (by omega), (guess_both f hf (l : Int) (h : Int) false).1, some_bind, gT (by simp; omega), up1 h (by omega), bind_id]
      have e1' : impl_autoFor_L2 f t4 (manyG f.2 : Int) (o1.1, o1.2) (b && false, E ++ [((gssF f (l : Int) (h : Int) : Int), ((l : Int), (h : Int)))]) (o3.1, o3.2) (l : Int) t16 (manyG f.2 : Int) ((h + 1 : Nat) : Int) = _ := e1
      rw [e1', List.range'_succ, List.map_cons, List.append_assoc]
      rfl
    · rw [List.range'_succ, List.map_cons]
      rw [List.append_assoc] at e2
      exact e2
theorem auto1_L0 (f : Bool × List DSaid) (hf : goodTr f.2 = true) (t4 : DAuto) (o1 : Bool × List Int) (o3 : Bool × List (Bool × List Int)) (d : Nat) : ∀ (l : Nat) (b : Bool) (E : List DEdge), l + d = 8 → E.length ≤ 32 * l → (b = true → E = []) →
    ∃ c, impl_autoFor_L0 f t4 (manyG f.2 : Int) o1 (b, E) o3 (l : Int) = some ((manyG f.2 : Int), (o1, ((c, E ++ (List.range' l d).flatMap fun l : Nat => (List.range (manyG f.2)).map fun h : Nat => ((gssN f l h : Int), ((l : Int), (h : Int)))), o3))) ∧ (c = true → E ++ (List.range' l d).flatMap (fun l : Nat => (List.range (manyG f.2)).map fun h : Nat => (((gssN f l h : Int), ((l : Int), (h : Int))) : DEdge)) = []) := by
  have hm := manyG_in hf
  induction d with
  | zero =>
    intro l b E hl hE hb
    exact ⟨b, by rw [impl_autoFor_L0_eq, gF (by omega)]; simp, by simpa using hb⟩
  | succ d ih =>
    intro l b E hl hE hb
    obtain ⟨c1, e1, e2⟩ := auto1_L2 f hf t4 o1 o3 l (l : Int) (manyG f.2) 0 b E (by omega) (by omega) hb
    rw [← List.range_eq_range'] at e1 e2
    obtain ⟨c, e3, e4⟩ := ih (l + 1) c1 (E ++ (List.range (manyG f.2)).map fun h : Nat => ((gssN f l h : Int), ((l : Int), (h : Int)))) (by omega) (by rw [List.length_append, List.length_map, List.length_range]; omega) e2
    refine ⟨c, ?_, ?_⟩
    · have e1' : impl_autoFor_L2 f t4 (manyG f.2 : Int) (o1.1, o1.2) (b, E) (o3.1, o3.2) (l : Int) (l : Int) (manyG f.2 : Int) 0 = _ := e1
      rw [impl_autoFor_L0_eq, gT (by omega), e1', some_bind, up1 l (by omega), bind_id]
      simp only [e3]
      rw [List.range'_succ, List.flatMap_cons, List.append_assoc]
    · rw [List.range'_succ, List.flatMap_cons, ← List.append_assoc]
      exact e4
/-- its edges -/
noncomputable def edgesA (f : Bool × List DSaid) : List DEdge := allEdges (gssN f) (manyG f.2)
theorem sorted_edges (f : Bool × List DSaid) (hf : goodTr f.2 = true) : slices_SortFunc_Edge_by_compareEdges (false, rawEdges (gssN f) (manyG f.2)) () = some (false, edgesA f) := by
  have hlim := lim_eq
  have hm := manyG_in hf
  have hl := raw_length (gssN f) (manyG f.2)
  rw [slices_SortFunc_Edge_by_compareEdges_eq]
  unfold sortfI
  rw [cond_false, gT (by simp only; omega)]
  rfl
theorem autoFor (f : Bool × List DSaid) (hf : goodTr f.2 = true) : ∃ c c' X, impl_autoFor f true = some ((manyG f.2 : Int), ((c, rootT f.2), ((false, edgesA f), (c', X)))) ∧ X.map Prod.snd = goalsL f.2 := by
  have hm := manyG_in hf
  obtain ⟨c, e1⟩ := rootedT f hf
  obtain ⟨c', X, e2, e3, _⟩ := goalsOf f hf
  obtain ⟨c2, e4, e5⟩ := auto1_L0 f hf (0, ((true, []), ((true, []), (true, [])))) (c, rootT f.2) (c', X) 8 0 true [] (by omega) (by simp) (fun _ => rfl)
  have hraw : ([] : List DEdge) ++ (List.range' 0 8).flatMap (fun l : Nat => (List.range (manyG f.2)).map fun h : Nat => ((gssN f l h : Int), ((l : Int), (h : Int)))) = rawEdges (gssN f) (manyG f.2) := by
    rw [List.nil_append, ← List.range_eq_range']
    rfl
  rw [hraw] at e4 e5
  have hc : c2 = false := by
    cases c2 with
    | false => rfl
    | true =>
      have := congrArg List.length (e5 rfl)
      rw [raw_length] at this
      simp at this
      omega
  subst hc
  have e4' : impl_autoFor_L0 f (0, ((true, []), ((true, []), (true, [])))) (manyG f.2 : Int) (c, rootT f.2) (true, []) (c', X) 0 = _ := e4
  refine ⟨c, c', X, ?_, e3⟩
  rw [impl_autoFor_eq, guesses f hf, some_bind, e1, some_bind, e2, some_bind]
  simp only [e4', some_bind, sorted_edges f hf]
/-! it is a good one -/
theorem areGoals (b : Bool) (l : List (Bool × List Int)) (n : Int) (h6 : l.length ≤ 6) (hr : ∀ r ∈ l, r.2.length ≤ 1048576 ∧ rises n r.2 = true) : impl_areGoals (b, l) n = some true := by
  have hX := loop_find l (fun r => !rises n r.2) (fun i => slices_IndexFunc_int_by_areGoals_1_L0 (b, l) (n, ()) (l.length : Int) i) (fun i hi => by
    have := isIncreasing l[i] n (hr _ (List.getElem_mem hi)).1
    rw [slices_IndexFunc_int_by_areGoals_1_L0_eq, gT (by omega), gT (by omega), gT (by simp only; omega), getD_at l _ i hi, impl_areGoals_1_eq, this, some_bind, some_bind, up1 i (by omega), bind_id]) (by rw [slices_IndexFunc_int_by_areGoals_1_L0_eq, gF (by omega)])
  have ea : (l.any fun r => !rises n r.2) = false := by
    rw [List.any_eq_false]
    intro r hr2
    rw [(hr r hr2).2]
    decide
  rw [impl_areGoals_eq, gT (by simp only; omega), slices_ContainsFunc_int_by_areGoals_1_eq, slices_IndexFunc_int_by_areGoals_1_eq, hX, some_bind, ea]
  rfl
theorem sub_length {l1 : List Nat} : ∀ {l2 : List Int}, l1.Nodup → (∀ x ∈ l1, (x : Int) ∈ l2) → l1.length ≤ l2.length := by
  induction l1 with
  | nil => intro l2 _ _; simp
  | cons a l1 ih =>
    intro l2 hn hm
    rw [List.nodup_cons] at hn
    have ha := hm a List.mem_cons_self
    have h1 := ih (l2 := l2.erase (a : Int)) hn.2 (fun x hx => (List.mem_erase_of_ne (fun e => hn.1 (by rw [← Int.ofNat.inj e]; exact hx))).2 (hm x (List.mem_cons_of_mem _ hx)))
    rw [List.length_erase_of_mem ha] at h1
    have := List.length_pos_of_mem ha
    rw [List.length_cons]
    omega
theorem goals_few {f : List DSaid} (hf : goodTr f = true) : (goalsL f).length ≤ 5 := by
  obtain ⟨h1, h2⟩ := goodTr_in hf
  have e : (goalsL f).length = ((List.range f.length).filter fun i => decide ((f.getD i (0, 0)).1 = 7 ∨ (f.getD i (0, 0)).1 = 8)).length := by
    unfold goalsL
    generalize List.range f.length = L
    induction L with
    | nil => rfl
    | cons a L ih =>
      rw [List.flatMap_cons, List.length_append, ih, List.filter_cons, goalAt]
      by_cases c : (f.getD a (0, 0)).1 = 7 ∨ (f.getD a (0, 0)).1 = 8
      · rw [if_pos c, if_pos (decide_eq_true c), List.length_cons, List.length_cons, List.length_nil]; omega
      · rw [if_neg c, if_neg (by simpa using c), List.length_nil]; omega
  rw [e]
  refine Nat.le_trans (sub_length (l2 := trackL f) (List.Pairwise.filter _ List.nodup_range) fun x hx => ?_) h2
  rw [List.mem_filter, List.mem_range, decide_eq_true_eq] at hx
  exact tr_self hx.1 hx.2
theorem goal_rises {f : List DSaid} {r : List Int} (h : r ∈ goalsL f) : rises (manyG f : Int) r = true := by
  unfold goalsL at h
  obtain ⟨i, _, hi⟩ := List.mem_flatMap.1 h
  unfold goalAt at hi
  split at hi
  · rw [List.mem_singleton] at hi
    rw [hi]
    exact upTo_rises _ _
  · cases hi
theorem goodAuto_L0 (f : Bool × List DSaid) (hf : goodTr f.2 = true) (a : DAuto) (ha : a.1 = (manyG f.2 : Int)) (hE : a.2.2.1.2 = edgesA f) (cmp : ∀ x y : DEdge, ∃ c, impl_compareEdges x y = some c ∧ (lt3 x y = true → c < 0)) (d : Nat) : ∀ i : Nat, i + d = (edgesA f).length → impl_GoodAuto_L0 a a.2.2.1 ((edgesA f).length : Int) (i : Int) = some (.inr ()) := by
  have hm := manyG_in hf
  have hlen := all_length (gssN f) (manyG f.2)
  have hlen' : (edgesA f).length = 8 * manyG f.2 := hlen
  induction d with
  | zero => intro i hi; rw [impl_GoodAuto_L0_eq, gF (by omega)]
  | succ d ih =>
    intro i hi
    have hlt : i < (edgesA f).length := by omega
    obtain ⟨l, h, q1, q2, q3⟩ := mem_all.1 (List.getElem_mem hlt : (edgesA f)[i] ∈ allEdges (gssN f) (manyG f.2))
    have hg : gssN f l h < manyG f.2 := (guess_both f hf (l : Int) (h : Int) false).2.2
    rw [impl_GoodAuto_L0_eq, hE]
    simp only [getD_at (edgesA f) _ i hlt, q3, ha]
    rw [gT (by omega), gT (by omega), gT (by omega), gF (by omega), gF (by omega), gF (by omega), gF (by omega), gF (by omega), gF (by omega), up1 i (by omega)]
    have ih' := ih (i + 1) (by omega)
    by_cases c0 : i = 0
    · rw [gF (by omega), bind_id]
      exact ih'
    · obtain ⟨j, rfl⟩ : ∃ j, i = j + 1 := ⟨i - 1, by omega⟩
      have hr := all_rises (gssN f) (manyG f.2) j hlt
      obtain ⟨c, c1, c2⟩ := cmp ((edgesA f)[j]'(by omega)) ((edgesA f)[j + 1])
      have c3 := c2 hr
      have q3' : (edgesA f)[j + 1] = ((gssN f l h : Int), ((l : Int), (h : Int))) := q3
      rw [q3'] at c1
      rw [gT (by omega), dn1 (j + 1) (by omega) (by omega), Nat.add_sub_cancel, gT (by omega), gT (by omega)]
      simp only [getD_at (edgesA f) _ j (by omega : j < (edgesA f).length)]
      rw [c1, some_bind, gF (by omega), bind_id]
      exact ih'
def cmpI (x y : Int) : Int := if x < y then -1 else if y < x then 1 else 0
theorem cmpI_is (x y : Int) : (cmpI x y = -1 ∧ x < y) ∨ (cmpI x y = 0 ∧ x = y) ∨ (cmpI x y = 1 ∧ y < x) := by
  unfold cmpI
  by_cases h1 : x < y
  · rw [if_pos h1]
    exact .inl ⟨rfl, h1⟩
  · by_cases h2 : y < x
    · rw [if_neg h1, if_pos h2]
      exact .inr (.inr ⟨rfl, h2⟩)
    · rw [if_neg h1, if_neg h2]
      exact .inr (.inl ⟨rfl, by omega⟩)
theorem cmpIs (x y : Int) : cmp_Compare_int x y = some (cmpI x y) := by
  have h : ∀ z : Int, cmp_isNaN_int z = some false := fun z => by rw [cmp_isNaN_int_eq]; simp
  rw [cmp_Compare_int_eq, h x, h y]
  simp only [Option.bind_some, cond_false]
  unfold cmpI
  by_cases h1 : x < y
  · simp [h1]
  · by_cases h2 : y < x <;> simp [h1, h2]
def orI (a b c : Int) : Int := if a = 0 then if b = 0 then c else b else a
theorem cmpOr (a b c : Int) : cmp_Or_int (false, [a, b, c]) = some (orI a b c) := by
  have l3 : cmp_Or_int_L0 0 (false, [a, b, c]) 3 3 = some (.inr ()) := by rw [cmp_Or_int_L0_eq]; rfl
  have l2 : cmp_Or_int_L0 0 (false, [a, b, c]) 3 2 = bif c != 0 then some (.inl c) else some (.inr ()) := by
    rw [cmp_Or_int_L0_eq, show IntKind.i64.wrap (2 + 1) = 3 by decide, l3]
    rfl
  have l1 : cmp_Or_int_L0 0 (false, [a, b, c]) 3 1 = bif b != 0 then some (.inl b) else bif c != 0 then some (.inl c) else some (.inr ()) := by
    rw [cmp_Or_int_L0_eq, show IntKind.i64.wrap (1 + 1) = 2 by decide, l2]
    cases c != 0 <;> rfl
  have l0 : cmp_Or_int_L0 0 (false, [a, b, c]) 3 0 = bif a != 0 then some (.inl a) else bif b != 0 then some (.inl b) else bif c != 0 then some (.inl c) else some (.inr ()) := by
    rw [cmp_Or_int_L0_eq, show IntKind.i64.wrap (0 + 1) = 1 by decide, l1]
    cases b != 0 <;> cases c != 0 <;> rfl
  rw [cmp_Or_int_eq]
  have l0' : cmp_Or_int_L0 0 (false, [a, b, c]) (((false, [a, b, c]) : Bool × List Int).2.length : Int) 0 = _ := l0
  rw [l0']
  unfold orI
  by_cases ha : a = 0
  · subst ha
    by_cases hb : b = 0
    · subst hb
      by_cases hc : c = 0
      · subst hc
        rfl
      · rw [show (c != 0) = true from bne_iff_ne.2 hc]
        rfl
    · rw [show (b != 0) = true from bne_iff_ne.2 hb, if_pos rfl, if_neg hb]
      rfl
  · rw [show (a != 0) = true from bne_iff_ne.2 ha, if_neg ha]
    rfl
theorem compareE (x y : DEdge) : ∃ c, impl_compareEdges x y = some c ∧ (lt3 x y = true → c < 0) := by
  refine ⟨orI (cmpI x.1 y.1) (cmpI x.2.1 y.2.1) (cmpI x.2.2 y.2.2), ?_, fun h => ?_⟩
  · rw [impl_compareEdges_eq, cmpIs, cmpIs, cmpIs]
    simp only [Option.bind_some, cmpOr]
  · rw [lt3_iff] at h
    rcases cmpI_is x.1 y.1 with ⟨e1, h1⟩ | ⟨e1, h1⟩ | ⟨e1, h1⟩ <;> rcases cmpI_is x.2.1 y.2.1 with ⟨e2, h2⟩ | ⟨e2, h2⟩ | ⟨e2, h2⟩ <;> rcases cmpI_is x.2.2 y.2.2 with ⟨e3, h3⟩ | ⟨e3, h3⟩ | ⟨e3, h3⟩ <;> rw [e1, e2, e3] <;> simp only [orI] <;> (first | (simp; done) | (simp; omega) | omega)
/-- the machine, whatever its rows' marks -/
noncomputable def autoA (f : Bool × List DSaid) (c c' : Bool) (X : List (Bool × List Int)) : DAuto := ((manyG f.2 : Int), ((c, rootT f.2), ((false, edgesA f), (c', X))))
theorem goodAuto (f : Bool × List DSaid) (hf : goodTr f.2 = true) (c c' : Bool) (X : List (Bool × List Int)) (hX : X.map Prod.snd = goalsL f.2) : impl_GoodAuto (autoA f c c' X) = some true := by
  have hm := manyG_in hf
  have hlen := all_length (gssN f) (manyG f.2)
  have hlen' : (edgesA f).length = 8 * manyG f.2 := hlen
  have hr := upTo_length (manyG f.2) fun g => saysL (trackL f.2) g ((f.2.length : Int) - 1)
  have e1 := isIncreasing (c, rootT f.2) (manyG f.2 : Int) (by show (rootT f.2).length ≤ _; unfold rootT; omega)
  have e2 : rises (manyG f.2 : Int) (rootT f.2) = true := upTo_rises _ _
  have hXl : X.length ≤ 5 := by have := congrArg List.length hX; rw [List.length_map] at this; rw [this]; exact goals_few hf
  have e3 := areGoals c' X (manyG f.2 : Int) (by omega) (fun r hr => by
    have hin : r.2 ∈ goalsL f.2 := by rw [← hX]; exact List.mem_map_of_mem hr
    have hrs := goal_rises hin
    have := rises_length hrs (by omega)
    exact ⟨by omega, hrs⟩)
  have e4 := goodAuto_L0 f hf (autoA f c c' X) rfl rfl compareE (edgesA f).length 0 (by omega)
  have e4' : impl_GoodAuto_L0 (autoA f c c' X) (autoA f c c' X).2.2.1 ((edgesA f).length : Int) 0 = _ := e4
  rw [impl_GoodAuto_eq]
  unfold autoA at *
  simp only at e4' ⊢
  rw [gF (by omega), gF (by omega), e1, some_bind, e2, Bool.not_true, cond_false, gF (by omega), e3, some_bind, Bool.not_true, cond_false, e4', some_bind]
theorem autoFor_ok (f : Bool × List DSaid) (hf : goodTr f.2 = true) : ∃ c c' X, impl_AutoFor f = some (autoA f c c' X, true) ∧ X.map Prod.snd = goalsL f.2 := by
  obtain ⟨c, c', X, e1, e2⟩ := autoFor f hf
  have e3 := goodAuto f hf c c' X e2
  refine ⟨c, c', X, ?_, e2⟩
  rw [impl_AutoFor_eq, (goodTr_both f).1, hf, some_bind, Bool.not_true, cond_false, e1, some_bind, impl_checkedAuto_eq]
  unfold autoA at e3
  rw [e3]
  rfl
theorem getD_setT (m : List Bool) (i j : Nat) : (m.set i true).getD j false = if i = j ∧ j < m.length then true else m.getD j false := getD_setB m i j true
theorem step_L0 (E : List DEdge) (m : Nat) (cur lt : Int) (hE : E.length ≤ 100000) (hin : ∀ e ∈ E, 0 ≤ e.2.2 ∧ e.2.2 < (m : Int)) (b tb : Bool) (d : Nat) : ∀ (i : Nat) (to : List Bool), i + d = E.length → to.length = m →
    ∃ to', impl_StepAuto_L0 (false, [cur]) lt (tb, to) (b, E) (E.length : Int) (i : Int) = some (tb, to') ∧ to'.length = m ∧ (∀ h, to.getD h false = true → to'.getD h false = true) ∧ ∀ e ∈ E.drop i, e.1 = cur → e.2.1 = lt → to'.getD e.2.2.toNat false = true := by
  induction d with
  | zero =>
    intro i to hi ht
    refine ⟨to, by rw [impl_StepAuto_L0_eq, gF (by omega)], ht, fun _ h => h, fun e he => ?_⟩
    rw [List.drop_of_length_le (by omega)] at he
    cases he
  | succ d ih =>
    intro i to hi ht
    have hlt : i < E.length := by omega
    obtain ⟨q1, q2⟩ := hin _ (List.getElem_mem hlt)
    have hc := containsInt (false, [cur]) E[i].1 (by simp)
    rw [impl_StepAuto_L0_eq, gT (by omega), gT (by omega), gT (by simp only; omega)]
    simp only [getD_at E _ i hlt]
    rw [up1 i (by omega), hc]
    rw [List.drop_eq_getElem_cons hlt]
    by_cases c1 : E[i].2.1 = lt
    · rw [bT (by rw [beq_iff_eq]; exact c1), some_bind]
      by_cases c2 : E[i].1 = cur
      · have : ([cur].any fun x => E[i].1 == x) = true := by simp [c2]
        obtain ⟨to', e1, e2, e3, e4⟩ := ih (i + 1) (to.set (E[i].2.2).toNat true) (by omega) (by rw [List.length_set]; exact ht)
        refine ⟨to', ?_, e2, fun h hh => e3 h ?_, fun e he h1 h2 => ?_⟩
        · simp only [this, cond_true]
          rw [gT q1, gT (by omega), bind_id]
          exact e1
        · rw [getD_setT]
          split
          · rfl
          · exact hh
        · rcases List.mem_cons.1 he with rfl | he
          · refine e3 _ ?_
            rw [getD_setT, if_pos ⟨rfl, by omega⟩]
          · exact e4 e he h1 h2
      · have : ([cur].any fun x => E[i].1 == x) = false := by simp [c2]
        obtain ⟨to', e1, e2, e3, e4⟩ := ih (i + 1) to (by omega) ht
        refine ⟨to', ?_, e2, e3, fun e he h1 h2 => ?_⟩
        · simp only [this, cond_false]
          rw [bind_id]
          exact e1
        · rcases List.mem_cons.1 he with rfl | he
          · exact absurd h1 c2
          · exact e4 e he h1 h2
    · obtain ⟨to', e1, e2, e3, e4⟩ := ih (i + 1) to (by omega) ht
      refine ⟨to', ?_, e2, e3, fun e he h1 h2 => ?_⟩
      · rw [bF (beqF c1), bind_id]
        exact e1
      · rcases List.mem_cons.1 he with rfl | he
        · exact absurd h2 c1
        · exact e4 e he h1 h2
theorem step_has (f : Bool × List DSaid) (hf : goodTr f.2 = true) (c c' : Bool) (X : List (Bool × List Int)) (hX : X.map Prod.snd = goalsL f.2) (l h : Nat) (hl : l < 8) (hh : h < manyG f.2) :
    ∃ b L, impl_StepAuto (autoA f c c' X) (false, [(gssN f l h : Int)]) (l : Int) = some ((b, L), true) ∧ L.length ≤ 32 ∧ (h : Int) ∈ L := by
  have hlim := lim_eq
  have hm := manyG_in hf
  have hlen := all_length (gssN f) (manyG f.2)
  have hlen' : (edgesA f).length = 8 * manyG f.2 := hlen
  have hg : gssN f l h < manyG f.2 := (guess_both f hf (l : Int) (h : Int) false).2.2
  have e1 := goodAuto f hf c c' X hX
  have e2 := isIncreasing (false, [(gssN f l h : Int)]) (manyG f.2 : Int) (by simp)
  have e3 : rises (manyG f.2 : Int) [(gssN f l h : Int)] = true := by
    refine rises_of (List.pairwise_singleton _ _) fun x hx => ?_
    rw [List.mem_singleton] at hx
    omega
  obtain ⟨to', s1, s2, s3, s4⟩ := step_L0 (edgesA f) (manyG f.2) (gssN f l h : Int) (l : Int) (by omega) (fun e he => by
    obtain ⟨l', h', q1, q2, rfl⟩ := mem_all.1 he
    simp only
    omega) false false (edgesA f).length 0 (List.replicate (manyG f.2) false) (by omega) (by simp)
  have s1' : impl_StepAuto_L0 (false, [(gssN f l h : Int)]) (l : Int) (false, List.replicate (manyG f.2) false) (false, edgesA f) ((edgesA f).length : Int) 0 = _ := s1
  have hmk : impl_marked (false, to') = some (false, ((List.range to'.length).filter fun j => to'.getD j false).map Int.ofNat) := marked (false, to') (by simp only; omega)
  refine ⟨false, ((List.range to'.length).filter fun j => to'.getD j false).map Int.ofNat, ?_, ?_, ?_⟩
  · rw [impl_StepAuto_eq, e1, some_bind, Bool.not_true, cond_false]
    unfold autoA
    simp only
    rw [e2, some_bind, e3, Bool.not_true, cond_false, impl_isOneLetter_eq, gT (by omega), some_bind, decide_eq_true (show (l : Int) < 8 by omega), Bool.not_true, cond_false, gT (by omega), gT (by omega), gT (by omega), gT (by omega), Int.toNat_natCast, s1', some_bind, hmk, some_bind]
  · rw [List.length_map]
    refine Nat.le_trans (List.length_filter_le _ _) ?_
    rw [List.length_range]
    omega
  · refine List.mem_map.2 ⟨h, List.mem_filter.2 ⟨List.mem_range.2 (by omega), ?_⟩, rfl⟩
    have := s4 ((gssN f l h : Int), ((l : Int), (h : Int))) (by rw [List.drop_zero]; exact mem_all.2 ⟨l, h, hl, hh, rfl⟩) rfl rfl
    exact this
def letterB (x : Int) : Bool := decide (0 ≤ x ∧ x ≤ 7)
def goodLasso (l : DLasso) : Bool := decide ((l.1.2.length : Int) ≤ 24) && (decide (1 ≤ (l.2.2.length : Int) ∧ (l.2.2.length : Int) ≤ 24) && (l.1.2.all letterB && l.2.2.all letterB))
theorem areLetters (l : Bool × List Int) (hl : l.2.length ≤ 1048576) : impl_areLetters l = some (l.2.all letterB) := by
  have hX := loop_find l.2 (fun x => !letterB x) (fun i => slices_IndexFunc_int_by_areLetters_1_L0 l () (l.2.length : Int) i) (fun i hi => by
    have e : impl_areLetters_1 l.2[i] = some (!letterB l.2[i]) := by
      rw [impl_areLetters_1_eq, letterB]
      by_cases c : l.2[i] < 0
      · rw [gT c, decide_eq_false (by omega)]; rfl
      · rw [gF c]
        by_cases c2 : l.2[i] ≥ 8
        · rw [decide_eq_true c2, decide_eq_false (by omega)]; rfl
        · rw [decide_eq_false c2, decide_eq_true (by omega)]; rfl
    rw [slices_IndexFunc_int_by_areLetters_1_L0_eq, gT (by omega), gT (by omega), gT (by omega), getD_at l.2 _ i hi, e, some_bind, up1 i (by omega), bind_id]) (by rw [slices_IndexFunc_int_by_areLetters_1_L0_eq, gF (by omega)])
  have ea : (l.2.any fun x => !letterB x) = !(l.2.all letterB) := by rw [List.not_all_eq_any_not]
  rw [impl_areLetters_eq, slices_ContainsFunc_int_by_areLetters_1_eq, slices_IndexFunc_int_by_areLetters_1_eq, hX, some_bind, ea]
  cases l.2.all letterB with
  | true => rfl
  | false =>
    simp only [Bool.not_false, cond_true, some_bind]
    rw [decide_eq_true (by omega)]
    rfl
theorem allLetters (l : Bool × List Int) (hl : l.2.length ≤ 1048576) : spec_l1All l 0 7 = some (l.2.all letterB) := by
  have hA := loop_all l.2 letterB (.inr () : Bool ⊕ Unit) (.inl false) (fun i => spec_l1All_L0 0 7 l (l.2.length : Int) i) (fun i hi => by
    rw [spec_l1All_L0_eq, gT (by omega), gT (by omega), gT (by omega), getD_at l.2 _ i hi, l1In_eq, some_bind, up1 i (by omega), bind_id]
    show (bif !letterB l.2[i] then _ else _) = _
    cases letterB l.2[i] <;> rfl) (by rw [spec_l1All_L0_eq, gF (by omega)])
  rw [spec_l1All_eq, hA, some_bind]
  cases l.2.all letterB <;> rfl
theorem goodLasso_both (l : DLasso) : impl_GoodLasso l = some (goodLasso l) ∧ spec_GoodLasso l = some (goodLasso l) := by
  rw [impl_GoodLasso_eq, spec_GoodLasso_eq, l1In_eq, goodLasso]
  by_cases c1 : (l.1.2.length : Int) ≤ 24
  · rw [gT c1, gT c1, decide_eq_true c1, Bool.true_and, some_bind]
    by_cases c2 : 1 ≤ (l.2.2.length : Int) ∧ (l.2.2.length : Int) ≤ 24
    · rw [gT c2.1, gT c2.2, decide_eq_true c2, cond_true, Bool.true_and, areLetters l.1 (by omega), areLetters l.2 (by omega), allLetters l.1 (by omega), allLetters l.2 (by omega)]
      cases l.1.2.all letterB <;> cases l.2.2.all letterB <;> exact ⟨rfl, rfl⟩
    · rw [decide_eq_false c2, cond_false, Bool.false_and]
      refine ⟨?_, rfl⟩
      by_cases c3 : (l.2.2.length : Int) ≥ 1
      · rw [gT c3, gF (by omega)]
      · rw [gF c3]
  · rw [gF c1, gF c1, decide_eq_false c1, Bool.false_and]
    exact ⟨rfl, rfl⟩
theorem goodLasso_in {l : DLasso} (h : goodLasso l = true) : l.1.2.length ≤ 24 ∧ 0 < l.2.2.length ∧ l.2.2.length ≤ 24 ∧ ∀ k, k < l.1.2.length + l.2.2.length → 0 ≤ ltL l.1.2 l.2.2 k ∧ ltL l.1.2 l.2.2 k ≤ 7 := by
  simp only [goodLasso, Bool.and_eq_true, decide_eq_true_eq] at h
  obtain ⟨h1, ⟨h2, h3⟩, h4, h5⟩ := h
  refine ⟨by omega, by omega, by omega, fun k hk => ?_⟩
  unfold ltL
  by_cases c : k < l.1.2.length
  · rw [if_pos c, List.getD_eq_getElem?_getD, List.getElem?_eq_getElem c]
    have := List.all_eq_true.1 h4 _ (List.getElem_mem c)
    exact of_decide_eq_true this
  · rw [if_neg c, List.getD_eq_getElem?_getD, List.getElem?_eq_getElem (by omega)]
    have := List.all_eq_true.1 h5 _ (List.getElem_mem (show k - l.1.2.length < l.2.2.length by omega))
    exact of_decide_eq_true this
theorem only_L0 (more : Bool × List Int) (f : Bool × List DSaid) (hf : goodTr f.2 = true) (l : DLasso) (hl : goodLasso l = true) {T : List (Bool × List Bool)} (hT : ∀ j, j < f.2.length → RowAt f.2 l T j) (hTl : T.length = f.2.length) (c c' : Bool) (X : List (Bool × List Int)) (hX : X.map Prod.snd = goalsL f.2) (ab : Bool) (A : List Int) (hA : A.length = l.1.2.length + l.2.2.length + 1)
    (hat : ∀ k, k < l.1.2.length + l.2.2.length → A.getD k 0 = ((bitsG ((trackL f.2).map (sayAt T k)) : Nat) : Int) ∧ A.getD (k + 1) 0 = ((bitsG ((trackL f.2).map (sayAt T (nxP l.1.2.length (l.1.2.length + l.2.2.length) k))) : Nat) : Int)) (d : Nat) : ∀ k : Nat, k + d = l.1.2.length + l.2.2.length →
    laws_FnOnlyRun_L0 more f l (ab, A) (autoA f c c' X) true (k : Int) = some (.inr ()) := by
  obtain ⟨h1, h2⟩ := goodTr_in hf
  obtain ⟨g1, g2, g3, g4⟩ := goodLasso_in hl
  have hm := manyG_in hf
  induction d with
  | zero =>
    intro k hk
    rw [laws_FnOnlyRun_L0_eq, up1 k (by omega), gF (by simp only; omega)]
  | succ d ih =>
    intro k hk
    obtain ⟨a1, a2⟩ := hat k (by omega)
    obtain ⟨b1, b2⟩ := g4 k (by omega)
    have hg := run_guess f hf l g2 hT hTl k (by omega)
    generalize hnx : nxP l.1.2.length (l.1.2.length + l.2.2.length) k = k2 at hg a2
    have hlt := bitsG_lt ((trackL f.2).map (sayAt T k2))
    rw [List.length_map] at hlt
    have hlt' : bitsG ((trackL f.2).map (sayAt T k2)) < manyG f.2 := hlt
    obtain ⟨lt, hlt2⟩ := Int.eq_ofNat_of_zero_le b1
    rw [hlt2] at hg
    obtain ⟨b, L, s1, s2, s3⟩ := step_has f hf c c' X hX lt (bitsG ((trackL f.2).map (sayAt T k2))) (by omega) hlt'
    have hg' : gssN f lt (bitsG ((trackL f.2).map (sayAt T k2))) = bitsG ((trackL f.2).map (sayAt T k)) := hg
    rw [hg'] at s1
    have e1 : impl_LetterAt l (k : Int) = some ((lt : Int), true) := by
      rw [impl_LetterAt_eq, (goodLasso_both l).1, hl, some_bind, Bool.not_true, cond_false, impl_isIndex_eq, gT (by omega), some_bind, decide_eq_true (by omega), Bool.not_true, cond_false, impl_letter l (by omega) k (by omega), some_bind, hlt2]
    have e2 : impl_GuessOf f (lt : Int) ((bitsG ((trackL f.2).map (sayAt T k2)) : Nat) : Int) = some (((bitsG ((trackL f.2).map (sayAt T k)) : Nat) : Int), true) := by
      rw [impl_GuessOf_eq, impl_isNow_eq, (goodTr_both f).1, hf, some_bind, cond_true, impl_isOneLetter_eq, gT (by omega), some_bind, decide_eq_true (show (lt : Int) < 8 by omega), cond_true, gT (by omega), guesses f hf, some_bind, some_bind, decide_eq_true (by omega), Bool.not_true, cond_false, (guess_both f hf _ _ false).1, some_bind, hg]
    have e3 : laws_has (b, L) ((bitsG ((trackL f.2).map (sayAt T k2)) : Nat) : Int) = some true := by
      rw [has_eq _ _ _ (by omega), List.any_eq_true.2 ⟨_, s3, by simp⟩]
    rw [laws_FnOnlyRun_L0_eq, up1 k (by omega), gT (by simp only; omega), e1, some_bind, gT (by omega), gT (by simp only; omega)]
    simp only [Int.toNat_natCast, a1, a2, e2, some_bind]
    rw [gT (by omega), gT (by omega)]
    simp only [s1, some_bind, Bool.not_true, cond_false]
    rw [gT (by omega), gT (by omega), bF (by simp), gT (by omega), gT (by omega), e3, some_bind, Bool.not_true, cond_false, bind_id]
    exact ih (k + 1) (by omega)
theorem among_of (c : Dl1Cur) (l : List Int) (B : Int) (h : CurOk c B) (hB : B ≤ 900000000000) (hl : 1 ≤ l.length ∧ l.length ≤ 100) (b : Bool) : ∃ c' x, spec_l1Cur_among c (b, l) = some (c', x) ∧ CurOk c' (B + 2) ∧ x ∈ l := by
  obtain ⟨c', x, e1, h1, x1, x2⟩ := cur_pick c (l.length : Int) B h hB (by omega)
  have x3 := x2 (by omega)
  refine ⟨c', l.getD x.toNat 0, ?_, h1, ?_⟩
  · rw [spec_l1Cur_among_eq, e1, some_bind, gT x1, gT x3]
  · rw [List.getD_eq_getElem?_getD, List.getElem?_eq_getElem (by omega)]
    exact List.getElem_mem _
theorem letters_L0 (d : Nat) : ∀ (c : Dl1Cur) (B : Int) (b : Bool) (l : List Int), CurOk c B → B + 2 * d ≤ 900000000000 → l.length + d ≤ 1000 →
    ∃ c' b' l', spec_l1Cur_letters_L0 c (d : Int) (b, l) = some (c', (b', l')) ∧ CurOk c' (B + 2 * d) ∧ l'.length = l.length + d := by
  have hlim := lim_eq
  induction d with
  | zero =>
    intro c B b l hc hB hl
    exact ⟨c, b, l, by rw [spec_l1Cur_letters_L0_eq, gF (by omega)], hc.mono (by omega), rfl⟩
  | succ d ih =>
    intro c B b l hc hB hl
    obtain ⟨c2, x, e1, h1, _, _⟩ := cur_pick c 8 B hc (by omega) (by omega)
    obtain ⟨c3, b3, l3, e2, h2, h3⟩ := ih c2 (B + 2) (b && false) (l ++ [x]) h1 (by omega) (by simp; omega)
    refine ⟨c3, b3, l3, ?_, h2.mono (by omega), by rw [h3]; simp; omega⟩
    rw [spec_l1Cur_letters_L0_eq, gT (by omega), e1, some_bind, gT (by simp; omega), wr (by omega), bind_id, show ((d + 1 : Nat) : Int) - 1 = (d : Int) by omega]
    exact e2
theorem letters (c : Dl1Cur) (B : Int) (hc : CurOk c B) (n : Int) (hn : 0 ≤ n ∧ n ≤ 100) (hB : B ≤ 800000000000) : ∃ c' b l, spec_l1Cur_letters c n = some (c', (b, l)) ∧ CurOk c' (B + 200) ∧ (l.length : Int) = n := by
  obtain ⟨d, rfl⟩ := Int.eq_ofNat_of_zero_le hn.1
  obtain ⟨c', b, l, e, h1, h2⟩ := letters_L0 d c B true [] hc (by omega) (by simp; omega)
  exact ⟨c', b, l, by rw [spec_l1Cur_letters_eq, e, some_bind], h1.mono (by omega), by rw [h2]; simp⟩
theorem lasso_sw (c : Dl1Cur) (B : Int) (hc : CurOk c B) (hB : B ≤ 700000000000) (s1 : Bool) (s2 : List Int) (l1 : Bool) (l2 : List Int) (hl : 0 < l2.length) :
    ∃ r : Dl1Cur × DLasso, ((spec_l1Cur_pick c 40).bind fun r6 =>
      bif (r6.2 == 0) then (spec_l1Cur_among r6.1 (false, [0, 24, 25])).bind fun r7 => (spec_l1Cur_letters r7.1 r7.2).bind fun r8 => some (r8.1, ((s1, s2), (r8.2.1, r8.2.2)))
      else bif (r6.2 == 1) then (spec_l1Cur_among r6.1 (false, [24, 25])).bind fun r9 => (spec_l1Cur_letters r9.1 r9.2).bind fun r10 => some (r10.1, ((r10.2.1, r10.2.2), (l1, l2)))
      else bif (r6.2 == 2) then (spec_l1Cur_among r6.1 (false, [(-1), 7, 8])).bind fun r11 => bif decide (0 < (l2.length : Int)) then some (r11.1, ((s1, s2), (l1, (l2.set 0 r11.2)))) else none
      else some (r6.1, ((s1, s2), (l1, l2)))) = some r := by
  obtain ⟨c2, x, e1, h1, x1, x2⟩ := cur_pick c 40 B hc (by omega) (by omega)
  rw [e1, some_bind]
  simp only
  by_cases y0 : x = 0
  · obtain ⟨c3, n, e2, h2, h3⟩ := among_of c2 [0, 24, 25] (B + 2) h1 (by omega) (by simp) false
    have hn : 0 ≤ n ∧ n ≤ 100 := by
      simp only [List.mem_cons, List.not_mem_nil, or_false] at h3
      omega
    obtain ⟨c4, b4, l4, e3, _, _⟩ := letters c3 _ h2 n hn (by omega)
    rw [bT (by rw [beq_iff_eq]; exact y0), e2, some_bind]
    simp only [e3, some_bind]
    exact ⟨_, rfl⟩
  rw [bF (beqF y0)]
  by_cases y1 : x = 1
  · obtain ⟨c3, n, e2, h2, h3⟩ := among_of c2 [24, 25] (B + 2) h1 (by omega) (by simp) false
    have hn : 0 ≤ n ∧ n ≤ 100 := by
      simp only [List.mem_cons, List.not_mem_nil, or_false] at h3
      omega
    obtain ⟨c4, b4, l4, e3, _, _⟩ := letters c3 _ h2 n hn (by omega)
    rw [bT (by rw [beq_iff_eq]; exact y1), e2, some_bind]
    simp only [e3, some_bind]
    exact ⟨_, rfl⟩
  rw [bF (beqF y1)]
  by_cases y2 : x = 2
  · obtain ⟨c3, n, e2, h2, h3⟩ := among_of c2 [(-1), 7, 8] (B + 2) h1 (by omega) (by simp) false
    rw [bT (by rw [beq_iff_eq]; exact y2), e2, some_bind, gT (by omega)]
    exact ⟨_, rfl⟩
  rw [bF (beqF y2)]
  exact ⟨_, rfl⟩
theorem draw_lasso (c : Dl1Cur) (B : Int) (hc : CurOk c B) (hB : B ≤ 600000000000) : ∃ r, spec_l1Cur_lasso c = some r := by
  have hlim := lim_eq
  obtain ⟨c1, n, e1, h1, n1, n2⟩ := cur_pick c 6 B hc (by omega) (by omega)
  have n3 := n2 (by omega)
  obtain ⟨c2, sb, S, e2, h2, hS⟩ := letters c1 _ h1 n (by omega) (by omega)
  obtain ⟨c3, m, e3, h3, m1, m2⟩ := cur_pick c2 5 _ h2 (by omega) (by omega)
  have m3 := m2 (by omega)
  obtain ⟨c4, lb, L, e4, h4, hL⟩ := letters c3 _ h3 (1 + m) (by omega) (by omega)
  obtain ⟨c5, b5, e5, h5⟩ := cur_one c4 4 _ h4 (by omega) (by omega)
  have ew : IntKind.i64.wrap (1 + m) = 1 + m := wr (by omega)
  obtain ⟨c6, b6, e6, h6⟩ := cur_one c5 4 _ h5 (by omega) (by omega)
  rw [spec_l1Cur_lasso_eq, e1, some_bind]
  simp only [e2, some_bind, e3, ew, e4, e5]
  cases b5 with
  | true =>
    rw [cond_true, gT (by omega)]
    simp only [e6, some_bind]
    cases b6 with
    | true =>
      rw [cond_true, gT (by simp; omega)]
      exact lasso_sw c6 _ h6 (by omega) _ _ _ _ (by simp; omega)
    | false => exact lasso_sw c6 _ h6 (by omega) _ _ _ _ (by simp; omega)
  | false =>
    simp only [cond_false, e6, some_bind]
    cases b6 with
    | true =>
      rw [cond_true, gT (by omega)]
      exact lasso_sw c6 _ h6 (by omega) _ _ _ _ (by omega)
    | false => exact lasso_sw c6 _ h6 (by omega) _ _ _ _ (by omega)
def kF : Nat → Int
  | 0 => 14
  | d + 1 => 6 + 2 * kF d
def lF : Nat → Nat
  | 0 => 1
  | d + 1 => 2 * lF d + 1
theorem kF_in (d : Nat) (h : d ≤ 3) : 14 ≤ kF d ∧ kF d ≤ 154 ∧ 1 ≤ lF d ∧ lF d ≤ 15 := by
  have : d = 0 ∨ d = 1 ∨ d = 2 ∨ d = 3 := by omega
  rcases this with rfl | rfl | rfl | rfl <;> decide
theorem draw_leaf (c : Dl1Cur) (B : Int) (hc : CurOk c B) (hB : B ≤ 800000000000) : ∃ c' f, ((spec_l1Cur_one c 12).bind fun r => bif r.2 then (spec_l1Cur_pick r.1 2).bind fun r1 => some (r1.1, (false, [((2 : Int), r1.2)])) else (spec_l1Cur_pick r.1 3).bind fun r2 => some (r2.1, (false, [((1 : Int), r2.2)]))) = some (c', (false, [f])) ∧ CurOk c' (B + 4) := by
  obtain ⟨c1, b, e1, h1⟩ := cur_one c 12 B hc (by omega) (by omega)
  rw [e1, some_bind]
  cases b with
  | true =>
    obtain ⟨c2, x, e2, h2, _, _⟩ := cur_pick c1 2 _ h1 (by omega) (by omega)
    simp only [cond_true, e2, some_bind]
    exact ⟨_, _, rfl, h2.mono (by omega)⟩
  | false =>
    obtain ⟨c2, x, e2, h2, _, _⟩ := cur_pick c1 3 _ h1 (by omega) (by omega)
    simp only [cond_false, e2, some_bind]
    exact ⟨_, _, rfl, h2.mono (by omega)⟩
theorem draw_formula (deep : Nat) : deep ≤ 3 → ∀ (c : Dl1Cur) (B : Int), CurOk c B → B + 1000 * deep ≤ 600000000000 → ∃ c' b f, spec_l1Cur_formula c (deep : Int) = some (c', (b, f)) ∧ CurOk c' (B + kF deep) ∧ 1 ≤ f.length ∧ f.length ≤ lF deep := by
  have hlim := lim_eq
  induction deep with
  | zero =>
    intro _ c B hc hB
    obtain ⟨c', f, e, h⟩ := draw_leaf c B hc (by omega)
    refine ⟨c', false, [f], ?_, h.mono (by show B + 4 ≤ B + 14; omega), by simp, by simp [lF]⟩
    rw [spec_l1Cur_formula_eq, bT (by rfl)]
    exact e
  | succ d ih =>
    intro hd c B hc hB
    obtain ⟨k1, k2, k3, k4⟩ := kF_in d (by omega)
    have ek : kF (d + 1) = 6 + 2 * kF d := rfl
    have el : lF (d + 1) = 2 * lF d + 1 := rfl
    have ew : IntKind.i64.wrap (((d + 1 : Nat) : Int) - 1) = (d : Int) := by rw [wr (by omega)]; omega
    obtain ⟨c1, b1, e1, h1⟩ := cur_one c 6 B hc (by omega) (by omega)
    rw [spec_l1Cur_formula_eq, bF (beqF (by omega)), e1, some_bind, ew]
    simp only
    cases b1 with
    | true =>
      obtain ⟨c', f, e, h⟩ := draw_leaf c1 _ h1 (by omega)
      refine ⟨c', false, [f], ?_, h.mono (by omega), by simp, by simp; omega⟩
      rw [cond_true]
      exact e
    | false =>
      obtain ⟨c2, b2, e2, h2⟩ := cur_one c1 3 _ h1 (by omega) (by omega)
      simp only [cond_false, e2, some_bind]
      cases b2 with
      | true =>
        obtain ⟨c3, fb, f, e3, h3, f1, f2⟩ := ih (by omega) c2 _ h2 (by omega)
        obtain ⟨c4, x, e4, h4, _⟩ := among_of c3 [3, 3, 4] _ h3 (by omega) (by simp) false
        refine ⟨c4, fb && false, f ++ [(x, 0)], ?_, h4.mono (by omega), by simp, by simp; omega⟩
        simp only [cond_true, e3, some_bind, e4]
        rw [gT (by simp; omega)]
      | false =>
        obtain ⟨c3, x, e3, h3, _⟩ := among_of c2 [5, 6, 7, 7, 8] _ h2 (by omega) (by simp) false
        obtain ⟨c4, fb, f, e4, h4, f1, f2⟩ := ih (by omega) c3 _ h3 (by omega)
        obtain ⟨c5, gb, g, e5, h5, g1, g2⟩ := ih (by omega) c4 _ h4 (by omega)
        refine ⟨c5, (fb && g.isEmpty) && false, (f ++ g) ++ [(x, 0)], ?_, h5.mono (by omega), by simp only [List.length_append, List.length_cons, List.length_nil]; omega, by simp only [List.length_append, List.length_cons, List.length_nil]; omega⟩
        simp only [cond_false, e3, some_bind, e4, e5]
        rw [gT (by omega), gT (by simp; omega)]
theorem said_sw (c : Dl1Cur) (B : Int) (hc : CurOk c B) (hB : B ≤ 700000000000) (b : Bool) (f : List DSaid) (hf : 1 ≤ f.length ∧ f.length ≤ 1000) :
    ∃ c' b' g, ((spec_l1Cur_pick c 40).bind fun r4 =>
      bif (r4.2 == 0) then bif decide (1 ≤ (f.length : Int)) then some (r4.1, (b, ((f.take f.length).drop 1))) else none
      else bif (r4.2 == 1) then bif decide (0 < (f.length : Int)) then some (r4.1, (b, (f.set 0 ((f.getD 0 (0, 0)).1, 3)))) else none
      else bif (r4.2 == 2) then (spec_l1Cur_pick r4.1 10).bind fun r5 => bif decide (0 ≤ (IntKind.i64.wrap ((f.length : Int) - 1))) then bif decide ((IntKind.i64.wrap ((f.length : Int) - 1)) < (f.length : Int)) then some (r5.1, (b, (f.set (Int.toNat (IntKind.i64.wrap ((f.length : Int) - 1))) (r5.2, (f.getD (Int.toNat (IntKind.i64.wrap ((f.length : Int) - 1))) (0, 0)).2)))) else none else none
      else some (r4.1, (b, f))) = some (c', (b', g)) ∧ CurOk c' (B + 4) := by
  obtain ⟨c2, x, e1, h1, x1, x2⟩ := cur_pick c 40 B hc (by omega) (by omega)
  rw [e1, some_bind]
  simp only
  by_cases y0 : x = 0
  · rw [bT (by rw [beq_iff_eq]; exact y0), gT (by omega)]
    exact ⟨_, _, _, rfl, h1.mono (by omega)⟩
  rw [bF (beqF y0)]
  by_cases y1 : x = 1
  · rw [bT (by rw [beq_iff_eq]; exact y1), gT (by omega)]
    exact ⟨_, _, _, rfl, h1.mono (by omega)⟩
  rw [bF (beqF y1)]
  by_cases y2 : x = 2
  · obtain ⟨c3, z, e2, h2, _, _⟩ := cur_pick c2 10 _ h1 (by omega) (by omega)
    rw [bT (by rw [beq_iff_eq]; exact y2), e2, some_bind, wr (by omega), gT (by omega), gT (by omega)]
    exact ⟨_, _, _, rfl, h2.mono (by omega)⟩
  rw [bF (beqF y2)]
  exact ⟨_, _, _, rfl, h1.mono (by omega)⟩
theorem draw_said (c : Dl1Cur) (B : Int) (hc : CurOk c B) (hB : B ≤ 500000000000) : ∃ c' b f, spec_l1Cur_said c = some (c', (b, f)) ∧ CurOk c' (B + 1000) := by
  obtain ⟨c1, x, e1, h1, x1, x2⟩ := cur_pick c 2 B hc (by omega) (by omega)
  have x3 := x2 (by omega)
  obtain ⟨n, rfl⟩ := Int.eq_ofNat_of_zero_le x1
  have ew : IntKind.i64.wrap (2 + (n : Int)) = ((2 + n : Nat) : Int) := by rw [wr (by omega)]; omega
  obtain ⟨k1, k2, k3, k4⟩ := kF_in (2 + n) (by omega)
  obtain ⟨c2, fb, f, e2, h2, f1, f2⟩ := draw_formula (2 + n) (by omega) c1 _ h1 (by omega)
  rw [spec_l1Cur_said_eq, e1, some_bind]
  simp only [ew, e2, some_bind]
  rw [gF (by omega)]
  obtain ⟨c', b', g, e3, h3⟩ := said_sw c2 _ h2 (by omega) fb f (by omega)
  exact ⟨c', b', g, e3, h3.mono (by omega)⟩
theorem drawTr_L0 (d : Nat) : ∀ (n : Nat) (c : Dl1Cur) (B : Int), n + d = 4 → CurOk c B → B + 200 * d ≤ 400000000000 →
    ∃ r, spec_l1Cur_tracked_L0 c (n : Int) = some r ∧ match r with
      | .inl y => CurOk y.1 (B + 200 * d)
      | .inr z => CurOk z (B + 200 * d) := by
  induction d with
  | zero =>
    intro n c B hn hc hB
    refine ⟨.inr c, by rw [spec_l1Cur_tracked_L0_eq, gF (by omega)], ?_⟩
    show CurOk c _
    exact hc.mono (by omega)
  | succ d ih =>
    intro n c B hn hc hB
    obtain ⟨k1, k2, k3, k4⟩ := kF_in 2 (by omega)
    obtain ⟨c2, fb, f, e2, h2, f1, f2⟩ := draw_formula 2 (by omega) c B hc (by omega)
    have e2' : spec_l1Cur_formula c 2 = _ := e2
    have hg := (goodTr_both (fb, f)).2
    rw [spec_l1Cur_tracked_L0_eq, gT (by omega), e2', some_bind]
    simp only [hg, some_bind]
    cases goodTr f with
    | true =>
      refine ⟨_, rfl, ?_⟩
      show CurOk c2 _
      exact h2.mono (by omega)
    | false =>
      obtain ⟨r, e3, h3⟩ := ih (n + 1) c2 (B + 200) (by omega) (h2.mono (by omega)) (by omega)
      rw [cond_false, up1 n (by omega), bind_id]
      refine ⟨r, e3, ?_⟩
      cases r with
      | inl y =>
        have h3 : CurOk y.1 (B + 200 + 200 * d) := h3
        show CurOk y.1 _
        exact h3.mono (by omega)
      | inr z =>
        have h3 : CurOk z (B + 200 + 200 * d) := h3
        show CurOk z _
        exact h3.mono (by omega)
theorem draw_tracked (c : Dl1Cur) (B : Int) (hc : CurOk c B) (hB : B ≤ 300000000000) : ∃ c' b f, spec_l1Cur_tracked c = some (c', (b, f)) ∧ CurOk c' (B + 2000) := by
  obtain ⟨r, e1, h1⟩ := drawTr_L0 4 0 c B (by omega) hc (by omega)
  have e1' : spec_l1Cur_tracked_L0 c 0 = _ := e1
  rw [spec_l1Cur_tracked_eq, e1', some_bind]
  cases r with
  | inl y =>
    have h1 : CurOk y.1 (B + 200 * ((4 : Nat) : Int)) := h1
    exact ⟨y.1, y.2.1, y.2.2, rfl, h1.mono (by omega)⟩
  | inr z =>
    have h1 : CurOk z (B + 200 * ((4 : Nat) : Int)) := h1
    obtain ⟨c', b, f, e2, h2⟩ := draw_said z _ h1 (by omega)
    simp only [e2, some_bind]
    exact ⟨_, _, _, rfl, h2.mono (by omega)⟩
theorem drawRunFor (code : Bool × List Int) (h1 : code.2.length ≤ 1048576) (h2 : ∀ x ∈ code.2, 0 ≤ x ∧ x ≤ 255) : ∃ f l, spec_DrawRunFor code = some (f, l) := by
  obtain ⟨c', b, f, e1, hc⟩ := draw_tracked (code, (0, 0)) 0 ⟨h1, h2, by simp, by simp⟩ (by omega)
  obtain ⟨r, e2⟩ := draw_lasso c' _ hc (by omega)
  rw [spec_DrawRunFor_eq, e1, some_bind]
  simp only [e2, some_bind]
  exact ⟨_, _, rfl⟩
theorem draw_now (code : Bool × List Int) (h1 : code.2.length ≤ 1048576) (h2 : ∀ x ∈ code.2, 0 ≤ x ∧ x ≤ 255) : ∃ f x y, spec_DrawEvalNow code = some (f, (x, y)) := by
  obtain ⟨c', b, f, e1, hc⟩ := draw_tracked (code, (0, 0)) 0 ⟨h1, h2, by simp, by simp⟩ (by omega)
  obtain ⟨c2, x, e2, hc2, _, _⟩ := cur_pick c' 9 _ hc (by omega) (by omega)
  obtain ⟨c3, y, e3, hc3, _, _⟩ := cur_pick c2 20 _ hc2 (by omega) (by omega)
  obtain ⟨c4, z, e4, hc4, _, _⟩ := cur_pick c3 20 _ hc3 (by omega) (by omega)
  rw [spec_DrawEvalNow_eq, e1, some_bind]
  simp only [e2, some_bind, e3, e4]
  exact ⟨_, _, _, rfl⟩
theorem askNow (f : Bool × List DSaid) (x n : Int) : ∃ v, impl_isNow f x n = some v ∧ spec_l13Asked f x n = some v ∧ (v = true → goodTr f.2 = true) := by
  obtain ⟨g1, g2⟩ := goodTr_both f
  rw [impl_isNow_eq, spec_l13Asked_eq, g1, g2, some_bind, some_bind]
  cases hf : goodTr f.2 with
  | false => exact ⟨false, rfl, rfl, fun h => by cases h⟩
  | true =>
    obtain ⟨h1, h2⟩ := goodTr_in hf
    have hm := manyG_in hf
    have hn := (goodSaid_in h1).2.1
    obtain ⟨b, e1⟩ := l13Tracked f (by omega)
    have em : bShl .i64 1 (IntKind.u64.wrap ((trackL f.2).length : Int)) = (manyG f.2 : Int) := by rw [wru (by omega), many_shl _ h2]; rfl
    rw [cond_true, cond_true, impl_isOneLetter_eq, l1In_eq, some_bind]
    by_cases c1 : x ≥ 0
    · rw [gT c1, some_bind]
      by_cases c2 : x < 8
      · rw [decide_eq_true c2, decide_eq_true (show 0 ≤ x ∧ x ≤ 7 by omega), cond_true, cond_true, e1, some_bind]
        simp only [em]
        have e2 : (bif decide (IntKind.u64.wrap ((trackL f.2).length : Int) < 0) then none else (spec_l1In n 0 (IntKind.i64.wrap ((manyG f.2 : Int) - 1))).bind fun r3 => some r3) = some (decide (0 ≤ n ∧ n ≤ (manyG f.2 : Int) - 1)) := by
          rw [gF (by rw [wru (by omega)]; omega), l1In_eq, wr (by omega), some_bind]
        rw [e2]
        by_cases c3 : n ≥ 0
        · rw [gT c3, guesses f hf, some_bind]
          refine ⟨_, rfl, ?_, fun _ => by simp⟩
          congr 1
          exact decide_eq_decide.mpr (by omega)
        · rw [gF c3]
          exact ⟨false, rfl, by rw [decide_eq_false (by omega)], fun _ => by simp⟩
      · rw [decide_eq_false c2, decide_eq_false (show ¬ (0 ≤ x ∧ x ≤ 7) by omega)]
        exact ⟨false, rfl, rfl, fun _ => by simp⟩
    · rw [gF c1, some_bind, decide_eq_false (show ¬ (0 ≤ x ∧ x ≤ 7) by omega)]
      exact ⟨false, rfl, rfl, fun _ => by simp⟩
theorem sameB_same (f g : Bool) (l : List Bool) (hl : l.length ≤ 1048576) : laws_sameBools (f, l) (g, l) = some true := by
  have key : ∀ (d i : Nat), i + d = l.length → laws_sameBools_L0 (f, l) (g, l) (l.length : Int) (i : Int) = some (.inr ()) := by
    intro d
    induction d with
    | zero => intro i hi; rw [laws_sameBools_L0_eq, gF (by omega)]
    | succ d ih =>
      intro i hi
      have hlt : i < l.length := by omega
      rw [laws_sameBools_L0_eq, gT (by omega), gT (by omega), gT (by simp only; omega), gT (by omega), gT (by simp only; omega), bF (by simp), up1 i (by omega), bind_id, ih (i + 1) (by omega)]
  have h' : laws_sameBools_L0 (f, l) (g, l) (l.length : Int) 0 = _ := key l.length 0 (by omega)
  rw [laws_sameBools_eq, bF (by simp), h', some_bind]
/-- what is asked of a formula, a letter and a guess behind: the tail of the law -/
theorem now_tail (f : Bool × List DSaid) (x n : Int) : ∃ (v b b' : Bool) (o : List Bool) (g : Int), impl_EvalNow f x n = some ((b, o), v) ∧ spec_EvalNow f x n = some ((b', o), v) ∧ impl_GuessOf f x n = some (g, v) ∧ spec_GuessOf f x n = some (g, v) ∧ o.length ≤ 16 := by
  obtain ⟨v, e1, e2, e3⟩ := askNow f x n
  rw [impl_EvalNow_eq, spec_EvalNow_eq, impl_GuessOf_eq, spec_GuessOf_eq, e1, e2, some_bind, some_bind, some_bind, some_bind]
  cases v with
  | false => exact ⟨false, true, true, [], 0, rfl, rfl, rfl, rfl, by simp⟩
  | true =>
    have hf := e3 rfl
    obtain ⟨h1, h2⟩ := goodTr_in hf
    have hn := (goodSaid_in h1).2.1
    obtain ⟨tb, t1⟩ := l13Tracked f (by omega)
    obtain ⟨out, c, c', n1, n2, n3⟩ := now_both f h1 x n tb
    obtain ⟨g1, g2, _⟩ := guess_both f hf x n tb
    simp only [Bool.not_true, cond_false, n1, some_bind, t1, n2, g1, g2]
    exact ⟨true, c, c', out, _, rfl, rfl, rfl, rfl, by omega⟩
theorem pure_FnOnlyRun (x0 : Bool × List Int) (x1 : Bool × List Int) (w0 : WfD (.sl (.int .u8)) x0) (w1 : WfD (.sl (.int .u8)) x1) : laws_FnOnlyRun x0 x1 = some true := by
  have hlim := lim_eq
  obtain ⟨_, _, w03⟩ := w0
  obtain ⟨_, _, w13⟩ := w1
  rw [laws_FnOnlyRun_eq, laws_big_eq]
  by_cases c0 : (x0.2.length : Int) > 1048576
  · rw [gT c0, some_bind]; rfl
  rw [gF c0, some_bind, wr (by omega)]
  by_cases c1 : (x1.2.length : Int) > 1048576 - (x0.2.length : Int)
  · rw [decide_eq_true c1]; rfl
  rw [decide_eq_false c1, cond_false]
  obtain ⟨f, l, e1⟩ := drawRunFor x0 (by omega) (fun x hx => w03 x hx)
  obtain ⟨u, x, n, e2⟩ := draw_now x1 (by omega) (fun x hx => w13 x hx)
  obtain ⟨v, b, b', o, g, t1, t2, t3, t4, t5⟩ := now_tail u x n
  have tb := sameB_same b b' o (by omega)
  rw [e1, some_bind]
  simp only
  by_cases hf : goodTr f.2 = true
  · by_cases hl : goodLasso l = true
    · obtain ⟨g1, g2, g3, g4⟩ := goodLasso_in hl
      obtain ⟨T, T1, T2, T3, T4, T5⟩ := runFor_both f hf l (by omega) g2 (by rw [(goodLasso_both l).1, hl]) (by rw [(goodLasso_both l).2, hl])
      obtain ⟨c, c', X, a1, a2⟩ := autoFor_ok f hf
      have hR : (runI T (trackL f.2) (l.1.2.length + l.2.2.length) (trackL f.2).length).length = l.1.2.length + l.2.2.length := by unfold runI; simp
      have hget : ∀ k, k < l.1.2.length + l.2.2.length → (runI T (trackL f.2) (l.1.2.length + l.2.2.length) (trackL f.2).length).getD k 0 = ((bitsG ((trackL f.2).map (sayAt T k)) : Nat) : Int) := fun k hk => by
        unfold runI
        rw [List.getD_eq_getElem?_getD, List.getElem?_map, List.getElem?_range hk, List.take_length]
        rfl
      generalize runI T (trackL f.2) (l.1.2.length + l.2.2.length) (trackL f.2).length = R at T4 T5 hR hget
      have s1 := sameInts_same false false (R.take l.1.2.length) (by simp; omega)
      have s2 := sameInts_same false false (R.drop l.1.2.length) (by simp; omega)
      have hA : (([] : List Int) ++ R.take l.1.2.length ++ R.drop l.1.2.length) ++ [(R.drop l.1.2.length).getD 0 0] = R ++ [R.getD l.1.2.length 0] := by
        rw [List.nil_append, List.take_append_drop]
        congr 1
        rw [List.getD_eq_getElem?_getD, List.getElem?_drop, Nat.add_zero, List.getD_eq_getElem?_getD]
      have hL := only_L0 x1 f hf l hl T3 T1 c c' X a2 false (R ++ [R.getD l.1.2.length 0]) (by simp [hR]) (fun k hk => by
        refine ⟨?_, ?_⟩
        · rw [List.getD_eq_getElem?_getD, List.getElem?_append_left (by omega), ← List.getD_eq_getElem?_getD]
          exact hget k hk
        · unfold nxP
          by_cases q : k + 1 < l.1.2.length + l.2.2.length
          · rw [if_pos q, List.getD_eq_getElem?_getD, List.getElem?_append_left (by omega), ← List.getD_eq_getElem?_getD]
            exact hget (k + 1) q
          · have e : k + 1 = R.length := by omega
            rw [if_neg q, e, List.getD_eq_getElem?_getD, List.getElem?_concat_length]
            exact hget _ (by omega)) (l.1.2.length + l.2.2.length) 0 (by omega)
      have hL' : laws_FnOnlyRun_L0 x1 f l (false, R ++ [R.getD l.1.2.length 0]) (autoA f c c' X) true 0 = _ := hL
      rw [T4, T5, some_bind, some_bind]
      simp only [beq_self_eq_true, Bool.not_true, cond_false, cond_true, s1, s2, some_bind]
      rw [gT (by simp [hR]; omega), gT (by simp [hR]; omega), gT (by simp [hR]; omega), gT (by simp [hR]; omega), a1, some_bind]
      simp only [hA, hL', some_bind, e2, t1, t2, t3, t4, beq_self_eq_true, cond_true, tb]
    · have hl' : goodLasso l = false := by simpa using hl
      have r1 : impl_RunFor f l = some ((true, []), ((true, []), false)) := by rw [impl_RunFor_eq, (goodTr_both f).1, hf, some_bind, Bool.not_true, cond_false, (goodLasso_both l).1, hl', some_bind]; rfl
      have r2 : spec_RunFor f l = some ((true, []), ((true, []), false)) := by rw [spec_RunFor_eq, (goodTr_both f).2, hf, some_bind, Bool.not_true, cond_false, (goodLasso_both l).2, hl', some_bind]; rfl
      have s0 := sameInts_same true true [] (by simp)
      rw [r1, r2, some_bind, some_bind]
      simp only [beq_self_eq_true, Bool.not_true, cond_false, cond_true, s0, some_bind, e2, t1, t2, t3, t4, tb]
  · have hf' : goodTr f.2 = false := by simpa using hf
    have r1 : impl_RunFor f l = some ((true, []), ((true, []), false)) := by rw [impl_RunFor_eq, (goodTr_both f).1, hf', some_bind]; rfl
    have r2 : spec_RunFor f l = some ((true, []), ((true, []), false)) := by rw [spec_RunFor_eq, (goodTr_both f).2, hf', some_bind]; rfl
    have s0 := sameInts_same true true [] (by simp)
    rw [r1, r2, some_bind, some_bind]
    simp only [beq_self_eq_true, Bool.not_true, cond_false, cond_true, s0, some_bind, e2, t1, t2, t3, t4, tb]

end Go.Proofs.YtnnoohfloniinaaGreat.R
