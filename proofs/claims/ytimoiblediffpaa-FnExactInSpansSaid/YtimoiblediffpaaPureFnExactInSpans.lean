/- The plain law FnExactInSpans: what the printed functions compute answers true for every input. -/
import Derived.Test.YtimoiblediffpaaWfFnExactInSpans
import Derived.Test.YtimoiblediffpaaMath
set_option linter.unusedVariables false
set_option linter.unusedSimpArgs false
namespace Go.Proofs.Ytimoiblediffpaa.QFnExactInSpans
open Go.RowKit Go.Proofs.YtimoiblediffpaaW.PrintWords Go.Proofs.YtimoiblediffpaaW.PrintLast Go.Proofs.YtimoiblediffpaaW.PrintMore Go.Proofs.Ytimoiblediffpaa.Math Go.Proofs.Ytimoiblediffpaa.Open
/-- The cut of the reference, bit by bit, is the remainder. -/
theorem spec_l1Cut_loop (n a : Nat) (hn : n ≤ 4611686018427387904) (ha : a < 2 ^ 64) (d : Nat) : ∀ (k i : Nat), i + d = n → d < k →
    spec_l1Cut.l0 k (n : Int) (a : Int) ((a % 2 ^ (min i 64) : Nat) : Int) (i : Int) = some ((a % 2 ^ (min n 64) : Nat) : Int) := by
  induction d with
  | zero =>
    intro k i hi hk
    obtain ⟨k, rfl⟩ : ∃ m, k = m + 1 := ⟨k - 1, by omega⟩
    obtain rfl : i = n := by omega
    simp only [spec_l1Cut.l0]
    rw [if_neg (by omega)]
  | succ d ih =>
    intro k i hi hk
    obtain ⟨k, rfl⟩ : ∃ m, k = m + 1 := ⟨k - 1, by omega⟩
    simp only [spec_l1Cut.l0]
    have e1 : IntKind.u64.wrap (i : Int) = (i : Int) := wrapU64_in (by omega) (by omega)
    have e2 : wrap64 ((i : Int) + 1) = ((i + 1 : Nat) : Int) := by rw [wrap64_in (by omega) (by omega)]; omega
    rw [if_pos (by omega), e1, if_pos (by omega), e2]
    by_cases h64 : i < 64
    · have hlt : a % 2 ^ i < 2 ^ 64 := Nat.lt_of_le_of_lt (Nat.mod_le _ _) ha
      have hp : (2 : Nat) ^ i < 2 ^ 64 := Nat.pow_lt_pow_right (by decide) h64
      rw [shl_one i h64, (bits64 a (2 ^ i) ha hp).1, show min i 64 = i by omega, (bits64 (a % 2 ^ i) (a &&& 2 ^ i) hlt (Nat.and_lt_two_pow _ hp)).2, cut_step]
      have := ih k (i + 1) (by omega) (by omega)
      rw [show min (i + 1) 64 = i + 1 by omega] at this
      exact this
    · have e3 : shl .u64 1 (i : Int) = 0 := by
        unfold shl
        rw [show min ((i : Int)).toNat (IntKind.u64.bits) = 64 by simp only [Int.toNat_natCast, IntKind.bits]; omega, wrapU64_mod]
        decide
      have hlt : a % 2 ^ (min i 64) < 2 ^ 64 := Nat.lt_of_le_of_lt (Nat.mod_le _ _) ha
      rw [e3, show (0 : Int) = ((0 : Nat) : Int) from rfl, (bits64 a 0 ha (by decide)).1, (bits64 _ (a &&& 0) hlt (by simp)).2]
      rw [show a % 2 ^ (min i 64) ||| a &&& 0 = a % 2 ^ (min (i + 1) 64) by simp; rw [show min i 64 = min (i + 1) 64 by omega]]
      exact ih k (i + 1) (by omega) (by omega)
theorem spec_l1Cut_eq (n a : Nat) (hn : n ≤ 4611686018427387904) (ha : a < 2 ^ 64) (k : Nat) (hk : n < k) : spec_l1Cut.f k (n : Int) (a : Int) = some ((a % 2 ^ (min n 64) : Nat) : Int) := by
  have := spec_l1Cut_loop n a hn ha n k 0 (by omega) hk
  simpa [spec_l1Cut.f, Nat.mod_one] using this

/-- Is a word of a width? -/
def goodWord (wide a : Int) : Bool := decide (1 ≤ wide) && decide (wide ≤ 64) && decide (a < 2 ^ wide.toNat)
theorem spec_GoodWord_eq (wide a : Int) (h0 : 0 ≤ a) (h1 : a < 18446744073709551616) (k : Nat) (hk : 64 < k) : spec_GoodWord.f k wide a = some (goodWord wide a) := by
  unfold spec_GoodWord.f spec_l1Wide.f spec_l1In.f goodWord
  by_cases h2 : wide ≥ 1
  · by_cases h3 : wide ≤ 64
    · obtain ⟨n, rfl⟩ := Int.eq_ofNat_of_zero_le (show 0 ≤ wide by omega)
      obtain ⟨m, rfl⟩ := Int.eq_ofNat_of_zero_le h0
      have hm : m < 2 ^ 64 := by simpa using (show m < 18446744073709551616 by omega)
      rw [if_pos h2]
      simp only [Option.bind_some, h3, decide_true, if_true]
      rw [spec_l1Cut_eq n m (by omega) hm k (by omega), show min n 64 = n by omega]
      have hiff : ((((m % 2 ^ n : Nat) : Int) == ((m : Nat) : Int)) : Bool) = decide (((m : Nat) : Int) < 2 ^ n) := by
        rw [Bool.eq_iff_iff]
        have : (((m : Nat) : Int) < 2 ^ n) ↔ m < 2 ^ n := by
          constructor
          · intro h; exact_mod_cast h
          · intro h; exact_mod_cast h
        simp only [beq_iff_eq, decide_eq_true_eq, this]
        constructor
        · intro h
          have h' : m % 2 ^ n = m := by exact_mod_cast h
          rw [← h']
          exact Nat.mod_lt _ (Nat.two_pow_pos _)
        · intro h
          rw [Nat.mod_eq_of_lt h]
      simp only [Option.bind_some, hiff, Int.toNat_natCast, h2, ge_iff_le, decide_true, Bool.true_and]
    · rw [if_pos h2]
      simp [h3]
  · rw [if_neg h2]
    simp [show ¬ (1 : Int) ≤ wide from h2]
theorem impl_GoodWord_eq (wide a : Int) (h0 : 0 ≤ a) (h1 : a < 18446744073709551616) : impl_GoodWord.f wide a = some (goodWord wide a) := by
  unfold impl_GoodWord.f impl_isWide.f goodWord
  by_cases h2 : wide ≥ 1
  · by_cases h3 : wide ≤ 64
    · obtain ⟨n, rfl⟩ := Int.eq_ofNat_of_zero_le (show 0 ≤ wide by omega)
      rw [if_pos h2]
      simp only [Option.bind_some, h3, decide_true, if_true]
      have hm : impl_mask.f (n : Int) = some (((2 ^ n - 1 : Nat)) : Int) := by
        unfold impl_mask.f
        rw [mask_eq n (by omega) (by omega), if_pos (by rw [wrap64_in (by omega) (by omega)]; omega)]
      rw [hm]
      have hiff : decide (a ≤ ((2 ^ n - 1 : Nat) : Int)) = decide (a < 2 ^ n) := by
        have hp : 0 < (2 : Nat) ^ n := Nat.two_pow_pos _
        have e : ((2 : Int) ^ n) = ((2 ^ n : Nat) : Int) := by simp
        rw [e]
        apply decide_eq_decide.mpr
        omega
      simp only [Option.bind_some, hiff, Int.toNat_natCast]
      simp [show (1 : Int) ≤ (n : Int) from h2]
    · rw [if_pos h2]
      simp [h3]
  · rw [if_neg h2]
    simp [show ¬ (1 : Int) ≤ wide from h2]

def goodSpan (wide lo hi : Int) : Bool := goodWord wide hi && decide (lo ≤ hi)
theorem spec_GoodSpan_eq (wide lo hi : Int) (h0 : 0 ≤ lo) (h1 : lo < 18446744073709551616) (h2 : 0 ≤ hi) (h3 : hi < 18446744073709551616) (k : Nat) (hk : 64 < k) : spec_GoodSpan.f k wide lo hi = some (goodSpan wide lo hi) := by
  unfold spec_GoodSpan.f spec_l1Both.f goodSpan
  rw [spec_GoodWord_eq wide lo h0 h1 k hk, spec_GoodWord_eq wide hi h2 h3 k hk]
  cases e1 : goodWord wide lo with
  | true => cases e2 : goodWord wide hi <;> simp
  | false =>
    cases e2 : goodWord wide hi with
    | false => simp
    | true =>
      simp only [goodWord, Bool.and_eq_true, decide_eq_true_eq, Bool.and_eq_false_iff, decide_eq_false_iff_not] at e1 e2
      have : ¬ lo ≤ hi := by
        intro hle
        rcases e1 with (h | h) | h
        · omega
        · omega
        · exact h (Int.lt_of_le_of_lt hle e2.2)
      simp [this]
theorem impl_GoodSpan_eq (wide lo hi : Int) (h0 : 0 ≤ lo) (h1 : lo < 18446744073709551616) (h2 : 0 ≤ hi) (h3 : hi < 18446744073709551616) : impl_GoodSpan.f wide lo hi = some (goodSpan wide lo hi) := by
  unfold impl_GoodSpan.f goodSpan
  rw [impl_GoodWord_eq wide hi h2 h3]
  cases e2 : goodWord wide hi <;> simp

theorem laws_toUint64S_eq (l : List Int) (hl : l.length ≤ 1048576) (k : Nat) (hk : l.length < k) : laws_toUint64S.f k l = some l := by
  unfold laws_toUint64S.f
  rw [if_pos (by omega), if_pos (by simp only [Int.toNat_natCast]; omega)]
  have := loop_map l (fun x => x) (fun k x i => laws_toUint64S.l0 k l x i) 0 (fun k i h x _ hx => by
    simp only [laws_toUint64S.l0]
    rw [if_pos (by omega), if_pos (by omega), if_pos (by omega), rd_at l i h, up1 i (by omega), Int.toNat_natCast]) (fun k x _ hx => by
    simp only [laws_toUint64S.l0]
    rw [if_neg (by omega)]) k (by omega) (List.replicate ((l.length : Int)).toNat 0) (by simp)
  simpa using this

theorem laws_eqUint64S_self (l : List Int) (hl : l.length ≤ 1048576) (k : Nat) (hk : l.length < k) : laws_eqUint64S.f k l l = some true := by
  unfold laws_eqUint64S.f
  rw [if_pos rfl]
  have := loop_all l (fun _ => true) true false (fun k i => laws_eqUint64S.l0 k l l i) 0 (fun k i h _ => by
    simp only [laws_eqUint64S.l0]
    rw [if_pos (by omega), if_pos (by omega), if_pos (by omega), up1 i (by omega)]) (fun k _ => by
    simp only [laws_eqUint64S.l0]
    rw [if_neg (by omega)]) k (by omega)
  simpa using this

theorem laws_toSpanS_eq (l : List S24) (hl : l.length ≤ 1048576) (k : Nat) (hk : l.length < k) : laws_toSpanS.f k l = some (l.map fun x => (⟨x.f0, x.f1⟩ : S26)) := by
  unfold laws_toSpanS.f
  rw [if_pos (by omega), if_pos (by simp only [Int.toNat_natCast]; omega)]
  exact loop_map l (fun x => (⟨x.f0, x.f1⟩ : S26)) (fun k x i => laws_toSpanS.l0 k l x i) 0 (fun k i h x _ hx => by
    simp only [laws_toSpanS.l0, laws_toSpan.f, rd_T24]
    rw [if_pos (by omega), if_pos (by omega), getD_at l _ i h]
    simp only [Option.bind_some]
    rw [if_pos (by omega), up1 i (by omega), Int.toNat_natCast]) (fun k x _ hx => by
    simp only [laws_toSpanS.l0]
    rw [if_neg (by omega)]) k (by omega) _ (by simp)
theorem laws_szSpanS_eq (l : List S24) (hm : l.length ≤ 9223372036854775807) (n : Int) (h0 : 0 ≤ n) (h1 : n ≤ 1048576) : laws_szSpanS.f l n = some (if n - (l.length : Int) < 0 then -1 else n - (l.length : Int)) := by
  unfold laws_szSpanS.f
  rw [wrap64_in (by omega) (by omega)]
  split <;> rfl

theorem laws_eqSpanS_self (l : List S26) (hl : l.length ≤ 1048576) (k : Nat) (hk : l.length < k) : laws_eqSpanS.f k l l = some true := by
  unfold laws_eqSpanS.f
  rw [if_pos rfl]
  have := loop_all l (fun _ => true) true false (fun k i => laws_eqSpanS.l0 k l l i) 0 (fun k i h _ => by
    simp only [laws_eqSpanS.l0, laws_eqSpan.f]
    rw [if_pos (by omega), if_pos (by omega), if_pos (by omega), up1 i (by omega)]
    simp) (fun k _ => by
    simp only [laws_eqSpanS.l0]
    rw [if_neg (by omega)]) k (by omega)
  simpa using this

/-- Words of 64 bits. -/
def U64 (n : Int) : Prop := 0 ≤ n ∧ n < 18446744073709551616
def spansOk (wide : Int) (l : List S26) : Bool := decide (1 ≤ l.length ∧ l.length ≤ 4) && l.all fun s => goodSpan wide s.f0 s.f1
theorem spec_l18Spans_eq (wide : Int) (l : List S26) (hl : l.length ≤ 1048576) (hw : ∀ s ∈ l, U64 s.f0 ∧ U64 s.f1) (k : Nat) (hk : 65 + l.length < k) : spec_l18Spans.f k wide l = some (spansOk wide l) := by
  unfold spec_l18Spans.f spansOk spec_l1In.f
  have := loop_all l (fun s => goodSpan wide s.f0 s.f1) true false (fun k i => spec_l18Spans.l0 k wide l (l.length : Int) i) 65 (fun k i h hk => by
    simp only [spec_l18Spans.l0, rd_T26]
    have hs := hw _ (List.getElem_mem h)
    rw [if_pos (by omega), if_pos (by omega), if_pos (by omega), getD_at l _ i h, spec_GoodSpan_eq wide _ _ hs.1.1 hs.1.2 hs.2.1 hs.2.2 k (by omega)]
    simp only [Option.bind_some]
    rw [up1 i (by omega)]) (fun k _ => by
    simp only [spec_l18Spans.l0]
    rw [if_neg (by omega)]) k (by omega)
  by_cases h1 : (l.length : Int) ≥ 1
  · rw [if_pos h1]
    by_cases h2 : (l.length : Int) ≤ 4
    · simp only [Option.bind_some, h2, decide_true, if_true]
      rw [this]
      have h3 : (1 ≤ l.length ∧ l.length ≤ 4) := by omega
      simp only [h3, and_self, decide_true, Bool.true_and]
      cases l.all fun s => goodSpan wide s.f0 s.f1 <;> rfl
    · have : ¬ (1 ≤ l.length ∧ l.length ≤ 4) := by omega
      simp [h2, this]
  · rw [if_neg h1]
    have : ¬ (1 ≤ l.length ∧ l.length ≤ 4) := by omega
    simp [this]
theorem impl_areSpans_eq (wide : Int) (l : List S26) (hl : l.length ≤ 1048576) (hw : ∀ s ∈ l, U64 s.f0 ∧ U64 s.f1) (k : Nat) (hk : l.length < k) : impl_areSpans.f k wide l = some (spansOk wide l) := by
  unfold impl_areSpans.f impl_isVars.f slices_ContainsFunc_of_impl_areSpans_1.f slices_IndexFunc_of_impl_areSpans_1.f spansOk
  have := loop_find l (fun s => !goodSpan wide s.f0 s.f1) (fun k i => slices_IndexFunc_of_impl_areSpans_1.l0 k l (l.length : Int) i wide) 0 (fun k i h _ => by
    simp only [slices_IndexFunc_of_impl_areSpans_1.l0, rd_T26, impl_areSpans_1.f]
    have hs := hw _ (List.getElem_mem h)
    rw [if_pos (by omega), if_pos (by omega), if_pos (by omega), getD_at l _ i h, impl_GoodSpan_eq wide _ _ hs.1.1 hs.1.2 hs.2.1 hs.2.2]
    simp only [Option.bind_some]
    rw [up1 i (by omega)]) (fun k _ => by
    simp only [slices_IndexFunc_of_impl_areSpans_1.l0]
    rw [if_neg (by omega)]) k (by omega)
  rw [this]
  simp only [Option.bind_some, find_nonneg]
  have hn : (!l.any fun s => !goodSpan wide s.f0 s.f1) = l.all fun s => goodSpan wide s.f0 s.f1 := by rw [List.not_any_eq_all_not]; simp
  by_cases h1 : (l.length : Int) ≥ 1
  · rw [if_pos h1]
    by_cases h2 : (l.length : Int) ≤ 4
    · have : (1 ≤ l.length ∧ l.length ≤ 4) := by omega
      simp only [Option.bind_some, h2, decide_true, if_true, hn, this, and_self, Bool.true_and]
    · have : ¬ (1 ≤ l.length ∧ l.length ≤ 4) := by omega
      simp [h2, this]
  · rw [if_neg h1]
    have : ¬ (1 ≤ l.length ∧ l.length ≤ 4) := by omega
    simp [this]

def wordsOk (wide : Int) (l : List Int) : Bool := l.all fun x => goodWord wide x
theorem spec_l2Words_eq (wide : Int) (l : List Int) (hl : l.length ≤ 1048576) (hw : ∀ s ∈ l, 0 ≤ s ∧ s < 18446744073709551616) (k : Nat) (hk : 65 + l.length < k) : spec_l2Words.f k wide l = some (wordsOk wide l) := by
  unfold spec_l2Words.f wordsOk
  have := loop_all l (fun x => goodWord wide x) true false (fun k i => spec_l2Words.l0 k wide l (l.length : Int) i) 65 (fun k i h hk => by
    simp only [spec_l2Words.l0]
    have hs := hw _ (List.getElem_mem h)
    rw [if_pos (by omega), if_pos (by omega), if_pos (by omega), rd_at l i h, spec_GoodWord_eq wide _ hs.1 hs.2 k (by omega)]
    simp only [Option.bind_some]
    rw [up1 i (by omega)]) (fun k _ => by
    simp only [spec_l2Words.l0]
    rw [if_neg (by omega)]) k (by omega)
  rw [this]
  cases l.all fun x => goodWord wide x <;> rfl

theorem impl_isState_eq (wide vars : Int) (l : List Int) (hl : l.length ≤ 1048576) (hw : ∀ s ∈ l, 0 ≤ s ∧ s < 18446744073709551616) (k : Nat) (hk : l.length < k) :
    impl_isState.f k wide vars l = some (decide (1 ≤ wide ∧ wide ≤ 64) && (decide (1 ≤ vars ∧ vars ≤ 4) && (decide ((l.length : Int) = vars) && l.all fun x => goodWord wide x))) := by
  unfold impl_isState.f impl_isWide.f impl_isVars.f slices_ContainsFunc_of_impl_isState_1.f slices_IndexFunc_of_impl_isState_1.f
  have := loop_find l (fun s => !goodWord wide s) (fun k i => slices_IndexFunc_of_impl_isState_1.l0 k l (l.length : Int) i wide) 0 (fun k i h _ => by
    simp only [slices_IndexFunc_of_impl_isState_1.l0, impl_isState_1.f]
    have hs := hw _ (List.getElem_mem h)
    rw [if_pos (by omega), if_pos (by omega), if_pos (by omega), rd_at l i h, impl_GoodWord_eq wide _ hs.1 hs.2]
    simp only [Option.bind_some]
    rw [up1 i (by omega)]) (fun k _ => by
    simp only [slices_IndexFunc_of_impl_isState_1.l0]
    rw [if_neg (by omega)]) k (by omega)
  rw [this]
  simp only [Option.bind_some, find_nonneg]
  have hn : (!l.any fun s => !goodWord wide s) = l.all fun s => goodWord wide s := by rw [List.not_any_eq_all_not]; simp
  rw [hn]
  by_cases h1 : wide ≥ 1 <;> by_cases h2 : wide ≤ 64 <;> by_cases h3 : vars ≥ 1 <;> by_cases h4 : vars ≤ 4 <;> by_cases h5 : (l.length : Int) = vars <;> simp [h1, h2, h3, h4, h5, show (1 ≤ wide) ↔ (wide ≥ 1) from Iff.rfl, show (1 ≤ vars) ↔ (vars ≥ 1) from Iff.rfl]

def inSpans (l : List S26) (s : List Int) : Bool := (l.zip s).all fun z => decide (z.1.f0 ≤ z.2) && decide (z.2 ≤ z.1.f1)
theorem InSpans_eq (wide : Int) (l : List S26) (s : List Int) (hl : l.length ≤ 1048576) (hls : s.length ≤ 1048576) (hw : ∀ x ∈ l, U64 x.f0 ∧ U64 x.f1) (hws : ∀ x ∈ s, U64 x) (k : Nat) (hk : 70 + l.length + s.length < k) :
    ∃ r, spec_InSpans.f k wide l s = some r ∧ impl_InSpans.f k wide l s = some r := by
  have hspec : ∀ k, l.length + 1 < k → s.length = l.length → spec_InSpans.j0 k l s false = some (if inSpans l s = true then (true, true) else (false, true)) := by
    intro k hk he
    obtain ⟨k, rfl⟩ : ∃ m, k = m + 1 := ⟨k - 1, by omega⟩
    simp only [spec_InSpans.j0]
    rw [if_neg (by simp)]
    have hz : (l.zip s).length = l.length := by rw [List.length_zip]; omega
    have := loop_all (l.zip s) (fun z => decide (z.1.f0 ≤ z.2) && decide (z.2 ≤ z.1.f1)) (true, true) (false, true) (fun k i => spec_InSpans.l0 k s l (l.length : Int) i) 0 (fun k i h _ => by
      rw [hz] at h
      have e1 : rd_T26 l (i : Int) = l[i] := getD_at l _ i h
      have e2 := rd_at s i (by omega)
      simp only [spec_InSpans.l0, e1, e2, List.getElem_zip]
      rw [if_pos (by omega), if_pos (by omega), if_pos (by omega), if_pos (by omega), up1 i (by omega)]
      by_cases h1 : s[i] < l[i].f0
      · rw [if_pos h1]
        have : ¬ l[i].f0 ≤ s[i] := by omega
        simp [this]
      · rw [if_neg h1]
        have h1' : l[i].f0 ≤ s[i] := by omega
        by_cases h2 : s[i] > l[i].f1
        · rw [if_pos h2]
          have : ¬ s[i] ≤ l[i].f1 := by omega
          simp [this]
        · rw [if_neg h2]
          have : s[i] ≤ l[i].f1 := by omega
          simp [this, h1']) (fun k _ => by
      rw [hz]
      simp only [spec_InSpans.l0]
      rw [if_neg (by omega)]) k (by omega)
    exact this
  have himpl : ∀ k, l.length + 1 < k → s.length = l.length → impl_InSpans.j0 k l s false = some (if inSpans l s = true then (true, true) else (false, true)) := by
    intro k hk he
    obtain ⟨k, rfl⟩ : ∃ m, k = m + 1 := ⟨k - 1, by omega⟩
    simp only [impl_InSpans.j0]
    rw [if_neg (by simp)]
    have hz : (l.zip s).length = l.length := by rw [List.length_zip]; omega
    have := loop_all (l.zip s) (fun z => decide (z.1.f0 ≤ z.2) && decide (z.2 ≤ z.1.f1)) (true, true) (false, true) (fun k i => impl_InSpans.l0 k s l (l.length : Int) i) 0 (fun k i h _ => by
      rw [hz] at h
      have e1 : rd_T26 l (i : Int) = l[i] := getD_at l _ i h
      have e2 := rd_at s i (by omega)
      simp only [impl_InSpans.l0, impl_Span_has.f, e1, e2, List.getElem_zip]
      rw [if_pos (by omega), if_pos (by omega), if_pos (by omega), if_pos (by omega), up1 i (by omega)]
      by_cases h1 : l[i].f0 ≤ s[i]
      · rw [if_pos h1]
        by_cases h2 : s[i] ≤ l[i].f1 <;> simp [h1, h2]
      · rw [if_neg h1]
        simp [h1]) (fun k _ => by
      rw [hz]
      simp only [impl_InSpans.l0]
      rw [if_neg (by omega)]) k (by omega)
    exact this
  have hst : ∀ k, 0 < k → spec_InSpans.j0 k l s true = some (false, false) ∧ impl_InSpans.j0 k l s true = some (false, false) := by
    intro k hk
    obtain ⟨k, rfl⟩ : ∃ m, k = m + 1 := ⟨k - 1, by omega⟩
    simp [spec_InSpans.j0, impl_InSpans.j0]
  unfold spec_InSpans.f impl_InSpans.f
  rw [spec_l18Spans_eq wide l hl hw k (by omega), impl_areSpans_eq wide l hl hw k (by omega), spec_l2Words_eq wide s hls hws k (by omega), impl_isState_eq wide _ s hls hws k (by omega)]
  simp only [Option.bind_some]
  cases hso : spansOk wide l with
  | false => simp [(hst k (by omega)).1, (hst k (by omega)).2]
  | true =>
    have hwide : 1 ≤ wide ∧ wide ≤ 64 := by
      simp only [spansOk, Bool.and_eq_true, decide_eq_true_eq, List.all_eq_true] at hso
      have := hso.2 _ (List.getElem_mem (show 0 < l.length by omega))
      simp only [goodSpan, goodWord, Bool.and_eq_true, decide_eq_true_eq] at this
      omega
    have hlen : 1 ≤ (l.length : Int) ∧ (l.length : Int) ≤ 4 := by
      simp only [spansOk, Bool.and_eq_true, decide_eq_true_eq] at hso
      omega
    simp only [hwide, hlen, and_self, decide_true, Bool.true_and, if_true]
    by_cases he : (s.length : Int) = (l.length : Int)
    · rw [if_pos he]
      simp only [he, decide_true, Bool.true_and, Option.bind_some, wordsOk]
      cases s.all fun x => goodWord wide x with
      | false => simp [(hst k (by omega)).1, (hst k (by omega)).2]
      | true => simp [hspec k (by omega) (by omega), himpl k (by omega) (by omega)]
    · rw [if_neg he]
      simp [he, (hst k (by omega)).1, (hst k (by omega)).2]

theorem pure : laws_FnExactInSpans.Pure := by
  intro a0 w0 l1 m1 w1 l2 m2 w2
  unfold laws_FnExactInSpans.f
  by_cases hb : (l2.length : Int) > 1048576
  · exact ⟨0, by rw [if_pos hb]⟩
  · rw [laws_szSpanS_eq l1 m1 1048576 (by omega) (by omega)]
    simp only [Option.bind_some, if_neg hb]
    by_cases hs : (1048576 : Int) - (l1.length : Int) < 0
    · exact ⟨0, by simp [hs]⟩
    · have hl1 : l1.length ≤ 1048576 := by omega
      have hl2 : l2.length ≤ 1048576 := by omega
      obtain ⟨k, hk⟩ : ∃ k, 80 + l1.length + l2.length < k := ⟨_, Nat.lt_succ_self _⟩
      obtain ⟨r, e1, e2⟩ := InSpans_eq a0 (l1.map fun x => (⟨x.f0, x.f1⟩ : S26)) l2 (by simpa using hl1) hl2 (fun x hx => by
        obtain ⟨y, hy, rfl⟩ := List.mem_map.1 hx
        exact ⟨wfU64 (w1 y hy).1, wfU64 (w1 y hy).2⟩) (fun x hx => wfU64 (w2 x hx)) k (by simp; omega)
      have hj : laws_FnExactInSpans.j0 k l1 l2 (l1.map fun x => (⟨x.f0, x.f1⟩ : S26)) l2 false = some true := by
        obtain ⟨k, rfl⟩ : ∃ m, k = m + 1 := ⟨k - 1, by omega⟩
        simp only [laws_FnExactInSpans.j0]
        rw [if_neg (by simp), laws_toSpanS_eq l1 hl1 k (by omega)]
        simp only [Option.bind_some]
        rw [laws_eqSpanS_self _ (by simpa using hl1) k (by simp; omega), laws_toUint64S_eq l2 hl2 k (by omega)]
        simp only [Option.bind_some, if_true]
        rw [laws_eqUint64S_self l2 hl2 k (by omega)]
        simp
      refine ⟨k, ?_⟩
      rw [if_neg hs, if_neg hs, laws_toSpanS_eq l1 hl1 k (by omega), laws_toUint64S_eq l2 hl2 k (by omega)]
      simp only [Option.bind_some]
      rw [e1, e2]
      simp only [Option.bind_some, bne_self_eq_false]
      rw [if_neg (by simp)]
      exact hj

end Go.Proofs.Ytimoiblediffpaa.QFnExactInSpans
