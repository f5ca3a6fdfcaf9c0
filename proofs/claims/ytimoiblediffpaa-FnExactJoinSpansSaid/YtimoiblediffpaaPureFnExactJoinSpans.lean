/- The plain law FnExactJoinSpans: what the printed functions compute answers true for every input. -/
import Derived.Test.YtimoiblediffpaaWfFnExactJoinSpans
import Derived.Test.YtimoiblediffpaaMath
set_option linter.unusedVariables false
set_option linter.unusedSimpArgs false
namespace Go.Proofs.Ytimoiblediffpaa.PFnExactJoinSpans
open Go.RowKit Go.Proofs.YtimoiblediffpaaW.PrintWords Go.Proofs.YtimoiblediffpaaW.PrintLast Go.Proofs.YtimoiblediffpaaW.PrintMore Go.Proofs.Ytimoiblediffpaa.Math Go.Proofs.Ytimoiblediffpaa.Open
/-- The cut of the reference, bit by bit, is the remainder. -/
theorem spec_l1Cut_loop (n a : Nat) (hn : n ≤ 4611686018427387904) (ha : a < 2 ^ 64) (d : Nat) : ∀ (k i : Nat), i + d = n → d < k →
    spec_l1Cut.l0 k (n : Int) (a : Int) ((a % 2 ^ (min i 64) : Nat) : Int) (i : Int) = some ((a % 2 ^ (min n 64) : Nat) : Int) := by
  induction d with
  | zero =>
    intro k i hi hk
    obtain ⟨k, rfl⟩ : ∃ m, k = m + 1 := ⟨k - 1, by omega⟩
    obtain rfl : i = n := by omega
    simp only [spec_l1Cut.l0]
    rw [if_neg (by omega)]
  | succ d ih =>
    intro k i hi hk
    obtain ⟨k, rfl⟩ : ∃ m, k = m + 1 := ⟨k - 1, by omega⟩
    simp only [spec_l1Cut.l0]
    have e1 : IntKind.u64.wrap (i : Int) = (i : Int) := wrapU64_in (by omega) (by omega)
    have e2 : wrap64 ((i : Int) + 1) = ((i + 1 : Nat) : Int) := by rw [wrap64_in (by omega) (by omega)]; omega
    rw [if_pos (by omega), e1, if_pos (by omega), e2]
    by_cases h64 : i < 64
    · have hlt : a % 2 ^ i < 2 ^ 64 := Nat.lt_of_le_of_lt (Nat.mod_le _ _) ha
      have hp : (2 : Nat) ^ i < 2 ^ 64 := Nat.pow_lt_pow_right (by decide) h64
      rw [shl_one i h64, (bits64 a (2 ^ i) ha hp).1, show min i 64 = i by omega, (bits64 (a % 2 ^ i) (a &&& 2 ^ i) hlt (Nat.and_lt_two_pow _ hp)).2, cut_step]
      have := ih k (i + 1) (by omega) (by omega)
      rw [show min (i + 1) 64 = i + 1 by omega] at this
      exact this
    · have e3 : shl .u64 1 (i : Int) = 0 := by
        unfold shl
        rw [show min ((i : Int)).toNat (IntKind.u64.bits) = 64 by simp only [Int.toNat_natCast, IntKind.bits]; omega, wrapU64_mod]
        decide
      have hlt : a % 2 ^ (min i 64) < 2 ^ 64 := Nat.lt_of_le_of_lt (Nat.mod_le _ _) ha
      rw [e3, show (0 : Int) = ((0 : Nat) : Int) from rfl, (bits64 a 0 ha (by decide)).1, (bits64 _ (a &&& 0) hlt (by simp)).2]
      rw [show a % 2 ^ (min i 64) ||| a &&& 0 = a % 2 ^ (min (i + 1) 64) by simp; rw [show min i 64 = min (i + 1) 64 by omega]]
      exact ih k (i + 1) (by omega) (by omega)
theorem spec_l1Cut_eq (n a : Nat) (hn : n ≤ 4611686018427387904) (ha : a < 2 ^ 64) (k : Nat) (hk : n < k) : spec_l1Cut.f k (n : Int) (a : Int) = some ((a % 2 ^ (min n 64) : Nat) : Int) := by
  have := spec_l1Cut_loop n a hn ha n k 0 (by omega) hk
  simpa [spec_l1Cut.f, Nat.mod_one] using this

/-- Is a word of a width? -/
def goodWord (wide a : Int) : Bool := decide (1 ≤ wide) && decide (wide ≤ 64) && decide (a < 2 ^ wide.toNat)
theorem spec_GoodWord_eq (wide a : Int) (h0 : 0 ≤ a) (h1 : a < 18446744073709551616) (k : Nat) (hk : 64 < k) : spec_GoodWord.f k wide a = some (goodWord wide a) := by
  unfold spec_GoodWord.f spec_l1Wide.f spec_l1In.f goodWord
  by_cases h2 : wide ≥ 1
  · by_cases h3 : wide ≤ 64
    · obtain ⟨n, rfl⟩ := Int.eq_ofNat_of_zero_le (show 0 ≤ wide by omega)
      obtain ⟨m, rfl⟩ := Int.eq_ofNat_of_zero_le h0
      have hm : m < 2 ^ 64 := by simpa using (show m < 18446744073709551616 by omega)
      rw [if_pos h2]
      simp only [Option.bind_some, h3, decide_true, if_true]
      rw [spec_l1Cut_eq n m (by omega) hm k (by omega), show min n 64 = n by omega]
      have hiff : ((((m % 2 ^ n : Nat) : Int) == ((m : Nat) : Int)) : Bool) = decide (((m : Nat) : Int) < 2 ^ n) := by
        rw [Bool.eq_iff_iff]
        have : (((m : Nat) : Int) < 2 ^ n) ↔ m < 2 ^ n := by
          constructor
          · intro h; exact_mod_cast h
          · intro h; exact_mod_cast h
        simp only [beq_iff_eq, decide_eq_true_eq, this]
        constructor
        · intro h
          have h' : m % 2 ^ n = m := by exact_mod_cast h
          rw [← h']
          exact Nat.mod_lt _ (Nat.two_pow_pos _)
        · intro h
          rw [Nat.mod_eq_of_lt h]
      simp only [Option.bind_some, hiff, Int.toNat_natCast, h2, ge_iff_le, decide_true, Bool.true_and]
    · rw [if_pos h2]
      simp [h3]
  · rw [if_neg h2]
    simp [show ¬ (1 : Int) ≤ wide from h2]
theorem impl_GoodWord_eq (wide a : Int) (h0 : 0 ≤ a) (h1 : a < 18446744073709551616) : impl_GoodWord.f wide a = some (goodWord wide a) := by
  unfold impl_GoodWord.f impl_isWide.f goodWord
  by_cases h2 : wide ≥ 1
  · by_cases h3 : wide ≤ 64
    · obtain ⟨n, rfl⟩ := Int.eq_ofNat_of_zero_le (show 0 ≤ wide by omega)
      rw [if_pos h2]
      simp only [Option.bind_some, h3, decide_true, if_true]
      have hm : impl_mask.f (n : Int) = some (((2 ^ n - 1 : Nat)) : Int) := by
        unfold impl_mask.f
        rw [mask_eq n (by omega) (by omega), if_pos (by rw [wrap64_in (by omega) (by omega)]; omega)]
      rw [hm]
      have hiff : decide (a ≤ ((2 ^ n - 1 : Nat) : Int)) = decide (a < 2 ^ n) := by
        have hp : 0 < (2 : Nat) ^ n := Nat.two_pow_pos _
        have e : ((2 : Int) ^ n) = ((2 ^ n : Nat) : Int) := by simp
        rw [e]
        apply decide_eq_decide.mpr
        omega
      simp only [Option.bind_some, hiff, Int.toNat_natCast]
      simp [show (1 : Int) ≤ (n : Int) from h2]
    · rw [if_pos h2]
      simp [h3]
  · rw [if_neg h2]
    simp [show ¬ (1 : Int) ≤ wide from h2]

def goodSpan (wide lo hi : Int) : Bool := goodWord wide hi && decide (lo ≤ hi)
theorem spec_GoodSpan_eq (wide lo hi : Int) (h0 : 0 ≤ lo) (h1 : lo < 18446744073709551616) (h2 : 0 ≤ hi) (h3 : hi < 18446744073709551616) (k : Nat) (hk : 64 < k) : spec_GoodSpan.f k wide lo hi = some (goodSpan wide lo hi) := by
  unfold spec_GoodSpan.f spec_l1Both.f goodSpan
  rw [spec_GoodWord_eq wide lo h0 h1 k hk, spec_GoodWord_eq wide hi h2 h3 k hk]
  cases e1 : goodWord wide lo with
  | true => cases e2 : goodWord wide hi <;> simp
  | false =>
    cases e2 : goodWord wide hi with
    | false => simp
    | true =>
      simp only [goodWord, Bool.and_eq_true, decide_eq_true_eq, Bool.and_eq_false_iff, decide_eq_false_iff_not] at e1 e2
      have : ¬ lo ≤ hi := by
        intro hle
        rcases e1 with (h | h) | h
        · omega
        · omega
        · exact h (Int.lt_of_le_of_lt hle e2.2)
      simp [this]
theorem impl_GoodSpan_eq (wide lo hi : Int) (h0 : 0 ≤ lo) (h1 : lo < 18446744073709551616) (h2 : 0 ≤ hi) (h3 : hi < 18446744073709551616) : impl_GoodSpan.f wide lo hi = some (goodSpan wide lo hi) := by
  unfold impl_GoodSpan.f goodSpan
  rw [impl_GoodWord_eq wide hi h2 h3]
  cases e2 : goodWord wide hi <;> simp

theorem join_eq (a b c d : Int) : spec_l18Join.f a b c d = some (mn a c, mx b d) ∧ impl_join.f a b c d = some (mn a c, mx b d) := by
  refine ⟨?_, rfl⟩
  unfold spec_l18Join.f spec_l18Least.f spec_l18Most.f mn mx
  by_cases h1 : a < c <;> by_cases h2 : b > d
  all_goals
    first | rw [if_pos h1] | rw [if_neg h1]
    first | rw [if_pos h2] | rw [if_neg h2]
    simp only [Option.bind_some, Option.some.injEq, Prod.mk.injEq]
    constructor <;> split <;> omega
theorem JoinSpans_eq (wide a b c d : Int) (ha0 : 0 ≤ a) (ha1 : a < 18446744073709551616) (hb0 : 0 ≤ b) (hb1 : b < 18446744073709551616) (hc0 : 0 ≤ c) (hc1 : c < 18446744073709551616) (hd0 : 0 ≤ d) (hd1 : d < 18446744073709551616) (k : Nat) (hk : 64 < k) :
    ∃ r, spec_JoinSpans.f k wide a b c d = some r ∧ impl_JoinSpans.f wide a b c d = some r := by
  unfold spec_JoinSpans.f impl_JoinSpans.f
  rw [spec_GoodSpan_eq wide a b ha0 ha1 hb0 hb1 k hk, spec_GoodSpan_eq wide c d hc0 hc1 hd0 hd1 k hk, impl_GoodSpan_eq wide a b ha0 ha1 hb0 hb1, impl_GoodSpan_eq wide c d hc0 hc1 hd0 hd1, (join_eq a b c d).1, (join_eq a b c d).2]
  cases goodSpan wide a b <;> cases goodSpan wide c d <;> simp

theorem pure : laws_FnExactJoinSpans.Pure := by
  intro a0 w0 y1 w1 y2 w2
  obtain ⟨h0, h1⟩ := wfU64 w1.1
  obtain ⟨h2, h3⟩ := wfU64 w1.2
  obtain ⟨h4, h5⟩ := wfU64 w2.1
  obtain ⟨h6, h7⟩ := wfU64 w2.2
  obtain ⟨r, e1, e2⟩ := JoinSpans_eq a0 y1.f0 y1.f1 y2.f0 y2.f1 h0 h1 h2 h3 h4 h5 h6 h7 65 (by omega)
  refine ⟨65, ?_⟩
  unfold laws_FnExactJoinSpans.f laws_toSpan.f laws_eqSpan.f
  simp only [Option.bind_some]
  rw [e1, e2]
  simp

end Go.Proofs.Ytimoiblediffpaa.PFnExactJoinSpans
