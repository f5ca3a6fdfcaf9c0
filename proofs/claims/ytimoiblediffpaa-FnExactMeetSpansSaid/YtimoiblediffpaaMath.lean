/- Plain facts on whole numbers, words of 64 bits and lists that the laws' proofs use: no program. -/
import Derived.Test.YtimoiblediffpaaWMore
import Derived.Laws.BitsLemmas
set_option linter.unusedVariables false
set_option linter.unusedSimpArgs false
namespace Go.Proofs.Ytimoiblediffpaa.Math
open Go.RowKit Go.Proofs.YtimoiblediffpaaW.PrintWords Go.Proofs.YtimoiblediffpaaW.PrintLast Go.Proofs.YtimoiblediffpaaW.PrintMore

theorem wfU64 {n : Int} (h : (Lit.int .u64 n).wf = true) : 0 ≤ n ∧ n < 18446744073709551616 := by
  simp [Lit.wf, IntKind.min, IntKind.max, IntKind.signed, IntKind.bits] at h
  omega
theorem wfI64 {n : Int} (h : (Lit.int .i64 n).wf = true) : -9223372036854775808 ≤ n ∧ n < 9223372036854775808 := by
  simp [Lit.wf, IntKind.min, IntKind.max, IntKind.signed, IntKind.bits] at h
  omega

theorem wrap64_in {n : Int} (h0 : -9223372036854775808 ≤ n) (h1 : n < 9223372036854775808) : wrap64 n = n := by
  unfold wrap64
  omega
theorem wrapU64_mod (n : Int) : IntKind.u64.wrap n = n % 18446744073709551616 := by
  simp [IntKind.wrap, IntKind.bits, IntKind.signed]
theorem wrapU64_in {n : Int} (h0 : 0 ≤ n) (h1 : n < 18446744073709551616) : IntKind.u64.wrap n = n := by
  rw [wrapU64_mod]
  omega

theorem bits64 (a b : Nat) (ha : a < 2 ^ 64) (hb : b < 2 ^ 64) : bits .and .u64 (a : Int) (b : Int) = ((a &&& b : Nat) : Int) ∧ bits .or .u64 (a : Int) (b : Int) = ((a ||| b : Nat) : Int) :=
  bits_nat .u64 64 (by decide) (fun n h0 h1 => wrapU64_in h0 (by simpa using h1)) a b ha hb

theorem shl_one (i : Nat) (h : i < 64) : shl .u64 1 (i : Int) = ((2 ^ i : Nat) : Int) := by
  unfold shl
  have e : min ((i : Int)).toNat (IntKind.u64.bits) = i := by
    simp only [Int.toNat_natCast, IntKind.bits]
    omega
  rw [e, Int.one_mul]
  have h2 : (2 : Nat) ^ i < 2 ^ 64 := Nat.pow_lt_pow_right (by decide) h
  rw [wrapU64_in]
  · simp
  · exact Int.le_of_lt (Int.pow_pos (by decide))
  · have : ((2 ^ i : Nat) : Int) < ((2 ^ 64 : Nat) : Int) := by exact_mod_cast h2
    simpa using this

/-- One step of a cut, bit by bit. -/
theorem cut_step (a i : Nat) : (a % 2 ^ i) ||| (a &&& 2 ^ i) = a % 2 ^ (i + 1) := by
  apply Nat.eq_of_testBit_eq
  intro j
  rw [Nat.testBit_or, Nat.testBit_and, Nat.testBit_mod_two_pow, Nat.testBit_mod_two_pow, Nat.testBit_two_pow]
  by_cases h1 : j < i
  · have h2 : j < i + 1 := by omega
    have h3 : ¬ i = j := by omega
    simp [h1, h2, h3]
  · by_cases h3 : i = j
    · subst h3
      simp
    · have h2 : ¬ j < i + 1 := by omega
      simp [h1, h2, h3]

/-- The words of a width. -/
theorem pow_le64 {n : Nat} (h : n ≤ 64) : (2 : Nat) ^ n ≤ 18446744073709551616 := by
  have : (2 : Nat) ^ n ≤ 2 ^ 64 := Nat.pow_le_pow_right (by decide) h
  simpa using this
theorem mask_eq (n : Nat) (h0 : 1 ≤ n) (h1 : n ≤ 64) : shr .u64 18446744073709551615 (wrap64 (64 - (n : Int))) = ((2 ^ n - 1 : Nat) : Int) := by
  rw [wrap64_in (by omega) (by omega)]
  unfold shr
  have e : min ((64 : Int) - (n : Int)).toNat (IntKind.u64.bits) = 64 - n := by
    simp only [IntKind.bits]
    omega
  rw [e]
  have hp : 0 < (2 : Nat) ^ (64 - n) := Nat.two_pow_pos _
  have hq : (2 : Nat) ^ n * 2 ^ (64 - n) = 18446744073709551616 := by
    rw [← Nat.pow_add, show n + (64 - n) = 64 by omega]
  have hn : 0 < (2 : Nat) ^ n := Nat.two_pow_pos _
  have key : 18446744073709551615 / 2 ^ (64 - n) = 2 ^ n - 1 := by
    have : 18446744073709551615 = (2 ^ n - 1) * 2 ^ (64 - n) + (2 ^ (64 - n) - 1) := by
      rw [Nat.sub_mul, Nat.one_mul, hq]
      have : 2 ^ (64 - n) ≤ 18446744073709551616 := pow_le64 (by omega)
      omega
    rw [this, Nat.mul_comm, Nat.mul_add_div hp, Nat.div_eq_of_lt (by omega), Nat.add_zero]
  have : ((18446744073709551615 : Nat) : Int) / ((2 ^ (64 - n) : Nat) : Int) = ((2 ^ n - 1 : Nat) : Int) := by
    rw [← Int.natCast_ediv, key]
  simpa using this

theorem LeO_le {α : Type} {g : Nat → Option α} (hm : ∀ k, LeO (g k) (g (k + 1))) {k k' : Nat} (h : k ≤ k') {r : α} (hr : g k = some r) : g k' = some r := by
  induction h with
  | refl => exact hr
  | step _ ih => exact hm _ _ ih
end Go.Proofs.Ytimoiblediffpaa.Math
