/- Plain facts on whole numbers, words of 64 bits and lists that the laws' proofs use: no program. -/
import Derived.Test.YtimoiblediffpaaWMore
import Derived.Laws.BitsLemmas
set_option linter.unusedVariables false
set_option linter.unusedSimpArgs false
namespace Go.Proofs.Ytimoiblediffpaa.Math
open Go.RowKit Go.Proofs.YtimoiblediffpaaW.PrintWords Go.Proofs.YtimoiblediffpaaW.PrintLast Go.Proofs.YtimoiblediffpaaW.PrintMore

theorem wfU64 {n : Int} (h : (Lit.int .u64 n).wf = true) : 0 ≤ n ∧ n < 18446744073709551616 := by
  simp [Lit.wf, IntKind.min, IntKind.max, IntKind.signed, IntKind.bits] at h
  omega
theorem wfI64 {n : Int} (h : (Lit.int .i64 n).wf = true) : -9223372036854775808 ≤ n ∧ n < 9223372036854775808 := by
  simp [Lit.wf, IntKind.min, IntKind.max, IntKind.signed, IntKind.bits] at h
  omega

theorem wrap64_in {n : Int} (h0 : -9223372036854775808 ≤ n) (h1 : n < 9223372036854775808) : wrap64 n = n := by
  unfold wrap64
  omega
theorem wrapU64_mod (n : Int) : IntKind.u64.wrap n = n % 18446744073709551616 := by
  simp [IntKind.wrap, IntKind.bits, IntKind.signed]
theorem wrapU64_in {n : Int} (h0 : 0 ≤ n) (h1 : n < 18446744073709551616) : IntKind.u64.wrap n = n := by
  rw [wrapU64_mod]
  omega

theorem bits64 (a b : Nat) (ha : a < 2 ^ 64) (hb : b < 2 ^ 64) : bits .and .u64 (a : Int) (b : Int) = ((a &&& b : Nat) : Int) ∧ bits .or .u64 (a : Int) (b : Int) = ((a ||| b : Nat) : Int) :=
  bits_nat .u64 64 (by decide) (fun n h0 h1 => wrapU64_in h0 (by simpa using h1)) a b ha hb

theorem shl_one (i : Nat) (h : i < 64) : shl .u64 1 (i : Int) = ((2 ^ i : Nat) : Int) := by
  unfold shl
  have e : min ((i : Int)).toNat (IntKind.u64.bits) = i := by
    simp only [Int.toNat_natCast, IntKind.bits]
    omega
  rw [e, Int.one_mul]
  have h2 : (2 : Nat) ^ i < 2 ^ 64 := Nat.pow_lt_pow_right (by decide) h
  rw [wrapU64_in]
  · simp
  · exact Int.le_of_lt (Int.pow_pos (by decide))
  · have : ((2 ^ i : Nat) : Int) < ((2 ^ 64 : Nat) : Int) := by exact_mod_cast h2
    simpa using this

/-- One step of a cut, bit by bit. -/
theorem cut_step (a i : Nat) : (a % 2 ^ i) ||| (a &&& 2 ^ i) = a % 2 ^ (i + 1) := by
  apply Nat.eq_of_testBit_eq
  intro j
  rw [Nat.testBit_or, Nat.testBit_and, Nat.testBit_mod_two_pow, Nat.testBit_mod_two_pow, Nat.testBit_two_pow]
  by_cases h1 : j < i
  · have h2 : j < i + 1 := by omega
    have h3 : ¬ i = j := by omega
    simp [h1, h2, h3]
  · by_cases h3 : i = j
    · subst h3
      simp
    · have h2 : ¬ j < i + 1 := by omega
      simp [h1, h2, h3]

/-- The words of a width. -/
theorem pow_le64 {n : Nat} (h : n ≤ 64) : (2 : Nat) ^ n ≤ 18446744073709551616 := by
  have : (2 : Nat) ^ n ≤ 2 ^ 64 := Nat.pow_le_pow_right (by decide) h
  simpa using this
theorem mask_eq (n : Nat) (h0 : 1 ≤ n) (h1 : n ≤ 64) : shr .u64 18446744073709551615 (wrap64 (64 - (n : Int))) = ((2 ^ n - 1 : Nat) : Int) := by
  rw [wrap64_in (by omega) (by omega)]
  unfold shr
  have e : min ((64 : Int) - (n : Int)).toNat (IntKind.u64.bits) = 64 - n := by
    simp only [IntKind.bits]
    omega
  rw [e]
  have hp : 0 < (2 : Nat) ^ (64 - n) := Nat.two_pow_pos _
  have hq : (2 : Nat) ^ n * 2 ^ (64 - n) = 18446744073709551616 := by
    rw [← Nat.pow_add, show n + (64 - n) = 64 by omega]
  have hn : 0 < (2 : Nat) ^ n := Nat.two_pow_pos _
  have key : 18446744073709551615 / 2 ^ (64 - n) = 2 ^ n - 1 := by
    have : 18446744073709551615 = (2 ^ n - 1) * 2 ^ (64 - n) + (2 ^ (64 - n) - 1) := by
      rw [Nat.sub_mul, Nat.one_mul, hq]
      have : 2 ^ (64 - n) ≤ 18446744073709551616 := pow_le64 (by omega)
      omega
    rw [this, Nat.mul_comm, Nat.mul_add_div hp, Nat.div_eq_of_lt (by omega), Nat.add_zero]
  have : ((18446744073709551615 : Nat) : Int) / ((2 ^ (64 - n) : Nat) : Int) = ((2 ^ n - 1 : Nat) : Int) := by
    rw [← Int.natCast_ediv, key]
  simpa using this

theorem LeO_le {α : Type} {g : Nat → Option α} (hm : ∀ k, LeO (g k) (g (k + 1))) {k k' : Nat} (h : k ≤ k') {r : α} (hr : g k = some r) : g k' = some r := by
  induction h with
  | refl => exact hr
  | step _ ih => exact hm _ _ ih

/-! ### Loops over lists -/
theorem rd_at (xs : List Int) (i : Nat) (h : i < xs.length) : rd xs (i : Int) = xs[i] := by
  simp [rd, List.getD_eq_getElem?_getD, h]
theorem rdB_at (xs : List Bool) (i : Nat) (h : i < xs.length) : rdOf false xs (i : Int) = xs[i] := by
  simp [rdOf, List.getD_eq_getElem?_getD, h]
theorem getD_at {α : Type} (xs : List α) (z : α) (i : Nat) (h : i < xs.length) : xs.getD ((i : Int)).toNat z = xs[i] := by
  simp [List.getD_eq_getElem?_getD, h]
theorem up1 (i : Nat) (h : i < 4611686018427387904) : wrap64 ((i : Int) + 1) = ((i + 1 : Nat) : Int) := by
  rw [wrap64_in (by omega) (by omega)]
  omega

theorem loop_all {α β : Type} (l : List α) (q : α → Bool) (good bad : β) (F : Nat → Int → Option β) (K : Nat)
    (hs : ∀ (k i : Nat) (h : i < l.length), K ≤ k → F (k + 1) (i : Int) = if q l[i] = true then F k ((i + 1 : Nat) : Int) else some bad)
    (he : ∀ k : Nat, K ≤ k → F (k + 1) (l.length : Int) = some good) (k : Nat) (hk : K + l.length < k) : F k 0 = some (if l.all q = true then good else bad) := by
  have key : ∀ (d i k : Nat), i + d = l.length → K + d < k → F k (i : Int) = some (if (l.drop i).all q = true then good else bad) := by
    intro d
    induction d with
    | zero =>
      intro i k hi hk
      obtain ⟨k, rfl⟩ : ∃ m, k = m + 1 := ⟨k - 1, by omega⟩
      obtain rfl : i = l.length := by omega
      rw [he k (by omega)]
      simp
    | succ d ih =>
      intro i k hi hk
      obtain ⟨k, rfl⟩ : ∃ m, k = m + 1 := ⟨k - 1, by omega⟩
      have hlt : i < l.length := by omega
      rw [hs k i hlt (by omega), List.drop_eq_getElem_cons hlt, List.all_cons]
      cases hq : q l[i] with
      | false => simp
      | true =>
        rw [if_pos rfl, ih (i + 1) k (by omega) (by omega)]
        simp
  have := key l.length 0 k (by omega) hk
  simpa using this

theorem loop_find {α : Type} (l : List α) (q : α → Bool) (F : Nat → Int → Option Int) (K : Nat)
    (hs : ∀ (k i : Nat) (h : i < l.length), K ≤ k → F (k + 1) (i : Int) = if q l[i] = true then some (i : Int) else F k ((i + 1 : Nat) : Int))
    (he : ∀ k : Nat, K ≤ k → F (k + 1) (l.length : Int) = some (-1)) (k : Nat) (hk : K + l.length < k) : F k 0 = some (if l.any q = true then (l.findIdx q : Int) else -1) := by
  have key : ∀ (d i k : Nat), i + d = l.length → K + d < k → F k (i : Int) = some (if (l.drop i).any q = true then ((i + (l.drop i).findIdx q : Nat) : Int) else -1) := by
    intro d
    induction d with
    | zero =>
      intro i k hi hk
      obtain ⟨k, rfl⟩ : ∃ m, k = m + 1 := ⟨k - 1, by omega⟩
      obtain rfl : i = l.length := by omega
      rw [he k (by omega)]
      simp
    | succ d ih =>
      intro i k hi hk
      obtain ⟨k, rfl⟩ : ∃ m, k = m + 1 := ⟨k - 1, by omega⟩
      have hlt : i < l.length := by omega
      rw [hs k i hlt (by omega), List.drop_eq_getElem_cons hlt, List.any_cons, List.findIdx_cons]
      cases hq : q l[i] with
      | true => simp
      | false =>
        rw [if_neg (by simp), ih (i + 1) k (by omega) (by omega)]
        by_cases hany : (l.drop (i + 1)).any q = true
        · simp only [hany, if_true, Bool.false_or, cond_false]
          congr 2
          omega
        · simp [hany]
  have := key l.length 0 k (by omega) hk
  simpa using this
theorem find_nonneg {α : Type} (l : List α) (q : α → Bool) : decide ((if l.any q = true then (l.findIdx q : Int) else -1) ≥ 0) = l.any q := by
  cases h : l.any q <;> simp

theorem loop_map {α β : Type} (l : List α) (f : α → β) (F : Nat → List β → Int → Option (List β)) (K : Nat)
    (hs : ∀ (k i : Nat) (h : i < l.length) (x : List β), K ≤ k → x.length = l.length → F (k + 1) x (i : Int) = F k (x.set i (f l[i])) ((i + 1 : Nat) : Int))
    (he : ∀ (k : Nat) (x : List β), K ≤ k → x.length = l.length → F (k + 1) x (l.length : Int) = some x) (k : Nat) (hk : K + l.length < k) (x : List β) (hx : x.length = l.length) : F k x 0 = some (l.map f) := by
  have key : ∀ (d i k : Nat) (x : List β), i + d = l.length → K + d < k → x.length = l.length → F k x (i : Int) = some (x.take i ++ (l.drop i).map f) := by
    intro d
    induction d with
    | zero =>
      intro i k x hi hk hx
      obtain ⟨k, rfl⟩ : ∃ m, k = m + 1 := ⟨k - 1, by omega⟩
      obtain rfl : i = l.length := by omega
      rw [he k x (by omega) hx]
      simp [List.take_of_length_le (Nat.le_of_eq hx)]
    | succ d ih =>
      intro i k x hi hk hx
      obtain ⟨k, rfl⟩ : ∃ m, k = m + 1 := ⟨k - 1, by omega⟩
      have hlt : i < l.length := by omega
      rw [hs k i hlt x (by omega) hx, ih (i + 1) k _ (by omega) (by omega) (by simpa using hx), List.drop_eq_getElem_cons hlt, List.map_cons]
      have e : (x.set i (f l[i])).take (i + 1) = x.take i ++ [f l[i]] := by
        rw [List.take_succ_eq_append_getElem (by simpa using (by omega : i < x.length)), List.getElem_set_self, List.take_set_of_le (Nat.le_refl _)]
      rw [e]
      simp
  have := key l.length 0 k x (by omega) hk hx
  simpa using this
end Go.Proofs.Ytimoiblediffpaa.Math
