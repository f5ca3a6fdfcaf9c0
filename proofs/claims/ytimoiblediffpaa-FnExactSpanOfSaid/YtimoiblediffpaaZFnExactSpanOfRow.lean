/- The law FnExactSpanOf, in the given statement's form, for every input. -/
import Derived.Laws.MathBits
import Derived.Test.YtimoiblediffpaaZFnExactSpanOfJ
section
set_option linter.unusedVariables false
set_option linter.unusedSimpArgs false
namespace Go.Proofs.Ytimoiblediffpaa.Math
open Go.RowKit Go.Proofs.YtimoiblediffpaaW.PrintWords Go.Proofs.YtimoiblediffpaaW.PrintLast Go.Proofs.YtimoiblediffpaaW.PrintMore
theorem wfU64 {n : Int} (h : (Lit.int .u64 n).wf = true) : 0 ≤ n ∧ n < 18446744073709551616 := by
  simp [Lit.wf, IntKind.min, IntKind.max, IntKind.signed, IntKind.bits] at h
  omega
theorem wrap64_in {n : Int} (h0 : -9223372036854775808 ≤ n) (h1 : n < 9223372036854775808) : wrap64 n = n := by
  unfold wrap64
  omega
theorem wrapU64_mod (n : Int) : IntKind.u64.wrap n = n % 18446744073709551616 := by
  simp [IntKind.wrap, IntKind.bits, IntKind.signed]
theorem wrapU64_in {n : Int} (h0 : 0 ≤ n) (h1 : n < 18446744073709551616) : IntKind.u64.wrap n = n := by
  rw [wrapU64_mod]
  omega
theorem bits64 (a b : Nat) (ha : a < 2 ^ 64) (hb : b < 2 ^ 64) : bits .and .u64 (a : Int) (b : Int) = ((a &&& b : Nat) : Int) ∧ bits .or .u64 (a : Int) (b : Int) = ((a ||| b : Nat) : Int) :=
  bits_nat .u64 64 (by decide) (fun n h0 h1 => wrapU64_in h0 (by simpa using h1)) a b ha hb
theorem shl_one (i : Nat) (h : i < 64) : shl .u64 1 (i : Int) = ((2 ^ i : Nat) : Int) := by
  unfold shl
  have e : min ((i : Int)).toNat (IntKind.u64.bits) = i := by
    simp only [Int.toNat_natCast, IntKind.bits]
    omega
  rw [e, Int.one_mul]
  have h2 : (2 : Nat) ^ i < 2 ^ 64 := Nat.pow_lt_pow_right (by decide) h
  rw [wrapU64_in]
  · simp
  · exact Int.le_of_lt (Int.pow_pos (by decide))
  · have : ((2 ^ i : Nat) : Int) < ((2 ^ 64 : Nat) : Int) := by exact_mod_cast h2
    simpa using this
theorem cut_step (a i : Nat) : (a % 2 ^ i) ||| (a &&& 2 ^ i) = a % 2 ^ (i + 1) := by
  apply Nat.eq_of_testBit_eq
  intro j
  rw [Nat.testBit_or, Nat.testBit_and, Nat.testBit_mod_two_pow, Nat.testBit_mod_two_pow, Nat.testBit_two_pow]
  by_cases h1 : j < i
  · have h2 : j < i + 1 := by omega
    have h3 : ¬ i = j := by omega
    simp [h1, h2, h3]
  · by_cases h3 : i = j
    · subst h3
      simp
    · have h2 : ¬ j < i + 1 := by omega
      simp [h1, h2, h3]
theorem pow_le64 {n : Nat} (h : n ≤ 64) : (2 : Nat) ^ n ≤ 18446744073709551616 := by
  have : (2 : Nat) ^ n ≤ 2 ^ 64 := Nat.pow_le_pow_right (by decide) h
  simpa using this
theorem mask_eq (n : Nat) (h0 : 1 ≤ n) (h1 : n ≤ 64) : shr .u64 18446744073709551615 (wrap64 (64 - (n : Int))) = ((2 ^ n - 1 : Nat) : Int) := by
  rw [wrap64_in (by omega) (by omega)]
  unfold shr
  have e : min ((64 : Int) - (n : Int)).toNat (IntKind.u64.bits) = 64 - n := by
    simp only [IntKind.bits]
    omega
  rw [e]
  have hp : 0 < (2 : Nat) ^ (64 - n) := Nat.two_pow_pos _
  have hq : (2 : Nat) ^ n * 2 ^ (64 - n) = 18446744073709551616 := by
    rw [← Nat.pow_add, show n + (64 - n) = 64 by omega]
  have hn : 0 < (2 : Nat) ^ n := Nat.two_pow_pos _
  have key : 18446744073709551615 / 2 ^ (64 - n) = 2 ^ n - 1 := by
    have : 18446744073709551615 = (2 ^ n - 1) * 2 ^ (64 - n) + (2 ^ (64 - n) - 1) := by
      rw [Nat.sub_mul, Nat.one_mul, hq]
      have : 2 ^ (64 - n) ≤ 18446744073709551616 := pow_le64 (by omega)
      omega
    rw [this, Nat.mul_comm, Nat.mul_add_div hp, Nat.div_eq_of_lt (by omega), Nat.add_zero]
  have : ((18446744073709551615 : Nat) : Int) / ((2 ^ (64 - n) : Nat) : Int) = ((2 ^ n - 1 : Nat) : Int) := by
    rw [← Int.natCast_ediv, key]
  simpa using this
theorem rd_at (xs : List Int) (i : Nat) (h : i < xs.length) : rd xs (i : Int) = xs[i] := by
  simp [rd, List.getD_eq_getElem?_getD, h]
theorem getD_at {α : Type} (xs : List α) (z : α) (i : Nat) (h : i < xs.length) : xs.getD ((i : Int)).toNat z = xs[i] := by
  simp [List.getD_eq_getElem?_getD, h]
theorem up1 (i : Nat) (h : i < 4611686018427387904) : wrap64 ((i : Int) + 1) = ((i + 1 : Nat) : Int) := by
  rw [wrap64_in (by omega) (by omega)]
  omega
theorem loop_all {α β : Type} (l : List α) (q : α → Bool) (good bad : β) (F : Nat → Int → Option β) (K : Nat)
    (hs : ∀ (k i : Nat) (h : i < l.length), K ≤ k → F (k + 1) (i : Int) = if q l[i] = true then F k ((i + 1 : Nat) : Int) else some bad)
    (he : ∀ k : Nat, K ≤ k → F (k + 1) (l.length : Int) = some good) (k : Nat) (hk : K + l.length < k) : F k 0 = some (if l.all q = true then good else bad) := by
  have key : ∀ (d i k : Nat), i + d = l.length → K + d < k → F k (i : Int) = some (if (l.drop i).all q = true then good else bad) := by
    intro d
    induction d with
    | zero =>
      intro i k hi hk
      obtain ⟨k, rfl⟩ : ∃ m, k = m + 1 := ⟨k - 1, by omega⟩
      obtain rfl : i = l.length := by omega
      rw [he k (by omega)]
      simp
    | succ d ih =>
      intro i k hi hk
      obtain ⟨k, rfl⟩ : ∃ m, k = m + 1 := ⟨k - 1, by omega⟩
      have hlt : i < l.length := by omega
      rw [hs k i hlt (by omega), List.drop_eq_getElem_cons hlt, List.all_cons]
      cases hq : q l[i] with
      | false => simp
      | true =>
        rw [if_pos rfl, ih (i + 1) k (by omega) (by omega)]
        simp
  have := key l.length 0 k (by omega) hk
  simpa using this
theorem loop_find {α : Type} (l : List α) (q : α → Bool) (F : Nat → Int → Option Int) (K : Nat)
    (hs : ∀ (k i : Nat) (h : i < l.length), K ≤ k → F (k + 1) (i : Int) = if q l[i] = true then some (i : Int) else F k ((i + 1 : Nat) : Int))
    (he : ∀ k : Nat, K ≤ k → F (k + 1) (l.length : Int) = some (-1)) (k : Nat) (hk : K + l.length < k) : F k 0 = some (if l.any q = true then (l.findIdx q : Int) else -1) := by
  have key : ∀ (d i k : Nat), i + d = l.length → K + d < k → F k (i : Int) = some (if (l.drop i).any q = true then ((i + (l.drop i).findIdx q : Nat) : Int) else -1) := by
    intro d
    induction d with
    | zero =>
      intro i k hi hk
      obtain ⟨k, rfl⟩ : ∃ m, k = m + 1 := ⟨k - 1, by omega⟩
      obtain rfl : i = l.length := by omega
      rw [he k (by omega)]
      simp
    | succ d ih =>
      intro i k hi hk
      obtain ⟨k, rfl⟩ : ∃ m, k = m + 1 := ⟨k - 1, by omega⟩
      have hlt : i < l.length := by omega
      rw [hs k i hlt (by omega), List.drop_eq_getElem_cons hlt, List.any_cons, List.findIdx_cons]
      cases hq : q l[i] with
      | true => simp
      | false =>
        rw [if_neg (by simp), ih (i + 1) k (by omega) (by omega)]
        by_cases hany : (l.drop (i + 1)).any q = true
        · simp only [hany, if_true, Bool.false_or, cond_false]
          congr 2
          omega
        · simp [hany]
  have := key l.length 0 k (by omega) hk
  simpa using this
theorem find_nonneg {α : Type} (l : List α) (q : α → Bool) : decide ((if l.any q = true then (l.findIdx q : Int) else -1) ≥ 0) = l.any q := by
  cases h : l.any q <;> simp
theorem loop_map {α β : Type} (l : List α) (f : α → β) (F : Nat → List β → Int → Option (List β)) (K : Nat)
    (hs : ∀ (k i : Nat) (h : i < l.length) (x : List β), K ≤ k → x.length = l.length → F (k + 1) x (i : Int) = F k (x.set i (f l[i])) ((i + 1 : Nat) : Int))
    (he : ∀ (k : Nat) (x : List β), K ≤ k → x.length = l.length → F (k + 1) x (l.length : Int) = some x) (k : Nat) (hk : K + l.length < k) (x : List β) (hx : x.length = l.length) : F k x 0 = some (l.map f) := by
  have key : ∀ (d i k : Nat) (x : List β), i + d = l.length → K + d < k → x.length = l.length → F k x (i : Int) = some (x.take i ++ (l.drop i).map f) := by
    intro d
    induction d with
    | zero =>
      intro i k x hi hk hx
      obtain ⟨k, rfl⟩ : ∃ m, k = m + 1 := ⟨k - 1, by omega⟩
      obtain rfl : i = l.length := by omega
      rw [he k x (by omega) hx]
      simp [List.take_of_length_le (Nat.le_of_eq hx)]
    | succ d ih =>
      intro i k x hi hk hx
      obtain ⟨k, rfl⟩ : ∃ m, k = m + 1 := ⟨k - 1, by omega⟩
      have hlt : i < l.length := by omega
      rw [hs k i hlt x (by omega) hx, ih (i + 1) k _ (by omega) (by omega) (by simpa using hx), List.drop_eq_getElem_cons hlt, List.map_cons]
      have e : (x.set i (f l[i])).take (i + 1) = x.take i ++ [f l[i]] := by
        rw [List.take_succ_eq_append_getElem (by simpa using (by omega : i < x.length)), List.getElem_set_self, List.take_set_of_le (Nat.le_refl _)]
      rw [e]
      simp
  have := key l.length 0 k x (by omega) hk hx
  simpa using this
end Go.Proofs.Ytimoiblediffpaa.Math
end
section
set_option linter.unusedVariables false
set_option linter.unusedSimpArgs false
namespace Go.Proofs.Ytimoiblediffpaa.QFnExactSpanOf
open Go.RowKit Go.Proofs.YtimoiblediffpaaW.PrintWords Go.Proofs.YtimoiblediffpaaW.PrintLast Go.Proofs.YtimoiblediffpaaW.PrintMore Go.Proofs.Ytimoiblediffpaa.Math Go.Proofs.Ytimoiblediffpaa.Open
def U64 (n : Int) : Prop := 0 ≤ n ∧ n < 18446744073709551616
theorem spec_l1Cut_loop (n a : Nat) (hn : n ≤ 4611686018427387904) (ha : a < 2 ^ 64) (d : Nat) : ∀ (k i : Nat), i + d = n → d < k →
    spec_l1Cut.l0 k (n : Int) (a : Int) ((a % 2 ^ (min i 64) : Nat) : Int) (i : Int) = some ((a % 2 ^ (min n 64) : Nat) : Int) := by
  induction d with
  | zero =>
    intro k i hi hk
    obtain ⟨k, rfl⟩ : ∃ m, k = m + 1 := ⟨k - 1, by omega⟩
    obtain rfl : i = n := by omega
    simp only [spec_l1Cut.l0]
    rw [if_neg (by omega)]
  | succ d ih =>
    intro k i hi hk
    obtain ⟨k, rfl⟩ : ∃ m, k = m + 1 := ⟨k - 1, by omega⟩
    simp only [spec_l1Cut.l0]
    have e1 : IntKind.u64.wrap (i : Int) = (i : Int) := wrapU64_in (by omega) (by omega)
    have e2 : wrap64 ((i : Int) + 1) = ((i + 1 : Nat) : Int) := by rw [wrap64_in (by omega) (by omega)]; omega
    rw [if_pos (by omega), e1, if_pos (by omega), e2]
    by_cases h64 : i < 64
    · have hlt : a % 2 ^ i < 2 ^ 64 := Nat.lt_of_le_of_lt (Nat.mod_le _ _) ha
      have hp : (2 : Nat) ^ i < 2 ^ 64 := Nat.pow_lt_pow_right (by decide) h64
      rw [shl_one i h64, (bits64 a (2 ^ i) ha hp).1, show min i 64 = i by omega, (bits64 (a % 2 ^ i) (a &&& 2 ^ i) hlt (Nat.and_lt_two_pow _ hp)).2, cut_step]
      have := ih k (i + 1) (by omega) (by omega)
      rw [show min (i + 1) 64 = i + 1 by omega] at this
      exact this
    · have e3 : shl .u64 1 (i : Int) = 0 := by
        unfold shl
        rw [show min ((i : Int)).toNat (IntKind.u64.bits) = 64 by simp only [Int.toNat_natCast, IntKind.bits]; omega, wrapU64_mod]
        decide
      have hlt : a % 2 ^ (min i 64) < 2 ^ 64 := Nat.lt_of_le_of_lt (Nat.mod_le _ _) ha
      rw [e3, show (0 : Int) = ((0 : Nat) : Int) from rfl, (bits64 a 0 ha (by decide)).1, (bits64 _ (a &&& 0) hlt (by simp)).2]
      rw [show a % 2 ^ (min i 64) ||| a &&& 0 = a % 2 ^ (min (i + 1) 64) by simp; rw [show min i 64 = min (i + 1) 64 by omega]]
      exact ih k (i + 1) (by omega) (by omega)
theorem spec_l1Cut_eq (n a : Nat) (hn : n ≤ 4611686018427387904) (ha : a < 2 ^ 64) (k : Nat) (hk : n < k) : spec_l1Cut.f k (n : Int) (a : Int) = some ((a % 2 ^ (min n 64) : Nat) : Int) := by
  have := spec_l1Cut_loop n a hn ha n k 0 (by omega) hk
  simpa [spec_l1Cut.f, Nat.mod_one] using this
theorem xor_all (a : Nat) (h : a < 2 ^ 64) : Go.bits .xor .u64 18446744073709551615 (a : Int) = ((18446744073709551615 - a : Nat) : Int) := by
  have e : (BitVec.ofInt 64 18446744073709551615 ^^^ BitVec.ofInt 64 (a : Int)).toNat = 18446744073709551615 - a := by
    rw [show BitVec.ofInt 64 18446744073709551615 = BitVec.allOnes 64 by decide, BitVec.allOnes_xor, BitVec.toNat_not, BitVec.ofInt_natCast, BitVec.toNat_ofNat, Nat.mod_eq_of_lt h]
  show IntKind.u64.wrap (((BitVec.ofInt 64 18446744073709551615 ^^^ BitVec.ofInt 64 (a : Int)).toNat : Nat) : Int) = _
  rw [e]
  simp [IntKind.wrap, IntKind.bits, IntKind.signed]
  omega
def top (wide : Int) : Int := 2 ^ wide.toNat - 1
theorem top_in {wide : Int} (h : 1 ≤ wide ∧ wide ≤ 64) : 1 ≤ top wide ∧ top wide ≤ 18446744073709551615 := by
  obtain ⟨n, rfl⟩ := Int.eq_ofNat_of_zero_le (show 0 ≤ wide by omega)
  have h1 := pow_le64 (n := n) (by omega)
  have h2 : (2 : Nat) ^ 1 ≤ 2 ^ n := Nat.pow_le_pow_right (by decide) (by omega)
  have e : ((2 : Int) ^ n) = ((2 ^ n : Nat) : Int) := by simp
  simp only [top, Int.toNat_natCast, e]
  omega
theorem cut_not (wide a : Int) (hw : 1 ≤ wide ∧ wide ≤ 64) (h0 : 0 ≤ a) (h1 : a ≤ top wide) (k : Nat) (hk : 64 < k) : spec_l1Cut.f k wide (Go.bits .xor .u64 18446744073709551615 a) = some (top wide - a) := by
  obtain ⟨n, rfl⟩ := Int.eq_ofNat_of_zero_le (show 0 ≤ wide by omega)
  obtain ⟨m, rfl⟩ := Int.eq_ofNat_of_zero_le h0
  have e : ((2 : Int) ^ n) = ((2 ^ n : Nat) : Int) := by simp
  simp only [top, Int.toNat_natCast, e] at h1 ⊢
  have h2 := pow_le64 (n := n) (by omega)
  have hm : m < 2 ^ 64 := by simp; omega
  rw [xor_all m hm, spec_l1Cut_eq n _ (by omega) (by simp; omega) k (by omega), show min n 64 = n by omega]
  have hp : (2 : Nat) ^ n * 2 ^ (64 - n) = 18446744073709551616 := by rw [← Nat.pow_add, show n + (64 - n) = 64 by omega]
  have hq : 0 < (2 : Nat) ^ (64 - n) := Nat.two_pow_pos _
  have : 18446744073709551615 - m = (2 ^ n - 1 - m) + 2 ^ n * (2 ^ (64 - n) - 1) := by
    rw [Nat.mul_sub, hp, Nat.mul_one]
    omega
  rw [this, Nat.add_mul_mod_self_left, Nat.mod_eq_of_lt (by omega)]
  congr 1
  omega
theorem cut_all (wide : Int) (hw : 1 ≤ wide ∧ wide ≤ 64) (k : Nat) (hk : 64 < k) : spec_l1Cut.f k wide 18446744073709551615 = some (top wide) := by
  have := cut_not wide 0 hw (by omega) (by have := top_in hw; omega) k hk
  rw [show (0 : Int) = ((0 : Nat) : Int) from rfl, xor_all 0 (by decide)] at this
  simpa using this
theorem bits_Mul64_eq (x y : Int) (hx : U64 x) (hy : U64 y) : bits_Mul64.f x y = some (x * y / 18446744073709551616, x * y % 18446744073709551616) := by
  unfold bits_Mul64.f
  have h1 : ∀ z, 0 ≤ z → z < 18446744073709551616 → Go.bits .and .u64 z 4294967295 = z % 4294967296 := fun z a b => Go.and_low32 z a b
  have := Go.mul64_arith x y hx.1 hx.2 hy.1 hy.2
  rw [h1 x hx.1 hx.2, h1 y hy.1 hy.2]
  simp only [wrapU64_mod]
  rw [h1 _ (Int.emod_nonneg _ (by decide)) (Int.emod_lt_of_pos _ (by decide)), this]
def goodWord (wide a : Int) : Bool := decide (1 ≤ wide) && decide (wide ≤ 64) && decide (a < 2 ^ wide.toNat)
theorem spec_GoodWord_eq (wide a : Int) (h0 : 0 ≤ a) (h1 : a < 18446744073709551616) (k : Nat) (hk : 64 < k) : spec_GoodWord.f k wide a = some (goodWord wide a) := by
  unfold spec_GoodWord.f spec_l1Wide.f spec_l1In.f goodWord
  by_cases h2 : wide ≥ 1
  · by_cases h3 : wide ≤ 64
    · obtain ⟨n, rfl⟩ := Int.eq_ofNat_of_zero_le (show 0 ≤ wide by omega)
      obtain ⟨m, rfl⟩ := Int.eq_ofNat_of_zero_le h0
      have hm : m < 2 ^ 64 := by simpa using (show m < 18446744073709551616 by omega)
      rw [if_pos h2]
      simp only [Option.bind_some, h3, decide_true, if_true]
      rw [spec_l1Cut_eq n m (by omega) hm k (by omega), show min n 64 = n by omega]
      have hiff : ((((m % 2 ^ n : Nat) : Int) == ((m : Nat) : Int)) : Bool) = decide (((m : Nat) : Int) < 2 ^ n) := by
        rw [Bool.eq_iff_iff]
        have : (((m : Nat) : Int) < 2 ^ n) ↔ m < 2 ^ n := by
          constructor
          · intro h; exact_mod_cast h
          · intro h; exact_mod_cast h
        simp only [beq_iff_eq, decide_eq_true_eq, this]
        constructor
        · intro h
          have h' : m % 2 ^ n = m := by exact_mod_cast h
          rw [← h']
          exact Nat.mod_lt _ (Nat.two_pow_pos _)
        · intro h
          rw [Nat.mod_eq_of_lt h]
      simp only [Option.bind_some, hiff, Int.toNat_natCast, h2, ge_iff_le, decide_true, Bool.true_and]
    · rw [if_pos h2]
      simp [h3]
  · rw [if_neg h2]
    simp [show ¬ (1 : Int) ≤ wide from h2]
theorem impl_GoodWord_eq (wide a : Int) (h0 : 0 ≤ a) (h1 : a < 18446744073709551616) : impl_GoodWord.f wide a = some (goodWord wide a) := by
  unfold impl_GoodWord.f impl_isWide.f goodWord
  by_cases h2 : wide ≥ 1
  · by_cases h3 : wide ≤ 64
    · obtain ⟨n, rfl⟩ := Int.eq_ofNat_of_zero_le (show 0 ≤ wide by omega)
      rw [if_pos h2]
      simp only [Option.bind_some, h3, decide_true, if_true]
      have hm : impl_mask.f (n : Int) = some (((2 ^ n - 1 : Nat)) : Int) := by
        unfold impl_mask.f
        rw [mask_eq n (by omega) (by omega), if_pos (by rw [wrap64_in (by omega) (by omega)]; omega)]
      rw [hm]
      have hiff : decide (a ≤ ((2 ^ n - 1 : Nat) : Int)) = decide (a < 2 ^ n) := by
        have hp : 0 < (2 : Nat) ^ n := Nat.two_pow_pos _
        have e : ((2 : Int) ^ n) = ((2 ^ n : Nat) : Int) := by simp
        rw [e]
        apply decide_eq_decide.mpr
        omega
      simp only [Option.bind_some, hiff, Int.toNat_natCast]
      simp [show (1 : Int) ≤ (n : Int) from h2]
    · rw [if_pos h2]
      simp [h3]
  · rw [if_neg h2]
    simp [show ¬ (1 : Int) ≤ wide from h2]
theorem impl_mask_eq (wide : Int) (hw : 1 ≤ wide ∧ wide ≤ 64) : impl_mask.f wide = some (top wide) := by
  obtain ⟨n, rfl⟩ := Int.eq_ofNat_of_zero_le (show 0 ≤ wide by omega)
  unfold impl_mask.f
  have hp : 0 < (2 : Nat) ^ n := Nat.two_pow_pos _
  have e : ((2 : Int) ^ n) = ((2 ^ n : Nat) : Int) := by simp
  rw [mask_eq n (by omega) (by omega), if_pos (by rw [wrap64_in (by omega) (by omega)]; omega)]
  simp only [top, Int.toNat_natCast, e]
  congr 1
  omega
theorem goodWord_iff {wide a : Int} : goodWord wide a = true ↔ 1 ≤ wide ∧ wide ≤ 64 ∧ a ≤ top wide := by
  simp only [goodWord, Bool.and_eq_true, decide_eq_true_eq, top]
  omega
def goodSpan (wide lo hi : Int) : Bool := goodWord wide hi && decide (lo ≤ hi)
theorem spec_GoodSpan_eq (wide lo hi : Int) (h0 : 0 ≤ lo) (h1 : lo < 18446744073709551616) (h2 : 0 ≤ hi) (h3 : hi < 18446744073709551616) (k : Nat) (hk : 64 < k) : spec_GoodSpan.f k wide lo hi = some (goodSpan wide lo hi) := by
  unfold spec_GoodSpan.f spec_l1Both.f goodSpan
  rw [spec_GoodWord_eq wide lo h0 h1 k hk, spec_GoodWord_eq wide hi h2 h3 k hk]
  cases e1 : goodWord wide lo with
  | true => cases e2 : goodWord wide hi <;> simp
  | false =>
    cases e2 : goodWord wide hi with
    | false => simp
    | true =>
      simp only [goodWord, Bool.and_eq_true, decide_eq_true_eq, Bool.and_eq_false_iff, decide_eq_false_iff_not] at e1 e2
      have : ¬ lo ≤ hi := by
        intro hle
        rcases e1 with (h | h) | h
        · omega
        · omega
        · exact h (Int.lt_of_le_of_lt hle e2.2)
      simp [this]
theorem impl_GoodSpan_eq (wide lo hi : Int) (h0 : 0 ≤ lo) (h1 : lo < 18446744073709551616) (h2 : 0 ≤ hi) (h3 : hi < 18446744073709551616) : impl_GoodSpan.f wide lo hi = some (goodSpan wide lo hi) := by
  unfold impl_GoodSpan.f goodSpan
  rw [impl_GoodWord_eq wide hi h2 h3]
  cases e2 : goodWord wide hi <;> simp
theorem laws_toSpanS_eq (l : List S24) (hl : l.length ≤ 1048576) (k : Nat) (hk : l.length < k) : laws_toSpanS.f k l = some (l.map fun x => (⟨x.f0, x.f1⟩ : S26)) := by
  unfold laws_toSpanS.f
  rw [if_pos (by omega), if_pos (by simp only [Int.toNat_natCast]; omega)]
  exact loop_map l (fun x => (⟨x.f0, x.f1⟩ : S26)) (fun k x i => laws_toSpanS.l0 k l x i) 0 (fun k i h x _ hx => by
    simp only [laws_toSpanS.l0, laws_toSpan.f, rd_T24]
    rw [if_pos (by omega), if_pos (by omega), getD_at l _ i h]
    simp only [Option.bind_some]
    rw [if_pos (by omega), up1 i (by omega), Int.toNat_natCast]) (fun k x _ hx => by
    simp only [laws_toSpanS.l0]
    rw [if_neg (by omega)]) k (by omega) _ (by simp)
theorem laws_szSpanS_eq (l : List S24) (hm : l.length ≤ 9223372036854775807) (n : Int) (h0 : 0 ≤ n) (h1 : n ≤ 1048576) : laws_szSpanS.f l n = some (if n - (l.length : Int) < 0 then -1 else n - (l.length : Int)) := by
  unfold laws_szSpanS.f
  rw [wrap64_in (by omega) (by omega)]
  split <;> rfl
theorem laws_eqSpanS_self (l : List S26) (hl : l.length ≤ 1048576) (k : Nat) (hk : l.length < k) : laws_eqSpanS.f k l l = some true := by
  unfold laws_eqSpanS.f
  rw [if_pos rfl]
  have := loop_all l (fun _ => true) true false (fun k i => laws_eqSpanS.l0 k l l i) 0 (fun k i h _ => by
    simp only [laws_eqSpanS.l0, laws_eqSpan.f]
    rw [if_pos (by omega), if_pos (by omega), if_pos (by omega), up1 i (by omega)]
    simp) (fun k _ => by
    simp only [laws_eqSpanS.l0]
    rw [if_neg (by omega)]) k (by omega)
  simpa using this
def nodeOf (x : S163) : S161 := ⟨x.f0, x.f1⟩
theorem laws_toNodeS_eq (l : List S163) (hl : l.length ≤ 1048576) (k : Nat) (hk : l.length < k) : laws_toNodeS.f k l = some (l.map nodeOf) := by
  unfold laws_toNodeS.f
  rw [if_pos (by omega), if_pos (by simp only [Int.toNat_natCast]; omega)]
  exact loop_map l nodeOf (fun k x i => laws_toNodeS.l0 k l x i) 0 (fun k i h x _ hx => by
    simp only [laws_toNodeS.l0, laws_toNode.f, rd_T163]
    rw [if_pos (by omega), if_pos (by omega), getD_at l _ i h]
    simp only [Option.bind_some]
    rw [if_pos (by omega), up1 i (by omega), Int.toNat_natCast]
    rfl) (fun k x _ hx => by
    simp only [laws_toNodeS.l0]
    rw [if_neg (by omega)]) k (by omega) _ (by simp)
theorem laws_szNodeS_eq (l : List S163) (hm : l.length ≤ 9223372036854775807) (n : Int) (h0 : 0 ≤ n) (h1 : n ≤ 1048576) : laws_szNodeS.f l n = some (if n - (l.length : Int) < 0 then -1 else n - (l.length : Int)) := by
  unfold laws_szNodeS.f
  rw [wrap64_in (by omega) (by omega)]
  split <;> rfl
theorem nodeOf_ok {l : List S163} (hw : ∀ x ∈ l, Wf163 x) (x : S161) (hx : x ∈ l.map nodeOf) : U64 x.f1 := by
  obtain ⟨z, hz, rfl⟩ := List.mem_map.1 hx
  exact wfU64 (hw z hz).2
theorem laws_eqNodeS_self (l : List S161) (hl : l.length ≤ 1048576) (k : Nat) (hk : l.length < k) : laws_eqNodeS.f k l l = some true := by
  unfold laws_eqNodeS.f
  rw [if_pos rfl]
  have := loop_all l (fun _ => true) true false (fun k i => laws_eqNodeS.l0 k l l i) 0 (fun k i h _ => by
    simp only [laws_eqNodeS.l0, laws_eqNode.f]
    rw [if_pos (by omega), if_pos (by omega), if_pos (by omega), up1 i (by omega)]
    simp) (fun k _ => by
    simp only [laws_eqNodeS.l0]
    rw [if_neg (by omega)]) k (by omega)
  simpa using this
def spansOk (wide : Int) (l : List S26) : Bool := decide (1 ≤ l.length ∧ l.length ≤ 4) && l.all fun s => goodSpan wide s.f0 s.f1
theorem spec_l18Spans_eq (wide : Int) (l : List S26) (hl : l.length ≤ 1048576) (hw : ∀ s ∈ l, U64 s.f0 ∧ U64 s.f1) (k : Nat) (hk : 65 + l.length < k) : spec_l18Spans.f k wide l = some (spansOk wide l) := by
  unfold spec_l18Spans.f spansOk spec_l1In.f
  have := loop_all l (fun s => goodSpan wide s.f0 s.f1) true false (fun k i => spec_l18Spans.l0 k wide l (l.length : Int) i) 65 (fun k i h hk => by
    simp only [spec_l18Spans.l0, rd_T26]
    have hs := hw _ (List.getElem_mem h)
    rw [if_pos (by omega), if_pos (by omega), if_pos (by omega), getD_at l _ i h, spec_GoodSpan_eq wide _ _ hs.1.1 hs.1.2 hs.2.1 hs.2.2 k (by omega)]
    simp only [Option.bind_some]
    rw [up1 i (by omega)]) (fun k _ => by
    simp only [spec_l18Spans.l0]
    rw [if_neg (by omega)]) k (by omega)
  by_cases h1 : (l.length : Int) ≥ 1
  · rw [if_pos h1]
    by_cases h2 : (l.length : Int) ≤ 4
    · simp only [Option.bind_some, h2, decide_true, if_true]
      rw [this]
      have h3 : (1 ≤ l.length ∧ l.length ≤ 4) := by omega
      simp only [h3, and_self, decide_true, Bool.true_and]
      cases l.all fun s => goodSpan wide s.f0 s.f1 <;> rfl
    · have : ¬ (1 ≤ l.length ∧ l.length ≤ 4) := by omega
      simp [h2, this]
  · rw [if_neg h1]
    have : ¬ (1 ≤ l.length ∧ l.length ≤ 4) := by omega
    simp [this]
theorem impl_areSpans_eq (wide : Int) (l : List S26) (hl : l.length ≤ 1048576) (hw : ∀ s ∈ l, U64 s.f0 ∧ U64 s.f1) (k : Nat) (hk : l.length < k) : impl_areSpans.f k wide l = some (spansOk wide l) := by
  unfold impl_areSpans.f impl_isVars.f slices_ContainsFunc_of_impl_areSpans_1.f slices_IndexFunc_of_impl_areSpans_1.f spansOk
  have := loop_find l (fun s => !goodSpan wide s.f0 s.f1) (fun k i => slices_IndexFunc_of_impl_areSpans_1.l0 k l (l.length : Int) i wide) 0 (fun k i h _ => by
    simp only [slices_IndexFunc_of_impl_areSpans_1.l0, rd_T26, impl_areSpans_1.f]
    have hs := hw _ (List.getElem_mem h)
    rw [if_pos (by omega), if_pos (by omega), if_pos (by omega), getD_at l _ i h, impl_GoodSpan_eq wide _ _ hs.1.1 hs.1.2 hs.2.1 hs.2.2]
    simp only [Option.bind_some]
    rw [up1 i (by omega)]) (fun k _ => by
    simp only [slices_IndexFunc_of_impl_areSpans_1.l0]
    rw [if_neg (by omega)]) k (by omega)
  rw [this]
  simp only [Option.bind_some, find_nonneg]
  have hn : (!l.any fun s => !goodSpan wide s.f0 s.f1) = l.all fun s => goodSpan wide s.f0 s.f1 := by rw [List.not_any_eq_all_not]; simp
  by_cases h1 : (l.length : Int) ≥ 1
  · rw [if_pos h1]
    by_cases h2 : (l.length : Int) ≤ 4
    · have : (1 ≤ l.length ∧ l.length ≤ 4) := by omega
      simp only [Option.bind_some, h2, decide_true, if_true, hn, this, and_self, Bool.true_and]
    · have : ¬ (1 ≤ l.length ∧ l.length ≤ 4) := by omega
      simp [h2, this]
  · rw [if_neg h1]
    have : ¬ (1 ≤ l.length ∧ l.length ≤ 4) := by omega
    simp [this]
def need (op : Int) : Int × Int × Int :=
  if op = 1 ∨ op = 2 then (0, 1, 1) else if op = 20 then (0, 2, 2) else if op = 13 then (1, 1, 1) else if op = 19 then (1, 2, 2)
  else if 3 ≤ op ∧ op ≤ 12 then (2, 1, 1) else if 14 ≤ op ∧ op ≤ 16 then (2, 1, 2) else if op = 17 ∨ op = 18 then (2, 2, 2) else (0, 0, 0)
theorem need_cases (op : Int) : need op = (0, 1, 1) ∨ need op = (0, 2, 2) ∨ need op = (1, 1, 1) ∨ need op = (1, 2, 2) ∨ need op = (2, 1, 1) ∨ need op = (2, 1, 2) ∨ need op = (2, 2, 2) ∨ need op = (0, 0, 0) := by
  unfold need
  repeat' split
  all_goals simp
theorem spec_l2Need_eq (op : Int) (k : Nat) (hk : 1 ≤ k) : spec_l2Need.f k op = some (need op) := by
  obtain ⟨k, rfl⟩ : ∃ m, k = m + 1 := ⟨k - 1, by omega⟩
  unfold spec_l2Need.f need
  simp only [spec_l2Need.j0, spec_l1In.f]
  by_cases h1 : op = 1
  · simp [h1]
  · by_cases h2 : op = 2
    · simp [h2]
    · by_cases h3 : op = 20
      · simp [h3]
      · by_cases h4 : op = 13
        · simp [h4]
        · by_cases h5 : op = 19
          · simp [h5]
          · by_cases h6 : 3 ≤ op
            · by_cases h7 : op ≤ 12
              · simp [h1, h2, h3, h4, h5, h6, h7]
              · by_cases h8 : 14 ≤ op
                · by_cases h9 : op ≤ 16
                  · simp [h1, h2, h3, h4, h5, h6, h7, h8, h9]
                  · by_cases h10 : op = 17
                    · simp [h10]
                    · by_cases h11 : op = 18
                      · simp [h11]
                      · simp [h1, h2, h3, h4, h5, h6, h7, h8, h9, h10, h11]
                · have h10 : ¬ op = 17 := by omega
                  have h11 : ¬ op = 18 := by omega
                  simp [h1, h2, h3, h4, h5, h6, h7, h8, h10, h11]
            · have h8 : ¬ 14 ≤ op := by omega
              have h10 : ¬ op = 17 := by omega
              have h11 : ¬ op = 18 := by omega
              simp [h1, h2, h3, h4, h5, h6, h8, h10, h11]
def needI (op : Int) : Int × Int × Int := if op = 1 ∨ op = 2 then (0, 0, 1) else if op = 20 then (0, 0, 2) else need op
theorem impl_operandsOf_eq (op : Int) (k : Nat) (hk : 3 ≤ k) : impl_operandsOf.f k op = some (needI op) := by
  obtain ⟨k, rfl⟩ : ∃ m, k = m + 3 := ⟨k - 3, by omega⟩
  unfold impl_operandsOf.f needI need
  simp only [impl_operandsOf.j0, impl_operandsOf.j1, impl_operandsOf.j2]
  by_cases h1 : op = 1
  · simp [h1]
  · by_cases h2 : op = 2
    · simp [h2]
    · by_cases h3 : op = 20
      · simp [h3]
      · by_cases h4 : op = 13
        · simp [h4]
        · by_cases h5 : op = 19
          · simp [h5]
          · by_cases h6 : 3 ≤ op
            · by_cases h7 : op ≤ 12
              · simp [h1, h2, h3, h4, h5, h6, h7]
              · by_cases h8 : 14 ≤ op
                · by_cases h9 : op ≤ 16
                  · simp [h1, h2, h3, h4, h5, h6, h7, h8, h9]
                  · by_cases h10 : op = 17
                    · simp [h10]
                    · by_cases h11 : op = 18
                      · simp [h11]
                      · simp [h1, h2, h3, h4, h5, h6, h7, h8, h9, h10, h11]
                · have h10 : ¬ op = 17 := by omega
                  have h11 : ¬ op = 18 := by omega
                  simp [h1, h2, h3, h4, h5, h6, h7, h8, h10, h11]
            · have h8 : ¬ 14 ≤ op := by omega
              have h10 : ¬ op = 17 := by omega
              have h11 : ¬ op = 18 := by omega
              simp [h1, h2, h3, h4, h5, h6, h8, h10, h11]
theorem needI_parts (op : Int) : (needI op).1 = (need op).1 ∧ (needI op).2.2 = (need op).2.2 ∧ ((need op).1 = 0 ∨ (needI op).2.1 = (need op).2.1) := by
  unfold needI
  by_cases h1 : op = 1 ∨ op = 2
  · simp [need, h1]
  · by_cases h2 : op = 20
    · simp [need, h2]
    · simp [h1, h2]
def leafOk (wide vars op n : Int) : Bool := if op = 1 then goodWord wide n else if op = 2 then decide (n < vars) else if op = 20 then decide (n < 2) else n == 0
theorem spec_l2N_eq (wide vars op n : Int) (hv : 0 ≤ vars ∧ vars ≤ 4) (h0 : 0 ≤ n) (h1 : n < 18446744073709551616) (k : Nat) (hk : 64 < k) : spec_l2N.f k wide vars op n = some (leafOk wide vars op n) := by
  unfold spec_l2N.f leafOk
  rw [spec_GoodWord_eq wide n h0 h1 k hk, wrapU64_in (by omega) (by omega)]
  by_cases a1 : op = 1
  · simp [a1]
  · by_cases a2 : op = 2
    · simp [a2]
    · by_cases a3 : op = 20
      · simp [a3]
      · simp [a1, a2, a3]
theorem impl_isLeafRight_eq (wide vars op n : Int) (hv : 0 ≤ vars ∧ vars ≤ 4) (h0 : 0 ≤ n) (h1 : n < 18446744073709551616) : impl_isLeafRight.f wide vars op n = some (leafOk wide vars op n) := by
  unfold impl_isLeafRight.f leafOk
  rw [impl_GoodWord_eq wide n h0 h1, wrapU64_in (by omega) (by omega)]
  by_cases a1 : op = 1
  · simp [a1]
  · by_cases a2 : op = 2
    · simp [a2]
    · by_cases a3 : op = 20
      · simp [a3]
        omega
      · simp [a1, a2, a3]
def kstep (wide vars : Int) (st : List Int) (x : S161) : Option (List Int) :=
  if (need x.f0).2.2 = 0 then none else if leafOk wide vars x.f0 x.f1 = true then
    (if (st.length : Int) < (need x.f0).1 then none else if (st.drop (st.length - (need x.f0).1.toNat)).all (fun y => y == (need x.f0).2.1) = true then some (st.take (st.length - (need x.f0).1.toNat) ++ [(need x.f0).2.2]) else none)
  else none
def kfold (wide vars : Int) : List S161 → List Int → Option (List Int)
  | [], st => some st
  | x :: xs, st => (kstep wide vars st x).bind (kfold wide vars xs)
def kindT (wide vars : Int) (t : List S161) : Int :=
  if 1 ≤ wide ∧ wide ≤ 64 ∧ 1 ≤ vars ∧ vars ≤ 4 ∧ 1 ≤ t.length ∧ t.length ≤ 48 then (match kfold wide vars t [] with | some [a] => a | _ => 0) else 0
theorem spec_l2Kind_l1 (wide vars part own n i : Int) (t : List S161) (m : Nat) : ∀ (k : Nat) (st : List Int), m ≤ st.length → st.length < 1000 →
    spec_l2Kind.l1 (k + m + 1) wide vars st (m : Int) part own t n i = if (st.drop (st.length - m)).all (fun y => y == part) = true then spec_l2Kind.l0 k wide vars (st.take (st.length - m) ++ [own]) t n (wrap64 (i + 1)) else some 0 := by
  induction m with
  | zero =>
    intro k st hm hs
    simp only [Nat.add_zero, spec_l2Kind.l1]
    rw [if_neg (by omega), if_pos (by omega)]
    simp
  | succ m ih =>
    intro k st hm hs
    rcases List.eq_nil_or_concat st with rfl | ⟨st', a, rfl⟩
    · simp at hm
    · rw [List.concat_eq_append] at *
      rw [show k + (m + 1) + 1 = (k + m + 1) + 1 by omega]
      generalize hK : k + m + 1 = K
      simp only [spec_l2Kind.l1, List.length_append, List.length_singleton] at hm hs ⊢
      have e1 : wrap64 (((st'.length + 1 : Nat) : Int) - 1) = (st'.length : Int) := by rw [wrap64_in (by omega) (by omega)]; omega
      have e2 : wrap64 (((m + 1 : Nat) : Int) - 1) = (m : Int) := by rw [wrap64_in (by omega) (by omega)]; omega
      have e3 : rd (st' ++ [a]) (st'.length : Int) = a := by
        rw [rd_at _ _ (by simp)]
        simp
      have e4 : (st' ++ [a]).take st'.length = st' := List.take_left' rfl
      rw [e1, e2, e3, if_pos (by omega), if_pos (by omega), if_pos (by omega), if_pos (show (st'.length : Int) ≤ ((st'.length + 1 : Nat) : Int) by omega), Int.toNat_natCast, e4,
        show st'.length + 1 - (m + 1) = st'.length - m by omega, List.drop_append_of_le_length (by omega), List.all_append, List.take_append_of_le_length (by omega)]
      by_cases ha : a = part
      · rw [if_pos ha, ← hK, ih k st' (by omega) (by omega)]
        simp [ha]
      · rw [if_neg ha]
        simp [ha]
theorem spec_l2Kind_l0 (wide vars : Int) (t : List S161) (ht : t.length ≤ 48) (hv : 0 ≤ vars ∧ vars ≤ 4) (hw : ∀ x ∈ t, U64 x.f1) (d : Nat) : ∀ (i k : Nat) (st : List Int), i + d = t.length → 100 + 5 * d ≤ k → st.length ≤ i →
    spec_l2Kind.l0 k wide vars st t (t.length : Int) (i : Int) = some (match kfold wide vars (t.drop i) st with | some [a] => a | _ => 0) := by
  induction d with
  | zero =>
    intro i k st hi hk hs
    obtain ⟨k, rfl⟩ : ∃ m, k = m + 1 := ⟨k - 1, by omega⟩
    simp only [spec_l2Kind.l0]
    rw [if_neg (by omega), List.drop_of_length_le (by omega)]
    simp only [kfold]
    match st with
    | [] => simp
    | [a] => simp [rd]
    | a :: b :: st =>
      simp
      intro h
      omega
  | succ d ih =>
    intro i k st hi hk hs
    obtain ⟨k, rfl⟩ : ∃ m, k = m + 5 := ⟨k - 5, by omega⟩
    have hlt : i < t.length := by omega
    have hx := hw _ (List.getElem_mem hlt)
    simp only [spec_l2Kind.l0]
    rw [if_pos (by omega), if_pos (by omega), if_pos (by omega), show rd_T161 t (i : Int) = t[i] from getD_at t _ i hlt, spec_l2Need_eq _ _ (by omega), List.drop_eq_getElem_cons hlt]
    simp only [Option.bind_some, kfold, kstep]
    rw [spec_l2N_eq wide vars _ _ hv hx.1 hx.2 _ (by omega)]
    by_cases h0 : (need t[i].f0).2.2 = 0
    · simp [h0, spec_l2Kind.j2]
    · simp only [if_neg h0, Option.bind_some]
      cases hl : leafOk wide vars t[i].f0 t[i].f1 with
      | false => simp [spec_l2Kind.j2]
      | true =>
        simp only [if_true, spec_l2Kind.j2]
        by_cases hn : (st.length : Int) < (need t[i].f0).1
        · simp [hn]
        · simp only [hn, decide_false, if_false, Bool.false_eq_true]
          obtain ⟨m, hm⟩ : ∃ m : Nat, (need t[i].f0).1 = (m : Int) ∧ m ≤ 2 := by
            rcases need_cases t[i].f0 with h | h | h | h | h | h | h | h <;> rw [h]
            · exact ⟨0, rfl, by omega⟩
            · exact ⟨0, rfl, by omega⟩
            · exact ⟨1, rfl, by omega⟩
            · exact ⟨1, rfl, by omega⟩
            · exact ⟨2, rfl, by omega⟩
            · exact ⟨2, rfl, by omega⟩
            · exact ⟨2, rfl, by omega⟩
            · exact ⟨0, rfl, by omega⟩
          rw [hm.1] at hn ⊢
          rw [Int.toNat_natCast, show k + 3 = (k + 2 - m) + m + 1 by omega, spec_l2Kind_l1 wide vars _ _ _ _ t m _ st (by omega) (by omega)]
          by_cases ha : (st.drop (st.length - m)).all (fun y => y == (need t[i].f0).2.1) = true
          · rw [if_pos ha, if_pos ha, up1 i (by omega)]
            rw [ih (i + 1) _ _ (by omega) (by omega) (by simp; omega)]
            rfl
          · rw [if_neg ha, if_neg ha]
            rfl
theorem spec_l2Kind_eq (wide vars : Int) (t : List S161) (hw : ∀ x ∈ t, U64 x.f1) (k : Nat) (hk : 400 ≤ k) : spec_l2Kind.f k wide vars t = some (kindT wide vars t) := by
  obtain ⟨k, rfl⟩ : ∃ m, k = m + 1 := ⟨k - 1, by omega⟩
  unfold spec_l2Kind.f spec_l1Wide.f spec_l1In.f kindT
  simp only [spec_l2Kind.j0]
  by_cases h1 : wide ≥ 1
  · by_cases h2 : wide ≤ 64
    · by_cases h3 : vars ≥ 1
      · by_cases h4 : vars ≤ 4
        · by_cases h5 : (t.length : Int) ≥ 1
          · by_cases h6 : (t.length : Int) ≤ 48
            · have hc : 1 ≤ wide ∧ wide ≤ 64 ∧ 1 ≤ vars ∧ vars ≤ 4 ∧ 1 ≤ t.length ∧ t.length ≤ 48 := by omega
              have := spec_l2Kind_l0 wide vars t (by omega) (by omega) hw t.length 0 k [] (by omega) (by omega) (by simp)
              rw [if_pos hc]
              simpa [h1, h2, h3, h4, h5, h6] using this
            · have hc : ¬ (1 ≤ wide ∧ wide ≤ 64 ∧ 1 ≤ vars ∧ vars ≤ 4 ∧ 1 ≤ t.length ∧ t.length ≤ 48) := by omega
              rw [if_neg hc]
              simp [h1, h2, h3, h4, h5, h6]
          · have hc : ¬ (1 ≤ wide ∧ wide ≤ 64 ∧ 1 ≤ vars ∧ vars ≤ 4 ∧ 1 ≤ t.length ∧ t.length ≤ 48) := by omega
            rw [if_neg hc]
            simp [h1, h2, h3, h4, h5]
        · have hc : ¬ (1 ≤ wide ∧ wide ≤ 64 ∧ 1 ≤ vars ∧ vars ≤ 4 ∧ 1 ≤ t.length ∧ t.length ≤ 48) := by omega
          rw [if_neg hc]
          simp [h1, h2, h3, h4]
      · have hc : ¬ (1 ≤ wide ∧ wide ≤ 64 ∧ 1 ≤ vars ∧ vars ≤ 4 ∧ 1 ≤ t.length ∧ t.length ≤ 48) := by omega
        rw [if_neg hc]
        simp [h1, h2, h3]
    · have hc : ¬ (1 ≤ wide ∧ wide ≤ 64 ∧ 1 ≤ vars ∧ vars ≤ 4 ∧ 1 ≤ t.length ∧ t.length ≤ 48) := by omega
      rw [if_neg hc]
      simp [h1, h2]
  · have hc : ¬ (1 ≤ wide ∧ wide ≤ 64 ∧ 1 ≤ vars ∧ vars ≤ 4 ∧ 1 ≤ t.length ∧ t.length ≤ 48) := by omega
    rw [if_neg hc]
    simp [h1]
theorem kindT_in' {wide vars : Int} {t : List S161} (h : kindT wide vars t ≠ 0) : 1 ≤ wide ∧ wide ≤ 64 ∧ 1 ≤ vars ∧ vars ≤ 4 ∧ 1 ≤ t.length ∧ t.length ≤ 48 := by
  unfold kindT at h
  split at h
  · assumption
  · exact absurd rfl h
theorem slices_ContainsFunc_of_impl_GoodTerm_1_eq (l : List Int) (a : Int) (hl : l.length ≤ 1000) (k : Nat) (hk : 1000 < k) : slices_ContainsFunc_of_impl_GoodTerm_1.f k l a = some (l.any fun y => y != a) := by
  unfold slices_ContainsFunc_of_impl_GoodTerm_1.f slices_IndexFunc_of_impl_GoodTerm_1.f
  have := loop_find l (fun y => y != a) (fun k i => slices_IndexFunc_of_impl_GoodTerm_1.l0 k l (l.length : Int) i a) 0 (fun k i h _ => by
    simp only [slices_IndexFunc_of_impl_GoodTerm_1.l0, impl_GoodTerm_1.f]
    rw [if_pos (by omega), if_pos (by omega), if_pos (by omega), rd_at l i h, up1 i (by omega)]
    simp only [Option.bind_some]) (fun k _ => by
    simp only [slices_IndexFunc_of_impl_GoodTerm_1.l0]
    rw [if_neg (by omega)]) k (by omega)
  rw [this]
  simp only [Option.bind_some, find_nonneg]
theorem kfold_last (wide vars : Int) : ∀ (xs : List S161) (st r : List Int), kfold wide vars xs st = some r → ∀ h : xs ≠ [], (∃ r', r = r' ++ [(need (xs.getLast h).f0).2.2]) ∧ (need (xs.getLast h).f0).2.2 ≠ 0 := by
  intro xs
  induction xs with
  | nil => intro st r _ h; exact absurd rfl h
  | cons x xs ih =>
    intro st r hr h
    simp only [kfold, Option.bind_eq_some_iff] at hr
    obtain ⟨s, h1, h2⟩ := hr
    cases xs with
    | nil =>
      simp only [kfold, Option.some.injEq] at h2
      subst h2
      simp only [List.getLast_singleton]
      unfold kstep at h1
      split at h1
      · simp at h1
      · rename_i hne
        split at h1
        · split at h1
          · simp at h1
          · split at h1
            · simp only [Option.some.injEq] at h1
              exact ⟨⟨_, h1.symm⟩, hne⟩
            · simp at h1
        · simp at h1
    | cons y ys =>
      have := ih s r h2 (by simp)
      rwa [List.getLast_cons (by simp)]
theorem impl_GoodTerm_l0 (wide vars : Int) (t : List S161) (ht : t.length ≤ 48) (hv : 0 ≤ vars ∧ vars ≤ 4) (hw : ∀ x ∈ t, U64 x.f1) (d : Nat) : ∀ (i k : Nat) (st : List Int), i + d = t.length → 1010 + d ≤ k → st.length ≤ i →
    impl_GoodTerm.l0 k wide vars st t (t.length : Int) (i : Int) = some (match kfold wide vars (t.drop i) st with | some s => (s.length : Int) == 1 | none => false) := by
  induction d with
  | zero =>
    intro i k st hi hk hs
    obtain ⟨k, rfl⟩ : ∃ m, k = m + 1 := ⟨k - 1, by omega⟩
    simp only [impl_GoodTerm.l0]
    rw [if_neg (by omega), List.drop_of_length_le (by omega)]
    simp only [kfold]
  | succ d ih =>
    intro i k st hi hk hs
    obtain ⟨k, rfl⟩ : ∃ m, k = m + 1 := ⟨k - 1, by omega⟩
    have hlt : i < t.length := by omega
    have hx := hw _ (List.getElem_mem hlt)
    obtain ⟨p1, p2, p3⟩ := needI_parts t[i].f0
    simp only [impl_GoodTerm.l0]
    rw [if_pos (by omega), if_pos (by omega), if_pos (by omega), show rd_T161 t (i : Int) = t[i] from getD_at t _ i hlt, impl_operandsOf_eq _ _ (by omega), List.drop_eq_getElem_cons hlt]
    simp only [Option.bind_some, kfold]
    rw [impl_isLeafRight_eq wide vars _ _ hv hx.1 hx.2, p1, p2]
    obtain ⟨m, hm⟩ : ∃ m : Nat, (need t[i].f0).1 = (m : Int) ∧ m ≤ 2 := by
      rcases need_cases t[i].f0 with h | h | h | h | h | h | h | h <;> rw [h]
      · exact ⟨0, rfl, by omega⟩
      · exact ⟨0, rfl, by omega⟩
      · exact ⟨1, rfl, by omega⟩
      · exact ⟨1, rfl, by omega⟩
      · exact ⟨2, rfl, by omega⟩
      · exact ⟨2, rfl, by omega⟩
      · exact ⟨2, rfl, by omega⟩
      · exact ⟨0, rfl, by omega⟩
    rw [hm.1]
    by_cases h0 : (need t[i].f0).2.2 = 0
    · simp [h0, kstep]
    · rw [if_neg h0]
      cases hl : leafOk wide vars t[i].f0 t[i].f1 with
      | false => simp [kstep, hl, h0]
      | true =>
        simp only [if_true, Option.bind_some]
        by_cases hn : (st.length : Int) < (m : Int)
        · have e : wrap64 ((st.length : Int) - (m : Int)) < 0 := by rw [wrap64_in (by omega) (by omega)]; omega
          rw [if_pos e]
          simp [kstep, hl, h0, hm.1, hn]
        · have e : wrap64 ((st.length : Int) - (m : Int)) = ((st.length - m : Nat) : Int) := by rw [wrap64_in (by omega) (by omega)]; omega
          rw [e, if_neg (by omega), if_pos (by omega), if_pos (by omega), Int.toNat_natCast, slices_ContainsFunc_of_impl_GoodTerm_1_eq _ _ (by simp; omega) _ (by omega)]
          have ek : kstep wide vars st t[i] = if (st.drop (st.length - m)).all (fun y => y == (need t[i].f0).2.1) = true then some (st.take (st.length - m) ++ [(need t[i].f0).2.2]) else none := by
            unfold kstep
            rw [if_neg h0, if_pos hl, hm.1, if_neg hn, Int.toNat_natCast]
          have ea : (st.drop (st.length - m)).any (fun y => y != (needI t[i].f0).2.1) = !(st.drop (st.length - m)).all (fun y => y == (need t[i].f0).2.1) := by
            rcases p3 with p3 | p3
            · have : m = 0 := by omega
              subst this
              simp
            · rw [p3, List.not_all_eq_any_not]
              rfl
          rw [ek, ea]
          simp only [Option.bind_some]
          cases ha : (st.drop (st.length - m)).all (fun y => y == (need t[i].f0).2.1) with
          | false => simp
          | true =>
            simp only [Bool.not_true, Bool.false_eq_true, if_false, if_true, Option.bind_some]
            rw [if_pos (by simp; omega), up1 i (by omega), ih (i + 1) k _ (by omega) (by omega) (by simp; omega)]
theorem impl_GoodTerm_eq (wide vars : Int) (t : List S161) (hw : ∀ x ∈ t, U64 x.f1) (k : Nat) (hk : 1100 ≤ k) : impl_GoodTerm.f k wide vars t = some (kindT wide vars t != 0) := by
  obtain ⟨k, rfl⟩ : ∃ m, k = m + 1 := ⟨k - 1, by omega⟩
  unfold impl_GoodTerm.f impl_isWide.f impl_isVars.f kindT
  simp only [impl_GoodTerm.j0]
  by_cases hc : 1 ≤ wide ∧ wide ≤ 64 ∧ 1 ≤ vars ∧ vars ≤ 4 ∧ 1 ≤ t.length ∧ t.length ≤ 48
  · have h1 : wide ≥ 1 := by omega
    have h2 : wide ≤ 64 := by omega
    have h3 : vars ≥ 1 := by omega
    have h4 : vars ≤ 4 := by omega
    have h5 : ¬ (t.length : Int) < 1 := by omega
    have h6 : ¬ (t.length : Int) > 48 := by omega
    have := impl_GoodTerm_l0 wide vars t (by omega) (by omega) hw t.length 0 k [] (by omega) (by omega) (by simp)
    rw [if_pos hc]
    simp only [h1, h2, h3, h4, h5, h6, if_true, if_false, decide_true, decide_false, Option.bind_some, Bool.false_eq_true]
    rw [show (0 : Int) = ((0 : Nat) : Int) from rfl, this]
    congr 1
    simp only [List.drop_zero]
    cases hf : kfold wide vars t [] with
    | none => rfl
    | some s =>
      obtain ⟨⟨r', e⟩, hne⟩ := kfold_last wide vars t [] s hf (by intro h; simp [h] at hc)
      match s, e with
      | [], e => rfl
      | [a], e =>
        have : a ≠ 0 := by
          have hr : r' = [] := by
            have := congrArg List.length e
            simp at this
            exact this
          subst hr
          simp at e
          rw [e]
          exact hne
        simp [this]
      | a :: b :: c, e =>
        simp
        omega
  · rw [if_neg hc]
    by_cases h1 : wide ≥ 1
    · by_cases h2 : wide ≤ 64
      · by_cases h3 : vars ≥ 1
        · by_cases h4 : vars ≤ 4
          · by_cases h5 : (t.length : Int) < 1
            · simp [h1, h2, h3, h4, h5]
            · have h6 : (t.length : Int) > 48 := by omega
              simp [h1, h2, h3, h4, h5, h6]
          · simp [h1, h2, h3, h4]
        · simp [h1, h2, h3]
      · simp [h1, h2]
    · simp [h1]
theorem kindT_pos {wide vars : Int} {t : List S161} (h : kindT wide vars t ≠ 0) : 0 < kindT wide vars t := by
  have hne : t ≠ [] := by
    intro e
    subst e
    exact h (by simp [kindT])
  unfold kindT at h ⊢
  split at h
  · rename_i hc
    rw [if_pos hc]
    split at h
    · rename_i a ha
      obtain ⟨⟨r', e⟩, h0⟩ := kfold_last wide vars t [] [a] ha hne
      have hr : r' = [] := by
        have := congrArg List.length e
        simp at this
        exact this
      subst hr
      have : a = (need (t.getLast hne).f0).2.2 := by simpa using e
      show 0 < a
      rw [this]
      rcases need_cases (t.getLast hne).f0 with h | h | h | h | h | h | h | h <;> rw [h] at h0 ⊢ <;> first | decide | exact absurd rfl h0
    · exact absurd rfl h
  · exact absurd rfl h
def two (e op : Int) (a b : S26) : S26 :=
  if op = 3 then (if a.f1 + b.f1 ≤ e then ⟨a.f0 + b.f0, a.f1 + b.f1⟩ else ⟨0, e⟩)
  else if op = 5 then (if a.f1 * b.f1 ≤ e then ⟨a.f0 * b.f0, a.f1 * b.f1⟩ else ⟨0, e⟩)
  else if op = 4 then (if b.f1 ≤ a.f0 then ⟨a.f0 - b.f1, a.f1 - b.f0⟩ else ⟨0, e⟩)
  else if op = 6 then (if 0 < b.f0 then ⟨a.f0 / b.f1, a.f1 / b.f0⟩ else ⟨0, e⟩)
  else if op = 7 then (if 0 < b.f0 ∧ b.f1 - 1 < a.f1 then ⟨0, b.f1 - 1⟩ else ⟨0, a.f1⟩)
  else if op = 12 then ⟨0, a.f1⟩
  else if op = 8 then ⟨0, mn a.f1 b.f1⟩
  else if op = 9 then ⟨mx a.f0 b.f0, e⟩
  else if op = 14 then (if a.f1 < b.f0 ∨ b.f1 < a.f0 then ⟨0, 0⟩ else if a.f0 = a.f1 ∧ a.f0 = b.f0 ∧ a.f1 = b.f1 then ⟨1, 1⟩ else ⟨0, 1⟩)
  else if op = 15 then (if a.f1 < b.f0 then ⟨1, 1⟩ else if b.f1 ≤ a.f0 then ⟨0, 0⟩ else ⟨0, 1⟩)
  else if op = 16 then ⟨0, 1⟩
  else if op = 17 then ⟨mn a.f0 b.f0, mn a.f1 b.f1⟩
  else if op = 18 then ⟨mx a.f0 b.f0, mx a.f1 b.f1⟩
  else ⟨0, e⟩
def Fits (e : Int) (a : S26) : Prop := 0 ≤ a.f0 ∧ a.f0 ≤ a.f1 ∧ a.f1 ≤ e
theorem prod_le {a b c d : Int} (h0 : 0 ≤ a) (h1 : a ≤ b) (h2 : 0 ≤ c) (h3 : c ≤ d) : 0 ≤ a * c ∧ a * c ≤ b * d := ⟨Int.mul_nonneg h0 h2, Int.mul_le_mul h1 h3 h2 (by omega)⟩
theorem div_le_of {a b c d : Int} (h0 : 0 ≤ a) (h1 : a ≤ b) (h2 : 0 < c) (h3 : c ≤ d) : 0 ≤ a / d ∧ a / d ≤ b / c ∧ b / c ≤ b := by
  refine ⟨Int.ediv_nonneg h0 (by omega), ?_, Int.ediv_le_self _ (by omega)⟩
  have h5 : a / d * c ≤ a := by
    have e1 : a / d * c ≤ a / d * d := Int.mul_le_mul_of_nonneg_left h3 (Int.ediv_nonneg h0 (by omega))
    have e2 : a / d * d ≤ a := Int.ediv_mul_le _ (by omega)
    omega
  exact (Int.le_ediv_iff_mul_le h2).2 (by omega)
theorem mn_eq (a b : Int) : mn a b = min a b := by
  unfold mn
  split <;> omega
theorem mx_eq (a b : Int) : mx a b = max a b := by
  unfold mx
  split <;> omega
theorem least_eq (a b : Int) : spec_l18Least.f a b = some (mn a b) := by
  unfold spec_l18Least.f mn
  by_cases h : a < b
  · rw [if_pos h, if_neg (by omega)]
  · rw [if_neg h]
    split
    · rfl
    · congr 1; omega
theorem most_eq (a b : Int) : spec_l18Most.f a b = some (mx a b) := by
  unfold spec_l18Most.f mx
  by_cases h : a > b
  · rw [if_pos h, if_neg (by omega)]
  · rw [if_neg h]
    split
    · rfl
    · congr 1; omega
theorem iteP {α : Type} {P : α → Prop} {c : Prop} [Decidable c] {x y : α} (h1 : c → P x) (h2 : ¬ c → P y) : P (if c then x else y) := by
  by_cases h : c
  · rw [if_pos h]
    exact h1 h
  · rw [if_neg h]
    exact h2 h
theorem two_fits (e op : Int) (a b : S26) (he : 1 ≤ e) (ha : Fits e a) (hb : Fits e b) : Fits e (two e op a b) := by
  obtain ⟨a0, a1⟩ := a
  obtain ⟨b0, b1⟩ := b
  simp only [Fits] at ha hb
  have hp := prod_le ha.1 ha.2.1 hb.1 hb.2.1
  unfold two
  repeat' (refine iteP (P := Fits e) ?_ ?_ <;> intro)
  all_goals simp only [Fits, mn_eq, mx_eq] at *
  all_goals first
    | omega
    | (have hd := div_le_of ha.1 ha.2.1 (by assumption : 0 < b0) hb.2.1; omega)
def Ask (a : S26) : Prop := a.f1 ≤ 1
theorem two_ask (e op : Int) (a b : S26) (ho : op = 14 ∨ op = 15 ∨ op = 16 ∨ ((op = 17 ∨ op = 18) ∧ a.f1 ≤ 1 ∧ b.f1 ≤ 1)) : Ask (two e op a b) := by
  obtain ⟨a0, a1⟩ := a
  obtain ⟨b0, b1⟩ := b
  unfold two
  repeat' (refine iteP (P := Ask) ?_ ?_ <;> intro)
  all_goals simp only [Ask, mn_eq, mx_eq] at *
  all_goals omega
theorem impl_spanOfTwo_eq (e op : Int) (a b : S26) (he : 1 ≤ e ∧ e ≤ 18446744073709551615) (ha : Fits e a) (hb : Fits e b) : impl_spanOfTwo.f op 0 e a.f0 a.f1 b.f0 b.f1 = some ((two e op a b).f0, (two e op a b).f1) := by
  obtain ⟨a0, a1⟩ := a
  obtain ⟨b0, b1⟩ := b
  simp only [Fits] at ha hb
  have hp := prod_le ha.1 ha.2.1 hb.1 hb.2.1
  unfold impl_spanOfTwo.f two
  by_cases c3 : op = 3
  · simp only [c3, if_true, impl_sumSpan.f, bits_Add64.f]
    rw [if_pos ⟨by omega, by omega, by decide, by decide⟩]
    simp only [Option.bind_some, Int.add_zero]
    by_cases h1 : a1 + b1 ≤ e
    · rw [if_pos h1, if_pos (by omega), if_pos (by omega), wrapU64_in (by omega) (by omega)]
      simp
      omega
    · rw [if_neg h1]
      by_cases h2 : (a1 + b1) / 18446744073709551616 = 0
      · rw [if_pos h2, if_neg (by omega)]
        rfl
      · rw [if_neg h2]
        rfl
  rw [if_neg c3, if_neg c3]
  by_cases c5 : op = 5
  · simp only [c5, if_true, impl_productSpan.f]
    rw [bits_Mul64_eq a1 b1 ⟨by omega, by omega⟩ ⟨by omega, by omega⟩]
    simp only [Option.bind_some]
    by_cases h1 : a1 * b1 ≤ e
    · rw [if_pos h1, if_pos (by omega), if_pos (by omega), wrapU64_in (by omega) (by omega)]
      simp
      omega
    · rw [if_neg h1]
      by_cases h2 : (a1 * b1) / 18446744073709551616 = 0
      · rw [if_pos h2, if_neg (by omega)]
        rfl
      · rw [if_neg h2]
        rfl
  rw [if_neg c5, if_neg c5]
  by_cases c4 : op = 4
  · simp only [c4, if_true]
    by_cases h1 : b1 ≤ a0
    · rw [if_pos h1, if_pos (by omega), wrapU64_in (by omega) (by omega), wrapU64_in (by omega) (by omega)]
    · rw [if_neg h1, if_neg (by omega)]
  rw [if_neg c4, if_neg c4]
  by_cases c6 : op = 6
  · simp only [c6, if_true]
    by_cases h1 : 0 < b0
    · have hd := div_le_of ha.1 ha.2.1 h1 hb.2.1
      rw [if_pos (show b0 > 0 from h1), if_neg (by omega), if_neg (by omega), Int.tdiv_eq_ediv_of_nonneg (by omega), Int.tdiv_eq_ediv_of_nonneg (by omega), wrapU64_in (by omega) (by omega), wrapU64_in (by omega) (by omega), if_pos h1]
    · rw [if_neg h1, if_neg (by omega)]
  rw [if_neg c6, if_neg c6]
  by_cases c7 : op = 7
  · simp only [c7, if_true]
    by_cases h1 : 0 < b0
    · rw [if_pos (show b0 > 0 from h1), wrapU64_in (by omega) (by omega)]
      by_cases h2 : b1 - 1 < a1
      · rw [if_pos h2, if_pos ⟨h1, h2⟩]
      · rw [if_neg h2, if_neg (by omega)]
    · rw [if_neg (by omega), if_neg (by omega)]
  rw [if_neg c7, if_neg c7]
  by_cases c12 : op = 12
  · simp only [c12, if_true]
  rw [if_neg c12, if_neg c12]
  by_cases c8 : op = 8
  · simp only [c8, if_true]
  rw [if_neg c8, if_neg c8]
  by_cases c9 : op = 9
  · simp only [c9, if_true]
  rw [if_neg c9, if_neg c9]
  by_cases c14 : op = 14
  · simp only [c14, if_true, impl_meetSpans.f, impl_comparison.f, mn_eq, mx_eq]
    by_cases h1 : max a0 b0 > min a1 b1
    · have h2 : a1 < b0 ∨ b1 < a0 := by omega
      rw [if_pos h1, if_pos h2]
      have h3 : ¬ (a0 = b0 ∧ a1 = b1) := by omega
      have h4 : ((a0 == b0) && (a1 == b1)) = false := by
        simp only [Bool.and_eq_false_iff, beq_eq_false_iff_ne]
        omega
      simp [h4]
    · have h2 : ¬ (a1 < b0 ∨ b1 < a0) := by omega
      rw [if_neg h1, if_neg h2]
      simp only [Option.bind_some]
      by_cases h3 : a0 = b0 ∧ a1 = b1
      · have h4 : ((a0 == b0) && (a1 == b1)) = true := by simp [h3]
        rw [h4]
        by_cases h5 : a0 = a1
        · have : a0 = a1 ∧ a0 = b0 ∧ a1 = b1 := ⟨h5, h3⟩
          rw [if_pos this]
          simp [h5]
        · have : ¬ (a0 = a1 ∧ a0 = b0 ∧ a1 = b1) := by omega
          rw [if_neg this]
          simp [h5]
      · have h4 : ((a0 == b0) && (a1 == b1)) = false := by
          simp only [Bool.and_eq_false_iff, beq_eq_false_iff_ne]
          omega
        have : ¬ (a0 = a1 ∧ a0 = b0 ∧ a1 = b1) := by omega
        rw [h4, if_neg this]
        simp
  rw [if_neg c14, if_neg c14]
  by_cases c15 : op = 15
  · simp only [c15, if_true, impl_comparison.f]
    by_cases h1 : a1 < b0
    · simp [h1]
    · by_cases h2 : b1 ≤ a0
      · have : a0 ≥ b1 := h2
        simp [h1, h2]
      · have : ¬ a0 ≥ b1 := h2
        simp [h1, h2]
  rw [if_neg c15, if_neg c15]
  by_cases c16 : op = 16
  · simp only [c16, if_true]
  rw [if_neg c16, if_neg c16]
  by_cases c17 : op = 17
  · simp only [c17, if_true]
  rw [if_neg c17, if_neg c17]
  by_cases c18 : op = 18
  · simp only [c18, if_true]
  rw [if_neg c18, if_neg c18]
theorem spec_l18Num_eq (wide op : Int) (hw : 1 ≤ wide ∧ wide ≤ 64) (a b : S26) (ho : 3 ≤ op ∧ op ≤ 12) (ha : Fits (top wide) a) (hb : Fits (top wide) b) (k : Nat) (hk : 100 < k) :
    spec_l18Num.f k wide op a.f0 a.f1 b.f0 b.f1 = some ((two (top wide) op a b).f0, (two (top wide) op a b).f1) := by
  obtain ⟨k, rfl⟩ : ∃ m, k = m + 6 := ⟨k - 6, by omega⟩
  have he := top_in hw
  generalize hE : top wide = e at *
  obtain ⟨a0, a1⟩ := a
  obtain ⟨b0, b1⟩ := b
  simp only [Fits] at ha hb
  have hp := prod_le ha.1 ha.2.1 hb.1 hb.2.1
  have hc : ∀ k, 64 < k → spec_l1Cut.f k wide 18446744073709551615 = some e := fun k hk => by rw [← hE]; exact cut_all wide hw k hk
  unfold spec_l18Num.f two
  rw [hc _ (by omega)]
  simp only [Option.bind_some, spec_l18Num.j0, spec_l18Num.j1, spec_l18Num.j2, spec_l18Num.j3, spec_l18Num.j4, spec_l18Num.j5, spec_l18Fits.f, least_eq, most_eq]
  rw [hc _ (by omega)]
  simp only [Option.bind_some]
  by_cases c3 : op = 3
  · by_cases h1 : a1 + b1 ≤ e
    · have : a1 ≤ IntKind.u64.wrap (e - b1) := by rw [wrapU64_in (by omega) (by omega)]; omega
      simp only [c3, if_true, this, decide_true, h1]
      rw [wrapU64_in (by omega) (by omega), wrapU64_in (by omega) (by omega)]
    · have : ¬ a1 ≤ IntKind.u64.wrap (e - b1) := by rw [wrapU64_in (by omega) (by omega)]; omega
      simp [c3, this, h1]
  rw [if_neg c3, if_neg (by simp), if_neg c3]
  by_cases c5 : op = 5
  · subst c5
    simp only [if_true]
    by_cases hz : b1 = 0
    · have h1 : a1 * b1 ≤ e := by rw [hz]; omega
      have h2 : a0 * b0 = 0 := by rw [show b0 = 0 by omega]; omega
      simp only [hz, if_true, Option.bind_some]
      rw [if_pos (by omega), wrapU64_in (by omega) (by omega), wrapU64_in (by omega) (by omega)]
    · rw [if_neg hz]
      have h2 : IntKind.u64.wrap (e.tdiv b1) = e / b1 := by
        rw [Int.tdiv_eq_ediv_of_nonneg (by omega), wrapU64_in (Int.ediv_nonneg (by omega) (by omega)) (by have := Int.ediv_le_self (a := e) b1 (by omega); omega)]
      have h3 : (a1 ≤ e / b1) ↔ a1 * b1 ≤ e := Int.le_ediv_iff_mul_le (by omega)
      simp only [h2, Option.bind_some]
      by_cases h1 : a1 * b1 ≤ e
      · simp only [h3.2 h1, decide_true, if_true, h1]
        rw [wrapU64_in (by omega) (by omega), wrapU64_in (by omega) (by omega)]
      · have : ¬ a1 ≤ e / b1 := fun h => h1 (h3.1 h)
        simp [this, h1]
  rw [if_neg c5, if_neg (by simp), if_neg c5]
  by_cases c4 : op = 4
  · by_cases h1 : b1 ≤ a0
    · have : a0 ≥ b1 := h1
      simp only [c4, if_true, this, decide_true, h1]
      rw [wrapU64_in (by omega) (by omega), wrapU64_in (by omega) (by omega)]
    · have : ¬ a0 ≥ b1 := h1
      simp [c4, h1]
  rw [if_neg c4, if_neg (by simp), if_neg c4]
  by_cases c6 : op = 6
  · by_cases h1 : 0 < b0
    · have hd := div_le_of ha.1 ha.2.1 h1 hb.2.1
      have : b0 > 0 := h1
      simp only [c6, if_true, this, decide_true]
      rw [if_neg (by omega), if_neg (by omega), Int.tdiv_eq_ediv_of_nonneg (by omega), Int.tdiv_eq_ediv_of_nonneg (by omega), wrapU64_in (by omega) (by omega), wrapU64_in (by omega) (by omega)]
    · have : ¬ b0 > 0 := h1
      simp [c6, h1]
  rw [if_neg c6, if_neg (by simp), if_neg c6]
  by_cases c7 : op = 7
  · by_cases h1 : 0 < b0
    · have : b0 > 0 := h1
      simp only [c7, if_true, this, decide_true]
      rw [wrapU64_in (by omega) (by omega)]
      by_cases h2 : b1 - 1 < a1
      · rw [if_pos ⟨trivial, h2⟩, mn_eq, show min a1 (b1 - 1) = b1 - 1 by omega]
      · rw [if_neg (fun h => h2 h.2), mn_eq, show min a1 (b1 - 1) = a1 by omega]
    · have : ¬ b0 > 0 := h1
      simp [c7, h1]
  rw [if_neg c7, if_neg (by simp), if_neg c7, if_neg c7]
  by_cases c12 : op = 12
  · simp [c12]
  have c12' : (op == 12) = false := by simp [c12]
  rw [c12', if_neg (by simp), if_neg c12]
  by_cases c8 : op = 8
  · simp [c8]
  rw [if_neg c8, if_neg c8]
  by_cases c9 : op = 9
  · simp [c9]
  rw [if_neg c9, if_neg c9, if_neg (by omega), if_neg (by omega), if_neg (by omega), if_neg (by omega), if_neg (by omega)]
theorem spec_l18Ask_eq (e op : Int) (a b : S26) (ho : 14 ≤ op ∧ op ≤ 18) (k : Nat) (hk : 100 < k) : spec_l18Ask.f k op a.f0 a.f1 b.f0 b.f1 = some ((two e op a b).f0, (two e op a b).f1) := by
  obtain ⟨k, rfl⟩ : ∃ m, k = m + 6 := ⟨k - 6, by omega⟩
  obtain ⟨a0, a1⟩ := a
  obtain ⟨b0, b1⟩ := b
  unfold spec_l18Ask.f two
  simp only [Option.bind_some, spec_l18Ask.j0, spec_l18Ask.j1, spec_l18Ask.j2, spec_l18Ask.j3, least_eq, most_eq]
  rcases (show op = 14 ∨ op = 15 ∨ op = 16 ∨ op = 17 ∨ op = 18 by omega) with rfl | rfl | rfl | rfl | rfl
  · by_cases h1 : a1 < b0
    · simp [h1]
    · by_cases h2 : b1 < a0
      · simp [h1, h2]
      · by_cases h3 : a0 = a1
        · by_cases h4 : a0 = b0 ∧ a1 = b1
          · obtain ⟨h5, h6⟩ := h4
            subst h3 h5 h6
            simp
          · have : ((a0 == b0) && (a1 == b1)) = false := by
              simp only [Bool.and_eq_false_iff, beq_eq_false_iff_ne]
              omega
            have h7 : ¬ (a0 = a1 ∧ a0 = b0 ∧ a1 = b1) := by omega
            have h8 : ¬ (a1 < b0 ∨ b1 < a0) := by omega
            rw [if_neg h8, if_neg h7, if_neg h1, this]
            simp [h2, h3]
            omega
        · have h7 : ¬ (a0 = a1 ∧ a0 = b0 ∧ a1 = b1) := by omega
          simp [h1, h2, h3]
  · by_cases h1 : a1 < b0
    · simp [h1]
    · by_cases h2 : b1 ≤ a0
      · simp [h1, h2]
      · simp [h1, h2]
  · simp
  · simp
  · simp
def sstep {V : Type} (f : S161 → List V → V) (st : List V) (x : S161) : List V :=
  st.take (st.length - (need x.f0).1.toNat) ++ [f x (st.drop (st.length - (need x.f0).1.toNat))]
def stackAt {V : Type} (f : S161 → List V → V) (t : List S161) (i : Nat) : List V := (t.take i).foldl (sstep f) []
theorem stackAt_succ {V : Type} (f : S161 → List V → V) (t : List S161) (i : Nat) (h : i < t.length) : stackAt f t (i + 1) = sstep f (stackAt f t i) t[i] := by
  unfold stackAt
  rw [List.take_succ_eq_append_getElem h, List.foldl_append]
  rfl
def Enough {V : Type} (f : S161 → List V → V) (t : List S161) : Prop := ∀ i (h : i < t.length), (need t[i].f0).1.toNat ≤ (stackAt f t i).length
theorem need_nat (op : Int) : ∃ m : Nat, (need op).1 = (m : Int) ∧ m ≤ 2 := by
  rcases need_cases op with h | h | h | h | h | h | h | h <;> rw [h]
  · exact ⟨0, rfl, by omega⟩
  · exact ⟨0, rfl, by omega⟩
  · exact ⟨1, rfl, by omega⟩
  · exact ⟨1, rfl, by omega⟩
  · exact ⟨2, rfl, by omega⟩
  · exact ⟨2, rfl, by omega⟩
  · exact ⟨2, rfl, by omega⟩
  · exact ⟨0, rfl, by omega⟩
theorem spec_l2From_eq {V : Type} (f : S161 → List V → V) (t : List S161) (ht : t.length ≤ 48) (he : Enough f t) : ∀ (n i : Nat), i ≤ n → (h : i < t.length) → ∀ k, 10 + 10 * i ≤ k →
    ∃ j : Nat, j ≤ i ∧ spec_l2From.f k t (i : Int) = some (j : Int) ∧ ∃ v, stackAt f t (i + 1) = stackAt f t j ++ [v] := by
  intro n
  induction n with
  | zero =>
    intro i hi h k hk
    obtain ⟨k, rfl⟩ : ∃ m, k = m + 2 := ⟨k - 2, by omega⟩
    obtain rfl : i = 0 := by omega
    obtain ⟨m, hm, hm2⟩ := need_nat t[0].f0
    have hen := he 0 h
    have hz : stackAt f t 0 = [] := rfl
    rw [hm, hz] at hen
    simp at hen
    subst hen
    refine ⟨0, by omega, ?_, ?_⟩
    · simp only [spec_l2From.f]
      rw [if_pos (by omega), if_pos (by omega), show rd_T161 t ((0 : Nat) : Int) = t[0] from getD_at t _ 0 h, spec_l2Need_eq _ _ (by omega)]
      simp only [Option.bind_some, hm, spec_l2From.l0]
      rw [if_neg (by omega)]
    · rw [stackAt_succ f t 0 h, hz]
      simp only [sstep, List.take_nil]
      exact ⟨_, rfl⟩
  | succ n ih =>
    intro i hi h k hk
    obtain ⟨k, rfl⟩ : ∃ m, k = m + 4 := ⟨k - 4, by omega⟩
    obtain ⟨m, hm, hm2⟩ := need_nat t[i].f0
    have hen := he i h
    simp only [hm, Int.toNat_natCast] at hen
    have e0 : spec_l2From.f (k + 4) t (i : Int) = spec_l2From.l0 (k + 3) t (m : Int) (i : Int) := by
      simp only [spec_l2From.f]
      rw [if_pos (by omega), if_pos (by omega), show rd_T161 t (i : Int) = t[i] from getD_at t _ i h, spec_l2Need_eq _ _ (by omega)]
      simp only [Option.bind_some, hm]
    have es : stackAt f t (i + 1) = (stackAt f t i).take ((stackAt f t i).length - m) ++ [f t[i] ((stackAt f t i).drop ((stackAt f t i).length - m))] := by
      rw [stackAt_succ f t i h]
      simp only [sstep, hm, Int.toNat_natCast]
    rcases (show m = 0 ∨ m = 1 ∨ m = 2 by omega) with rfl | rfl | rfl
    · refine ⟨i, by omega, ?_, f t[i] ((stackAt f t i).drop ((stackAt f t i).length - 0)), ?_⟩
      · rw [e0]
        simp only [spec_l2From.l0]
        rw [if_neg (by omega)]
      · rw [es, Nat.sub_zero, List.take_length]
    · have hi0 : 0 < i := by
        rcases Nat.eq_zero_or_pos i with rfl | h0
        · have hz : stackAt f t 0 = [] := rfl
          rw [hz] at hen
          simp at hen
        · exact h0
      obtain ⟨j, hj, ej, v, ev⟩ := ih (i - 1) (by omega) (by omega) (k + 2) (by omega)
      rw [show i - 1 + 1 = i by omega] at ev
      refine ⟨j, by omega, ?_, ?_⟩
      · rw [e0]
        simp only [spec_l2From.l0]
        have e1 : wrap64 ((i : Int) - 1) = ((i - 1 : Nat) : Int) := by rw [wrap64_in (by omega) (by omega)]; omega
        rw [if_pos (by omega), e1, ej]
        simp only [Option.bind_some]
        rw [if_neg (by rw [wrap64_in (by omega) (by omega)]; omega)]
      · rw [es, ev]
        simp only [List.length_append, List.length_singleton, Nat.add_sub_cancel]
        rw [List.take_left' rfl]
        exact ⟨_, rfl⟩
    · have hi0 : 0 < i := by
        rcases Nat.eq_zero_or_pos i with rfl | h0
        · have hz : stackAt f t 0 = [] := rfl
          rw [hz] at hen
          simp at hen
        · exact h0
      obtain ⟨j, hj, ej, v, ev⟩ := ih (i - 1) (by omega) (by omega) (k + 2) (by omega)
      rw [show i - 1 + 1 = i by omega] at ev
      have hj0 : 0 < j := by
        rcases Nat.eq_zero_or_pos j with rfl | h0
        · rw [ev] at hen
          have hz : stackAt f t 0 = [] := rfl
          rw [hz] at hen
          simp at hen
        · exact h0
      obtain ⟨j2, hj2, ej2, v2, ev2⟩ := ih (j - 1) (by omega) (by omega) (k + 1) (by omega)
      rw [show j - 1 + 1 = j by omega] at ev2
      refine ⟨j2, by omega, ?_, ?_⟩
      · rw [e0]
        simp only [spec_l2From.l0]
        have e1 : wrap64 ((i : Int) - 1) = ((i - 1 : Nat) : Int) := by rw [wrap64_in (by omega) (by omega)]; omega
        have e2 : wrap64 ((j : Int) - 1) = ((j - 1 : Nat) : Int) := by rw [wrap64_in (by omega) (by omega)]; omega
        have e3 : wrap64 (((2 : Nat) : Int) - 1) = 1 := by rw [wrap64_in (by omega) (by omega)]; rfl
        rw [if_pos (by omega), e1, ej]
        simp only [Option.bind_some, e3]
        rw [if_pos (by omega), e2, ej2]
        simp only [Option.bind_some]
        rw [if_neg (by rw [wrap64_in (by omega) (by omega)]; decide)]
      · rw [es, ev, ev2]
        simp only [List.append_assoc, List.length_append, List.length_singleton, List.cons_append, List.nil_append, List.length_cons, List.length_nil]
        rw [show (stackAt f t j2).length + (0 + 1 + 1) - 2 = (stackAt f t j2).length by omega, List.take_left' rfl]
        exact ⟨_, rfl⟩
def sop (e : Int) (sp : List S26) (x : S161) : List S26 → S26
  | [] => if x.f0 = 2 then sp.getD x.f1.toNat z26 else ⟨x.f1, x.f1⟩
  | [b] => if x.f0 = 13 then ⟨e - b.f1, e - b.f0⟩ else ⟨1 - b.f1, 1 - b.f0⟩
  | [a, b] => two e x.f0 a b
  | _ => z26
inductive Typed (e : Int) : List Int → List S26 → Prop
  | nil : Typed e [] []
  | snoc {ks : List Int} {st : List S26} {k : Int} {v : S26} : Typed e ks st → Fits e v → (k = 2 → v.f1 ≤ 1) → Typed e (ks ++ [k]) (st ++ [v])
theorem Typed.inv {e : Int} {ks : List Int} {st : List S26} (h : Typed e ks st) : (ks = [] ∧ st = []) ∨ ∃ ks' st' k v, ks = ks' ++ [k] ∧ st = st' ++ [v] ∧ Typed e ks' st' ∧ Fits e v ∧ (k = 2 → v.f1 ≤ 1) := by
  cases h with
  | nil => exact .inl ⟨rfl, rfl⟩
  | snoc h1 h2 h3 => exact .inr ⟨_, _, _, _, rfl, rfl, h1, h2, h3⟩
theorem Typed.len {e : Int} {ks : List Int} {st : List S26} (h : Typed e ks st) : ks.length = st.length := by
  induction h with
  | nil => rfl
  | snoc _ _ _ ih => simp [ih]
theorem kstep_some {wide vars : Int} {ks ks' : List Int} {x : S161} (h : kstep wide vars ks x = some ks') :
    (need x.f0).2.2 ≠ 0 ∧ leafOk wide vars x.f0 x.f1 = true ∧ (need x.f0).1.toNat ≤ ks.length ∧ (ks.drop (ks.length - (need x.f0).1.toNat)).all (fun y => y == (need x.f0).2.1) = true ∧ ks' = ks.take (ks.length - (need x.f0).1.toNat) ++ [(need x.f0).2.2] := by
  unfold kstep at h
  split at h
  · simp at h
  · split at h
    · split at h
      · simp at h
      · split at h
        · rename_i h1 h2 h3 h4
          simp only [Option.some.injEq] at h
          refine ⟨h1, h2, ?_, h4, h.symm⟩
          obtain ⟨m, hm, _⟩ := need_nat x.f0
          rw [hm] at h3 ⊢
          omega
        · simp at h
    · simp at h
theorem need_op {op : Int} {m p o : Int} (h : need op = (m, p, o)) (ho : o ≠ 0) : (m = 0 ∧ o = 1 ∧ (op = 1 ∨ op = 2)) ∨ (m = 0 ∧ o = 2 ∧ op = 20) ∨ (m = 1 ∧ p = 1 ∧ o = 1 ∧ op = 13) ∨ (m = 1 ∧ p = 2 ∧ o = 2 ∧ op = 19) ∨ (m = 2 ∧ p = 1 ∧ o = 1 ∧ 3 ≤ op ∧ op ≤ 12) ∨ (m = 2 ∧ p = 1 ∧ o = 2 ∧ 14 ≤ op ∧ op ≤ 16) ∨ (m = 2 ∧ p = 2 ∧ o = 2 ∧ (op = 17 ∨ op = 18)) := by
  unfold need at h
  by_cases c1 : op = 1 ∨ op = 2
  · rw [if_pos c1] at h
    cases h
    exact .inl ⟨rfl, rfl, c1⟩
  rw [if_neg c1] at h
  by_cases c2 : op = 20
  · rw [if_pos c2] at h
    cases h
    exact .inr (.inl ⟨rfl, rfl, c2⟩)
  rw [if_neg c2] at h
  by_cases c3 : op = 13
  · rw [if_pos c3] at h
    cases h
    exact .inr (.inr (.inl ⟨rfl, rfl, rfl, c3⟩))
  rw [if_neg c3] at h
  by_cases c4 : op = 19
  · rw [if_pos c4] at h
    cases h
    exact .inr (.inr (.inr (.inl ⟨rfl, rfl, rfl, c4⟩)))
  rw [if_neg c4] at h
  by_cases c5 : 3 ≤ op ∧ op ≤ 12
  · rw [if_pos c5] at h
    cases h
    exact .inr (.inr (.inr (.inr (.inl ⟨rfl, rfl, rfl, c5⟩))))
  rw [if_neg c5] at h
  by_cases c6 : 14 ≤ op ∧ op ≤ 16
  · rw [if_pos c6] at h
    cases h
    exact .inr (.inr (.inr (.inr (.inr (.inl ⟨rfl, rfl, rfl, c6⟩)))))
  rw [if_neg c6] at h
  by_cases c7 : op = 17 ∨ op = 18
  · rw [if_pos c7] at h
    cases h
    exact .inr (.inr (.inr (.inr (.inr (.inr ⟨rfl, rfl, rfl, c7⟩)))))
  rw [if_neg c7] at h
  cases h
  exact absurd rfl ho
theorem typed_step (wide : Int) (hw : 1 ≤ wide ∧ wide ≤ 64) (sp : List S26) (hsp : ∀ s ∈ sp, Fits (top wide) s) (x : S161) (hx : U64 x.f1) {ks ks' : List Int} {st : List S26}
    (h : kstep wide (sp.length : Int) ks x = some ks') (ht : Typed (top wide) ks st) : Typed (top wide) ks' (sstep (sop (top wide) sp) st x) := by
  obtain ⟨h1, h2, h3, h4, rfl⟩ := kstep_some h
  have he := top_in hw
  obtain ⟨m, p, o, hn⟩ : ∃ m p o, need x.f0 = (m, p, o) := ⟨_, _, _, rfl⟩
  have hlen := ht.len
  simp only [sstep, hn] at h1 h3 h4 ⊢
  rw [← hlen]
  rcases need_op hn h1 with ⟨rfl, rfl, ho⟩ | ⟨rfl, rfl, ho⟩ | ⟨rfl, rfl, rfl, ho⟩ | ⟨rfl, rfl, rfl, ho⟩ | ⟨rfl, rfl, rfl, ho⟩ | ⟨rfl, rfl, rfl, ho⟩ | ⟨rfl, rfl, rfl, ho⟩
  · simp only [Int.toNat_zero, Nat.sub_zero, List.take_length]
    rw [hlen, List.take_length, List.drop_length]
    refine .snoc ht ?_ (fun h => absurd h (by decide))
    unfold leafOk at h2
    rcases ho with ho | ho
    · rw [if_pos ho, goodWord_iff] at h2
      simp only [sop, ho]
      exact ⟨hx.1, Int.le_refl _, h2.2.2⟩
    · rw [if_neg (by omega), if_pos ho, decide_eq_true_eq] at h2
      simp only [sop, ho, if_true]
      apply hsp
      rw [List.getD_eq_getElem?_getD, List.getElem?_eq_getElem (by have := hx.1; omega)]
      exact List.getElem_mem _
  · simp only [Int.toNat_zero, Nat.sub_zero, List.take_length]
    rw [hlen, List.take_length, List.drop_length]
    unfold leafOk at h2
    rw [if_neg (by omega), if_neg (by omega), if_pos ho, decide_eq_true_eq] at h2
    have h0 := hx.1
    refine .snoc ht ?_ (fun _ => ?_)
    · simp only [sop, ho]
      exact ⟨h0, Int.le_refl _, (by show x.f1 ≤ top wide; omega)⟩
    · simp only [sop, ho]
      show x.f1 ≤ 1
      omega
  · rcases ht.inv with ⟨rfl, rfl⟩ | ⟨ks, st, k, v, rfl, rfl, t1, t2, t3⟩
    · simp at h3
    · have l1 := t1.len
      have e1 : (ks ++ [k]).length - (1 : Int).toNat = ks.length := by simp
      rw [e1]
      rw [List.take_left' rfl, List.take_left' l1.symm, List.drop_left' l1.symm]
      simp only [sop, ho]
      refine .snoc t1 ?_ (fun h => absurd h (by decide))
      obtain ⟨f1, f2, f3⟩ := t2
      exact ⟨by show 0 ≤ top wide - v.f1; omega, by show top wide - v.f1 ≤ top wide - v.f0; omega, by show top wide - v.f0 ≤ top wide; omega⟩
  · rcases ht.inv with ⟨rfl, rfl⟩ | ⟨ks, st, k, v, rfl, rfl, t1, t2, t3⟩
    · simp at h3
    · have l1 := t1.len
      have e1 : (ks ++ [k]).length - (1 : Int).toNat = ks.length := by simp
      rw [e1] at h4 ⊢
      rw [List.drop_left' rfl] at h4
      have hk : k = 2 := by simpa using h4
      rw [List.take_left' rfl, List.take_left' l1.symm, List.drop_left' l1.symm]
      have hne : ¬ x.f0 = 13 := by omega
      simp only [sop, if_neg hne]
      obtain ⟨f1, f2, f3⟩ := t2
      have f4 := t3 hk
      refine .snoc t1 ⟨by show 0 ≤ 1 - v.f1; omega, by show 1 - v.f1 ≤ 1 - v.f0; omega, by show 1 - v.f0 ≤ top wide; omega⟩ (fun _ => ?_)
      show 1 - v.f0 ≤ 1
      omega
  all_goals
    rcases ht.inv with ⟨rfl, rfl⟩ | ⟨ks, st, k, v, rfl, rfl, t1, t2, t3⟩
    · simp at h3
    · rcases t1.inv with ⟨rfl, rfl⟩ | ⟨ks, st, k', v', rfl, rfl, s1, s2, s3⟩
      · simp at h3
      · have l1 := s1.len
        have e1 : (ks ++ [k'] ++ [k]).length - (2 : Int).toNat = ks.length := by simp
        rw [e1] at h4 ⊢
        rw [List.append_assoc] at h4
        rw [List.drop_left' rfl] at h4
        simp only [List.cons_append, List.nil_append, List.all_cons, List.all_nil, Bool.and_true, Bool.and_eq_true, beq_iff_eq] at h4
        rw [List.append_assoc ks, List.append_assoc st, List.take_left' rfl, List.take_left' l1.symm, List.drop_left' l1.symm]
        refine .snoc s1 (two_fits _ _ _ _ he.1 s2 t2) ?_
        first
          | (intro h; exact absurd h (by decide))
          | (intro _; exact two_ask _ _ _ _ (by first | omega | exact .inr (.inr (.inr ⟨ho, s3 h4.1, t3 h4.2⟩))))
theorem typed_at (wide : Int) (hw : 1 ≤ wide ∧ wide ≤ 64) (sp : List S26) (hsp : ∀ s ∈ sp, Fits (top wide) s) (t : List S161) (hx : ∀ x ∈ t, U64 x.f1) {r : List Int} (h : kfold wide (sp.length : Int) t [] = some r) :
    ∀ i, i ≤ t.length → ∃ ks, kfold wide (sp.length : Int) (t.drop i) ks = some r ∧ Typed (top wide) ks (stackAt (sop (top wide) sp) t i) := by
  intro i
  induction i with
  | zero => exact fun _ => ⟨[], h, .nil⟩
  | succ i ih =>
    intro hi
    obtain ⟨ks, h1, h2⟩ := ih (by omega)
    rw [List.drop_eq_getElem_cons (by omega)] at h1
    simp only [kfold, Option.bind_eq_some_iff] at h1
    obtain ⟨ks', h3, h4⟩ := h1
    exact ⟨ks', h4, by rw [stackAt_succ _ _ _ (by omega)]; exact typed_step wide hw sp hsp _ (hx _ (List.getElem_mem _)) h3 h2⟩
theorem typed_op (wide : Int) (hw : 1 ≤ wide ∧ wide ≤ 64) (sp : List S26) (hsp : ∀ s ∈ sp, Fits (top wide) s) (t : List S161) (hx : ∀ x ∈ t, U64 x.f1) {r : List Int} (h : kfold wide (sp.length : Int) t [] = some r) (i : Nat) (hi : i < t.length) :
    leafOk wide (sp.length : Int) t[i].f0 t[i].f1 = true ∧
    (((t[i].f0 = 1 ∨ t[i].f0 = 2 ∨ t[i].f0 = 20) ∧ need t[i].f0 = (0, (need t[i].f0).2)) ∨
     ((t[i].f0 = 13 ∨ t[i].f0 = 19) ∧ need t[i].f0 = (1, (need t[i].f0).2) ∧ ∃ st b, stackAt (sop (top wide) sp) t i = st ++ [b] ∧ Fits (top wide) b ∧ (t[i].f0 = 19 → b.f1 ≤ 1)) ∨
     (((3 ≤ t[i].f0 ∧ t[i].f0 ≤ 12 ∧ need t[i].f0 = (2, 1, 1)) ∨ (14 ≤ t[i].f0 ∧ t[i].f0 ≤ 18 ∧ need t[i].f0 = (2, (need t[i].f0).2.1, 2))) ∧ ∃ st a b, stackAt (sop (top wide) sp) t i = st ++ [a, b] ∧ Fits (top wide) a ∧ Fits (top wide) b)) := by
  obtain ⟨ks, h1, h2⟩ := typed_at wide hw sp hsp t hx h i (by omega)
  rw [List.drop_eq_getElem_cons hi] at h1
  simp only [kfold, Option.bind_eq_some_iff] at h1
  obtain ⟨ks', h3, _⟩ := h1
  obtain ⟨g1, g2, g3, g4, _⟩ := kstep_some h3
  refine ⟨g2, ?_⟩
  obtain ⟨m, p, o, hn⟩ : ∃ m p o, need t[i].f0 = (m, p, o) := ⟨_, _, _, rfl⟩
  generalize stackAt (sop (top wide) sp) t i = st at h2 ⊢
  simp only [hn] at g1 g3 g4 ⊢
  rcases need_op hn g1 with ⟨rfl, rfl, ho⟩ | ⟨rfl, rfl, ho⟩ | ⟨rfl, rfl, rfl, ho⟩ | ⟨rfl, rfl, rfl, ho⟩ | ⟨rfl, rfl, rfl, ho⟩ | ⟨rfl, rfl, rfl, ho⟩ | ⟨rfl, rfl, rfl, ho⟩
  · exact .inl ⟨by omega, rfl⟩
  · exact .inl ⟨by omega, rfl⟩
  · rcases h2.inv with ⟨rfl, rfl⟩ | ⟨ks, st, k, v, rfl, rfl, t1, t2, t3⟩
    · simp at g3
    · exact .inr (.inl ⟨.inl ho, rfl, st, v, rfl, t2, fun h => by omega⟩)
  · rcases h2.inv with ⟨rfl, rfl⟩ | ⟨ks, st, k, v, rfl, rfl, t1, t2, t3⟩
    · simp at g3
    · have e1 : (ks ++ [k]).length - (1 : Int).toNat = ks.length := by simp
      rw [e1, List.drop_left' rfl] at g4
      exact .inr (.inl ⟨.inr ho, rfl, st, v, rfl, t2, fun _ => t3 (by simpa using g4)⟩)
  all_goals
    rcases h2.inv with ⟨rfl, rfl⟩ | ⟨ks, st, k, v, rfl, rfl, t1, t2, t3⟩
    · simp at g3
    · rcases t1.inv with ⟨rfl, rfl⟩ | ⟨ks, st, k', v', rfl, rfl, s1, s2, s3⟩
      · simp at g3
      · refine .inr (.inr ⟨?_, st, v', v, by simp, s2, t2⟩)
        first | exact .inl ⟨ho.1, ho.2, rfl⟩ | exact .inr ⟨by omega, by omega, rfl⟩
theorem stackAt_zero {V : Type} (f : S161 → List V → V) (t : List S161) : stackAt f t 0 = [] := rfl
theorem sstep_of {V : Type} (f : S161 → List V → V) (st args : List V) (x : S161) {p : Int × Int} (m : Nat) (hn : need x.f0 = ((m : Int), p)) (hm : args.length = m) : sstep f (st ++ args) x = st ++ [f x args] := by
  simp only [sstep, hn, Int.toNat_natCast]
  have : (st ++ args).length - m = st.length := by rw [List.length_append]; omega
  rw [this, List.take_left' rfl, List.drop_left' rfl]
theorem last_at {V : Type} (xs : List V) (y z : V) : (xs ++ [y]).getD ((xs.length : Int)).toNat z = y := by
  rw [getD_at _ _ _ (by simp)]
  simp
theorem impl_spanOf_l0 (wide : Int) (hw : 1 ≤ wide ∧ wide ≤ 64) (sp : List S26) (hl : sp.length ≤ 1000) (hsp : ∀ s ∈ sp, Fits (top wide) s) (t : List S161) (ht : t.length ≤ 48) (hx : ∀ x ∈ t, U64 x.f1) {r : List Int} (h : kfold wide (sp.length : Int) t [] = some r) (d : Nat) :
    ∀ (i k : Nat), i + d = t.length → 10 + 2 * d ≤ k → (stackAt (sop (top wide) sp) t i).length ≤ i → 0 < (stackAt (sop (top wide) sp) t t.length).length →
    impl_spanOf.l0 k sp (stackAt (sop (top wide) sp) t i) t (t.length : Int) (i : Int) 0 (top wide) = some (((stackAt (sop (top wide) sp) t t.length).getD 0 z26).f0, ((stackAt (sop (top wide) sp) t t.length).getD 0 z26).f1) := by
  have he := top_in hw
  induction d with
  | zero =>
    intro i k hi hk hst hp
    obtain ⟨k, rfl⟩ : ∃ m, k = m + 1 := ⟨k - 1, by omega⟩
    obtain rfl : i = t.length := by omega
    simp only [impl_spanOf.l0]
    rw [if_neg (by omega), if_pos (by omega)]
    rfl
  | succ d ih =>
    intro i k hi hk hst hp
    obtain ⟨k, rfl⟩ : ∃ m, k = m + 2 := ⟨k - 2, by omega⟩
    have hlt : i < t.length := by omega
    have hu := hx _ (List.getElem_mem hlt)
    have go := ih (i + 1) k (by omega) (by omega)
    obtain ⟨hlf, hop⟩ := typed_op wide hw sp hsp t hx h i hlt
    have e0 : rd_T161 t (i : Int) = t[i] := getD_at t _ i hlt
    have es := stackAt_succ (sop (top wide) sp) t i hlt
    simp only [impl_spanOf.l0, impl_spanOf.j1, e0]
    rw [if_pos (by omega), if_pos (by omega), if_pos (by omega), up1 i (by omega)]
    unfold leafOk at hlf
    generalize hS : stackAt (sop (top wide) sp) t i = st at *
    rcases hop with ⟨ho, hn⟩ | ⟨ho, hn, st, b, rfl, fb, hb⟩ | ⟨ho, st, a, b, rfl, fa, fb⟩
    · have e1 := sstep_of (sop (top wide) sp) st [] t[i] 0 hn rfl
      rw [List.append_nil] at e1
      rw [es, e1] at go
      have g := go (by simp; omega) hp
      rcases ho with ho | ho | ho
      · have e2 : sop (top wide) sp t[i] [] = ⟨t[i].f1, t[i].f1⟩ := by simp [sop, ho]
        rw [e2] at g
        rw [if_pos ho]
        simp only [ho, beq_self_eq_true, if_true]
        rw [if_pos (by omega)]
        exact g
      · have e2 : sop (top wide) sp t[i] [] = sp.getD t[i].f1.toNat z26 := by simp [sop, ho]
        rw [e2] at g
        rw [if_neg (by omega), if_pos ho, decide_eq_true_eq] at hlf
        have hu0 := hu.1
        rw [if_neg (by omega)]
        simp only [ho, if_true, show ((2 : Int) == 20) = false by decide, Bool.false_eq_true, if_false]
        rw [if_pos hu0, if_pos hlf, if_pos (by omega)]
        exact g
      · have e2 : sop (top wide) sp t[i] [] = ⟨t[i].f1, t[i].f1⟩ := by simp [sop, ho]
        rw [e2] at g
        rw [if_neg (by omega)]
        simp only [ho, beq_self_eq_true, if_true]
        rw [if_pos (by omega)]
        exact g
    · have e1 := sstep_of (sop (top wide) sp) st [b] t[i] 1 hn rfl
      rw [es, e1] at go
      have g := go (by simp; simp at hst; omega) hp
      have e3 : wrap64 (((st ++ [b]).length : Int) - 1) = (st.length : Int) := by
        have hlen1 : (st ++ [b]).length = st.length + 1 := by simp
        rw [hlen1, wrap64_in (by omega) (by omega)]
        omega
      have e4 : rd_T26 (st ++ [b]) (st.length : Int) = b := last_at st b _
      have e5 : ∀ v : S26, (st ++ [b]).set ((st.length : Int)).toNat v = st ++ [v] := fun v => by simp
      have e6 : (st.length : Int) < ((st ++ [b]).length : Int) := by simp only [List.length_append, List.length_singleton]; omega
      obtain ⟨f1, f2, f3⟩ := fb
      rw [e3, e4]
      rcases ho with ho | ho
      · have e2 : sop (top wide) sp t[i] [b] = ⟨top wide - b.f1, top wide - b.f0⟩ := by simp [sop, ho]
        rw [e2] at g
        rw [if_neg (by omega)]
        simp only [ho, if_true, show ((13 : Int) == 20) = false by decide, Bool.false_eq_true, if_false, show ¬ ((13 : Int) = 2) by decide]
        rw [if_pos (by omega), if_pos e6, e5, wrapU64_in (by omega) (by omega), wrapU64_in (by omega) (by omega)]
        exact g
      · have e2 : sop (top wide) sp t[i] [b] = ⟨1 - b.f1, 1 - b.f0⟩ := by simp [sop, ho]
        rw [e2] at g
        have hb1 := hb ho
        rw [if_neg (by omega)]
        simp only [ho, if_true, show ((19 : Int) == 20) = false by decide, Bool.false_eq_true, if_false, show ¬ ((19 : Int) = 2) by decide, show ¬ ((19 : Int) = 13) by decide]
        rw [if_pos (by omega), if_pos e6, e5, wrapU64_in (by omega) (by omega), wrapU64_in (by omega) (by omega)]
        exact g
    · obtain ⟨p, hn⟩ : ∃ p, need t[i].f0 = (((2 : Nat) : Int), p) := by
        rcases ho with ho | ho
        · exact ⟨_, ho.2.2⟩
        · exact ⟨_, ho.2.2⟩
      have e1 := sstep_of (sop (top wide) sp) st [a, b] t[i] 2 hn rfl
      rw [es, e1] at go
      have g := go (by simp; simp at hst; omega) hp
      have hlen : (st ++ [a, b]).length = st.length + 2 := by simp
      have e3 : wrap64 (((st ++ [a, b]).length : Int) - 1) = ((st.length + 1 : Nat) : Int) := by rw [hlen, wrap64_in (by omega) (by omega)]; omega
      have e3' : wrap64 (((st.length + 1 : Nat) : Int) - 1) = (st.length : Int) := by rw [wrap64_in (by omega) (by omega)]; omega
      have e4 : rd_T26 (st ++ [a, b]) ((st.length + 1 : Nat) : Int) = b := by
        rw [show rd_T26 (st ++ [a, b]) ((st.length + 1 : Nat) : Int) = (st ++ [a, b])[st.length + 1]'(by omega) from getD_at _ _ _ (by omega)]
        simp
      have e4' : rd_T26 (st ++ [a, b]) (st.length : Int) = a := by
        rw [show rd_T26 (st ++ [a, b]) (st.length : Int) = (st ++ [a, b])[st.length]'(by omega) from getD_at _ _ _ (by omega)]
        simp
      have e2 : sop (top wide) sp t[i] [a, b] = two (top wide) t[i].f0 a b := rfl
      rw [e2] at g
      rw [e3, e3', e4, e4', hlen, impl_spanOfTwo_eq (top wide) t[i].f0 a b he fa fb, if_neg (by omega), show (t[i].f0 == 20) = false by (simp; omega), if_neg (by simp), if_neg (by omega), if_neg (by omega), if_neg (by omega),
        if_pos (by omega), if_pos (by omega), if_pos (by omega), if_pos (by omega)]
      simp only [Option.bind_some]
      rw [if_pos (by omega), Int.toNat_natCast, List.take_left' rfl]
      (try simp only [Option.bind_some])
      rw [if_pos (by omega)]
      exact g
theorem spec_l18Of_eq (wide : Int) (hw : 1 ≤ wide ∧ wide ≤ 64) (sp : List S26) (hsp : ∀ s ∈ sp, Fits (top wide) s) (t : List S161) (ht : t.length ≤ 48) (hx : ∀ x ∈ t, U64 x.f1) {r : List Int} (h : kfold wide (sp.length : Int) t [] = some r) :
    ∀ (n i : Nat), i ≤ n → i < t.length → ∀ k, 600 + i ≤ k → ∃ st v, stackAt (sop (top wide) sp) t (i + 1) = st ++ [v] ∧ spec_l18Of.f k wide t (i : Int) sp = some (v.f0, v.f1) := by
  have hen : Enough (sop (top wide) sp) t := by
    intro i hi
    obtain ⟨_, hop⟩ := typed_op wide hw sp hsp t hx h i hi
    rcases hop with ⟨ho, hn⟩ | ⟨ho, hn, st, b, e, fb, hb⟩ | ⟨ho, st, a, b, e, fa, fb⟩
    · rw [hn]
      simp
    · rw [hn, e]
      simp
    · have : (need t[i].f0).1 = 2 := by
        rcases ho with ho | ho <;> rw [ho.2.2]
      rw [this, e]
      simp
  have he := top_in hw
  intro n
  induction n with
  | zero =>
    intro i hi hlt k hk
    obtain rfl : i = 0 := by omega
    obtain ⟨k, rfl⟩ : ∃ m, k = m + 1 := ⟨k - 1, by omega⟩
    have hu := hx _ (List.getElem_mem hlt)
    have e0 : rd_T161 t ((0 : Nat) : Int) = t[0] := getD_at t _ 0 hlt
    obtain ⟨hlf, hop⟩ := typed_op wide hw sp hsp t hx h 0 hlt
    rw [stackAt_zero] at hop
    rcases hop with ⟨ho, hn⟩ | ⟨ho, hn, st, b, e, fb, hb⟩ | ⟨ho, st, a, b, e, fa, fb⟩
    · refine ⟨[], sop (top wide) sp t[0] [], ?_, ?_⟩
      · rw [stackAt_succ _ _ _ hlt, stackAt_zero]
        exact sstep_of (sop (top wide) sp) [] [] t[0] 0 hn rfl
      · simp only [spec_l18Of.f]
        rw [if_pos (by omega), if_pos (by omega), e0, spec_l2Need_eq _ _ (by omega), hn]
        simp only [Option.bind_some, sop]
        unfold leafOk at hlf
        by_cases h2 : t[0].f0 = 2
        · rw [if_neg (by omega), if_pos h2, decide_eq_true_eq] at hlf
          have hu0 := hu.1
          rw [if_pos h2, if_pos hu0, if_pos hlf, if_pos h2]
          rfl
        · rw [if_neg h2, if_neg h2]
          rfl
    · simp at e
    · simp at e
  | succ n ih =>
    intro i hi hlt k hk
    obtain ⟨k, rfl⟩ : ∃ m, k = m + 1 := ⟨k - 1, by omega⟩
    have hu := hx _ (List.getElem_mem hlt)
    have e0 : rd_T161 t (i : Int) = t[i] := getD_at t _ i hlt
    obtain ⟨hlf, hop⟩ := typed_op wide hw sp hsp t hx h i hlt
    have hpos : ∀ {x : List S26}, 0 < x.length → stackAt (sop (top wide) sp) t i = x → 0 < i := by
      intro x hl e
      rcases Nat.eq_zero_or_pos i with rfl | h0
      · rw [stackAt_zero] at e
        subst e
        simp at hl
      · exact h0
    have e1 : wrap64 ((i : Int) - 1) = (i : Int) - 1 := wrap64_in (by omega) (by omega)
    rw [stackAt_succ _ _ _ hlt]
    rcases hop with ⟨ho, hn⟩ | ⟨ho, hn, st, b, e, fb, hb⟩ | ⟨ho, st, a, b, e, fa, fb⟩
    · refine ⟨stackAt (sop (top wide) sp) t i, sop (top wide) sp t[i] [], ?_, ?_⟩
      · have := sstep_of (sop (top wide) sp) (stackAt (sop (top wide) sp) t i) [] t[i] 0 hn rfl
        rwa [List.append_nil] at this
      · simp only [spec_l18Of.f]
        rw [if_pos (by omega), if_pos (by omega), e0, spec_l2Need_eq _ _ (by omega), hn]
        simp only [Option.bind_some, sop]
        unfold leafOk at hlf
        by_cases h2 : t[i].f0 = 2
        · rw [if_neg (by omega), if_pos h2, decide_eq_true_eq] at hlf
          have hu0 := hu.1
          rw [if_pos h2, if_pos hu0, if_pos hlf, if_pos h2]
          rfl
        · rw [if_neg h2, if_neg h2]
          rfl
    · have hi0 := hpos (by simp) e
      obtain ⟨st', v', g1, g2⟩ := ih (i - 1) (by omega) (by omega) k (by omega)
      rw [show i - 1 + 1 = i by omega, e] at g1
      obtain ⟨rfl, hv⟩ := List.append_inj' g1 rfl
      obtain rfl : b = v' := by simpa using hv
      have e2 : wrap64 ((i : Int) - 1) = ((i - 1 : Nat) : Int) := by omega
      refine ⟨st, sop (top wide) sp t[i] [b], ?_, ?_⟩
      · rw [e]
        exact sstep_of (sop (top wide) sp) st [b] t[i] 1 hn rfl
      · obtain ⟨f1, f2, f3⟩ := fb
        simp only [spec_l18Of.f]
        rw [if_pos (by omega), if_pos (by omega), e0, spec_l2Need_eq _ _ (by omega), hn]
        simp only [Option.bind_some]
        rw [if_neg (by omega), if_neg (by decide), e2, g2]
        simp only [Option.bind_some, sop]
        rcases ho with ho | ho
        · rw [if_pos ho, cut_not wide b.f1 hw (by omega) f3 _ (by omega), cut_not wide b.f0 hw (by omega) (by omega) _ (by omega), if_pos ho]
          rfl
        · have hb1 := hb ho
          rw [if_neg (by omega), if_pos ho, if_neg (by omega), wrapU64_in (by omega) (by omega), wrapU64_in (by omega) (by omega)]
    · have hi0 := hpos (by simp) e
      obtain ⟨p, hn⟩ : ∃ p, need t[i].f0 = (((2 : Nat) : Int), p) := by
        rcases ho with ho | ho
        · exact ⟨_, ho.2.2⟩
        · exact ⟨_, ho.2.2⟩
      obtain ⟨st', v', g1, g2⟩ := ih (i - 1) (by omega) (by omega) k (by omega)
      obtain ⟨j, hj, g3, w, g4⟩ := spec_l2From_eq (sop (top wide) sp) t ht hen i (i - 1) (by omega) (by omega) k (by omega)
      rw [show i - 1 + 1 = i by omega, e] at g1 g4
      rw [show st ++ [a, b] = (st ++ [a]) ++ [b] by simp] at g1 g4
      obtain ⟨rfl, hv⟩ := List.append_inj' g1 rfl
      obtain rfl : b = v' := by simpa using hv
      obtain ⟨g5, _⟩ := List.append_inj' g4 rfl
      have hj0 : 0 < j := by
        rcases Nat.eq_zero_or_pos j with rfl | h0
        · rw [stackAt_zero] at g5
          simp at g5
        · exact h0
      obtain ⟨st2, v2, q1, q2⟩ := ih (j - 1) (by omega) (by omega) k (by omega)
      rw [show j - 1 + 1 = j by omega, ← g5] at q1
      obtain ⟨rfl, hv2⟩ := List.append_inj' q1 rfl
      obtain rfl : a = v2 := by simpa using hv2
      have e2 : wrap64 ((i : Int) - 1) = ((i - 1 : Nat) : Int) := by omega
      have e3 : wrap64 ((j : Int) - 1) = ((j - 1 : Nat) : Int) := by rw [wrap64_in (by omega) (by omega)]; omega
      refine ⟨st, sop (top wide) sp t[i] [a, b], ?_, ?_⟩
      · rw [e]
        exact sstep_of (sop (top wide) sp) st [a, b] t[i] 2 hn rfl
      · simp only [spec_l18Of.f]
        rw [if_pos (by omega), if_pos (by omega), e0, spec_l2Need_eq _ _ (by omega)]
        simp only [Option.bind_some]
        have h20 : (need t[i].f0).1 = 2 := by rw [hn]; rfl
        rw [if_neg (by omega), if_neg (by omega), e2, g2]
        simp only [Option.bind_some]
        rw [if_neg (by omega), if_neg (by omega), g3]
        simp only [Option.bind_some]
        rw [e3, q2]
        simp only [Option.bind_some, sop]
        rcases ho with ho | ho
        · rw [ho.2.2, if_pos rfl, spec_l18Num_eq wide t[i].f0 hw a b ⟨ho.1, ho.2.1⟩ fa fb _ (by omega)]
          rfl
        · rw [ho.2.2, if_neg (by simp), spec_l18Ask_eq (top wide) t[i].f0 a b ⟨ho.1, ho.2.1⟩ _ (by omega)]
          rfl
theorem goodSpan_fits {wide : Int} (hw : 1 ≤ wide ∧ wide ≤ 64) {s : S26} (h0 : U64 s.f0) (h1 : U64 s.f1) (h : goodSpan wide s.f0 s.f1 = true) : Fits (top wide) s := by
  simp only [goodSpan, Bool.and_eq_true, decide_eq_true_eq] at h
  have h2 := h.1
  rw [goodWord_iff] at h2
  exact ⟨h0.1, h.2, h2.2.2⟩
theorem spanOf_eq (wide : Int) (sp : List S26) (hl : sp.length ≤ 1000) (hw : 1 ≤ wide ∧ wide ≤ 64) (hsp : ∀ s ∈ sp, Fits (top wide) s) (t : List S161) (hx : ∀ x ∈ t, U64 x.f1) (hk : kindT wide (sp.length : Int) t ≠ 0) (k : Nat) (hk2 : 1000 ≤ k) :
    ∃ v : S26, spec_l18Of.f k wide t (wrap64 ((t.length : Int) - 1)) sp = some (v.f0, v.f1) ∧ impl_spanOf.f k wide t sp = some (v.f0, v.f1) ∧ Fits (top wide) v ∧ (kindT wide (sp.length : Int) t = 2 → v.f1 ≤ 1) := by
  obtain ⟨_, _, _, _, hl1, hl2⟩ := kindT_in' hk
  have hf : ∃ a, kfold wide (sp.length : Int) t [] = some [a] ∧ kindT wide (sp.length : Int) t = a := by
    unfold kindT at hk ⊢
    split at hk
    · rename_i hc
      rw [if_pos hc]
      split at hk
      · rename_i a ha
        exact ⟨a, ha, rfl⟩
      · exact absurd rfl hk
    · exact absurd rfl hk
  obtain ⟨a, hf, hka⟩ := hf
  obtain ⟨st, v, h1, h2⟩ := spec_l18Of_eq wide hw sp hsp t hl2 hx hf t.length (t.length - 1) (by omega) (by omega) k (by omega)
  rw [show t.length - 1 + 1 = t.length by omega] at h1
  obtain ⟨ks, h3, h4⟩ := typed_at wide hw sp hsp t hx hf t.length (Nat.le_refl _)
  rw [List.drop_length] at h3
  simp only [kfold, Option.some.injEq] at h3
  subst h3
  have hlen := h4.len
  rw [h1] at hlen h4
  have hst : st = [] := by
    simp at hlen
    exact hlen
  subst hst
  have hfit : Fits (top wide) v ∧ (a = 2 → v.f1 ≤ 1) := by
    rcases h4.inv with ⟨h, _⟩ | ⟨ks', st', k', v', h5, h6, _, h7, h8⟩
    · simp at h
    · obtain ⟨_, h9⟩ := List.append_inj' (show [] ++ [a] = ks' ++ [k'] from h5) rfl
      obtain ⟨_, h10⟩ := List.append_inj' h6 rfl
      obtain rfl : a = k' := by simpa using h9
      obtain rfl : v = v' := by simpa using h10
      exact ⟨h7, h8⟩
  have e1 : wrap64 ((t.length : Int) - 1) = ((t.length - 1 : Nat) : Int) := by rw [wrap64_in (by omega) (by omega)]; omega
  refine ⟨v, by rw [e1]; exact h2, ?_, hfit.1, fun h => hfit.2 (by rw [← hka]; exact h)⟩
  unfold impl_spanOf.f
  rw [impl_mask_eq wide hw]
  simp only [Option.bind_some]
  have := impl_spanOf_l0 wide hw sp hl hsp t hl2 hx hf t.length 0 k (by omega) (by omega) (by simp [stackAt_zero]) (by rw [h1]; simp)
  rw [stackAt_zero, h1] at this
  simpa using this
theorem SpanOf_eq (wide : Int) (t : List S161) (sp : List S26) (hl : sp.length ≤ 1048576) (hx : ∀ x ∈ t, U64 x.f1) (hs : ∀ s ∈ sp, U64 s.f0 ∧ U64 s.f1) (k : Nat) (hk : 2000000 ≤ k) :
    ∃ r, spec_SpanOf.f k wide t sp = some r ∧ impl_SpanOf.f k wide t sp = some r := by
  unfold spec_SpanOf.f impl_SpanOf.f spec_GoodTerm.f
  rw [spec_l2Kind_eq wide _ t hx k (by omega), spec_l18Spans_eq wide sp hl hs k (by omega), impl_areSpans_eq wide sp hl hs k (by omega), impl_GoodTerm_eq wide _ t hx k (by omega)]
  simp only [Option.bind_some]
  by_cases hz : kindT wide (sp.length : Int) t = 0
  · rw [hz]
    cases spansOk wide sp with
    | false => exact ⟨_, rfl, rfl⟩
    | true => exact ⟨_, rfl, rfl⟩
  · cases hso : spansOk wide sp with
    | false =>
      refine ⟨_, ?_, rfl⟩
      split <;> rfl
    | true =>
      have hin := kindT_in' hz
      have hsp : ∀ s ∈ sp, Fits (top wide) s := by
        simp only [spansOk, Bool.and_eq_true, List.all_eq_true] at hso
        exact fun s h => goodSpan_fits ⟨hin.1, hin.2.1⟩ (hs s h).1 (hs s h).2 (hso.2 s h)
      obtain ⟨v, e1, e2, _, _⟩ := spanOf_eq wide sp (by omega) ⟨hin.1, hin.2.1⟩ hsp t hx hz k (by omega)
      have hp : decide (kindT wide (sp.length : Int) t > 0) = true := by
        have := kindT_pos hz
        simpa using this
      rw [e1, e2, hp]
      simp [hz]
theorem pure : laws_FnExactSpanOf.Pure := by
  intro a0 w0 l1 m1 w1 l2 m2 w2
  refine ⟨3000000, ?_⟩
  unfold laws_FnExactSpanOf.f
  rw [laws_szNodeS_eq l1 m1 1048576 (by omega) (by omega)]
  simp only [Option.bind_some]
  by_cases h1 : (1048576 : Int) - (l1.length : Int) < 0
  · simp [h1]
  · rw [if_neg h1, if_neg h1, laws_szSpanS_eq l2 m2 _ (by omega) (by omega)]
    simp only [Option.bind_some]
    by_cases h2 : (1048576 : Int) - (l1.length : Int) - (l2.length : Int) < 0
    · simp [h2]
    · have hl1 : l1.length ≤ 1048576 := by omega
      have hl2 : l2.length ≤ 1048576 := by omega
      rw [if_neg h2, if_neg h2, laws_toNodeS_eq l1 hl1 _ (by omega), laws_toSpanS_eq l2 hl2 _ (by omega)]
      simp only [Option.bind_some]
      obtain ⟨r, e1, e2⟩ := SpanOf_eq a0 (l1.map nodeOf) (l2.map fun x => (⟨x.f0, x.f1⟩ : S26)) (by simpa using hl2) (fun x hx => nodeOf_ok w1 x hx) (fun s hs => by
        obtain ⟨y, hy, rfl⟩ := List.mem_map.1 hs
        exact ⟨wfU64 (w2 y hy).1, wfU64 (w2 y hy).2⟩) 3000000 (by omega)
      rw [e1, e2]
      simp only [Option.bind_some]
      have e3 : laws_eqSpan.f r.1 r.2.1 r.1 r.2.1 = some true := by simp [laws_eqSpan.f]
      rw [e3]
      simp only [Option.bind_some, if_true, bne_self_eq_false]
      rw [show (3000000 : Nat) = 2999999 + 1 from rfl]
      simp only [laws_FnExactSpanOf.j0]
      rw [if_neg (by simp), laws_toNodeS_eq l1 hl1 _ (by omega)]
      simp only [Option.bind_some]
      rw [laws_eqNodeS_self _ (by simpa using hl1) _ (by simp; omega), laws_toSpanS_eq l2 hl2 _ (by omega)]
      simp only [Option.bind_some, if_true]
      rw [laws_eqSpanS_self _ (by simpa using hl2) _ (by simp; omega)]
      simp
end Go.Proofs.Ytimoiblediffpaa.QFnExactSpanOf
end
section
namespace Go.Proofs.Ytimoiblediffpaa.fnExactSpanOf
open Go.ChangeShapes Go.WideShapes Go.ChangeAt Go.RowKit Go.Proofs.YtimoiblediffpaaW.PrintWords Go.Proofs.Ytimoiblediffpaa.Open Go.Proofs.Ytimoiblediffpaa.QFnExactSpanOf
set_option linter.unusedVariables false
theorem own : ownKnob Try.prog.godebug = none := by kernel_rfl
theorem laidOut : laidOutB Try.prog = true := by kernel_rfl
set_option maxRecDepth 100000 in
theorem lifted (os : Os) (started : os.Started) (H : Type) (enc : TypeId × Value → H) :
    ReturnsInHanded {} Try.checked os 12 .any (Rows.fnExactSpanOfSpec.pre6 enc Try.prog Try.f12 Rows.fnExactSpanOfRow.domain false) (Rows.fnExactSpanOfSpec.post enc Try.prog Try.f12 false true false false) := by
  refine returnsInHanded_of_change_sized (C := Try.checked) own started (by kernel_rfl) Try.func12
    (ChangeSpec.witness6 (enc := enc) (C := Try.checked) false ⟨#[], #[.int .i64 0, .slice none 0 0, .slice none 0 0], []⟩ 8 (by kernel_rfl) (by kernel_rfl) (by kernel_rfl) (by kernel_rfl)) ?_
  intro W base args ds gs before hval0 hW hcnd hsz0 _
  have hval : ∀ (j : Nat) t v, Try.f12.params[j]? = some t → args[j]? = some v → Value.okWide Try.prog W .any base t v := hval0
  have hW' := hW
  obtain ⟨p, q, hA0, hV, rfl, hfz, hnd⟩ := hW
  have hA : DataW.TrodAll enc Try.prog W 0 (fun _ => true) true Try.f12.params.toList args.toList ds p := hA0
  rw [Try.params12] at hA hval
  obtain ⟨v0, vs0, d0, ds0, p0, q0, hargs, rfl, rfl, h0, r0⟩ := trodAll_cons hA
  obtain ⟨v1, vs1, d1, ds1, p1, q1, rfl, rfl, rfl, h1, r1⟩ := trodAll_cons r0
  obtain ⟨v2, vs2, d2, ds2, p2, q2, rfl, rfl, rfl, h2, r2⟩ := trodAll_cons r1
  obtain ⟨rfl, rfl, rfl⟩ := trodAll_nil r2
  obtain rfl : args = #[v0, v1, v2] := by cases args; simp_all
  obtain ⟨rfl, rfl⟩ := trodVars_none hV
  obtain ⟨a0, rfl, rfl, rfl, w0⟩ := open_int Try.underlying3 (hval 0 3 v0 rfl rfl) h0
  have lt1 : ∀ x ∈ p1, x.block < W.heap.size := by obtain ⟨m, hm⟩ := h1; exact DataW.trod_lt m _ _ _ hm
  have k1 := h1
  obtain ⟨l1, A1, c1, rfl, hl1, hr1, w1⟩ := open_slice Try.underlying67 (by kernel_rfl) opens163 (hval 1 67 v1 rfl rfl) h1
  have m1 : l1.length ≤ 9223372036854775807 := hr1.2.1
  have lt2 : ∀ x ∈ p2, x.block < W.heap.size := by obtain ⟨m, hm⟩ := h2; exact DataW.trod_lt m _ _ _ hm
  have k2 := h2
  obtain ⟨l2, A2, c2, rfl, hl2, hr2, w2⟩ := open_slice Try.underlying33 (by kernel_rfl) opens24 (hval 2 33 v2 rfl rfl) h2
  have m2 : l2.length ≤ 9223372036854775807 := hr2.2.1
  obtain ⟨k, hk⟩ := pure a0 w0 l1 m1 w1 l2 m2 w2
  refine (laws_FnExactSpanOf.calls k a0 A1 c1 l1 A2 c2 l2 true W hr1 hl1 hr2 hl2 hk).mono fun e W' hp => ?_
  obtain ⟨rfl, bel0⟩ := hp
  have bel : Below W.heap.size W W' := by first | exact bel0 | exact bel0.below
  exact ⟨_, rfl, _, _, _, [], _, [], hW', trodAll_mk1 (shut_bool Try.underlying4 _), (trodAll_cons_mk (shut_int Try.underlying3 w0) (trodAll_cons_mk (Below.trod laidOut (by kernel_rfl) (of_decide_eq_true (by kernel_rfl)) k1 bel lt1) (trodAll_cons_mk (Below.trod laidOut (by kernel_rfl) (of_decide_eq_true (by kernel_rfl)) k2 bel lt2) trodAll_mk0))), rfl, bel.frame _, fun h => by cases h⟩
theorem over : Rows.fnExactSpanOfRow.holds Try.pinned (OpenSpec.ofChange Rows.fnExactSpanOfSpec) :=
  OpenClaim.holds_of_wide 12 Try.f12 rfl rfl rfl rfl rfl rfl rfl ⟨rfl, rfl, rfl, rfl, rfl⟩ rfl rfl rfl rfl rfl (by kernel_rfl) Try.func12 (by kernel_rfl)
    (of_decide_eq_true (by kernel_rfl)) (by unfold Func.isWrapper; first | (rw [if_pos (by decide +kernel)]; kernel_rfl) | (rw [if_neg (by decide +kernel)]; exact ⟨rfl, rfl⟩))
    (fun os started H enc _ => lifted os started H enc)
theorem proved : Rows.FnExactSpanOfSaid := over
end Go.Proofs.Ytimoiblediffpaa.fnExactSpanOf
namespace Go.Proofs.Ytimoiblediffpaa
theorem fnExactSpanOf_holds : Rows.FnExactSpanOfSaid := fnExactSpanOf.proved
end Go.Proofs.Ytimoiblediffpaa
end
